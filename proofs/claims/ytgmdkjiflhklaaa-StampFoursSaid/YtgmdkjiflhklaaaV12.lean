/- V12: slicing, parts, components, append, lengths. -/
import Derived.Test.YtgmdkjiflhklaaaV11
namespace Go.Vm
open Go

section
variable {P : Program} {o : Oper} {own : Own} {β : Nat → Nat} {w : World} {σ : St} {a : Act}

theorem numOf_eval (h : SR own β w σ a.tmps) {x : Option Operand} {d n : Int} (hn : numOf σ x d = some n) :
    (x = none ∧ n = d) ∨ ∃ y k, x = some y ∧ a.eval y = .int k n := by
  unfold numOf at hn
  cases x with
  | none => left; simp at hn; exact ⟨rfl, hn.symm⟩
  | some y =>
    right
    simp only at hn
    cases hy : opd σ.env y <;> simp only [hy] at hn <;> try (cases hn; done)
    injection hn with hn; subst hn
    exact ⟨y, _, rfl, opd_int h hy⟩

theorem run_bound {k : IntKind} {i : Int} {y : Nat} {code : BoundsCode} (h0 : 0 ≤ i) (h1 : i ≤ y) (w : World) : (Instr.sliceBound (.int k i) y code).run P w = .ok i.toNat w := by
  simp [Instr.sliceBound, asIntOf, h0, h1]

/-- The two bounds of a slice expression without a third. -/
theorem run_bounds2 (h : SR own β w σ a.tmps) {lo hi : Option Operand} {l u : Int} {len cap : Nat} (hl : numOf σ lo 0 = some l) (hu : numOf σ hi len = some u) (h0 : 0 ≤ l) (h1 : l ≤ u) (h2 : u ≤ len) (hc : len ≤ cap) (w' : World) :
    (Instr.sliceBounds true len cap (lo.map a.eval) (hi.map a.eval) none).run P w' = .ok (l.toNat, u.toNat, cap) w' := by
  rcases numOf_eval h hl with ⟨rfl, rfl⟩ | ⟨x, k, rfl, hx⟩ <;> rcases numOf_eval h hu with ⟨rfl, rfl⟩ | ⟨y, k', rfl, hy⟩
  · simp [Instr.sliceBounds]
  · simp [Instr.sliceBounds, hy, run_bound (k := k') (show (0 : Int) ≤ u by omega) (show u ≤ (cap : Int) by omega)]
  · simp [Instr.sliceBounds, hx, run_bound (k := k) h0 (show l ≤ ((len : Nat) : Int) by omega)]
  · have e : ((u.toNat : Nat) : Int) = u := Int.toNat_of_nonneg (by omega)
    simp [Instr.sliceBounds, hx, hy, run_bound (k := k') (show (0 : Int) ≤ u by omega) (show u ≤ (cap : Int) by omega), run_bound (k := k) h0 (show l ≤ ((u.toNat : Nat) : Int) by omega)]

theorem run_bounds3 (h : SR own β w σ a.tmps) {lo : Option Operand} {x y : Operand} {l : Int} {len cap : Nat} (hl : numOf σ lo 0 = some l) (hx : numOf σ (some x) (len : Int) = some l) (hy : numOf σ (some y) 0 = some l) (h0 : 0 ≤ l) (h2 : l ≤ len) (hc : len ≤ cap) (w' : World) :
    (Instr.sliceBounds true len cap (lo.map a.eval) (some (a.eval x)) (some (a.eval y))).run P w' = .ok (l.toNat, l.toNat, l.toNat) w' := by
  have e : ((l.toNat : Nat) : Int) = l := Int.toNat_of_nonneg h0
  have hx' : ∃ k, a.eval x = .int k l := by
    rcases numOf_eval h hx with ⟨h1, _⟩ | ⟨x', k', h1, h2⟩
    · cases h1
    · injection h1 with h1; subst h1; exact ⟨k', h2⟩
  have hy' : ∃ k, a.eval y = .int k l := by
    rcases numOf_eval h hy with ⟨h1, _⟩ | ⟨x', k', h1, h2⟩
    · cases h1
    · injection h1 with h1; subst h1; exact ⟨k', h2⟩
  obtain ⟨kx, hx'⟩ := hx'
  obtain ⟨ky, hy'⟩ := hy'
  rcases numOf_eval h hl with ⟨rfl, rfl⟩ | ⟨z, k, rfl, hz⟩
  · simp [Instr.sliceBounds, hx', hy', run_bound (k := ky) (show (0 : Int) ≤ 0 by omega) (show (0 : Int) ≤ (cap : Int) by omega), run_bound (k := kx) (show (0 : Int) ≤ 0 by omega) (show (0 : Int) ≤ ((0 : Nat) : Int) by omega)]
  · simp [Instr.sliceBounds, hx', hy', hz, run_bound (k := ky) h0 (show l ≤ (cap : Int) by omega), run_bound (k := kx) h0 (show l ≤ ((l.toNat : Nat) : Int) by omega), run_bound (k := k) h0 (show l ≤ ((l.toNat : Nat) : Int) by omega)]

theorem ok_slice {T : Types} {call : CallF} {cx : Cx} {fr : Nat} (h : Hyp P T o own β w σ a) {t : TypeId} {x : Operand} {lo hi mx : Option Operand} (ho : o.op = .slice t x lo hi mx) {e : Eff}
    (he : eff T call cx fr o σ = some e) : OpOk P o own β w σ a (apply σ o.dst e) := by
  have hsr := h.sr
  simp only [eff, ho] at he
  unfold sliceAt at he
  cases hk : kindOf T t <;> simp only [hk] at he
  · cases he
  rename_i k
  cases k <;> simp only at he <;> try (cases he; done)
  rename_i el
  obtain ⟨i, r, hki⟩ := kindOf_row h.T hk
  have hu := kind_slice r hki
  cases hx : opd σ.env x <;> simp only [hx] at he <;> try (cases he; done)
  rename_i n xs
  split at he
  · rename_i ei l u hel hl hhi
    obtain ⟨re⟩ := Row.of h.T hel
    split at he
    · rename_i hc
      obtain ⟨c1, c2, c3, c4⟩ := hc
      have hall : ∀ y ∈ xs, y.cells.length = ei.size := fun y hy => by simpa using List.all_eq_true.1 c4 y hy
      have hf := opd_sl hsr hx
      obtain ⟨base, cap, hval, hcap⟩ : ∃ base cap, a.eval x = .slice base xs.length cap ∧ xs.length ≤ cap := by
        generalize a.eval x = c at hf
        cases hf with
        | nil => exact ⟨none, 0, rfl, Nat.le_refl _⟩
        | none aa cap => exact ⟨some aa, cap, rfl, Nat.zero_le _⟩
        | sl b oo cap sz _ cv him hcap hcells hfr => exact ⟨_, cap, rfl, hcap⟩
      cases mx with
      | none =>
        simp only at he
        injection he with he; subst he
        have hb := run_bounds2 (P := P) hsr hl hhi c1 c2 c3 hcap w
        have hrun : (execOp a.eval o).run P w = .ok (.value (.slice (if cap = l.toNat then base else base.map (·.add (l.toNat * ei.size))) (u.toNat - l.toNat) (cap - l.toNat))) w := by
          simp [execOp, ho, hval, Instr.sliceAt, run_underlying hu, Instr.slice, hb, run_sizeOf_row re]
        refine OpOk.value hrun (Nxt.refl hsr) h.dst rfl ?_
        have hl' : l.toNat ≤ u.toNat := by omega
        have hu' : u.toNat ≤ xs.length := by omega
        have hlen : ((xs.drop l.toNat).take (u.toNat - l.toNat)).length = u.toNat - l.toNat := by simp; omega
        show FR own w _ _
        rw [hval] at hf
        by_cases hemp : u.toNat - l.toNat = 0
        · rw [hemp]
          simp only [List.take_zero]
          generalize hbb : base = bb at hf
          cases hf with
          | nil =>
            subst hbb
            by_cases hc0 : 0 = l.toNat
            · rw [if_pos hc0, ← hc0]; exact .nil
            · simp at hu'; omega
          | none aa cap' =>
            subst hbb
            split <;> exact .none _ _
          | sl b oo cap' sz _ cv him hcap' hcells hfr =>
            subst hbb
            split <;> exact .none _ _
        · generalize hbb : base = bb at hf
          cases hf with
          | nil => simp at hu'; omega
          | none aa cap' => simp at hu'; omega
          | sl b oo cap' sz _ cv him hcap' hcells hfr =>
            subst hbb
            have hne : ¬ cap = l.toNat := by omega
            rw [if_neg hne]
            have hsz : sz = ei.size := by
              have hx0 : xs[0]? = some (xs[0]'(by omega)) := List.getElem?_eq_getElem _
              rw [← (hcells 0 _ hx0).1]; exact hall _ (List.mem_of_getElem? hx0)
            simp only [Option.map_some, Addr.add_eq]
            have := FR.sl (own := own) (w := w) b (oo + l.toNat * ei.size) (cap - l.toNat) sz ((xs.drop l.toNat).take (u.toNat - l.toNat)) (fun i j => cv (l.toNat + i) j) him (by rw [hlen]; omega)
              (fun i y hy => by
                obtain ⟨_, hy'⟩ := take_drop_get hy
                obtain ⟨g1, g2⟩ := hcells _ y hy'
                refine ⟨g1, fun j hj => ?_⟩
                have := g2 j hj
                rw [← this]
                congr 2
                rw [hsz, Nat.add_mul]; omega)
              (fun i y j d hy hd => by
                obtain ⟨_, hy'⟩ := take_drop_get hy
                exact hfr _ y j d hy' hd)
            rw [hlen] at this
            exact this
      | some m =>
        simp only at he
        split at he
        · rename_i hm
          obtain ⟨m1, m2, m3⟩ := hm
          injection he with he; subst he
          subst m3
          cases hi with
          | none => simp at m1
          | some y =>
          have hb := run_bounds3 (P := P) hsr hl hhi m2 c1 c3 hcap w
          have hrun : (execOp a.eval o).run P w = .ok (.value (.slice base 0 0)) w := by
            simp [execOp, ho, hval, Instr.sliceAt, run_underlying hu, Instr.slice, hb, run_sizeOf_row re]
          refine OpOk.value hrun (Nxt.refl hsr) h.dst rfl ?_
          show EXR own w (.res 0 0) ei.size n [] _
          rw [hval] at hf
          generalize hbb : base = bb at hf ⊢
          cases hf with
          | nil => exact .inl ⟨rfl, rfl, rfl⟩
          | none aa cap' => exact .inr (.inl ⟨rfl, rfl, _, rfl⟩)
          | sl b oo cap' sz _ cv him hcap' hcells hfr => exact .inr (.inl ⟨rfl, rfl, _, rfl⟩)
        · cases he
    · cases he
  · cases he

theorem run_part {t : Nat} {i : TI} (r : Row P t i) {arr : Array Value} {off : Nat} (hfit : off + i.size ≤ arr.size) (w : World) :
    (part t arr off).run P w = .ok (mkV i ((arr.toList.drop off).take i.size)) w := by
  unfold part mkV
  simp only [Sem.run_bind, r.isAgg, Result.andThen_ok]
  cases hk : i.kind.isAgg
  · have h1 := r.one hk
    have hlt : off < arr.size := by omega
    simp only [Bool.false_eq_true, if_false]
    rw [Array.getElem?_eq_getElem hlt]
    simp only [Sem.run_pure]
    congr 1
    rw [h1, List.getD_eq_getElem?_getD, List.getElem?_take_of_lt (by omega), List.getElem?_drop]
    simp [hlt]
  · simp only [if_true, Sem.run_bind, run_sizeOf_row r, Result.andThen_ok, Sem.run_pure]
    congr 2
    apply Array.ext'
    simp [Array.toList_extract]

/-- A part of a value. -/
theorem OpOk.part {T : Types} (h : Hyp P T o own β w σ a) {x : Operand} {cs : List V} (hx : opd σ.env x = .agg cs) (hd : cs.all cellDat = true) {t : Nat} {i : TI} (r : Row P t i) {off : Nat} {v : V}
    (ha : asType i ((cs.drop off).take i.size) = some v) (hrun : ∀ arr, a.eval x = .agg arr → (execOp a.eval o).run P w = ((Go.part t arr off).run P w).andThen fun c w' => .ok (.value c) w')
    (hpos : 0 < i.size) : OpOk P o own β w σ a (put σ o.dst v) := by
  obtain ⟨arr, q1, q2, q3⟩ := opd_agg h.sr hx hd
  have hl := asType_cells ha
  have hfit : off + i.size ≤ cs.length := take_drop_len hl hpos
  have hr := hrun arr q1
  rw [run_part r (by omega) w] at hr
  have hlc : ((arr.toList.drop off).take i.size).length = i.size := by simp; omega
  have hget : ∀ (j : Nat) (d : V) (c : Value), ((cs.drop off).take i.size)[j]? = some d → ((arr.toList.drop off).take i.size)[j]? = some c → FR own w d c := by
    intro j d c hd' hc
    obtain ⟨_, e1⟩ := take_drop_get hd'
    obtain ⟨_, e2⟩ := take_drop_get hc
    exact q3 _ d c e1 (by simpa using e2)
  have hvr := asType_VR (β := β) (L := fun _ => .res 0 0) r ha hlc (fun j d c hd' hc => CR_of_FR (hget j d c hd' hc))
  obtain ⟨hw, hn⟩ := asType_plain ha (fun d hd' => by
    obtain ⟨j, hj⟩ := List.getElem?_of_mem hd'
    obtain ⟨_, e1⟩ := take_drop_get hj
    have := List.all_eq_true.1 hd d (List.mem_of_getElem? e1)
    cases d <;> first | rfl | (simp [cellDat] at this))
  exact OpOk.value hr (Nxt.refl h.sr) h.dst hw (TR_of_VR hvr hn)

theorem ok_field {T : Types} {call : CallF} {cx : Cx} {fr : Nat} (h : Hyp P T o own β w σ a) {t : TypeId} {x : Operand} {f : Nat} (ho : o.op = .field t x f) {e : Eff}
    (he : eff T call cx fr o σ = some e) : OpOk P o own β w σ a (apply σ o.dst e) := by
  simp only [eff, ho] at he
  split at he
  · rename_i gs cs hk hx
    obtain ⟨i, r, hki⟩ := kindOf_row h.T hk
    obtain ⟨fields, hu, hf⟩ := kind_struct r hki
    cases hg : gs[f]? <;> simp only [hg] at he
    · cases he
    rename_i g
    obtain ⟨off, ft⟩ := g
    simp only at he
    cases hft : T ft <;> simp only [hft] at he
    · cases he
    rename_i fi
    obtain ⟨rf⟩ := Row.of h.T hft
    obtain ⟨fd, h1, h2, h3⟩ := fieldsB_get hf f off ft hg
    have h1' : fields[f]? = some fd := by simpa using h1
    split at he
    · rename_i hc
      rw [Option.map_eq_some_iff] at he
      obtain ⟨v, hv, rfl⟩ := he
      refine OpOk.part h hx hc.1 rf hv (fun arr harr => ?_) hc.2
      simp only [execOp, ho, harr, Instr.field, Sem.run_bind, run_underlying hu, Result.andThen_ok, h1', asAgg, Sem.run_pure, h2, h3]
    · cases he
  · cases he

end
end Go.Vm
