/- W2: V, an evaluator that carries contents (V12, V13, V13E, V14, V15, V16, V17, V18, V18M, V18E, V19, V20, V26, V27, V28, V29, V30, V31, V32). No conditions. -/
import Derived.DeepKeys
import Derived.RangeFuncRecord
import Derived.MapKept
import Derived.Tactics
import Derived.TacticsIn
import Derived.Orders
import Derived.OrdersIn
import Derived.Test.YtgmdkjiflhklaaaW1

section
/- V12: slicing, parts, components, append, lengths. -/
namespace Go.Vm
open Go

section
variable {P : Program} {o : Oper} {own : Own} {β : Nat → Nat} {w : World} {σ : St} {a : Act}

theorem numOf_eval (h : SR own β w σ a.tmps) {x : Option Operand} {d n : Int} (hn : numOf σ x d = some n) :
    (x = none ∧ n = d) ∨ ∃ y k, x = some y ∧ a.eval y = .int k n := by
  unfold numOf at hn
  cases x with
  | none => left; simp at hn; exact ⟨rfl, hn.symm⟩
  | some y =>
    right
    simp only at hn
    cases hy : opd σ.env y <;> simp only [hy] at hn <;> try (cases hn; done)
    injection hn with hn; subst hn
    exact ⟨y, _, rfl, opd_int h hy⟩

theorem run_bound {k : IntKind} {i : Int} {y : Nat} {code : BoundsCode} (h0 : 0 ≤ i) (h1 : i ≤ y) (w : World) : (Instr.sliceBound (.int k i) y code).run P w = .ok i.toNat w := by
  simp [Instr.sliceBound, asIntOf, h0, h1]

/-- The two bounds of a slice expression without a third. -/
theorem run_bounds2 (h : SR own β w σ a.tmps) {lo hi : Option Operand} {l u : Int} {len cap : Nat} (hl : numOf σ lo 0 = some l) (hu : numOf σ hi len = some u) (h0 : 0 ≤ l) (h1 : l ≤ u) (h2 : u ≤ len) (hc : len ≤ cap) (w' : World) :
    (Instr.sliceBounds true len cap (lo.map a.eval) (hi.map a.eval) none).run P w' = .ok (l.toNat, u.toNat, cap) w' := by
  rcases numOf_eval h hl with ⟨rfl, rfl⟩ | ⟨x, k, rfl, hx⟩ <;> rcases numOf_eval h hu with ⟨rfl, rfl⟩ | ⟨y, k', rfl, hy⟩
  · simp [Instr.sliceBounds]
  · simp [Instr.sliceBounds, hy, run_bound (k := k') (show (0 : Int) ≤ u by omega) (show u ≤ (cap : Int) by omega)]
  · simp [Instr.sliceBounds, hx, run_bound (k := k) h0 (show l ≤ ((len : Nat) : Int) by omega)]
  · have e : ((u.toNat : Nat) : Int) = u := Int.toNat_of_nonneg (by omega)
    simp [Instr.sliceBounds, hx, hy, run_bound (k := k') (show (0 : Int) ≤ u by omega) (show u ≤ (cap : Int) by omega), run_bound (k := k) h0 (show l ≤ ((u.toNat : Nat) : Int) by omega)]

theorem run_bounds3 (h : SR own β w σ a.tmps) {lo : Option Operand} {x y : Operand} {l : Int} {len cap : Nat} (hl : numOf σ lo 0 = some l) (hx : numOf σ (some x) (len : Int) = some l) (hy : numOf σ (some y) 0 = some l) (h0 : 0 ≤ l) (h2 : l ≤ len) (hc : len ≤ cap) (w' : World) :
    (Instr.sliceBounds true len cap (lo.map a.eval) (some (a.eval x)) (some (a.eval y))).run P w' = .ok (l.toNat, l.toNat, l.toNat) w' := by
  have e : ((l.toNat : Nat) : Int) = l := Int.toNat_of_nonneg h0
  have hx' : ∃ k, a.eval x = .int k l := by
    rcases numOf_eval h hx with ⟨h1, _⟩ | ⟨x', k', h1, h2⟩
    · cases h1
    · injection h1 with h1; subst h1; exact ⟨k', h2⟩
  have hy' : ∃ k, a.eval y = .int k l := by
    rcases numOf_eval h hy with ⟨h1, _⟩ | ⟨x', k', h1, h2⟩
    · cases h1
    · injection h1 with h1; subst h1; exact ⟨k', h2⟩
  obtain ⟨kx, hx'⟩ := hx'
  obtain ⟨ky, hy'⟩ := hy'
  rcases numOf_eval h hl with ⟨rfl, rfl⟩ | ⟨z, k, rfl, hz⟩
  · simp [Instr.sliceBounds, hx', hy', run_bound (k := ky) (show (0 : Int) ≤ 0 by omega) (show (0 : Int) ≤ (cap : Int) by omega), run_bound (k := kx) (show (0 : Int) ≤ 0 by omega) (show (0 : Int) ≤ ((0 : Nat) : Int) by omega)]
  · simp [Instr.sliceBounds, hx', hy', hz, run_bound (k := ky) h0 (show l ≤ (cap : Int) by omega), run_bound (k := kx) h0 (show l ≤ ((l.toNat : Nat) : Int) by omega), run_bound (k := k) h0 (show l ≤ ((l.toNat : Nat) : Int) by omega)]

theorem ok_slice {T : Types} {call : CallF} {cx : Cx} {fr : Nat} (h : Hyp P T o own β w σ a) {t : TypeId} {x : Operand} {lo hi mx : Option Operand} (ho : o.op = .slice t x lo hi mx) {e : Eff}
    (he : eff T call cx fr o σ = some e) : OpOk P o own β w σ a (apply σ o.dst e) := by
  have hsr := h.sr
  simp only [eff, ho] at he
  unfold sliceAt at he
  cases hk : kindOf T t <;> simp only [hk] at he
  · cases he
  rename_i k
  cases k <;> simp only at he <;> try (cases he; done)
  rename_i el
  obtain ⟨i, r, hki⟩ := kindOf_row h.T hk
  have hu := kind_slice r hki
  cases hx : opd σ.env x <;> simp only [hx] at he <;> try (cases he; done)
  rename_i n xs
  split at he
  · rename_i ei l u hel hl hhi
    obtain ⟨re⟩ := Row.of h.T hel
    split at he
    · rename_i hc
      obtain ⟨c1, c2, c3, c4⟩ := hc
      have hall : ∀ y ∈ xs, y.cells.length = ei.size := fun y hy => by simpa using List.all_eq_true.1 c4 y hy
      have hf := opd_sl hsr hx
      obtain ⟨base, cap, hval, hcap⟩ : ∃ base cap, a.eval x = .slice base xs.length cap ∧ xs.length ≤ cap := by
        generalize a.eval x = c at hf
        cases hf with
        | nil => exact ⟨none, 0, rfl, Nat.le_refl _⟩
        | none aa cap => exact ⟨some aa, cap, rfl, Nat.zero_le _⟩
        | sl b oo cap sz _ cv him hcap hcells hfr => exact ⟨_, cap, rfl, hcap⟩
      cases mx with
      | none =>
        simp only at he
        injection he with he; subst he
        have hb := run_bounds2 (P := P) hsr hl hhi c1 c2 c3 hcap w
        have hrun : (execOp a.eval o).run P w = .ok (.value (.slice (if cap = l.toNat then base else base.map (·.add (l.toNat * ei.size))) (u.toNat - l.toNat) (cap - l.toNat))) w := by
          simp [execOp, ho, hval, Instr.sliceAt, run_underlying hu, Instr.slice, hb, run_sizeOf_row re]
        refine OpOk.value hrun (Nxt.refl hsr) h.dst rfl ?_
        have hl' : l.toNat ≤ u.toNat := by omega
        have hu' : u.toNat ≤ xs.length := by omega
        have hlen : ((xs.drop l.toNat).take (u.toNat - l.toNat)).length = u.toNat - l.toNat := by simp; omega
        show FR own w _ _
        rw [hval] at hf
        by_cases hemp : u.toNat - l.toNat = 0
        · rw [hemp]
          simp only [List.take_zero]
          generalize hbb : base = bb at hf
          cases hf with
          | nil =>
            subst hbb
            by_cases hc0 : 0 = l.toNat
            · rw [if_pos hc0, ← hc0]; exact .nil
            · simp at hu'; omega
          | none aa cap' =>
            subst hbb
            split <;> exact .none _ _
          | sl b oo cap' sz _ cv him hcap' hcells hfr =>
            subst hbb
            split <;> exact .none _ _
        · generalize hbb : base = bb at hf
          cases hf with
          | nil => simp at hu'; omega
          | none aa cap' => simp at hu'; omega
          | sl b oo cap' sz _ cv him hcap' hcells hfr =>
            subst hbb
            have hne : ¬ cap = l.toNat := by omega
            rw [if_neg hne]
            have hsz : sz = ei.size := by
              have hx0 : xs[0]? = some (xs[0]'(by omega)) := List.getElem?_eq_getElem _
              rw [← (hcells 0 _ hx0).1]; exact hall _ (List.mem_of_getElem? hx0)
            simp only [Option.map_some, Addr.add_eq]
            have := FR.sl (own := own) (w := w) b (oo + l.toNat * ei.size) (cap - l.toNat) sz ((xs.drop l.toNat).take (u.toNat - l.toNat)) (fun i j => cv (l.toNat + i) j) him (by rw [hlen]; omega)
              (fun i y hy => by
                obtain ⟨_, hy'⟩ := take_drop_get hy
                obtain ⟨g1, g2⟩ := hcells _ y hy'
                refine ⟨g1, fun j hj => ?_⟩
                have := g2 j hj
                rw [← this]
                congr 2
                rw [hsz, Nat.add_mul]; omega)
              (fun i y j d hy hd => by
                obtain ⟨_, hy'⟩ := take_drop_get hy
                exact hfr _ y j d hy' hd)
            rw [hlen] at this
            exact this
      | some m =>
        simp only at he
        split at he
        · rename_i hm
          obtain ⟨m1, m2, m3⟩ := hm
          injection he with he; subst he
          subst m3
          cases hi with
          | none => simp at m1
          | some y =>
          have hb := run_bounds3 (P := P) hsr hl hhi m2 c1 c3 hcap w
          have hrun : (execOp a.eval o).run P w = .ok (.value (.slice base 0 0)) w := by
            simp [execOp, ho, hval, Instr.sliceAt, run_underlying hu, Instr.slice, hb, run_sizeOf_row re]
          refine OpOk.value hrun (Nxt.refl hsr) h.dst rfl ?_
          show EXR own w (.res 0 0) ei.size n [] _
          rw [hval] at hf
          generalize hbb : base = bb at hf ⊢
          cases hf with
          | nil => exact .inl ⟨rfl, rfl, rfl⟩
          | none aa cap' => exact .inr (.inl ⟨rfl, rfl, _, rfl⟩)
          | sl b oo cap' sz _ cv him hcap' hcells hfr => exact .inr (.inl ⟨rfl, rfl, _, rfl⟩)
        · cases he
    · cases he
  · cases he

theorem run_part {t : Nat} {i : TI} (r : Row P t i) {arr : Array Value} {off : Nat} (hfit : off + i.size ≤ arr.size) (w : World) :
    (part t arr off).run P w = .ok (mkV i ((arr.toList.drop off).take i.size)) w := by
  unfold part mkV
  simp only [Sem.run_bind, r.isAgg, Result.andThen_ok]
  cases hk : i.kind.isAgg
  · have h1 := r.one hk
    have hlt : off < arr.size := by omega
    simp only [Bool.false_eq_true, if_false]
    rw [Array.getElem?_eq_getElem hlt]
    simp only [Sem.run_pure]
    congr 1
    rw [h1, List.getD_eq_getElem?_getD, List.getElem?_take_of_lt (by omega), List.getElem?_drop]
    simp [hlt]
  · simp only [if_true, Sem.run_bind, run_sizeOf_row r, Result.andThen_ok, Sem.run_pure]
    congr 2
    apply Array.ext'
    simp [Array.toList_extract]

/-- A part of a value. -/
theorem OpOk.part {T : Types} (h : Hyp P T o own β w σ a) {x : Operand} {cs : List V} (hx : opd σ.env x = .agg cs) (hd : cs.all cellDat = true) {t : Nat} {i : TI} (r : Row P t i) {off : Nat} {v : V}
    (ha : asType i ((cs.drop off).take i.size) = some v) (hrun : ∀ arr, a.eval x = .agg arr → (execOp a.eval o).run P w = ((Go.part t arr off).run P w).andThen fun c w' => .ok (.value c) w')
    (hpos : 0 < i.size) : OpOk P o own β w σ a (put σ o.dst v) := by
  obtain ⟨arr, q1, q2, q3⟩ := opd_agg h.sr hx hd
  have hl := asType_cells ha
  have hfit : off + i.size ≤ cs.length := take_drop_len hl hpos
  have hr := hrun arr q1
  rw [run_part r (by omega) w] at hr
  have hlc : ((arr.toList.drop off).take i.size).length = i.size := by simp; omega
  have hget : ∀ (j : Nat) (d : V) (c : Value), ((cs.drop off).take i.size)[j]? = some d → ((arr.toList.drop off).take i.size)[j]? = some c → FR own w d c := by
    intro j d c hd' hc
    obtain ⟨_, e1⟩ := take_drop_get hd'
    obtain ⟨_, e2⟩ := take_drop_get hc
    exact q3 _ d c e1 (by simpa using e2)
  have hvr := asType_VR (β := β) (L := fun _ => .res 0 0) r ha hlc (fun j d c hd' hc => CR_of_FR (hget j d c hd' hc))
  obtain ⟨hw, hn⟩ := asType_plain ha (fun d hd' => by
    obtain ⟨j, hj⟩ := List.getElem?_of_mem hd'
    obtain ⟨_, e1⟩ := take_drop_get hj
    have := List.all_eq_true.1 hd d (List.mem_of_getElem? e1)
    cases d <;> first | rfl | (simp [cellDat] at this))
  exact OpOk.value hr (Nxt.refl h.sr) h.dst hw (TR_of_VR hvr hn)

theorem ok_field {T : Types} {call : CallF} {cx : Cx} {fr : Nat} (h : Hyp P T o own β w σ a) {t : TypeId} {x : Operand} {f : Nat} (ho : o.op = .field t x f) {e : Eff}
    (he : eff T call cx fr o σ = some e) : OpOk P o own β w σ a (apply σ o.dst e) := by
  simp only [eff, ho] at he
  split at he
  · rename_i gs cs hk hx
    obtain ⟨i, r, hki⟩ := kindOf_row h.T hk
    obtain ⟨fields, hu, hf⟩ := kind_struct r hki
    cases hg : gs[f]? <;> simp only [hg] at he
    · cases he
    rename_i g
    obtain ⟨off, ft⟩ := g
    simp only at he
    cases hft : T ft <;> simp only [hft] at he
    · cases he
    rename_i fi
    obtain ⟨rf⟩ := Row.of h.T hft
    obtain ⟨fd, h1, h2, h3⟩ := fieldsB_get hf f off ft hg
    have h1' : fields[f]? = some fd := by simpa using h1
    split at he
    · rename_i hc
      rw [Option.map_eq_some_iff] at he
      obtain ⟨v, hv, rfl⟩ := he
      refine OpOk.part h hx hc.1 rf hv (fun arr harr => ?_) hc.2
      simp only [execOp, ho, harr, Instr.field, Sem.run_bind, run_underlying hu, Result.andThen_ok, h1', asAgg, Sem.run_pure, h2, h3]
    · cases he
  · cases he

end
end Go.Vm
end

section
/- V13: components, operators, lengths, append. -/
namespace Go.Vm
open Go

section
variable {P : Program} {o : Oper} {own : Own} {β : Nat → Nat} {w : World} {σ : St} {a : Act}

theorem ok_index {T : Types} {call : CallF} {cx : Cx} {fr : Nat} (h : Hyp P T o own β w σ a) {t : TypeId} {x k : Operand} (ho : o.op = .index t x k) {e : Eff}
    (he : eff T call cx fr o σ = some e) : OpOk P o own β w σ a (apply σ o.dst e) := by
  simp only [eff, ho] at he
  split at he
  · rename_i i cs kk kn hT hx hk
    obtain ⟨r⟩ := Row.of h.T hT
    have hke := opd_int h.sr hk
    split at he
    · rename_i n el hki
      have hu := kind_array r hki
      cases hel : T el <;> simp only [hel] at he
      · cases he
      rename_i ei
      obtain ⟨re⟩ := Row.of h.T hel
      split at he
      · rename_i hc
        rw [Option.map_eq_some_iff] at he
        obtain ⟨v, hv, rfl⟩ := he
        refine OpOk.part h hx hc.2.2.1 re hv (fun arr harr => ?_) hc.2.2.2
        simp [execOp, ho, harr, hke, Instr.index, asIntOf, run_underlying hu, hc.1, hc.2.1, run_sizeOf_row re]
      · cases he
    · cases he
  · rename_i i s kk kn hT hx hk
    obtain ⟨r⟩ := Row.of h.T hT
    have hke := opd_int h.sr hk
    have hxe := opd_str h.sr hx
    split at he
    · rename_i hki
      have hkk := r.hkind
      rw [hki] at hkk
      have hd : r.d = .string := by cases hd : r.d <;> simp [hd, kindB] at hkk ⊢
      have hu := r.hd
      rw [hd] at hu
      split at he
      · rename_i b hb
        injection he with he; subst he
        exact OpOk.plain h (by simp [execOp, ho, hxe, hke, Instr.index, asIntOf, run_underlying hu, hb]) rfl (fun _ => .int _ _) rfl
      · cases he
    · cases he
  · cases he

theorem run_extract {o : Oper} {x : Operand} {j : Nat} (ho : o.op = .extract x j) {arr : Array Value} (hx : a.eval x = .tuple arr) {c : Value} (hc : arr[j]? = some c) (w : World) :
    (execOp a.eval o).run P w = .ok (.value c) w := by
  simp [execOp, ho, hx, Instr.extract, hc]

theorem noEx_of_dat {v : V} (h : v.dat = true) : noEx v = true := by
  cases v <;> first
    | rfl
    | (simp [V.dat, cellDat] at h; done)
    | exact noEx_dat h
theorem isWay_of_dat {v : V} (h : v.dat = true) : isWay v = false := by
  cases v <;> first
    | rfl
    | (simp [V.dat, cellDat] at h; done)

theorem run_builtin {b : Builtin} {c : Call} (ho : o.op = .call c) (hb : c.callee = .builtin b) (w : World) :
    ∃ cs, (execOp a.eval o).run P w = (builtin b c.argTypes o.type cs (c.args.map a.eval)).run P w := by
  simp only [execOp, ho, resolve, hb, Sem.run_bind, Sem.run_pure, Result.andThen_ok, invoke]
  exact ⟨_, rfl⟩

theorem content_shape (h : SR own β w σ a.tmps) {x : Operand} {n : Bool} {xs : List V} (hc : content σ (opd σ.env x) = some (n, xs)) :
    ∃ b cap, a.eval x = .slice b xs.length cap ∧ (n = true ↔ b = none) := by
  have viaEx : ∀ l sz, EXR own w l sz n xs (a.eval x) → ∃ b cap, a.eval x = .slice b xs.length cap ∧ (n = true ↔ b = none) := by
    rintro l sz (⟨rfl, rfl, e⟩ | ⟨rfl, rfl, aa, e⟩ | ⟨rfl, b, cap, T', arr, e, _⟩)
    · exact ⟨_, _, e, by simp⟩
    · exact ⟨_, _, e, by simp⟩
    · exact ⟨_, _, e, by simp⟩
  cases hv : opd σ.env x <;> simp only [hv, content] at hc <;> try (cases hc; done)
  · injection hc with hc; injection hc with h1 h2; subst h1; subst h2
    have := opd_sl h hv
    generalize a.eval x = c at this
    cases this
    · exact ⟨_, _, rfl, by simp⟩
    · exact ⟨_, _, rfl, by simp⟩
    · exact ⟨_, _, rfl, by simp⟩
  · injection hc with hc; injection hc with h1 h2; subst h1; subst h2
    have := opd_TR h x (by rw [hv]; rfl)
    rw [hv] at this
    exact viaEx _ _ this
  · rename_i p
    obtain ⟨sz, m, ys, q1, q2⟩ := opd_lent h hv
    simp only [q1] at hc
    injection hc with hc; injection hc with h1 h2; subst h1; subst h2
    obtain ⟨c0, g1, g2⟩ := h.at_ q1
    rw [q2] at g1; injection g1 with g1
    rw [← g1] at g2
    exact viaEx _ _ g2

theorem run_objMap {r : Nat} {es : Array MapEntry} {n : Nat} (hb : w.heap[r]? = some (.map es n)) : (getObj r).run P w = .ok (.map es n) w := by simp [getObj, Sem.run, hb]

theorem mapView_ok (h : SR own β w σ a.tmps) {x : Operand} {ks vs : List V} (hm : mapView σ (opd σ.env x) = some (ks, vs)) :
    (a.eval x = .map none ∧ ks = [] ∧ vs = []) ∨ ∃ id, opd σ.env x = .ref .map id ∧ bcells σ.heap id = some [.mp ks vs] ∧ a.eval x = .map (some (β id)) ∧ own (β id) = .blk id ∧ ∃ o, w.heap[β id]? = some o ∧ OR own β w id (.mp ks vs) o := by
  unfold mapView at hm
  split at hm
  · rename_i hv
    injection hm with hm; injection hm with h1 h2
    exact .inl ⟨opd_nilm h hv, h1.symm, h2.symm⟩
  · rename_i id hv
    obtain ⟨q1, q2⟩ := opd_ref h hv
    split at hm
    · rename_i ks' vs' hb
      injection hm with hm; injection hm with h1 h2; subst h1; subst h2
      obtain ⟨g1, o, g2, g3⟩ := (h.heap.blk id _ hb).spec rfl
      exact .inr ⟨id, hv, hb, q1, q2, o, g2, g3⟩
    · cases hm
  · cases hm

theorem kind_map {t : TypeId} {i : TI} (r : Row P t i) {k e : Nat} (hk : i.kind = .map k e) : P.underlying t = some (.map k e) := by
  have hkk := r.hkind
  rw [hk] at hkk
  have hd := r.hd
  cases hdd : r.d <;> simp [hdd, kindB] at hkk
  rw [hd, hdd, hkk.1, hkk.2]

theorem ok_len {T : Types} (h : Hyp P T o own β w σ a) {c : Call} (ho : o.op = .call c) (hb : c.callee = .builtin .len) {e : Eff}
    (he : lenAt T σ c = some e) : OpOk P o own β w σ a (apply σ o.dst e) := by
  unfold lenAt at he
  split at he
  · rename_i x t hx ht
    have hx' : c.args = #[x] := by rw [← Array.toList_inj]; simpa using hx
    have ht' : c.argTypes = #[t] := by rw [← Array.toList_inj]; simpa using ht
    obtain ⟨_, hrun⟩ := run_builtin (P := P) (a := a) ho hb w
    simp only [hx', ht', builtin] at hrun
    split at he
    · rename_i hk
      obtain ⟨i, r, hki⟩ := kindOf_row h.T hk
      have hkk := r.hkind
      rw [hki] at hkk
      have hd : r.d = .string := by cases hd : r.d <;> simp [hd, kindB] at hkk ⊢
      have hu := r.hd
      rw [hd] at hu
      split at he
      · rename_i s hs
        injection he with he; subst he
        have hxe := opd_str h.sr hs
        refine OpOk.plain h ?_ rfl (fun _ => .int _ _) rfl
        rw [hrun]
        simp [Builtin.len_, run_underlying hu, hxe, goInt]
      · cases he
    · rename_i n el hk
      obtain ⟨i, r, hki⟩ := kindOf_row h.T hk
      have hu := kind_array r hki
      injection he with he; subst he
      refine OpOk.plain h ?_ rfl (fun _ => .int _ _) rfl
      rw [hrun]
      simp [Builtin.len_, run_underlying hu, goInt]
    · rename_i el hk
      obtain ⟨i, r, hki⟩ := kindOf_row h.T hk
      have hu := kind_slice r hki
      cases hl : lenV σ (opd σ.env x) with
      | none => simp [hl] at he
      | some n =>
        simp only [hl] at he
        injection he with he; subst he
        refine OpOk.plain h ?_ rfl (fun _ => .int _ _) rfl
        rw [hrun]
        have viaC : ∀ b xs, content σ (opd σ.env x) = some (b, xs) → xs.length = n → (Builtin.len_ #[t] o.type #[a.eval x]).run P w = .ok (.int .i64 n) w := fun b xs hc hn => by
          obtain ⟨b, cap, hxe, _⟩ := content_shape h.sr hc
          simp [Builtin.len_, run_underlying hu, hxe, goInt, hn]
        have key : (Builtin.len_ #[t] o.type #[a.eval x]).run P w = .ok (.int .i64 n) w := by
          unfold lenV at hl
          split at hl
          · rename_i m id hv
            injection hl with hl; subst hl
            obtain ⟨hxe, _⟩ := opd_ref h.sr hv
            simp [Builtin.len_, run_underlying hu, hxe, refVal, goInt]
          · rw [Option.map_eq_some_iff] at hl
            obtain ⟨⟨b, xs⟩, h1, h2⟩ := hl
            exact viaC b xs h1 h2
        simp [key]
    · rename_i kt et hk
      obtain ⟨i, r, hki⟩ := kindOf_row h.T hk
      have hu := kind_map r hki
      split at he
      · rename_i ks vs hc
        injection he with he; subst he
        refine OpOk.plain h ?_ rfl (fun _ => .int _ _) rfl
        rw [hrun]
        rcases mapView_ok h.sr hc with ⟨hxe, rfl, rfl⟩ | ⟨id, _, _, hxe, _, o, g2, es, rfl, g3, _⟩
        · simp [Builtin.len_, run_underlying hu, hxe, goInt]
        · simp [Builtin.len_, run_underlying hu, hxe, goInt, run_objMap g2, g3]
      · cases he
    · cases he
  · cases he

theorem ok_mm {T : Types} (h : Hyp P T o own β w σ a) {c : Call} (ho : o.op = .call c) {big : Bool} (hb : c.callee = .builtin (if big then .max else .min)) {e : Eff}
    (he : mmAt big σ c = some e) : OpOk P o own β w σ a (apply σ o.dst e) := by
  unfold mmAt at he
  split at he
  · rename_i x y hx
    have hx' : c.args = #[x, y] := by rw [← Array.toList_inj]; simpa using hx
    obtain ⟨_, hrun⟩ := run_builtin (P := P) (a := a) ho hb w
    split at he
    · rename_i k m k' n hm hn
      injection he with he; subst he
      have h1 := opd_int h.sr hm
      have h2 := opd_int h.sr hn
      refine OpOk.plain h ?_ rfl (fun _ => .int _ _) rfl
      rw [hrun]
      cases big <;> simp [builtin, hx', Builtin.max_, Builtin.min_, h1, h2, Builtin.max2, Builtin.min2]
    · cases he
  · cases he

end
end Go.Vm
end

section
/- V13E: equality of structs and arrays. -/
namespace Go.Vm
open Go

def leafB : TK → V → Value → Bool
  | .bool, .bool a, .bool b => a == b
  | .int k, .int k1 a, .int k2 b => decide (k1 = k ∧ k2 = k ∧ a = b)
  | .str, .str a, .string b => decide (a = b)
  | _, _, _ => false

def Agree (ks : List TK) (as : List V) (xs : List Value) : Prop := as.length = ks.length ∧ xs.length = ks.length ∧ ∀ (j : Nat) (k : TK) (a : V) (x : Value), ks[j]? = some k → as[j]? = some a → xs[j]? = some x → leafB k a x = true

theorem Agree.drop {ks ks' : List TK} {as : List V} {xs : List Value} (h : Agree (ks ++ ks') as xs) : Agree ks' (as.drop ks.length) (xs.drop ks.length) := by
  obtain ⟨h1, h2, h3⟩ := h
  refine ⟨by simp [h1], by simp [h2], fun j k a x hk ha hx => ?_⟩
  rw [List.getElem?_drop] at ha hx
  exact h3 (ks.length + j) k a x (by rw [List.getElem?_append_right (by omega)]; simpa using hk) ha hx
theorem Agree.take {ks ks' : List TK} {as : List V} {xs : List Value} (h : Agree (ks ++ ks') as xs) : Agree ks (as.take ks.length) (xs.take ks.length) := by
  obtain ⟨h1, h2, h3⟩ := h
  refine ⟨by simp [h1], by simp [h2], fun j k a x hk ha hx => ?_⟩
  have hj : j < ks.length := (List.getElem?_eq_some_iff.1 hk).1
  rw [List.getElem?_take_of_lt hj] at ha hx
  exact h3 j k a x (by rw [List.getElem?_append_left hj]; exact hk) ha hx

theorem cellsEqv_split : ∀ (n : Nat) (as bs : List V), as.length = bs.length → cellsEqv as bs = (cellsEqv (as.take n) (bs.take n) && cellsEqv (as.drop n) (bs.drop n))
  | 0, as, bs, _ => by simp [cellsEqv]
  | n + 1, [], [], _ => by simp [cellsEqv]
  | n + 1, a :: as, b :: bs, h => by
    simp only [List.take_succ_cons, List.drop_succ_cons, cellsEqv]
    rw [cellsEqv_split n as bs (by simpa using h), Bool.and_assoc]
  | n + 1, [], b :: bs, h => by simp at h
  | n + 1, a :: as, [], h => by simp at h

section
variable {P : Program} (w : World)

theorem run_part_leaves {d : Nat} {e : TypeId} {ks : List TK} (hl : leavesP P d e = some ks) (hsz : P.cellsOf e = ks.length) {off : Nat} {xs : Array Value} {as : List V}
    (ha : Agree ks as ((xs.toList.drop off).take ks.length)) :
    ∃ a, (part e xs off).run P w = .ok a w ∧ a.formed P e = true ∧ a.cells.toList = (xs.toList.drop off).take ks.length := by
  cases d with
  | zero => simp [leavesP] at hl
  | succ d =>
    cases hu : P.underlying e with
    | none => simp [leavesP, hu] at hl
    | some kd =>
      obtain ⟨i, hi⟩ := info_of_underlying hu
      have agg : (∃ n e', kd = .array n e') ∨ (∃ fs, kd = .struct fs) → ∃ a, (part e xs off).run P w = .ok a w ∧ a.formed P e = true ∧ a.cells.toList = (xs.toList.drop off).take ks.length := by
        intro hk
        have hlen : ((xs.toList.drop off).take ks.length).length = ks.length := ha.2.1
        have hx : (xs.extract off (off + P.cellsOf e)).toList = (xs.toList.drop off).take ks.length := by
          rw [Array.toList_extract, hsz]
          simp [List.extract]
        refine ⟨.agg (xs.extract off (off + P.cellsOf e)), ?_, ?_, hx⟩
        · rcases hk with ⟨n, e', rfl⟩ | ⟨fs, rfl⟩ <;> simp [part, isAgg, run_underlying hu, run_sizeOf w hi]
        · have hs : (xs.extract off (off + P.cellsOf e)).size = P.cellsOf e := by rw [← Array.length_toList, hx, hlen, hsz]
          rcases hk with ⟨n, e', rfl⟩ | ⟨fs, rfl⟩ <;> simp [Value.formed, hu, hs]
      have plain : ∀ k, ks = [k] → (∀ v a, leafB k a v = true → v.cells.toList = [v] ∧ v.formed P e = true) → (∀ w, (isAgg e).run P w = .ok false w) → ∃ a, (part e xs off).run P w = .ok a w ∧ a.formed P e = true ∧ a.cells.toList = (xs.toList.drop off).take ks.length := by
        intro k hk hform hagg
        subst hk
        obtain ⟨h1, h2, h3⟩ := ha
        obtain ⟨a, rfl⟩ := List.length_eq_one_iff.1 (by simpa using h1)
        obtain ⟨x, hm⟩ : ∃ x, (xs.toList.drop off).take 1 = [x] := List.length_eq_one_iff.1 h2
        have hx := h3 0 k a x rfl rfl (by show ((xs.toList.drop off).take 1)[0]? = _; rw [hm]; rfl)
        obtain ⟨g1, g2⟩ := hform x a hx
        have hget : xs[off]? = some x := by
          have h0 : ((xs.toList.drop off).take 1)[0]? = some x := by rw [hm]; rfl
          rw [List.getElem?_take_of_lt (by omega), List.getElem?_drop] at h0
          simpa using h0
        refine ⟨x, by simp [part, hagg, hget], g2, ?_⟩
        rw [g1]; exact hm.symm
      cases kd
      case bool =>
        simp only [leavesP, hu] at hl
        injection hl with hl
        exact plain _ hl.symm (fun v a h => by cases a <;> cases v <;> simp [leafB] at h <;> exact ⟨rfl, by simp [Value.formed, hu]⟩) (fun w => by simp [isAgg, run_underlying hu])
      case int q =>
        simp only [leavesP, hu] at hl
        injection hl with hl
        exact plain _ hl.symm (fun v a h => by cases a <;> cases v <;> simp [leafB] at h <;> exact ⟨rfl, by simp [Value.formed, hu]⟩) (fun w => by simp [isAgg, run_underlying hu])
      case string =>
        simp only [leavesP, hu] at hl
        injection hl with hl
        exact plain _ hl.symm (fun v a h => by cases a <;> cases v <;> simp [leafB] at h <;> exact ⟨rfl, by simp [Value.formed, hu]⟩) (fun w => by simp [isAgg, run_underlying hu])
      case array n e' => exact agg (Or.inl ⟨n, e', rfl⟩)
      case struct fs => exact agg (Or.inr ⟨fs, rfl⟩)
      all_goals (simp [leavesP, hu] at hl; done)

def EqOk (P : Program) (dd : Nat) (d : Nat) (e : TypeId) : Prop :=
  ∀ (w : World) (ks : List TK) (as bs : List V) (a b : Value), leavesP P d e = some ks → Agree ks as a.cells.toList → Agree ks bs b.cells.toList → a.formed P e = true → b.formed P e = true →
    (Op.equalIn dd e a b).run P w = .ok (cellsEqv as bs) w

theorem eq_fields {dd d : Nat} (xs ys : Array Value) (IH : ∀ e, EqOk P dd d e) : ∀ (fs : List Field) (o : Nat) (ks : List TK) (as bs : List V), leavesF (leavesP P d) P.cellsOf o fs = some ks →
    Agree ks as (xs.toList.drop o) → Agree ks bs (ys.toList.drop o) → (Op.eqFields dd xs ys fs).run P w = .ok (cellsEqv as bs) w
  | [], o, ks, as, bs, hl, ha, hb => by
    simp only [leavesF] at hl; injection hl with hl; subst hl
    obtain rfl : as = [] := List.eq_nil_of_length_eq_zero ha.1
    simp [Op.eqFields, cellsEqv]
  | f :: fs, o, ks, as, bs, hl, ha, hb => by
    simp only [leavesF] at hl
    cases hk : leavesP P d f.type with
    | none => simp [hk] at hl
    | some k1 =>
      simp only [hk] at hl
      split at hl
      · rename_i hc
        obtain ⟨c1, c2, c3⟩ := hc
        rw [Option.map_eq_some_iff] at hl
        obtain ⟨k2, hl2, rfl⟩ := hl
        subst c1
        have a1 := ha.take
        have b1 := hb.take
        have a2 := ha.drop
        have b2 := hb.drop
        obtain ⟨a, p1, p2, p3⟩ := run_part_leaves w hk c3 a1
        obtain ⟨b, q1, q2, q3⟩ := run_part_leaves w hk c3 b1
        have he := IH f.type w k1 _ _ a b hk (by rw [p3]; exact a1) (by rw [q3]; exact b1) p2 q2
        have hrest := eq_fields xs ys IH fs _ k2 _ _ hl2 (by rw [List.drop_drop] at a2; exact a2) (by rw [List.drop_drop] at b2; exact b2)
        simp only [Op.eqFields, c2, ne_eq, not_false_eq_true, if_true, Sem.run_bind, p1, q1, he, Result.andThen_ok]
        rw [cellsEqv_split k1.length as bs (by rw [ha.1, hb.1])]
        cases hx : cellsEqv (as.take k1.length) (bs.take k1.length)
        · simp
        · simpa using hrest
      · cases hl

theorem eq_items {dd d : Nat} {e : TypeId} {k1 : List TK} (hk : leavesP P d e = some k1) (hs : P.cellsOf e = k1.length) (xs ys : Array Value) (IH : EqOk P dd d e) : ∀ (n s : Nat) (as bs : List V),
    Agree (List.replicate n k1).flatten as (xs.toList.drop (s * k1.length)) → Agree (List.replicate n k1).flatten bs (ys.toList.drop (s * k1.length)) →
      (Op.eqItems dd e (P.cellsOf e) xs ys (List.range' s n)).run P w = .ok (cellsEqv as bs) w
  | 0, s, as, bs, ha, hb => by
    obtain rfl : as = [] := List.eq_nil_of_length_eq_zero (by simpa using ha.1)
    simp [Op.eqItems, cellsEqv]
  | n + 1, s, as, bs, ha, hb => by
    simp only [List.replicate_succ, List.flatten_cons] at ha hb
    have a1 := ha.take
    have b1 := hb.take
    have a2 := ha.drop
    have b2 := hb.drop
    obtain ⟨a, p1, p2, p3⟩ := run_part_leaves w hk hs a1
    obtain ⟨b, q1, q2, q3⟩ := run_part_leaves w hk hs b1
    have he := IH w k1 _ _ a b hk (by rw [p3]; exact a1) (by rw [q3]; exact b1) p2 q2
    have hrest := eq_items hk hs xs ys IH n (s + 1) _ _ (by rw [List.drop_drop] at a2; rw [Nat.succ_mul]; exact a2) (by rw [List.drop_drop] at b2; rw [Nat.succ_mul]; exact b2)
    rw [hs] at hrest ⊢
    simp only [List.range'_succ, Op.eqItems, Sem.run_bind, p1, q1, he, Result.andThen_ok]
    rw [cellsEqv_split k1.length as bs (by rw [ha.1, hb.1])]
    cases hx : cellsEqv (as.take k1.length) (bs.take k1.length)
    · simp
    · simpa using hrest

theorem eq_ok (dd : Nat) : ∀ (d : Nat) (t : TypeId), EqOk P (dd + d) d t
  | 0, t => fun w ks as bs a b hl => by simp [leavesP] at hl
  | d + 1, t => fun w ks as bs a b hl ha hb fa fb => by
    simp only [leavesP] at hl
    cases hu : P.underlying t with
    | none => simp [hu] at hl
    | some kd =>
      have one : ∀ k, ks = [k] → ∃ x y u v, as = [x] ∧ bs = [y] ∧ a.cells.toList = [u] ∧ b.cells.toList = [v] ∧ leafB k x u = true ∧ leafB k y v = true := by
        rintro k rfl
        obtain ⟨x, rfl⟩ := List.length_eq_one_iff.1 ha.1
        obtain ⟨y, rfl⟩ := List.length_eq_one_iff.1 hb.1
        obtain ⟨u, hu'⟩ := List.length_eq_one_iff.1 ha.2.1
        obtain ⟨v, hv'⟩ := List.length_eq_one_iff.1 hb.2.1
        exact ⟨x, y, u, v, rfl, rfl, hu', hv', ha.2.2 0 k x u rfl rfl (by rw [hu']; rfl), hb.2.2 0 k y v rfl rfl (by rw [hv']; rfl)⟩
      have self : ∀ (c u : Value), c.formed P t = true → c.cells.toList = [u] → (match kd with | .struct _ => False | .array _ _ => False | _ => True) → c = u := by
        intro c u hf hc hk
        cases c <;> first
          | (simpa [Value.cells] using hc)
          | (cases kd <;> simp [Value.formed, hu] at hf hk)
      rw [show dd + (d + 1) = (dd + d) + 1 from rfl]
      cases kd <;> simp only [hu] at hl <;> try (cases hl; done)
      case bool =>
        injection hl with hl
        obtain ⟨x, y, u, v, rfl, rfl, e1, e2, l1, l2⟩ := one _ hl.symm
        obtain rfl := self a u fa e1 trivial
        obtain rfl := self b v fb e2 trivial
        cases x <;> cases a <;> simp [leafB] at l1
        cases y <;> cases b <;> simp [leafB] at l2
        subst l1; subst l2
        rw [run_equalIn_bool' w _ t _ _ hu]
        simp [cellsEqv, cellEqv]
      case int k =>
        injection hl with hl
        obtain ⟨x, y, u, v, rfl, rfl, e1, e2, l1, l2⟩ := one _ hl.symm
        obtain rfl := self a u fa e1 trivial
        obtain rfl := self b v fb e2 trivial
        cases x <;> cases a <;> simp [leafB] at l1
        cases y <;> cases b <;> simp [leafB] at l2
        obtain ⟨rfl, rfl, rfl⟩ := l1
        obtain ⟨rfl, rfl, rfl⟩ := l2
        rw [run_equalIn_int w _ t _ _ _ _ hu]
        simp [cellsEqv, cellEqv]
      case string =>
        injection hl with hl
        obtain ⟨x, y, u, v, rfl, rfl, e1, e2, l1, l2⟩ := one _ hl.symm
        obtain rfl := self a u fa e1 trivial
        obtain rfl := self b v fb e2 trivial
        cases x <;> cases a <;> simp [leafB] at l1
        cases y <;> cases b <;> simp [leafB] at l2
        subst l1; subst l2
        rw [run_equalIn_string w _ t _ _ hu]
        simp [cellsEqv, cellEqv]
      case array n e =>
        cases hk : leavesP P d e with
        | none => simp [hk] at hl
        | some k1 =>
          simp only [hk] at hl
          split at hl
          · rename_i hs
            injection hl with hl; subst hl
            cases a <;> simp only [Value.formed, hu, Bool.false_eq_true] at fa
            cases b <;> simp only [Value.formed, hu, Bool.false_eq_true] at fb
            rename_i xs ys
            obtain ⟨i, hi⟩ : ∃ i, P.info? e = some i := by
              cases hue : P.underlying e with
              | none => cases d <;> simp [leavesP, hue] at hk
              | some _ => exact info_of_underlying hue
            rw [run_equalIn_array w (dd + d) xs ys hu hi, List.range_eq_range']
            exact eq_items w hk hs xs ys (eq_ok dd d e) n 0 as bs (by simpa [Value.cells] using ha) (by simpa [Value.cells] using hb)
          · cases hl
      case struct fs =>
        split at hl
        · cases hl
        · rename_i hst
          cases a <;> simp only [Value.formed, hu, Bool.false_eq_true] at fa
          cases b <;> simp only [Value.formed, hu, Bool.false_eq_true] at fb
          rename_i xs ys
          have hfs : P.fieldsOf t = fs := by simp [Program.fieldsOf, hu]
          rw [run_equalIn_struct w (dd + d) t xs ys (by rw [hfs]; exact hu) (by simpa using hst), hfs]
          exact eq_fields w xs ys (fun e => eq_ok dd d e) fs.toList 0 ks as bs hl (by simpa [Value.cells] using ha) (by simpa [Value.cells] using hb)

end
end Go.Vm
end

section
/- V14: append, operators. -/
namespace Go.Vm
open Go

section
variable {P : Program} {o : Oper} {own : Own} {β : Nat → Nat} {w : World} {σ : St} {a : Act}

theorem SrcL.reloc {ρ : Loc → Loc} (hr : Reloc ρ) {sz : Nat} {ys : List V} {news : List Value} (h : SrcL own w sz ys news) : SrcL (fun b => ρ (own b)) w sz ys news :=
  ⟨h.len, h.cells, fun i x j y c hi hj hc => (h.fr i x j y c hi hj hc).reloc hr⟩

theorem base_ok (h : SR own β w σ a.tmps) {sz : Nat} {x : Operand} {n : Bool} {xs : List V} {ps : List (Place × V)} (hb : base sz σ x = some (n, xs, ps)) :
    ∃ o1, Nxt own β w σ a o1 β w (setPlaces σ ps) a ∧ EXR o1 w (.res 0 0) sz n xs (a.eval x) ∧ ∃ ρ, Reloc ρ ∧ o1 = fun b => ρ (own b) := by
  unfold base at hb
  have give : ∀ p m ys, look σ p = .ex sz m ys → conc β a.tmps w p = some (a.eval x) →
      ∃ o1, Nxt own β w σ a o1 β w (setPlaces σ [(p, .undef)]) a ∧ EXR o1 w (.res 0 0) sz m ys (a.eval x) ∧ ∃ ρ, Reloc ρ ∧ o1 = fun b => ρ (own b) := by
    intro p m ys q1 q2
    obtain ⟨o1, c, h1, h2, h3, h4⟩ := Nxt.give h q1
    rw [q2] at h2; injection h2 with h2; subst h2
    refine ⟨o1, h1, h3, _, moved_reloc ?_ ?_ ?_ ?_ ?_, h4⟩ <;> cases p <;> simp [locOf]
  split at hb
  · rename_i hv
    injection hb with hb; injection hb with h1 hb; injection hb with h2 h3; subst h1; subst h2; subst h3
    have hf := opd_sl h hv
    refine ⟨own, Nxt.refl h, ?_, id, reloc_id, rfl⟩
    generalize a.eval x = c at hf
    cases hf
    exact .inl ⟨rfl, rfl, rfl⟩
  · rename_i sz' m ys hv
    split at hb
    · rename_i t ht
      obtain rfl := tmpOf_some ht
      split at hb
      · rename_i hs; subst hs
        injection hb with hb; injection hb with h1 hb; injection hb with h2 h3; subst h1; subst h2; subst h3
        exact give (.slot t) _ _ hv rfl
      · cases hb
    · cases hb
  · rename_i p hv
    obtain ⟨sz', m, ys, q1, q2⟩ := opd_lent h hv
    simp only [q1] at hb
    split at hb
    · rename_i hs; subst hs
      injection hb with hb; injection hb with h1 hb; injection hb with h2 h3; subst h1; subst h2; subst h3
      exact give p _ _ q1 q2
    · cases hb
  · cases hb

theorem content_src (h : SR own β w σ a.tmps) {x : Operand} {n : Bool} {ys : List V} (hc : content σ (opd σ.env x) = some (n, ys)) {sz : Nat} {tx e' : TypeId} (hs : 0 < sz)
    (hk : P.underlying tx = some (.slice e')) (hcells : ∀ y ∈ ys, y.cells.length = sz) : ∃ news, Src P sz tx (a.eval x) ys.length news w ∧ SrcL own w sz ys news := by
  cases hv : opd σ.env x <;> simp only [hv, content] at hc <;> try (cases hc; done)
  · injection hc with hc; injection hc with h1 h2; subst h1; subst h2
    exact src_of_FR hs hk (opd_sl h hv) hcells
  · injection hc with hc; injection hc with h1 h2; subst h1; subst h2
    have := opd_TR h x (by rw [hv]; rfl)
    rw [hv] at this
    exact src_of_EXR hs hk this hcells
  · rename_i p
    obtain ⟨sz, m, ys, q1, q2⟩ := opd_lent h hv
    simp only [q1] at hc
    injection hc with hc; injection hc with h1 h2; subst h1; subst h2
    obtain ⟨c0, g1, g2⟩ := h.at_ q1
    rw [q2] at g1; injection g1 with g1
    rw [← g1] at g2
    exact src_of_EXR hs hk g2 hcells

theorem ok_append {T : Types} (h : Hyp P T o own β w σ a) {c : Call} (ho : o.op = .call c) (hb : c.callee = .builtin .append) {e : Eff}
    (he : appendAt T σ c = some e) : OpOk P o own β w σ a (apply σ o.dst e) := by
  unfold appendAt at he
  split at he
  · rename_i s x t tx hx ht
    have hx' : c.args = #[s, x] := by rw [← Array.toList_inj]; simpa using hx
    have ht' : c.argTypes = #[t, tx] := by rw [← Array.toList_inj]; simpa using ht
    split at he
    · rename_i el el' n' ys hk hk' hc
      obtain ⟨i, r, hki⟩ := kindOf_row h.T hk
      have hu := kind_slice r hki
      obtain ⟨i', r', hki'⟩ := kindOf_row h.T hk'
      have hu' := kind_slice r' hki'
      cases hel : T el <;> simp only [hel] at he
      · cases he
      rename_i ei
      obtain ⟨re⟩ := Row.of h.T hel
      split at he
      · rename_i n xs ps hbase
        split at he
        · rename_i hcond
          obtain ⟨c1, c2, c3, c4⟩ := hcond
          injection he with he; subst he
          obtain ⟨o1, h1, h2, ρ, hr, rfl⟩ := base_ok h.sr hbase
          obtain ⟨news, hs1, hs2⟩ := content_src (P := P) h.sr hc c2 hu' (fun y hy => by simpa using List.all_eq_true.1 c4 y hy)
          have hsz := re.hsize
          obtain ⟨c', w', o2, g1, g2, g3, g4⟩ := SR.append (P := P) (ty := o.type) h1.sr hu re.hinfo re.hz (by rw [re.hzs, hsz]) (by rw [hsz]; exact c2) (by rw [hsz]; exact h2)
            (by rw [hsz]; exact hs1) (by rw [hsz]; exact hs2.reloc hr) (by rw [re.hbytes]; simpa [rooms, maxRoom] using of_decide_eq_true c1) c3
          obtain ⟨_, hrun⟩ := run_builtin (P := P) (a := a) ho hb w
          have hrun' : (execOp a.eval o).run P w = .ok (.value c') w' := by
            rw [hrun]
            simp [builtin, hx', ht', g1]
          rw [hsz] at g4
          exact OpOk.value hrun' ⟨g2, h1.stay.trans g3, h1.bx, rfl, rfl⟩ h.dst rfl g4
        · cases he
      · cases he
    · cases he
  · cases he

theorem run_ptrs {t el : TypeId} (hu : P.underlying t = some (.pointer el)) (p q : Option Addr) (h : p = none ∨ q = none) (w : World) :
    (binOp .eql t (.pointer p) (.pointer q)).run P w = .ok (.bool (p.isNone && q.isNone)) w ∧ (binOp .neq t (.pointer p) (.pointer q)).run P w = .ok (.bool (!(p.isNone && q.isNone))) w := by
  have he : ∀ d, (Op.equalIn (d + 1) t (.pointer p) (.pointer q)).run P w = .ok (p.isNone && q.isNone) w := by
    intro d
    rcases h with rfl | rfl
    · simp [Op.equalIn, run_underlying hu]
    · cases p <;> simp [Op.equalIn, run_underlying hu]
  constructor <;> simp only [binOp, Op.equal, Op.maxDepth, Sem.run_bind] <;> rw [he 9999] <;> rfl

theorem run_slices {t el : TypeId} (hu : P.underlying t = some (.slice el)) (p q : Option Addr) (l c l' c' : Nat) (h : p = none ∨ q = none) (w : World) :
    (binOp .eql t (.slice p l c) (.slice q l' c')).run P w = .ok (.bool (p.isNone && q.isNone)) w ∧ (binOp .neq t (.slice p l c) (.slice q l' c')).run P w = .ok (.bool (!(p.isNone && q.isNone))) w := by
  have he : ∀ d, (Op.equalIn (d + 1) t (.slice p l c) (.slice q l' c')).run P w = .ok (p.isNone && q.isNone) w := by
    intro d
    rcases h with rfl | rfl
    · simp [Op.equalIn, run_underlying hu]
    · cases p <;> simp [Op.equalIn, run_underlying hu]
  constructor <;> simp only [binOp, Op.equal, Op.maxDepth, Sem.run_bind] <;> rw [he 9999] <;> rfl

theorem run_maps {t k el : TypeId} (hu : P.underlying t = some (.map k el)) (p q : Option Nat) (h : p = none ∨ q = none) (w : World) :
    (binOp .eql t (.map p) (.map q)).run P w = .ok (.bool (p.isNone && q.isNone)) w ∧ (binOp .neq t (.map p) (.map q)).run P w = .ok (.bool (!(p.isNone && q.isNone))) w := by
  have he : ∀ d, (Op.equalIn (d + 1) t (.map p) (.map q)).run P w = .ok (p.isNone && q.isNone) w := by
    intro d
    rcases h with rfl | rfl
    · simp [Op.equalIn, run_underlying hu]
    · cases p <;> simp [Op.equalIn, run_underlying hu]
  constructor <;> simp only [binOp, Op.equal, Op.maxDepth, Sem.run_bind] <;> rw [he 9999] <;> rfl

theorem guard_none {op : BinOp} {t : TypeId} {x y : Operand} {c d : Value} (h1 : c ≠ .nilIface) (h2 : ∀ arr, c ≠ .agg arr) (w : World) : (eqGuard op t x y c d).run P w = .ok () w := by
  unfold eqGuard
  cases op <;> simp <;> (cases c <;> first | rfl | exact absurd rfl h1 | exact absurd rfl (h2 _))

theorem fits_get : ∀ {ks : List TK} {as : List V}, fits ks as = true → as.length = ks.length ∧ ∀ (j : Nat) (k : TK) (a : V), ks[j]? = some k → as[j]? = some a → leafV k a = true
  | [], [], _ => ⟨rfl, by simp⟩
  | k :: ks, a :: as, h => by
    simp only [fits, Bool.and_eq_true] at h
    obtain ⟨h1, h2⟩ := fits_get h.2
    refine ⟨by simp [h1], fun j k' a' hk ha => ?_⟩
    cases j with
    | zero => simp at hk ha; subst hk; subst ha; exact h.1
    | succ j => exact h2 j k' a' (by simpa using hk) (by simpa using ha)
  | [], _ :: _, h => by simp [fits] at h
  | _ :: _, [], h => by simp [fits] at h

theorem fits_dat {ks : List TK} {as : List V} (h : fits ks as = true) : as.all cellDat = true := by
  obtain ⟨h1, h2⟩ := fits_get h
  rw [List.all_eq_true]
  intro a ha
  obtain ⟨j, hj⟩ := List.getElem?_of_mem ha
  have hlt := (List.getElem?_eq_some_iff.1 hj).1
  have := h2 j (ks[j]'(by omega)) a (List.getElem?_eq_getElem _) hj
  generalize ks[j]'(by omega) = k at this
  cases k <;> cases a <;> simp [leafV] at this <;> rfl

theorem agree_of {ks : List TK} {as : List V} {arr : Array Value} (h : fits ks as = true) (hs : arr.size = as.length) (hf : ∀ (j : Nat) (v : V) (c : Value), as[j]? = some v → arr[j]? = some c → FR own w v c) : Agree ks as arr.toList := by
  obtain ⟨h1, h2⟩ := fits_get h
  refine ⟨h1, by simp [hs, h1], fun j k a x hk ha hx => ?_⟩
  have hl := h2 j k a hk ha
  have hfr := hf j a x ha (by simpa using hx)
  cases k <;> cases a <;> simp [leafV] at hl
  · cases hfr; simp [leafB]
  · cases hfr; simp [leafB, hl]
  · cases hfr; simp [leafB]

/-- Structs and arrays, compared. -/
theorem run_aggs (h : SR own β w σ a.tmps) {t : TypeId} {i : TI} (r : Row P t i) {x y : Operand} {as bs : List V} (hx : opd σ.env x = .agg as) (hy : opd σ.env y = .agg bs) (hne : i.leaves ≠ [])
    (f1 : fits i.leaves as = true) (f2 : fits i.leaves bs = true) :
    (∀ op, (eqGuard op t x y (a.eval x) (a.eval y)).run P w = .ok () w) ∧ (binOp .eql t (a.eval x) (a.eval y)).run P w = .ok (.bool (cellsEqv as bs)) w ∧ (binOp .neq t (a.eval x) (a.eval y)).run P w = .ok (.bool (!cellsEqv as bs)) w := by
  obtain ⟨xs, e1, s1, g1⟩ := opd_agg h hx (fits_dat f1)
  obtain ⟨ys, e2, s2, g2⟩ := opd_agg h hy (fits_dat f2)
  have hl := r.hleaves
  unfold leavesB at hl
  cases hk : i.leaves with
  | nil => exact absurd hk hne
  | cons k ks =>
    simp only [hk, Bool.and_eq_true, decide_eq_true_eq, beq_iff_eq, Bool.not_eq_true'] at hl
    obtain ⟨⟨⟨l1, l2⟩, l3⟩, l4⟩ := hl
    rw [hk] at f1 f2
    have a1 := agree_of (own := own) (w := w) f1 s1 g1
    have a2 := agree_of (own := own) (w := w) f2 s2 g2
    have hcells : P.cellsOf t = i.size := by simp [Program.cellsOf, r.hinfo, r.hsize]
    have hform : ∀ (arr : Array Value) (cs : List V), arr.size = cs.length → fits (k :: ks) cs = true → Value.formed P t (.agg arr) = true := by
      intro arr cs hs hf
      have hkk := r.hkind
      have hu := r.hd
      have hlen := (fits_get hf).1
      cases hki : i.kind <;> rw [hki] at l3 hkk <;> simp [TK.isAgg] at l3
      all_goals
        cases hd : r.d <;> simp only [hd, kindB] at hkk <;> try (cases hkk; done)
        rw [hd] at hu
        simp only [Value.formed, hu, hcells, beq_iff_eq]
        omega
    have heq := eq_ok (P := P) 9992 8 t w (k :: ks) as bs (.agg xs) (.agg ys) l1 (by simpa [Value.cells] using a1) (by simpa [Value.cells] using a2) (hform xs as s1 f1) (hform ys bs s2 f2)
    refine ⟨fun op => ?_, ?_, ?_⟩
    · rw [e1, e2]; exact run_eqGuard_agg w op t x y xs ys l2
    · rw [e1, e2, run_eql_struct, heq]; rfl
    · rw [e1, e2, run_neq_struct, heq]; rfl

theorem ok_binOp {T : Types} {call : CallF} {cx : Cx} {fr : Nat} (h : Hyp P T o own β w σ a) {op : BinOp} {t : TypeId} {x y : Operand} {g : _} (ho : o.op = .binOp op t x y g) {e : Eff}
    (he : eff T call cx fr o σ = some e) : OpOk P o own β w σ a (apply σ o.dst e) := by
  have hsr := h.sr
  simp only [eff, ho] at he
  cases hT : T t <;> simp only [hT] at he
  · cases he
  rename_i i
  obtain ⟨r⟩ := Row.of h.T hT
  rw [Option.map_eq_some_iff] at he
  obtain ⟨v, hv, rfl⟩ := he
  have key : ∀ c, (eqGuard op t x y (a.eval x) (a.eval y)).run P w = .ok () w → (binOp op t (a.eval x) (a.eval y)).run P w = .ok c w → (execOp a.eval o).run P w = .ok (.value c) w := by
    intro c hg hb
    simp only [execOp, ho, Sem.run_bind, hg, Result.andThen_ok, hb, Sem.run_pure]
  have hkk := r.hkind
  have hdd := r.hd
  unfold vbinop at hv
  cases hag : i.kind.isAgg <;> simp only [hag] at hv
  case true =>
    unfold vaggEq at hv
    split at hv <;> try (cases hv; done)
    rename_i as bs hx hy
    split at hv <;> try (cases hv; done)
    all_goals
      split at hv <;> try (cases hv; done)
      rename_i hc
      injection hv with hv; subst hv
      obtain ⟨b1, b2, b3⟩ := run_aggs (P := P) hsr r hx hy hc.1 hc.2.1 hc.2.2
      first
        | exact OpOk.plain h (key _ (b1 _) b2) rfl (fun _ => .bool _) rfl
        | exact OpOk.plain h (key _ (b1 _) b3) rfl (fun _ => .bool _) rfl
  unfold vbin at hv
  split at hv
  · rename_i k m k' n hx hy
    have h1 := opd_int hsr hx
    have h2 := opd_int hsr hy
    rw [h1, h2] at key
    have hg : (eqGuard op t x y (.int k m) (.int k' n)).run P w = .ok () w := guard_none (by simp) (by simp) w
    split at hv
    · split at hv
      · cases hv
      · rename_i hn
        injection hv with hv; subst hv
        exact OpOk.plain h (key _ hg (by simp [binOp, Op.shift, hn])) rfl (fun _ => .int _ _) rfl
    · split at hv
      · cases hv
      · rename_i hn
        injection hv with hv; subst hv
        exact OpOk.plain h (key _ hg (by simp [binOp, Op.shift, hn])) rfl (fun _ => .int _ _) rfl
    · split at hv
      · rename_i hkk'; subst hkk'
        cases op <;> simp only at hv <;> try (cases hv; done)
        case quo =>
          split at hv
          · cases hv
          · rename_i hn
            injection hv with hv; subst hv
            exact OpOk.plain h (key _ hg (by simp [binOp, Op.intDiv, hn])) rfl (fun _ => .int _ _) rfl
        case rem =>
          split at hv
          · cases hv
          · rename_i hn
            injection hv with hv; subst hv
            exact OpOk.plain h (key _ hg (by simp [binOp, Op.intDiv, hn])) rfl (fun _ => .int _ _) rfl
        all_goals
          injection hv with hv; subst hv
          refine OpOk.plain h (key _ hg (by simp only [binOp, Op.intArith, Op.intBits, Op.intCmp, ne_eq, not_true_eq_false, if_false, Sem.run_pure]; rfl)) rfl (fun _ => ?_) rfl
          first | exact .int _ _ | exact .bool _
      · cases hv
  · rename_i p q hx hy
    have h1 := opd_bool hsr hx
    have h2 := opd_bool hsr hy
    rw [h1, h2] at key
    have hg : (eqGuard op t x y (.bool p) (.bool q)).run P w = .ok () w := guard_none (by simp) (by simp) w
    split at hv <;> rename_i hki <;> try (cases hv; done)
    all_goals
      injection hv with hv; subst hv
      rw [hki] at hkk
      have hd : r.d = .bool := by cases hd : r.d <;> simp [hd, kindB] at hkk ⊢
      rw [hd] at hdd
      exact OpOk.plain h (key _ hg (by simp [binOp, Op.equal, Op.maxDepth, run_equalIn_bool w 9999 t p q hdd])) rfl (fun _ => .bool _) rfl
  · rename_i p q hx hy
    have h1 := opd_str hsr hx
    have h2 := opd_str hsr hy
    rw [h1, h2] at key
    have hg : (eqGuard op t x y (.string p) (.string q)).run P w = .ok () w := guard_none (by simp) (by simp) w
    split at hv <;> try (cases hv; done)
    all_goals try
      injection hv with hv; subst hv
      exact OpOk.plain h (key _ hg (by simp [binOp, Op.stringOp])) rfl (fun _ => .bool _) rfl
    split at hv
    · rename_i hlt
      injection hv with hv; subst hv
      have : ¬ ((p.size + q.size : Nat) : Int) > IntKind.i64.max := by omega
      exact OpOk.plain h (key _ hg (by simp only [binOp, Op.stringOp, this, if_false, Sem.run_pure])) rfl (fun _ => .str _) rfl
    · cases hv
  · rename_i hx hy
    have h1 := opd_nilp hsr hx
    have h2 := opd_nilp hsr hy
    rw [h1, h2] at key
    have hg : (eqGuard op t x y (.pointer none) (.pointer none)).run P w = .ok () w := guard_none (by simp) (by simp) w
    split at hv <;> rename_i hki <;> try (cases hv; done)
    all_goals
      injection hv with hv; subst hv
      rw [hki] at hkk
      obtain ⟨el, hd⟩ : ∃ el, r.d = .pointer el := by cases hd : r.d <;> simp [hd, kindB] at hkk; exact ⟨_, rfl⟩
      rw [hd] at hdd
      first | exact OpOk.plain h (key _ hg (run_ptrs hdd _ _ (by simp) w).1) rfl (fun _ => .bool _) rfl | exact OpOk.plain h (key _ hg (run_ptrs hdd _ _ (by simp) w).2) rfl (fun _ => .bool _) rfl
  · rename_i id off hx hy
    obtain ⟨h1, _⟩ := opd_ptr hsr hx
    have h2 := opd_nilp hsr hy
    rw [h1, h2] at key
    have hg : (eqGuard op t x y (.pointer (some ⟨β id, off, none⟩)) (.pointer none)).run P w = .ok () w := guard_none (by simp) (by simp) w
    split at hv <;> rename_i hki <;> try (cases hv; done)
    all_goals
      injection hv with hv; subst hv
      rw [hki] at hkk
      obtain ⟨el, hd⟩ : ∃ el, r.d = .pointer el := by cases hd : r.d <;> simp [hd, kindB] at hkk; exact ⟨_, rfl⟩
      rw [hd] at hdd
      first | exact OpOk.plain h (key _ hg (run_ptrs hdd _ _ (by simp) w).1) rfl (fun _ => .bool _) rfl | exact OpOk.plain h (key _ hg (run_ptrs hdd _ _ (by simp) w).2) rfl (fun _ => .bool _) rfl
  · rename_i id off hx hy
    have h1 := opd_nilp hsr hx
    obtain ⟨h2, _⟩ := opd_ptr hsr hy
    rw [h1, h2] at key
    have hg : (eqGuard op t x y (.pointer none) (.pointer (some ⟨β id, off, none⟩))).run P w = .ok () w := guard_none (by simp) (by simp) w
    split at hv <;> rename_i hki <;> try (cases hv; done)
    all_goals
      injection hv with hv; subst hv
      rw [hki] at hkk
      obtain ⟨el, hd⟩ : ∃ el, r.d = .pointer el := by cases hd : r.d <;> simp [hd, kindB] at hkk; exact ⟨_, rfl⟩
      rw [hd] at hdd
      first | exact OpOk.plain h (key _ hg (run_ptrs hdd _ _ (by simp) w).1) rfl (fun _ => .bool _) rfl | exact OpOk.plain h (key _ hg (run_ptrs hdd _ _ (by simp) w).2) rfl (fun _ => .bool _) rfl
  · rename_i hx hy
    have h1 := opd_nilm hsr hx
    have h2 := opd_nilm hsr hy
    rw [h1, h2] at key
    have hg : (eqGuard op t x y (.map none) (.map none)).run P w = .ok () w := guard_none (by simp) (by simp) w
    split at hv <;> rename_i hki <;> try (cases hv; done)
    all_goals
      injection hv with hv; subst hv
      have hd := kind_map r hki
      first | exact OpOk.plain h (key _ hg (run_maps hd _ _ (by simp) w).1) rfl (fun _ => .bool _) rfl | exact OpOk.plain h (key _ hg (run_maps hd _ _ (by simp) w).2) rfl (fun _ => .bool _) rfl
  · rename_i id hx hy
    obtain ⟨h1, _⟩ := opd_ref hsr hx
    have h2 := opd_nilm hsr hy
    simp only [refVal] at h1
    rw [h1, h2] at key
    have hg : (eqGuard op t x y (.map (some (β id))) (.map none)).run P w = .ok () w := guard_none (by simp) (by simp) w
    split at hv <;> rename_i hki <;> try (cases hv; done)
    all_goals
      injection hv with hv; subst hv
      have hd := kind_map r hki
      first | exact OpOk.plain h (key _ hg (run_maps hd _ _ (by simp) w).1) rfl (fun _ => .bool _) rfl | exact OpOk.plain h (key _ hg (run_maps hd _ _ (by simp) w).2) rfl (fun _ => .bool _) rfl
  · rename_i id hx hy
    have h1 := opd_nilm hsr hx
    obtain ⟨h2, _⟩ := opd_ref hsr hy
    simp only [refVal] at h2
    rw [h1, h2] at key
    have hg : (eqGuard op t x y (.map none) (.map (some (β id)))).run P w = .ok () w := guard_none (by simp) (by simp) w
    split at hv <;> rename_i hki <;> try (cases hv; done)
    all_goals
      injection hv with hv; subst hv
      have hd := kind_map r hki
      first | exact OpOk.plain h (key _ hg (run_maps hd _ _ (by simp) w).1) rfl (fun _ => .bool _) rfl | exact OpOk.plain h (key _ hg (run_maps hd _ _ (by simp) w).2) rfl (fun _ => .bool _) rfl
  · cases hv
  · have nilOf : ∀ z, isConst z = true → ∀ n xs, content σ (opd σ.env z) = some (n, xs) → n = true ∧ a.eval z = .slice none 0 0 := by
      intro z hz n xs hc
      cases z <;> simp [isConst] at hz
      rename_i c
      obtain ⟨b, cap, q1, q2⟩ := content_shape hsr hc
      simp only [opd] at hc
      unfold cellOf at hc
      split at hc <;> simp only [content] at hc <;> try (cases hc; done)
      injection hc with hc; injection hc with h1 h2; subst h1; subst h2
      exact ⟨rfl, rfl⟩
    split at hv <;> try (cases hv; done)
    all_goals
      rename_i el hki hone
      split at hv <;> try (cases hv; done)
      rename_i n xs m ys hcx hcy
      injection hv with hv; subst hv
      have hu := kind_slice r hki
      obtain ⟨b1, c1, e1, g1⟩ := content_shape hsr hcx
      obtain ⟨b2, c2, e2, g2⟩ := content_shape hsr hcy
      have hg : ∀ op, (eqGuard op t x y (a.eval x) (a.eval y)).run P w = .ok () w := fun op => guard_none (by rw [e1]; simp) (by rw [e1]; simp) w
      have hor : b1 = none ∨ b2 = none := by
        rcases Bool.or_eq_true_iff.1 hone with hz | hz
        · exact .inl (g1.1 (nilOf x hz _ _ hcx).1)
        · exact .inr (g2.1 (nilOf y hz _ _ hcy).1)
      have hval : (b1.isNone && b2.isNone) = (n == m) := by
        have i1 : b1.isNone = n := by cases b1 <;> cases n <;> simp at g1 ⊢
        have i2 : b2.isNone = m := by cases b2 <;> cases m <;> simp at g2 ⊢
        rw [i1, i2]
        rcases Bool.or_eq_true_iff.1 hone with hz | hz
        · rw [(nilOf x hz _ _ hcx).1]; cases m <;> rfl
        · rw [(nilOf y hz _ _ hcy).1]; cases n <;> rfl
      have hb := run_slices (P := P) hu b1 b2 xs.length c1 ys.length c2 hor w
      rw [← e1, ← e2, hval] at hb
      first
        | exact OpOk.plain h (key _ (hg _) hb.1) rfl (fun _ => .bool _) rfl
        | exact OpOk.plain h (key _ (hg _) hb.2) rfl (fun _ => .bool _) rfl

end
end Go.Vm
end

section
/- V15: components of a call's results; what is handed to a call; cells' ways forgotten. -/
namespace Go.Vm
open Go

section
variable {P : Program} {o : Oper} {own : Own} {β : Nat → Nat} {w : World} {σ : St} {a : Act}

theorem CR.notWay {l : Loc} {v : V} {c : Value} (h : CR own β w l v c) : isWay v = false ∧ ∀ vs, v ≠ .tup vs := by
  cases v with
  | lent p => simp only [CR] at h; cases h
  | xptr p i off => simp only [CR] at h; cases h
  | tup vs => simp only [CR] at h; cases h
  | _ => exact ⟨rfl, fun _ => by simp⟩
theorem VR.notWay {L : Nat → Loc} {v : V} {c : Value} (h : VR own β w L v c) : isWay v = false ∧ ∀ vs, v ≠ .tup vs := by
  cases v with
  | lent p => exact CR.notWay (β := β) (l := L 0) h
  | xptr p i off => exact CR.notWay (β := β) (l := L 0) h
  | tup vs => exact CR.notWay (β := β) (l := L 0) h
  | _ => exact ⟨rfl, fun _ => by simp⟩
theorem TR.notWay {L : Nat → Nat → Loc} {v : V} {c : Value} (h : TR own β w L v c) : isWay v = false := by
  cases v with
  | lent p => simp only [TR, VR, CR] at h; cases h
  | xptr p i off => simp only [TR, VR, CR] at h; cases h
  | _ => rfl

def compOut (t j : Nat) (l : Loc) : Loc := match l with | .slot u i k => if u = t ∧ i = j then .res 0 k else l | l => l
theorem compOut_reloc (t j : Nat) : Reloc (compOut t j) := by
  refine ⟨rfl, rfl, fun _ => rfl, fun l id h => ?_, fun l h => ?_⟩
  · cases l <;> simp only [compOut] at h <;> first | rfl | exact h | (split at h <;> cases h)
  · cases l <;> simp only [compOut] at h <;> first | rfl | exact h | (split at h <;> cases h)

theorem VR.to_TR {L : Nat → Loc} {L' : Nat → Nat → Loc} {v : V} {c : Value} (h : VR own β w L v c) (he : L' 0 = L) : TR own β w L' v c := by
  have := h.notWay.2
  cases v <;> first
    | exact absurd rfl (this _)
    | (simp only [TR]; rw [he]; exact h)

theorem ok_extract {T : Types} {call : CallF} {cx : Cx} {fr : Nat} (h : Hyp P T o own β w σ a) {x : Operand} {j : Nat} (ho : o.op = .extract x j) {e : Eff}
    (he : eff T call cx fr o σ = some e) : OpOk P o own β w σ a (apply σ o.dst e) := by
  simp only [eff, ho] at he
  split at he
  · rename_i vs t hx ht
    obtain rfl := tmpOf_some ht
    cases hj : vs[j]? <;> simp only [hj] at he
    · cases he
    rename_i v
    have hE := opd_TR h.sr (.tmp t) (by rw [hx]; rfl)
    rw [hx] at hE
    obtain ⟨arr, h1, h2, h3⟩ := hE
    have hjl : j < vs.length := (List.getElem?_eq_some_iff.1 hj).1
    have hja : arr[j]? = some arr[j] := Array.getElem?_eq_getElem (by omega)
    have hv := h3 j v _ hj hja
    have hrun := run_extract (P := P) ho h1 hja w
    split at he
    · rename_i hd
      injection he with he; subst he
      exact OpOk.value hrun (Nxt.refl h.sr) h.dst (isWay_of_dat hd) (TR_of_VR hv (noEx_of_dat hd))
    · injection he with he; subst he
      have hr := compOut_reloc t j
      have hs : SR (fun b => compOut t j (own b)) β w (setPlace σ (.slot t) (.tup (vs.set j .undef))) a.tmps := by
        refine h.sr.slot hr (fun u i k hu => by simp [compOut, hu]) (fun _ _ => rfl) rfl ?_
        rw [← eval_tmp, h1]
        refine ⟨arr, rfl, by simpa using h2, fun i u c hu hc => ?_⟩
        rw [List.getElem?_set] at hu
        split at hu
        · injection hu with hu; subst hu; simp only [VR]
        · rename_i hij
          have := (h3 i u c hu hc).reloc hr
          simpa [compOut, opL, Ne.symm hij] using this
      have hv' : VR (fun b => compOut t j (own b)) β w (fun k => .res 0 k) v arr[j] := by
        have := hv.reloc hr
        simpa [compOut, opL] using this
      exact OpOk.value hrun ⟨hs, Stay.reloc hr, BX.refl _ _, rfl, rfl⟩ h.dst hv'.notWay.1 (hv'.to_TR (L' := fun i k => .res i k) rfl)
  · cases he

/-! ### Places that are frozen together -/
theorem look_setPlace_ne {p q : Place} {v x : V} (hne : q ≠ p) (hx : ∀ r, x.refsTo r = false) (hl : look σ q = x) : look (setPlace σ p v) q = x := by
  cases p with
  | slot t =>
    cases q with
    | slot u =>
      have hu : t ≠ u := fun h => hne (by rw [h])
      simp only [look, setPlace] at hl ⊢
      rw [get_cons_ne _ _ hu, get_kill, hl, if_neg (by simp [hx])]
    | cell id off => exact hl
  | cell id off =>
    cases q with
    | slot u =>
      simp only [look, setPlace] at hl ⊢
      rw [get_kill, hl, if_neg (by simp [hx])]
    | cell id' off' =>
      simp only [look, setPlace] at hl ⊢
      cases hc : bcells σ.heap id with
      | none => exact hl
      | some cs =>
        simp only
        rw [bcells_set (bcells_lt hc)]
        by_cases hi : id' = id
        · subst hi
          have ho : off ≠ off' := fun h => hne (by rw [h])
          rw [hc] at hl
          simp only [if_true]
          rw [← hl]
          simp [List.getD_eq_getElem?_getD, List.getElem?_set_ne ho]
        · rw [if_neg hi]; exact hl

theorem look_setPlace_eq {p : Place} {v : V} {sz : Nat} {n : Bool} {xs : List V} (hl : look σ p = .ex sz n xs) : look (setPlace σ p v) p = v := by
  cases p with
  | slot t => simp only [look, setPlace, get_cons_same]
  | cell id off =>
    obtain ⟨cs, hc, hcs⟩ := Place.cases_look hl
    simp only [look, setPlace, hc]
    rw [bcells_set (bcells_lt hc), if_pos rfl]
    have := (List.getElem?_eq_some_iff.1 hcs).1
    simp [List.getD_eq_getElem?_getD, this]

theorem conc_ex {p : Place} (p' : Place) (v : V) : conc β a.tmps w p = conc β a.tmps w p := rfl

def Frozen (own : Own) (β : Nat → Nat) (w : World) (σ : St) (tmps : Array Value) (p : Place) (n : Bool) (xs : List V) : Prop :=
  (∃ sz, look σ p = .ex sz n xs) ∨ (look σ p = .sl n xs ∧ ∀ c, conc β tmps w p = some c → FR own w (.sl n xs) c)

/-- A place that is frozen already. -/
theorem SR.same (h : SR own β w σ a.tmps) {p : Place} {n : Bool} {xs : List V} (hl : look σ p = .sl n xs) : SR own β w (setPlace σ p (.sl n xs)) a.tmps ∧ BX β β σ.heap (setPlace σ p (.sl n xs)).heap ∧ look (setPlace σ p (.sl n xs)) p = .sl n xs := by
  cases p with
  | slot t =>
    refine ⟨h.slot reloc_id (fun _ _ _ _ => rfl) (fun _ _ => rfl) rfl ?_, BX.refl _ _, by simp only [look, setPlace, get_cons_same]⟩
    have := h.env t
    simp only [look] at hl
    rw [hl] at this
    exact this
  | cell id off =>
    simp only [look] at hl
    cases hc : bcells σ.heap id with
    | none => simp [hc] at hl
    | some cs =>
      simp only [hc] at hl
      have hlt : off < cs.length := by
        rcases Nat.lt_or_ge off cs.length with h' | h'
        · exact h'
        · simp [List.getD_eq_getElem?_getD, List.getElem?_eq_none h'] at hl
      have hcs : cs[off]? = some (.sl n xs) := by
        rw [List.getD_eq_getElem?_getD, List.getElem?_eq_getElem hlt] at hl
        rw [List.getElem?_eq_getElem hlt]; simpa using hl
      refine ⟨h.cell reloc_id hc (by
        match cs, hcs with
        | [], _ => rfl
        | [v], hcs =>
          cases off with
          | zero => simp at hcs; subst hcs; rfl
          | succ j => simp at hcs
        | _ :: _ :: _, _ => rfl) (fun _ _ _ => rfl) (fun _ _ _ => rfl) rfl (fun v c hv _ hcr => ?_), ?_, ?_⟩
      · rw [hcs] at hv; injection hv with hv; subst hv; exact hcr
      · simp only [setPlace, hc]
        refine ⟨by simp, fun i ds hi => ⟨rfl, ?_⟩⟩
        rw [bcells_set (bcells_lt hc)]
        split
        · exact ⟨_, rfl⟩
        · exact ⟨ds, hi⟩
      · simp only [look, setPlace, hc]
        rw [bcells_set (bcells_lt hc), if_pos rfl]
        simp [List.getD_eq_getElem?_getD, hlt]

theorem freezes : ∀ (ps : List (Place × V)) (own : Own) (σ : St), SR own β w σ a.tmps → (∀ x ∈ ps, ∃ n xs, x.2 = .sl n xs ∧ Frozen own β w σ a.tmps x.1 n xs) →
    ∃ o1, Nxt own β w σ a o1 β w (setPlaces σ ps) a ∧ (∀ x ∈ ps, ∀ c, conc β a.tmps w x.1 = some c → FR o1 w x.2 c) ∧ ∃ ρ, Reloc ρ ∧ o1 = fun b => ρ (own b)
  | [], own, σ, h, _ => ⟨own, Nxt.refl h, by simp, id, reloc_id, rfl⟩
  | (p, v) :: ps, own, σ, h, hp => by
    obtain ⟨n, xs, hv, hf⟩ := hp (p, v) (by simp)
    simp only at hv hf
    subst hv
    have step : ∃ o1, Nxt own β w σ a o1 β w (setPlace σ p (.sl n xs)) a ∧ (∀ c, conc β a.tmps w p = some c → FR o1 w (.sl n xs) c) ∧ (∃ ρ, Reloc ρ ∧ o1 = fun b => ρ (own b)) ∧
        look (setPlace σ p (.sl n xs)) p = .sl n xs := by
      rcases hf with ⟨sz, hl⟩ | ⟨hl, hc⟩
      · obtain ⟨o1, c, h1, h2, h3, h4⟩ := Nxt.freeze h hl
        exact ⟨o1, h1, fun c' hc' => by rw [h2] at hc'; injection hc' with hc'; subst hc'; exact h3, ⟨_, locOf_reloc p (by simp) (by simp), h4⟩, look_setPlace_eq hl⟩
      · obtain ⟨h1, h2, h3⟩ := h.same hl
        exact ⟨own, ⟨h1, Stay.refl _ _, h2, rfl, rfl⟩, hc, ⟨id, reloc_id, rfl⟩, h3⟩
    obtain ⟨o1, h1, h2, ⟨ρ, hr, rfl⟩, h4⟩ := step
    obtain ⟨o2, g1, g2, ρ', hr', rfl⟩ := freezes ps _ _ h1.sr (fun x hx => by
      obtain ⟨m, ys, e1, e2⟩ := hp x (by simp [hx])
      refine ⟨m, ys, e1, ?_⟩
      by_cases hq : x.1 = p
      · right
        have hk : look (setPlace σ p (.sl n xs)) x.1 = .sl n xs := by rw [hq]; exact h4
        have hsame : V.sl n xs = V.sl m ys := by
          rcases e2 with ⟨sz, e2⟩ | ⟨e2, _⟩ <;> rcases hf with ⟨sz', hf⟩ | ⟨hf, _⟩ <;> rw [hq, hf] at e2 <;> first | (injection e2 with _ k1 k2; rw [k1, k2]) | (injection e2 with k1 k2; rw [k1, k2]) | cases e2
        rw [← hsame, hk]
        exact ⟨rfl, fun c hc => h2 c (by rw [← hq]; exact hc)⟩
      · rcases e2 with ⟨sz, e2⟩ | ⟨e2, e3⟩
        · exact .inl ⟨sz, look_setPlace_ne hq (fun _ => rfl) e2⟩
        · exact .inr ⟨look_setPlace_ne hq (fun _ => rfl) e2, fun c hc => (e3 c hc).reloc hr⟩)
    refine ⟨_, h1.trans g1, fun x hx c hc => ?_, fun l => ρ' (ρ l), ⟨by rw [hr.im, hr'.im], by rw [hr.other, hr'.other], fun id => by rw [hr.blk, hr'.blk], fun l id hl => hr.noblk _ _ (hr'.noblk _ _ hl), fun l hl => hr.noother _ (hr'.noother _ hl)⟩, rfl⟩
    rcases List.mem_cons.1 hx with rfl | hx
    · exact (h2 c hc).reloc hr'
    · exact g2 x hx c hc

/-- What is handed to a call. -/
def AR (own : Own) (β : Nat → Nat) (w : World) (vs : List V) (cs : List Value) : Prop :=
  cs.length = vs.length ∧ ∀ (j : Nat) (v : V) (c : Value), vs[j]? = some v → cs[j]? = some c → VR own β w (fun _ => .other) v c ∧ noEx v = true

theorem AR.append {vs vs' : List V} {cs cs' : List Value} (h : AR own β w vs cs) (h' : AR own β w vs' cs') : AR own β w (vs ++ vs') (cs ++ cs') := by
  refine ⟨by simp [h.1, h'.1], fun j v c hv hc => ?_⟩
  rw [List.getElem?_append] at hv hc
  rw [h.1] at hc
  split at hv
  · rename_i hlt; rw [if_pos hlt] at hc; exact h.2 _ _ _ hv hc
  · rename_i hlt; rw [if_neg hlt] at hc; exact h'.2 _ _ _ hv hc

theorem view_ok (h : SR own β w σ a.tmps) {x : Operand} {v : V} {ps : List (Place × V)} (hv : view σ x = some (v, ps)) :
    (ps = [] ∧ VR own β w (fun _ => .other) v (a.eval x) ∧ noEx v = true) ∨ (∃ p sz n xs, ps = [(p, .sl n xs)] ∧ v = .sl n xs ∧ look σ p = .ex sz n xs ∧ conc β a.tmps w p = some (a.eval x)) := by
  unfold view at hv
  cases hx : opd σ.env x <;> simp only [hx] at hv
  case undef => cases hv
  case xptr => cases hv
  case tup => cases hv
  case ex sz n xs =>
    cases ht : tmpOf x <;> simp only [ht] at hv
    · cases hv
    rename_i t
    obtain rfl := tmpOf_some ht
    injection hv with hv; injection hv with h1 h2; subst h1; subst h2
    exact .inr ⟨.slot t, sz, n, xs, rfl, rfl, hx, rfl⟩
  case lent p =>
    obtain ⟨sz, n, xs, q1, q2⟩ := opd_lent h hx
    simp only [q1] at hv
    injection hv with hv; injection hv with h1 h2; subst h1; subst h2
    exact .inr ⟨p, sz, n, xs, rfl, rfl, q1, q2⟩
  case agg cs =>
    split at hv
    · rename_i hc
      injection hv with hv; injection hv with h1 h2; subst h1; subst h2
      left
      have := opd_TR h x (by rw [hx]; rfl)
      rw [hx] at this
      exact ⟨rfl, VR.place (L := opL x 0) this (noEx_dat hc), noEx_dat hc⟩
    · cases hv
  all_goals
    injection hv with hv; injection hv with h1 h2; subst h1; subst h2
    left
    have := opd_TR h x (by rw [hx]; rfl)
    rw [hx] at this
    exact ⟨rfl, VR.place (L := opL x 0) this rfl, rfl⟩

theorem views_ps (h : SR own β w σ a.tmps) : ∀ (l : List Operand) (vs : List V) (ps : List (Place × V)), views σ l = some (vs, ps) → ∀ x ∈ ps, ∃ n xs, x.2 = .sl n xs ∧ Frozen own β w σ a.tmps x.1 n xs
  | [], vs, ps, hv => by simp [views] at hv; rw [hv.2]; simp
  | y :: l, vs, ps, hv => by
    simp only [views] at hv
    cases h1 : view σ y <;> cases h2 : views σ l <;> simp only [h1, h2] at hv <;> try (cases hv; done)
    rename_i u us
    obtain ⟨u, q⟩ := u
    obtain ⟨us, qs⟩ := us
    injection hv with hv; injection hv with e1 e2; subst e1; subst e2
    intro x hx
    rcases List.mem_append.1 hx with hx | hx
    · rcases view_ok h h1 with ⟨rfl, _⟩ | ⟨p, sz, n, xs, rfl, _, hl, _⟩
      · cases hx
      · simp at hx; subst hx; exact ⟨n, xs, rfl, .inl ⟨sz, hl⟩⟩
    · exact views_ps h l us qs h2 x hx

theorem views_args (h : SR own β w σ a.tmps) {o1 : Own} {ρ : Loc → Loc} (hr : Reloc ρ) (ho : o1 = fun b => ρ (own b)) (hn : ρ .other = .other) :
    ∀ (l : List Operand) (vs : List V) (ps : List (Place × V)), views σ l = some (vs, ps) → (∀ x ∈ ps, ∀ c, conc β a.tmps w x.1 = some c → FR o1 w x.2 c) → AR o1 β w vs (l.map a.eval)
  | [], vs, ps, hv, _ => by simp [views] at hv; rw [hv.1]; exact ⟨rfl, by simp⟩
  | y :: l, vs, ps, hv, hf => by
    simp only [views] at hv
    cases h1 : view σ y <;> cases h2 : views σ l <;> simp only [h1, h2] at hv <;> try (cases hv; done)
    rename_i u us
    obtain ⟨u, q⟩ := u
    obtain ⟨us, qs⟩ := us
    injection hv with hv; injection hv with e1 e2; subst e1; subst e2
    have ih := views_args h hr ho hn l us qs h2 (fun x hx => hf x (List.mem_append.2 (.inr hx)))
    refine ⟨by simp [ih.1], fun j v c hj hc => ?_⟩
    cases j with
    | zero =>
      simp at hj hc
      subst hj; subst hc
      rcases view_ok h h1 with ⟨_, hv, hne⟩ | ⟨p, sz, n, xs, rfl, rfl, hl, hc⟩
      · subst ho
        have := hv.reloc hr
        exact ⟨this.place hne, hne⟩
      · exact ⟨hf (p, .sl n xs) (by simp) _ hc, rfl⟩
    | succ j => exact ih.2 j v c (by simpa using hj) (by simpa using hc)

end
end Go.Vm
end

section
/- V16: calls. -/
namespace Go.Vm
open Go

/-- What a call leaves, as its caller sees it. -/
def Ret (own : Own) (β : Nat → Nat) (w : World) (H : Heap) (r : V) (H' : Heap) (e : Ending) (w' : World) : Prop :=
  ∃ c own' β', e = .returned c ∧ TR own' β' w' (fun i j => .res i j) r c ∧ HR own' β' w' H' ∧ Stay own w own' w' ∧ BX β β' H H' ∧ ∀ b i j k, own' b ≠ .slot i j k

/-- V's calls are right. -/
def Sound (P : Program) (call : CallF) : Prop :=
  (∀ f vs H r H', f < yB → call f vs H = some (r, H') → (∃ fn, P.funcs[f]? = some fn ∧ fn.name ≠ "runtime.NumGoroutine" ∧ fn.body.isSome = true) ∧
    ∀ (own : Own) (β : Nat → Nat) (w : World) (cs : List Value), HR own β w H → AR own β w vs cs → (∀ b i j k, own b ≠ .slot i j k) → Calls P f cs.toArray w (Ret own β w H r H')) ∧
  ∀ id vs H r H', call (yB + id) vs H = some (r, H') → ∀ (own : Own) (β : Nat → Nat) (w : World) (cs : List Value), HR own β w H → AR own β w vs cs → (∀ b i j k, own b ≠ .slot i j k) →
    ∃ rec : Loop, w.heap[β id]? = some (.loop rec) ∧ cs.length = rec.params.size ∧
      RoundIn (Fw none) 0 P (β id) rec.fn ((rec.params.zip cs.toArray).foldl (fun tmps (t, a) => tmps.setIfInBounds t a) rec.tmps) rec.assign rec.body w (Ret own β w H r H')

section
variable {P : Program} {o : Oper} {own : Own} {β : Nat → Nat} {w : World} {σ : St} {a : Act}

theorem OpOk.call {σ1 : St} {v : V} {f : FuncId} {args : Array Value} (hrun : (execOp a.eval o).run P w = .ok (.enter f args) w)
    (hc : Calls P f args w (fun e w' => ∃ c o1 β1, e = .returned c ∧ Nxt own β w σ a o1 β1 w' σ1 a ∧ TR o1 β1 w' (fun i j => .res i j) v c)) (hd : ∀ d, o.dst = some d → d < a.tmps.size) :
    OpOk P o own β w σ a (put σ1 o.dst v) := by
  intro r K Q hK
  refine ⟨fun _ _ => trivial, ?_⟩
  rw [semAt_run hrun (by simp), Oper.uponIn_enter]
  refine ⟨fw_depth _ _, callsIn_fw.2 (hc.mono ?_)⟩
  rintro e w' ⟨c, o1, β1, rfl, h, hn⟩
  obtain ⟨o3, h3⟩ := h.put hd hn.notWay hn
  exact hK _ _ _ _ h3
theorem OpOk.round {σ1 : St} {v : V} {l : Nat} {f : FuncId} {tmps : Array Value} {asg body : Code} (hrun : (execOp a.eval o).run P w = .ok (.round l f tmps asg body) w)
    (hc : RoundIn (Fw none) 0 P l f tmps asg body w (fun e w' => ∃ c o1 β1, e = .returned c ∧ Nxt own β w σ a o1 β1 w' σ1 a ∧ TR o1 β1 w' (fun i j => .res i j) v c)) (hd : ∀ d, o.dst = some d → d < a.tmps.size) :
    OpOk P o own β w σ a (put σ1 o.dst v) := by
  intro r K Q hK
  refine ⟨fun _ _ => trivial, ?_⟩
  rw [semAt_run hrun (by simp), Oper.uponIn_round]
  refine ⟨fw_depth _ _, ?_⟩
  have hc' : RoundIn (Fw r) (0 - 1) P l f tmps asg body w (fun e w' => ∃ c o1 β1, e = .returned c ∧ Nxt own β w σ a o1 β1 w' σ1 a ∧ TR o1 β1 w' (fun i j => .res i j) v c) := hc
  refine hc'.mono ?_
  rintro e w' ⟨c, o1, β1, rfl, h, hn⟩
  obtain ⟨o3, h3⟩ := h.put hd hn.notWay hn
  exact hK _ _ _ _ h3

/-- What may be forgotten: ways to cells. -/
theorem SR.killCells (h : SR own β w σ a.tmps) : SR own β w { env := σ.env.map (fun x => (x.1, killCell x.2)), heap := σ.heap } a.tmps := by
  refine ⟨fun u => ?_, h.heap⟩
  rw [get_map killCell rfl]
  have hu := h.env u
  cases hv : get σ.env u with
  | lent p =>
    cases p with
    | cell i j => exact ER.undef _ _ _ _ _ _ _
    | slot t =>
      rw [hv] at hu
      obtain ⟨sz, n, xs, h1, h2⟩ := hu
      refine ⟨sz, n, xs, ?_, h2⟩
      simp only [look] at h1 ⊢
      rw [get_map killCell rfl, h1]; rfl
  | xptr p i off =>
    cases p with
    | cell i j => exact ER.undef _ _ _ _ _ _ _
    | slot t =>
      rw [hv] at hu
      obtain ⟨sz, n, xs, b, len, cap, h1, h2⟩ := hu
      refine ⟨sz, n, xs, b, len, cap, ?_, h2⟩
      simp only [look] at h1 ⊢
      rw [get_map killCell rfl, h1]; rfl
  | _ => rw [hv] at hu; exact hu

theorem killCell_ref {v : V} {i j : Nat} : (killCell v).refsTo (.cell i j) = false := by
  cases v with
  | lent p => cases p <;> simp [killCell, V.refsTo]
  | xptr p k off => cases p <;> simp [killCell, V.refsTo]
  | _ => rfl

/-- Our slots, as the one that is called sees them. -/
def lower (l : Loc) : Loc := match l with | .slot _ _ _ => .other | .res _ _ => .other | l => l
def onlyIm (l : Loc) : Loc := match l with | .im => .im | _ => .other

theorem HR.lower (h : HR own β w σ.heap) : HR (fun b => lower (own b)) β w σ.heap := by
  refine ⟨fun id cs hi => ?_, fun b id hb => ?_, fun b hb => h.lt b fun hn => hb (by simp only [hn, Vm.lower])⟩
  · exact (h.blk id cs hi).mono (fun b hb => ⟨by simp only [hb, Vm.lower], rfl⟩) (fun id hb => ⟨by simp only [hb, Vm.lower], rfl⟩) (fun j b hb => ⟨by simp only [hb, Vm.lower], rfl⟩) rfl
  · refine h.inv b id ?_
    simp only [Vm.lower] at hb
    split at hb <;> first | cases hb | exact hb
theorem AR.lower {vs : List V} {cs : List Value} (h : AR own β w vs cs) : AR (fun b => lower (own b)) β w vs cs :=
  ⟨h.1, fun j v c hv hc => ⟨VR.mono (L := fun _ => .other) (h.2 j v c hv hc).1 (fun b hb => ⟨by simp only [hb, Vm.lower], rfl⟩) (fun id hb => ⟨by simp only [hb, Vm.lower], rfl⟩) (fun j b hb => ⟨by simp only [hb, Vm.lower], rfl⟩), (h.2 j v c hv hc).2⟩⟩
theorem HR.onlyIm (h : HR own β w σ.heap) : HR (fun b => onlyIm (own b)) β w [] := by
  refine ⟨fun id cs hi => by simp [bcells] at hi, fun b id hb => ?_, fun b hb => h.lt b fun hn => hb (by simp only [hn, Vm.onlyIm])⟩
  simp only [Vm.onlyIm] at hb
  split at hb <;> cases hb

theorem FR.onlyIm {v : V} {c : Value} (h : FR own w v c) : FR (fun b => onlyIm (own b)) w v c := h.mono fun b hb => ⟨by simp only [hb, Vm.onlyIm], rfl⟩
theorem PR.onlyIm {v : V} {c : Value} (h : PR own β w v c) (hd : cellDat v = true) : PR (fun b => onlyIm (own b)) β w v c := by
  cases v <;> first
    | (simp [cellDat] at hd; done)
    | exact FR.onlyIm h
theorem AR.onlyIm {vs : List V} {cs : List Value} (h : AR own β w vs cs) (hd : vs.all noPtr = true) : AR (fun b => onlyIm (own b)) β w vs cs := by
  refine ⟨h.1, fun j v c hv hc => ⟨?_, (h.2 j v c hv hc).2⟩⟩
  have h1 := (h.2 j v c hv hc).1
  have h2 : noPtr v = true := List.all_eq_true.1 hd v (List.mem_of_getElem? hv)
  cases v with
  | agg cs =>
    obtain ⟨arr, e1, e2, e3⟩ := h1
    simp only [noPtr, List.all_eq_true] at h2
    refine ⟨arr, e1, e2, fun j v c hv hc => ?_⟩
    have := FR_of_CR (e3 j v c hv hc) (h2 v (List.mem_of_getElem? hv))
    exact CR_of_FR this.onlyIm
  | clo f x y =>
    obtain ⟨ca, cb, e1, e2, e3, e4, e5⟩ := h1
    simp only [noPtr, Bool.and_eq_true, List.all_eq_true] at h2
    exact ⟨ca, cb, e1, e2, e3, fun j v c hv hc => (e4 j v c hv hc).onlyIm (h2.1 v (List.mem_of_getElem? hv)), fun j v c hv hc => (e5 j v c hv hc).onlyIm (h2.2 v (List.mem_of_getElem? hv))⟩
  | undef => trivial
  | _ => first
    | (simp [noPtr, cellDat] at h2; done)
    | exact FR.onlyIm h1

/-- **A call that may reach our variables.** -/
theorem back_all (h : SR own β w σ a.tmps) {o1 : Own} {β1 : Nat → Nat} {w1 : World} {H1 : Heap} {r : V} {c : Value} (hh : HR o1 β1 w1 H1) (hs : Stay (fun b => lower (own b)) w o1 w1)
    (hb : BX β β1 σ.heap H1) (ht : TR o1 β1 w1 (fun i j => .res i j) r c) (hn : ∀ b i j k, o1 b ≠ .slot i j k) :
    ∃ o2, Nxt own β w σ a o2 β1 w1 (setMem σ (.all H1)) a ∧ TR o2 β1 w1 (fun i j => .res i j) r c := by
  let o2 : Own := fun b => match own b with | .slot t i j => .slot t i j | _ => o1 b
  have slotv : ∀ b t i j, own b = .slot t i j → o2 b = .slot t i j := fun b t i j hb => by simp only [o2, hb]
  have slotu : ∀ b t i j, own b = .slot t i j → o1 b = .other ∧ w1.heap[b]? = w.heap[b]? := fun b t i j hb =>
    hs.other b (h.heap.lt b (by rw [hb]; simp)) (by simp only [hb, Vm.lower])
  have same : ∀ b, o1 b ≠ .other → o2 b = o1 b := fun b hb' => by
    simp only [o2]
    split
    · rename_i t i j hs'; exact absurd (slotu b t i j hs').1 hb'
    · rfl
  have imv : ∀ b, own b = .im → o2 b = .im ∧ w1.heap[b]? = w.heap[b]? := fun b hb' => by
    obtain ⟨h1, h2⟩ := hs.im b (by simp only [hb', Vm.lower])
    exact ⟨by rw [same b (by rw [h1]; simp), h1], h2⟩
  have blkv : ∀ id, own (β id) = .blk id → o2 (β1 id) = .blk id ∧ β1 id = β id := fun id hb' => by
    obtain ⟨_, cs, hcs⟩ := h.heap.inv _ _ hb'
    obtain ⟨e1, cs', hcs'⟩ := hb.2 id cs hcs
    have := (hh.blk id cs' hcs').own
    exact ⟨by rw [same _ (by rw [this]; simp), this], e1⟩
  have k1 : ∀ b, o1 b = .im → o2 b = .im ∧ w1.heap[b]? = w1.heap[b]? := fun b hb' => ⟨by rw [same b (by rw [hb']; simp), hb'], rfl⟩
  have k2 : ∀ id, o1 (β1 id) = .blk id → o2 (β1 id) = .blk id ∧ β1 id = β1 id := fun id hb' => ⟨by rw [same _ (by rw [hb']; simp), hb'], rfl⟩
  have hk := h.killCells
  refine ⟨o2, ⟨⟨fun u => ?_, ?_⟩, ⟨imv, fun b hlt hb' => ?_, hs.size, hs.os, hs.tape, hs.output⟩, hb, rfl, rfl⟩, ?_⟩
  · have hu := hk.env u
    simp only [setMem]
    rw [get_map killCell rfl] at hu ⊢
    refine hu.keep imv blkv (fun i j b hb' => ⟨slotv b u i j hb', (slotu b u i j hb').2⟩) (fun p hp => ?_)
    cases p with
    | cell i j => rw [killCell_ref] at hp; cases hp
    | slot x => exact ⟨fun sz n xs hl => ⟨n, xs, hl, rfl⟩, fun c hc => hc, fun b hb' => slotv b x 0 0 hb'⟩
  · refine ⟨fun id cs hi => ?_, fun b id hb' => ?_, fun b hb' => ?_⟩
    · exact (hh.blk id cs hi).mono k1 k2 (fun j b hb' => ⟨by rw [same b (by rw [hb']; simp), hb'], rfl⟩) rfl
    · simp only [o2] at hb'
      split at hb'
      · cases hb'
      · exact hh.inv b id hb'
    · by_cases hs' : ∃ t i j, own b = .slot t i j
      · obtain ⟨t, i, j, hs'⟩ := hs'
        exact Nat.lt_of_lt_of_le (h.heap.lt b (by rw [hs']; simp)) hs.size
      · have : o2 b = o1 b := by
          simp only [o2]
          split
          · rename_i t i j hq; exact absurd ⟨t, i, j, hq⟩ hs'
          · rfl
        rw [this] at hb'
        exact hh.lt b hb'
  · obtain ⟨h1, h2⟩ := hs.other b hlt (by simp only [hb', Vm.lower])
    exact ⟨by simp only [o2, hb', h1], h2⟩
  · exact ht.mono k1 k2 (fun i j b hb' => ⟨by rw [same b (by rw [hb']; simp), hb'], rfl⟩)


/-! ### A call that sees some blocks -/
theorem zipIdx_map_getElem? {α γ : Type} (f : α × Nat → γ) : ∀ (l : List α) (i : Nat), (l.zipIdx.map f)[i]? = (l[i]?).map fun x => f (x, i) := by
  intro l i
  rw [List.getElem?_map, List.getElem?_zipIdx]
  cases l[i]? <;> simp
theorem maskH_length (ks : List Nat) (H : Heap) : (maskH ks H).length = H.length := by simp [maskH]
theorem putH_length (ks : List Nat) (H H' : Heap) : (putH ks H H').length = H.length := by simp [putH]
theorem bcells_mask (ks : List Nat) (H : Heap) (id : Nat) : bcells (maskH ks H) id = if ks.contains id then bcells H id else none := by
  unfold bcells maskH
  rw [zipIdx_map_getElem?]
  cases H[id]? with
  | none => simp
  | some b => cases hk : ks.contains id <;> simp only [Option.map_some, hk, Bool.false_eq_true, if_false, if_true]
theorem bcells_putH (ks : List Nat) (H H' : Heap) (id : Nat) : bcells (putH ks H H' ++ H'.drop H.length) id = if id < H.length ∧ ks.contains id = false then bcells H id else bcells H' id := by
  unfold bcells
  rcases Nat.lt_or_ge id H.length with hlt | hge
  · rw [List.getElem?_append_left (by rw [putH_length]; exact hlt)]
    unfold putH
    rw [zipIdx_map_getElem?, List.getElem?_eq_getElem hlt]
    by_cases hk : ks.contains id = true
    · simp only [hk, Option.map_some, if_true]
      rw [if_neg (by simp)]
      rw [List.getD_eq_getElem?_getD]
      cases H'[id]? <;> simp
    · have hk' : ks.contains id = false := by simpa using hk
      simp only [hk', Option.map_some, Bool.false_eq_true, if_false]
      rw [if_pos ⟨hlt, trivial⟩]
  · rw [List.getElem?_append_right (by rw [putH_length]; exact hge), putH_length, List.getElem?_drop, if_neg (by omega), Nat.add_sub_cancel' hge]
theorem deadOut_none {ks : List Nat} {n : Nat} {H : Heap} (h : deadOut ks n H = true) {id : Nat} (hid : id < n) (hk : ks.contains id = false) : bcells H id = none := by
  have := List.all_eq_true.1 h id (List.mem_range.2 hid)
  rw [hk, Bool.false_or, List.getD_eq_getElem?_getD] at this
  unfold bcells
  cases hx : H[id]? with
  | none => rfl
  | some b => rw [hx] at this; cases b <;> simp [isDead] at this ⊢

def mlower (ks : List Nat) (l : Loc) : Loc := match l with
  | .slot _ _ _ => .other
  | .res _ _ => .other
  | .blk id => if ks.contains id then .blk id else .other
  | .cell id j => if ks.contains id then .cell id j else .other
  | l => l
def hid (ks : List Nat) (l : Loc) : Bool := match l with
  | .slot _ _ _ => true
  | .blk id => !ks.contains id
  | .cell id _ => !ks.contains id
  | _ => false
theorem mlower_hid {ks : List Nat} {l : Loc} (h : hid ks l = true) : mlower ks l = .other := by
  cases l <;> simp_all [hid, mlower]
theorem mlower_not {ks : List Nat} {l : Loc} : ∀ {i j k : Nat}, mlower ks l ≠ .slot i j k := by
  intro i j k hq
  cases l <;> simp only [mlower] at hq <;> first | cases hq | (split at hq <;> cases hq)

theorem PR.mask {ks : List Nat} {v : V} {c : Value} (h : PR own β w v c) (hv : (ptrId v).all ks.contains = true) : PR (fun b => mlower ks (own b)) β w v c := by
  cases v <;> simp only [PR] at h ⊢ <;> first
    | exact h.mono fun b hb => ⟨by simp only [hb, mlower], rfl⟩
    | (refine ⟨h.1, ?_⟩
       simp only [ptrId, List.all_cons, List.all_nil, Bool.and_true] at hv
       rw [h.2]; simp only [mlower, hv, if_true])
theorem CR.mask {ks : List Nat} {l : Loc} {v : V} {c : Value} (h : CR own β w l v c) (hl : mlower ks l = l) (hv : (ptrId v).all ks.contains = true) : CR (fun b => mlower ks (own b)) β w l v c := by
  have k1 : ∀ b, own b = .im → (fun b => mlower ks (own b)) b = .im ∧ w.heap[b]? = w.heap[b]? := fun b hb => ⟨by simp only [hb, mlower], rfl⟩
  cases v <;> simp only [CR] at h ⊢ <;> first
    | exact h.mono k1
    | (refine ⟨h.1, ?_⟩
       simp only [ptrId, List.all_cons, List.all_nil, Bool.and_true] at hv
       rw [h.2]; simp only [mlower, hv, if_true])
    | exact EXR.mono h k1 (fun b hb => ⟨by simp only [hb, hl], rfl⟩)
    | (obtain ⟨ca, cb, h1, h2, h3, h4, h5⟩ := h
       simp only [ptrId, List.flatMap_append, List.all_append, Bool.and_eq_true] at hv
       have sub : ∀ (a : List V), (a.flatMap ptr0).all ks.contains = true → ∀ (j : Nat) (v : V) (c : Value), a[j]? = some v → PR own β w v c → PR (fun b => mlower ks (own b)) β w v c := by
         intro a ha j v c hv hc
         have key : ∀ id, ptr0 v = [id] → ks.contains id = true := fun id he => by
           rw [List.all_eq_true] at ha
           exact ha id (List.mem_flatMap.2 ⟨v, List.mem_of_getElem? hv, by rw [he]; simp⟩)
         cases v with
         | ptr id off => exact hc.mask (by simp only [ptrId, List.all_cons, List.all_nil, Bool.and_true]; exact key id rfl)
         | ref m id => exact hc.mask (by simp only [ptrId, List.all_cons, List.all_nil, Bool.and_true]; exact key id rfl)
         | _ => exact FR.mono hc fun b hb => ⟨by simp only [hb, mlower], rfl⟩
       exact ⟨ca, cb, h1, h2, h3, fun j v c hv' hc => sub _ hv.1 j v c hv' (h4 j v c hv' hc), fun j v c hv' hc => sub _ hv.2 j v c hv' (h5 j v c hv' hc)⟩)

theorem VR.mask {ks : List Nat} {L : Nat → Loc} {v : V} {c : Value} (h : VR own β w L v c) (hl : ∀ j, mlower ks (L j) = L j) (hv : ∀ x ∈ v.cells, (ptrId x).all ks.contains = true) : VR (fun b => mlower ks (own b)) β w L v c := by
  cases v with
  | undef => trivial
  | agg ds =>
    obtain ⟨arr, e1, e2, e3⟩ := h
    exact ⟨arr, e1, e2, fun j u c hu hcu => (e3 j u c hu hcu).mask (hl j) (hv u (List.mem_of_getElem? hu))⟩
  | rptr ds off =>
    obtain ⟨b, o, e1, e2, e3⟩ := h
    refine ⟨b, o, e1, by simp only [e2, mlower], fun j u hu => ?_⟩
    obtain ⟨c', q1, q2⟩ := e3 j u hu
    exact ⟨c', q1, q2.mono fun b hb => ⟨by simp only [hb, mlower], rfl⟩⟩
  | bool b => exact CR.mask (β := β) (w := w) (v := .bool b) h (hl 0) (hv _ (by simp [V.cells]))
  | int k n => exact CR.mask (β := β) (w := w) (v := .int k n) h (hl 0) (hv _ (by simp [V.cells]))
  | str s => exact CR.mask (β := β) (w := w) (v := .str s) h (hl 0) (hv _ (by simp [V.cells]))
  | nilp => exact CR.mask (β := β) (w := w) (v := .nilp) h (hl 0) (hv _ (by simp [V.cells]))
  | nilf => exact CR.mask (β := β) (w := w) (v := .nilf) h (hl 0) (hv _ (by simp [V.cells]))
  | ptr id off => exact CR.mask (β := β) (w := w) (v := .ptr id off) h (hl 0) (hv _ (by simp [V.cells]))
  | xptr p i off => exact CR.mask (β := β) (w := w) (v := .xptr p i off) h (hl 0) (hv _ (by simp [V.cells]))
  | sl n xs => exact CR.mask (β := β) (w := w) (v := .sl n xs) h (hl 0) (hv _ (by simp [V.cells]))
  | ex sz n xs => exact CR.mask (β := β) (w := w) (v := .ex sz n xs) h (hl 0) (hv _ (by simp [V.cells]))
  | lent p => exact CR.mask (β := β) (w := w) (v := .lent p) h (hl 0) (hv _ (by simp [V.cells]))
  | clo f x y => exact CR.mask (β := β) (w := w) (v := .clo f x y) h (hl 0) (hv _ (by simp [V.cells]))
  | tup us => exact CR.mask (β := β) (w := w) (v := .tup us) h (hl 0) (hv _ (by simp [V.cells]))
  | nilm => exact CR.mask (β := β) (w := w) (v := .nilm) h (hl 0) (hv _ (by simp [V.cells]))
  | ref m id => exact CR.mask (β := β) (w := w) (v := .ref m id) h (hl 0) (hv _ (by simp [V.cells]))
  | mp ks vs => exact CR.mask (β := β) (w := w) (v := .mp ks vs) h (hl 0) (hv _ (by simp [V.cells]))
  | lp ts vs ps asg body cx st => exact CR.mask (β := β) (w := w) (v := .lp ts vs ps asg body cx st) h (hl 0) (hv _ (by simp [V.cells]))

theorem ptrId_flat {v : V} (h : V.flat v = true) : ∀ x ∈ v.cells, ptrId x = [] := fun x hx => by
  have := List.all_eq_true.1 h x hx
  cases x <;> first | rfl | (simp [flatC] at this)
theorem BR.mask {ks : List Nat} {id : Nat} {cs : List V} (h : BR own β w id cs) (hk : ks.contains id = true) (hall : (cs.flatMap ptrX).all ks.contains = true) : BR (fun b => mlower ks (own b)) β w id cs := by
  rcases h with ⟨h1, h2, arr, T, h3, h4, h5⟩ | ⟨h1, v, o, rfl, h3, h4⟩
  · refine .inl ⟨by simp only [h1, mlower, hk, if_true], h2, arr, T, h3, h4, fun j v c hv hcv => (h5 j v c hv hcv).mask (by simp only [mlower, hk, if_true]) ?_⟩
    have hlt := (Array.getElem?_eq_some_iff.1 hcv).1
    have hns := (h5 j v c hv hcv).notSpec
    rw [List.all_eq_true] at hall ⊢
    refine fun x hx => hall x (List.mem_flatMap.2 ⟨v, List.mem_of_getElem? hv, ?_⟩)
    cases v <;> first | exact hx | (simp [isSpec] at hns)
  · refine .inr ⟨by simp only [h1, mlower, hk, if_true], v, o, rfl, h3, withVals_id v ▸ h4.imp (fun v => v) (fun u c hu hx => ⟨hx.1.mask (fun _ => rfl) fun x hxc => ?_, hx.2⟩) rfl (fun u c hx hf => ⟨hx.1.mask (fun _ => rfl) fun x hxc => by rw [ptrId_flat hf x hxc]; rfl, hx.2⟩)⟩
    rcases hu with hu | rfl
    · rw [List.all_eq_true] at hall ⊢
      refine fun y hy => hall y (List.mem_flatMap.2 ⟨v, by simp, ?_⟩)
      cases v <;> first
        | (simp only [valsOf] at hu; exact List.mem_flatMap.2 ⟨u, hu, List.mem_flatMap.2 ⟨x, hxc, hy⟩⟩)
        | (simp [valsOf] at hu)
    · simp [V.cells] at hxc; subst hxc; rfl

theorem HR.mask {ks : List Nat} {H : Heap} (h : HR own β w H) (hc : closedK ks H = true) : HR (fun b => mlower ks (own b)) β w (maskH ks H) := by
  refine ⟨fun id cs hi => ?_, fun b id hb => ?_, fun b hb => h.lt b fun hn => hb (by simp only [hn, mlower])⟩
  · rw [bcells_mask] at hi
    split at hi
    · rename_i hk
      have hall := List.all_eq_true.1 hc id (by simpa using hk)
      simp only [cellIds, hi] at hall
      exact (h.blk id cs hi).mask hk hall
    · cases hi
  · cases ho : own b with
    | blk id' =>
      rw [ho] at hb; simp only [mlower] at hb
      split at hb
      · rename_i hk
        injection hb with hb; subst hb
        obtain ⟨e, cs, hcs⟩ := h.inv b _ ho
        exact ⟨e, cs, by rw [bcells_mask, if_pos hk]; exact hcs⟩
      · cases hb
    | _ =>
      rw [ho] at hb; simp only [mlower] at hb
      first
        | (cases hb; done)
        | (split at hb <;> cases hb)

theorem AR.mask {ks : List Nat} {vs : List V} {cs : List Value} (h : AR own β w vs cs) (hv : (argIds vs).all ks.contains = true) : AR (fun b => mlower ks (own b)) β w vs cs := by
  refine ⟨h.1, fun j v c hj hc => ⟨?_, (h.2 j v c hj hc).2⟩⟩
  obtain ⟨h1, h2⟩ := h.2 j v c hj hc
  have hin : ∀ x ∈ v.cells, (ptrId x).all ks.contains = true := fun x hx => by
    rw [List.all_eq_true] at hv ⊢
    exact fun y hy => hv y (List.mem_flatMap.2 ⟨v, List.mem_of_getElem? hj, List.mem_flatMap.2 ⟨x, hx, hy⟩⟩)
  exact h1.mask (fun _ => rfl) hin

theorem killCellsIn_ref {ks : List Nat} {v : V} {i j : Nat} (h : (killCellsIn ks v).refsTo (.cell i j) = true) : ks.contains i = false := by
  cases v with
  | lent p =>
    cases p with
    | slot t => simp [killCellsIn, V.refsTo] at h
    | cell a b =>
      by_cases hk : ks.contains a = true
      · simp only [killCellsIn, hk, if_true, V.refsTo, Bool.false_eq_true] at h
      · simp only [killCellsIn, hk, V.refsTo, Bool.false_eq_true, if_false, beq_iff_eq] at h
        injection h with h1 _; subst h1; simpa using hk
  | xptr p k off =>
    cases p with
    | slot t => simp [killCellsIn, V.refsTo] at h
    | cell a b =>
      by_cases hk : ks.contains a = true
      · simp only [killCellsIn, hk, if_true, V.refsTo, Bool.false_eq_true] at h
      · simp only [killCellsIn, hk, V.refsTo, Bool.false_eq_true, if_false, beq_iff_eq] at h
        injection h with h1 _; subst h1; simpa using hk
  | _ => simp [killCellsIn, V.refsTo] at h

theorem SR.killCellsIn (ks : List Nat) (h : SR own β w σ a.tmps) : SR own β w { env := σ.env.map (fun x => (x.1, Vm.killCellsIn ks x.2)), heap := σ.heap } a.tmps := by
  have hlook : ∀ p sz n xs, look σ p = .ex sz n xs → look { env := σ.env.map (fun x => (x.1, Vm.killCellsIn ks x.2)), heap := σ.heap } p = .ex sz n xs := fun p sz n xs hl => by
    cases p with
    | slot t => simp only [look] at hl ⊢; rw [get_map (Vm.killCellsIn ks) rfl, hl]; rfl
    | cell i j => exact hl
  refine ⟨fun u => ?_, h.heap⟩
  rw [get_map (Vm.killCellsIn ks) rfl]
  have hu := h.env u
  cases hv : get σ.env u with
  | lent p =>
    rw [hv] at hu
    obtain ⟨sz, n, xs, h1, h2⟩ := hu
    have keep : ER own β w { env := σ.env.map (fun x => (x.1, Vm.killCellsIn ks x.2)), heap := σ.heap } a.tmps u (.lent p) (a.tmps.getD u undef) := ⟨sz, n, xs, hlook p sz n xs h1, h2⟩
    cases p with
    | slot t => exact keep
    | cell i j =>
      by_cases hk : ks.contains i = true
      · simp only [Vm.killCellsIn, hk, if_true]; exact ER.undef _ _ _ _ _ _ _
      · simp only [Vm.killCellsIn, hk]; exact keep
  | xptr p i off =>
    rw [hv] at hu
    obtain ⟨sz, n, xs, b, len, cap, h1, h2⟩ := hu
    have keep : ER own β w { env := σ.env.map (fun x => (x.1, Vm.killCellsIn ks x.2)), heap := σ.heap } a.tmps u (.xptr p i off) (a.tmps.getD u undef) := ⟨sz, n, xs, b, len, cap, hlook p sz n xs h1, h2⟩
    cases p with
    | slot t => exact keep
    | cell i' j =>
      by_cases hk : ks.contains i' = true
      · simp only [Vm.killCellsIn, hk, if_true]; exact ER.undef _ _ _ _ _ _ _
      · simp only [Vm.killCellsIn, hk]; exact keep
  | _ => rw [hv] at hu; exact hu

def partS (ks : List Nat) (σ : St) (H1 : Heap) : St := { env := σ.env.map (fun x => (x.1, killCellsIn ks x.2)), heap := putH ks σ.heap H1 ++ H1.drop σ.heap.length }

/-- **A call that may reach some of our variables.** -/
theorem back_part (ks : List Nat) (h : SR own β w σ a.tmps) {o1 : Own} {β1 : Nat → Nat} {w1 : World} {H1 : Heap} {r : V} {c : Value} (hh : HR o1 β1 w1 H1) (hs : Stay (fun b => mlower ks (own b)) w o1 w1)
    (hb : BX β β1 (maskH ks σ.heap) H1) (hd : deadOut ks σ.heap.length H1 = true) (ht : TR o1 β1 w1 (fun i j => .res i j) r c) :
    ∃ o2 β2, Nxt own β w σ a o2 β2 w1 (partS ks σ H1) a ∧ TR o2 β2 w1 (fun i j => .res i j) r c := by
  have hlen : σ.heap.length ≤ H1.length := by have := hb.1; rwa [maskH_length] at this
  let o2 : Own := fun b => if hid ks (own b) = true then own b else o1 b
  let β2 : Nat → Nat := fun id => if id < σ.heap.length ∧ ks.contains id = false then β id else β1 id
  have hidv : ∀ b, hid ks (own b) = true → o1 b = .other ∧ w1.heap[b]? = w.heap[b]? := fun b hq =>
    hs.other b (h.heap.lt b (by intro hn; rw [hn] at hq; simp [hid] at hq)) (mlower_hid hq)
  have o2h : ∀ b, hid ks (own b) = true → o2 b = own b := fun b hq => by simp only [o2, if_pos hq]
  have same : ∀ b, o1 b ≠ .other → o2 b = o1 b := fun b hb' => by
    simp only [o2]
    split
    · rename_i hq; exact absurd (hidv b hq).1 hb'
    · rfl
  have imv : ∀ b, own b = .im → o2 b = .im ∧ w1.heap[b]? = w.heap[b]? := fun b hb' => by
    obtain ⟨h1, h2⟩ := hs.im b (by simp only [hb', mlower])
    exact ⟨by rw [same b (by rw [h1]; simp), h1], h2⟩
  have bnew : ∀ id, bcells (partS ks σ H1).heap id = if id < σ.heap.length ∧ ks.contains id = false then bcells σ.heap id else bcells H1 id := fun id => bcells_putH ks σ.heap H1 id
  have b2h : ∀ id, id < σ.heap.length ∧ ks.contains id = false → β2 id = β id := fun id hq => by simp only [β2, if_pos hq]
  have b2k : ∀ id, ¬ (id < σ.heap.length ∧ ks.contains id = false) → β2 id = β1 id := fun id hq => by simp only [β2, if_neg hq]
  have vis : ∀ id cs, bcells H1 id = some cs → ¬ (id < σ.heap.length ∧ ks.contains id = false) := fun id cs hi hq => by
    rw [deadOut_none hd hq.1 hq.2] at hi; cases hi
  have kept : ∀ id cs, bcells σ.heap id = some cs → ks.contains id = true → β1 id = β id ∧ ∃ cs', bcells H1 id = some cs' := fun id cs hi hk =>
    hb.2 id cs (by rw [bcells_mask, if_pos hk]; exact hi)
  have blkv : ∀ id, own (β id) = .blk id → o2 (β2 id) = .blk id ∧ β2 id = β id := fun id hb' => by
    obtain ⟨_, cs, hcs⟩ := h.heap.inv _ _ hb'
    by_cases hk : ks.contains id = true
    · obtain ⟨e1, cs', hcs'⟩ := kept id cs hcs hk
      have := (hh.blk id cs' hcs').own
      have e2 := b2k id (fun hq => absurd (hk.symm.trans hq.2) (by simp))
      exact ⟨by rw [e2, same _ (by rw [this]; simp), this], by rw [e2, e1]⟩
    · have hk' : ks.contains id = false := by simpa only [Bool.not_eq_true] using hk
      have e2 := b2h id ⟨bcells_lt hcs, hk'⟩
      exact ⟨by rw [e2, o2h _ (by rw [hb']; simp only [hid, hk', Bool.not_false]), hb'], e2⟩
  have k1 : ∀ b, o1 b = .im → o2 b = .im ∧ w1.heap[b]? = w1.heap[b]? := fun b hb' => ⟨by rw [same b (by rw [hb']; simp), hb'], rfl⟩
  have k2 : ∀ id, o1 (β1 id) = .blk id → o2 (β2 id) = .blk id ∧ β2 id = β1 id := fun id hb' => by
    obtain ⟨_, cs, hcs⟩ := hh.inv _ _ hb'
    have e2 := b2k id (vis id cs hcs)
    exact ⟨by rw [e2, same _ (by rw [hb']; simp), hb'], e2⟩
  have cellv : ∀ id j b, ks.contains id = false → own b = .cell id j → o2 b = .cell id j ∧ w1.heap[b]? = w.heap[b]? := fun id j b hk hb' => by
    have hq : hid ks (own b) = true := by rw [hb']; simp only [hid, hk, Bool.not_false]
    exact ⟨by rw [o2h b hq, hb'], (hidv b hq).2⟩
  have slotv : ∀ b t i j, own b = .slot t i j → o2 b = .slot t i j ∧ w1.heap[b]? = w.heap[b]? := fun b t i j hb' => by
    have hq : hid ks (own b) = true := by rw [hb']; rfl
    exact ⟨by rw [o2h b hq, hb'], (hidv b hq).2⟩
  have blkheap : ∀ id cs, bcells σ.heap id = some cs → ks.contains id = false → w1.heap[β id]? = w.heap[β id]? := fun id cs hi hk => by
    have hq : hid ks (own (β id)) = true := by rw [(h.heap.blk id cs hi).own]; simp only [hid, hk, Bool.not_false]
    exact (hidv _ hq).2
  have hk := h.killCellsIn ks
  refine ⟨o2, β2, ⟨⟨fun u => ?_, ⟨fun id cs hi => ?_, fun b id hb' => ?_, fun b hb' => ?_⟩⟩, ⟨imv, fun b hlt hb' => ?_, hs.size, hs.os, hs.tape, hs.output⟩, ⟨?_, fun id cs hi => ?_⟩, rfl, rfl⟩, ?_⟩
  · have hu := hk.env u
    simp only [partS]
    rw [get_map (Vm.killCellsIn ks) rfl] at hu ⊢
    have hlk : ∀ p, (Vm.killCellsIn ks (get σ.env u)).refsTo p = true → ∃ sz n xs, look { env := σ.env.map (fun x => (x.1, Vm.killCellsIn ks x.2)), heap := σ.heap } p = .ex sz n xs := fun p hp => by
      generalize Vm.killCellsIn ks (get σ.env u) = v at hu hp
      cases v with
      | lent q =>
        obtain ⟨sz, n, xs, q1, _⟩ := hu
        simp only [V.refsTo, beq_iff_eq] at hp; subst hp
        exact ⟨sz, n, xs, q1⟩
      | xptr q i off =>
        obtain ⟨sz, n, xs, _, _, _, q1, _⟩ := hu
        simp only [V.refsTo, beq_iff_eq] at hp; subst hp
        exact ⟨sz, n, xs, q1⟩
      | _ => simp [V.refsTo] at hp
    refine hu.keep imv blkv (fun i j b hb' => slotv b u i j hb') (fun p hp => ?_)
    cases p with
    | slot x => exact ⟨fun sz n xs hl => ⟨n, xs, hl, rfl⟩, fun c hc => hc, fun b hb' => (slotv b x 0 0 hb').1⟩
    | cell i j =>
      have hki := killCellsIn_ref hp
      refine ⟨fun sz n xs hl => ⟨n, xs, ?_, rfl⟩, fun c hc => ?_, fun b hb' => (cellv i j b hki hb').1⟩
      · obtain ⟨cs, hcs, _⟩ := Place.cases_look hl
        simp only [look] at hl ⊢
        have := bnew i
        simp only [partS] at this
        rw [this, if_pos ⟨bcells_lt hcs, hki⟩]; exact hl
      · obtain ⟨sz, n, xs, hl⟩ := hlk _ hp
        obtain ⟨cs, hcs, _⟩ := Place.cases_look hl
        simp only [conc] at hc ⊢
        rw [b2h i ⟨bcells_lt hcs, hki⟩, World.cell?_of_block (w := w) (by exact blkheap i cs hcs hki)]
        exact hc
  · rw [bnew] at hi
    split at hi
    · rename_i hq
      exact (h.heap.blk id cs hi).mono imv blkv (fun j b hb' => cellv id j b hq.2 hb') (blkheap id cs hi hq.2)
    · exact (hh.blk id cs hi).mono k1 k2 (fun j b hb' => ⟨by rw [same b (by rw [hb']; simp), hb'], rfl⟩) rfl
  · simp only [o2] at hb'
    split at hb'
    · rename_i hq
      obtain ⟨e, cs, hcs⟩ := h.heap.inv b id hb'
      have hk' : ks.contains id = false := by rw [hb'] at hq; simpa only [hid, Bool.not_eq_true'] using hq
      refine ⟨by rw [b2h id ⟨bcells_lt hcs, hk'⟩, e], cs, ?_⟩
      rw [bnew, if_pos ⟨bcells_lt hcs, hk'⟩]; exact hcs
    · obtain ⟨e, cs, hcs⟩ := hh.inv b id hb'
      refine ⟨by rw [b2k id (vis id cs hcs), e], cs, ?_⟩
      rw [bnew, if_neg (vis id cs hcs)]; exact hcs
  · by_cases hq : hid ks (own b) = true
    · exact Nat.lt_of_lt_of_le (h.heap.lt b (by intro hn; rw [hn] at hq; simp [hid] at hq)) hs.size
    · have : o2 b = o1 b := by simp only [o2, if_neg hq]
      rw [this] at hb'
      exact hh.lt b hb'
  · obtain ⟨h1, h2⟩ := hs.other b hlt (by simp only [hb', mlower])
    exact ⟨by simp only [o2, hb', hid, h1]; rfl, h2⟩
  · simp only [partS, List.length_append, putH_length, List.length_drop]; omega
  · by_cases hk' : ks.contains id = true
    · obtain ⟨e, cs', hcs'⟩ := kept id cs hi hk'
      refine ⟨by rw [b2k id (fun hq => absurd (hk'.symm.trans hq.2) (by simp)), e], cs', ?_⟩
      rw [bnew, if_neg (fun hq => absurd (hk'.symm.trans hq.2) (by simp))]; exact hcs'
    · have hk'' : ks.contains id = false := by simpa only [Bool.not_eq_true] using hk'
      refine ⟨b2h id ⟨bcells_lt hi, hk''⟩, cs, ?_⟩
      rw [bnew, if_pos ⟨bcells_lt hi, hk''⟩]; exact hi
  · exact ht.mono k1 k2 (fun i j b hb' => ⟨by rw [same b (by rw [hb']; simp), hb'], rfl⟩)

end
end Go.Vm
end

section
/- V17: calls with data. -/
namespace Go.Vm
open Go

section
variable {P : Program} {o : Oper} {own own' : Own} {β β' : Nat → Nat} {w : World} {σ : St} {a : Act} {n : Nat}

def oneC : V → Bool
  | .agg _ | .rptr _ _ | .undef => false
  | _ => true
theorem VR_one {own : Own} {β : Nat → Nat} {w : World} {L : Nat → Loc} {v : V} {c : Value} (h : oneC v = true) : VR own β w L v c = CR own β w (L 0) v c := by
  cases v <;> first | rfl | (simp [oneC] at h)
def oneT : V → Bool
  | .tup _ => false
  | _ => true
theorem TR_one {own : Own} {β : Nat → Nat} {w : World} {L : Nat → Nat → Loc} {v : V} {c : Value} (h : oneT v = true) : TR own β w L v c = VR own β w (L 0) v c := by
  cases v <;> first | rfl | (simp [oneT] at h)

theorem PR.shift (him : ∀ b, own b = .im → own' b = .im) (hblk : ∀ id, own (β id) = .blk id → own' (β' (id + n)) = .blk (id + n) ∧ β' (id + n) = β id) {v : V} {c : Value} (h : PR own β w v c) :
    PR own' β' w (shiftP n v) c := by
  cases v <;> simp only [PR, shiftP] at h ⊢ <;> first
    | exact h.mono fun b hb => ⟨him b hb, rfl⟩
    | exact ⟨by rw [(hblk _ h.2).2]; exact h.1, (hblk _ h.2).1⟩

theorem CR.shift (him : ∀ b, own b = .im → own' b = .im) (hblk : ∀ id, own (β id) = .blk id → own' (β' (id + n)) = .blk (id + n) ∧ β' (id + n) = β id) {l l' : Loc} (hl : ∀ b, own b = l → own' b = l')
    {v : V} {c : Value} (h : CR own β w l v c) : CR own' β' w l' (shiftC n v) c := by
  cases v <;> simp only [CR, shiftC] at h ⊢ <;> first
    | exact h.mono fun b hb => ⟨him b hb, rfl⟩
    | exact ⟨by rw [(hblk _ h.2).2]; exact h.1, (hblk _ h.2).1⟩
    | (rcases h with h | h | ⟨hn, b, cap, T, arr, h1, h2, h3, h4, h5, h6⟩
       · exact .inl h
       · exact .inr (.inl h)
       · exact .inr (.inr ⟨hn, b, cap, T, arr, h1, hl b h2, h3, h4, h5, fun i x hx => ⟨(h6 i x hx).1, fun j y c hy hc => ((h6 i x hx).2 j y c hy hc).mono fun b hb => ⟨him b hb, rfl⟩⟩⟩))
    | (obtain ⟨ca, cb, h1, h2, h3, h4, h5⟩ := h
       refine ⟨ca, cb, h1, by simpa using h2, by simpa using h3, fun j v c hv hc => ?_, fun j v c hv hc => ?_⟩
       · rw [List.getElem?_map, Option.map_eq_some_iff] at hv
         obtain ⟨u, hu, rfl⟩ := hv
         exact (h4 j u c hu hc).shift him hblk
       · rw [List.getElem?_map, Option.map_eq_some_iff] at hv
         obtain ⟨u, hu, rfl⟩ := hv
         exact (h5 j u c hu hc).shift him hblk)

theorem VR.shift (him : ∀ b, own b = .im → own' b = .im) (hblk : ∀ id, own (β id) = .blk id → own' (β' (id + n)) = .blk (id + n) ∧ β' (id + n) = β id) {L : Nat → Loc} (hl : ∀ j b, own b = L j → own' b = L j)
    {v : V} {c : Value} (h : VR own β w L v c) : VR own' β' w L (shift1 n v) c := by
  cases v with
  | agg cs =>
    obtain ⟨arr, h1, h2, h3⟩ := h
    refine ⟨arr, h1, by simpa using h2, fun j v c hv hc => ?_⟩
    rw [List.getElem?_map, Option.map_eq_some_iff] at hv
    obtain ⟨u, hu, rfl⟩ := hv
    exact (h3 j u c hu hc).shift him hblk (hl j)
  | rptr cs off =>
    obtain ⟨b, o, h1, h2, h3⟩ := h
    refine ⟨b, o, h1, him b h2, fun j v hv => ?_⟩
    obtain ⟨c', h4, h5⟩ := h3 j v hv
    exact ⟨c', h4, h5.mono fun b hb => ⟨him b hb, rfl⟩⟩
  | undef => trivial
  | lent p => exact absurd h.notWay.1 (by simp [isWay])
  | xptr p i off => exact absurd h.notWay.1 (by simp [isWay])
  | tup vs => exact absurd rfl (h.notWay.2 _)
  | _ =>
    rw [VR_one rfl] at h ⊢
    exact CR.shift (n := n) him hblk (hl 0) h

theorem TR.shift (him : ∀ b, own b = .im → own' b = .im) (hblk : ∀ id, own (β id) = .blk id → own' (β' (id + n)) = .blk (id + n) ∧ β' (id + n) = β id) {L : Nat → Nat → Loc} (hl : ∀ i j b, own b = L i j → own' b = L i j)
    {v : V} {c : Value} (h : TR own β w L v c) : TR own' β' w L (Vm.shift n v) c := by
  cases v with
  | tup vs =>
    obtain ⟨arr, h1, h2, h3⟩ := h
    refine ⟨arr, h1, by simpa using h2, fun j v c hv hc => ?_⟩
    rw [List.getElem?_map, Option.map_eq_some_iff] at hv
    obtain ⟨u, hu, rfl⟩ := hv
    exact (h3 j u c hu hc).shift him hblk (hl j)
  | lent p => exact absurd (TR.notWay h) (by simp [isWay])
  | xptr p i off => exact absurd (TR.notWay h) (by simp [isWay])
  | undef => trivial
  | _ =>
    rw [TR_one rfl] at h ⊢
    exact VR.shift (n := n) him hblk (hl 0) h

theorem okBelow_shift {k : Nat} {v : V} (h : okBelow k v = true) : okBelow (k + n) (shiftC n v) = true := by
  cases v with
  | ptr id off => simp [okBelow, shiftC] at h ⊢; exact h
  | ref m id => simp [okBelow, shiftC] at h ⊢; exact h
  | clo f x y =>
    simp only [okBelow, shiftC, List.all_eq_true, List.mem_append, ← List.map_append] at h ⊢
    rintro v hv
    obtain ⟨u, hu, rfl⟩ := List.mem_map.1 hv
    have := h u (List.mem_append.1 hu)
    cases u <;> simp [shiftP] at this ⊢ <;> exact this
  | lent p => cases p <;> simp [okBelow, shiftC] at h ⊢ <;> omega
  | xptr p i off => cases p <;> simp [okBelow, shiftC] at h ⊢ <;> omega
  | _ => rfl

/-- No way out of data that is apart. -/
theorem FR.flat {own own' : Own} {w w' : World} {v : V} {c : Value} (h : FR own w v c) (hf : flatC v = true) : FR own' w' v c := by
  cases h <;> first
    | (simp [flatC] at hf; done)
    | exact .undef _ ‹_›
    | exact .bool _
    | exact .int _ _
    | exact .str _
    | exact .nilp
    | exact .nilf
    | exact .nilm

theorem CR.apart {l : Loc} {v : V} {c : Value} (h : CR own β w l v c) (ha : apartC v = true) (hl : ∀ b, own b = l → own' b = l) : CR own' β' w l v c := by
  cases v with
  | ex sz m xs =>
    simp only [apartC, List.all_eq_true] at ha
    rcases h with h | h | ⟨hn, b, cap, T, arr, h1, h2, h3, h4, h5, h6⟩
    · exact .inl h
    · exact .inr (.inl h)
    · refine .inr (.inr ⟨hn, b, cap, T, arr, h1, hl b h2, h3, h4, h5, fun i x hx => ⟨(h6 i x hx).1, fun j y c hy hc => ?_⟩⟩)
      have hx' := ha x (List.mem_of_getElem? hx)
      simp only [V.flat, List.all_eq_true] at hx'
      exact ((h6 i x hx).2 j y c hy hc).flat (hx' y (List.mem_of_getElem? hy))
  | sl m xs =>
    simp only [apartC, Bool.and_eq_true, List.isEmpty_iff] at ha
    obtain ⟨rfl, rfl⟩ := ha
    simp only [CR] at h ⊢
    cases h
    exact .nil
  | _ => first
    | (simp [apartC] at ha; done)
    | (simp only [CR] at h ⊢; exact h.flat rfl)

theorem VR.apart {L : Nat → Loc} {v : V} {c : Value} (h : VR own β w L v c) (ha : v.cells.all apartC = true) (hl : ∀ j b, own b = L j → own' b = L j) : VR own' β' w L v c := by
  cases v with
  | agg cs =>
    simp only [V.cells, List.all_eq_true] at ha
    obtain ⟨arr, h1, h2, h3⟩ := h
    exact ⟨arr, h1, h2, fun j v c hv hc => (h3 j v c hv hc).apart (ha v (List.mem_of_getElem? hv)) (hl j)⟩
  | undef => trivial
  | rptr cs off => simp [V.cells, apartC] at ha
  | lent p => exact absurd h.notWay.1 (by simp [isWay])
  | xptr p i off => exact absurd h.notWay.1 (by simp [isWay])
  | tup vs => exact absurd rfl (h.notWay.2 _)
  | _ =>
    rw [VR_one rfl] at h ⊢
    exact CR.apart h (by simpa [V.cells] using ha) (hl 0)

theorem TR.apart {L : Nat → Nat → Loc} {v : V} {c : Value} (h : TR own β w L v c) (ha : Vm.apart v = true) (hl : ∀ i j b, own b = L i j → own' b = L i j) : TR own' β' w L v c := by
  cases v with
  | tup vs =>
    simp only [Vm.apart, List.all_eq_true] at ha
    obtain ⟨arr, h1, h2, h3⟩ := h
    exact ⟨arr, h1, h2, fun j v c hv hc => (h3 j v c hv hc).apart (List.all_eq_true.2 (ha v (List.mem_of_getElem? hv))) (hl j)⟩
  | lent p => exact absurd (TR.notWay h) (by simp [isWay])
  | xptr p i off => exact absurd (TR.notWay h) (by simp [isWay])
  | undef => trivial
  | _ =>
    rw [TR_one rfl] at h ⊢
    exact VR.apart h ha (hl 0)

theorem noEx_shift {v : V} (h : noEx v = true) : noEx (shift1 n v) = true := by
  cases v with
  | agg cs =>
    simp only [noEx, shift1, List.all_eq_true, List.mem_map] at h ⊢
    rintro x ⟨y, hy, rfl⟩
    have := h y hy
    cases y <;> first | rfl | (simp [notEx] at this)
  | _ => first
    | rfl
    | (simp [noEx] at h; done)
theorem shift1_cells (v : V) : (shift1 n v).cells = v.cells.map (shiftC n) := by
  cases v <;> rfl
theorem XR.shift (him : ∀ b, own b = .im → own' b = .im) (hblk : ∀ id, own (β id) = .blk id → own' (β' (id + n)) = .blk (id + n) ∧ β' (id + n) = β id) {id : Nat} {v : V} {c : Value} (h : XR own β w id v c) :
    XR own' β' w (id + n) (shift1 n v) c := by
  refine ⟨h.1.shift him hblk (fun _ b hb => him b hb), noEx_shift h.2.1, ?_⟩
  rw [shift1_cells, List.all_eq_true]
  intro x hx
  obtain ⟨y, hy, rfl⟩ := List.mem_map.1 hx
  have := okBelow_shift (n := n) (List.all_eq_true.1 h.2.2 y hy)
  rwa [show id + 1 + n = id + n + 1 by omega] at this
theorem XR.flat {own own' : Own} {β β' : Nat → Nat} {w w' : World} {id id' : Nat} {v : V} {c : Value} (h : XR own β w id v c) (hf : V.flat v = true) : XR own' β' w' id' v c := by
  have hc : ∀ x ∈ v.cells, flatC x = true := fun x hx => List.all_eq_true.1 hf x hx
  refine ⟨?_, h.2.1, List.all_eq_true.2 fun x hx => ?_⟩
  · cases v with
    | agg cs =>
      obtain ⟨arr, h1, h2, h3⟩ := h.1
      refine ⟨arr, h1, h2, fun j u c hu hcu => ?_⟩
      have hfu := hc u (List.mem_of_getElem? hu)
      have := FR_of_CR (h3 j u c hu hcu) (by cases u <;> first | rfl | (simp [flatC] at hfu))
      exact CR_of_FR (this.flat hfu)
    | undef => trivial
    | _ =>
      have hx := hc _ (List.Mem.head _)
      first
        | (simp [flatC] at hx; done)
        | (have h1 := h.1
           rw [VR_one rfl] at h1 ⊢
           exact CR_of_FR (FR.flat h1 rfl))
  · have := hc x hx
    cases x <;> first | rfl | (simp [flatC] at this)
theorem shiftX_of {v : V} (h : isSpec v = false) : shiftX n v = shiftC n v := by cases v <;> first | rfl | (simp [isSpec] at h)
theorem BR.shift (him : ∀ b, own b = .im → own' b = .im) (hblk : ∀ id, own (β id) = .blk id → own' (β' (id + n)) = .blk (id + n) ∧ β' (id + n) = β id)
    (hl : ∀ id j b, own b = .cell id j → own' b = .cell (id + n) j) {id : Nat} {cs : List V} (h : BR own β w id cs) : BR own' β' w (id + n) (cs.map (shiftX n)) := by
  rcases h with ⟨h1, h2, arr, T, h3, h4, h5⟩ | ⟨h1, v, o, rfl, h3, h4⟩
  · refine .inl ⟨(hblk id h1).1, fun v hv => ?_, arr, T, by rw [(hblk id h1).2]; exact h3, by simpa using h4, fun j v c hv hc => ?_⟩
    · obtain ⟨u, hu, rfl⟩ := List.mem_map.1 hv
      obtain ⟨j, hj⟩ := List.getElem?_of_mem hu
      have hlt := (List.getElem?_eq_some_iff.1 hj).1
      rw [shiftX_of (h5 j u arr[j] hj (Array.getElem?_eq_getElem (by omega))).notSpec]
      have := okBelow_shift (n := n) (h2 u hu)
      rwa [show id + 1 + n = id + n + 1 by omega] at this
    · rw [List.getElem?_map, Option.map_eq_some_iff] at hv
      obtain ⟨u, hu, rfl⟩ := hv
      rw [shiftX_of (h5 j u c hu hc).notSpec]
      exact (h5 j u c hu hc).shift him hblk (hl id j)
  · refine .inr ⟨(hblk id h1).1, shiftX n v, o, rfl, by rw [(hblk id h1).2]; exact h3, ?_⟩
    have := h4.imp (own' := own') (β' := β') (w' := w) (id' := id + n) (shift1 n) (fun u c _ hx => hx.shift him hblk) rfl (fun u c hx hf => hx.flat hf)
    cases v <;> first
      | exact this
      | (simp only [OR] at h4)

/-- What lies in memory is as it was; new variables stand behind ours. -/
theorem grown (h : SR own β w σ a.tmps) {o1 : Own} {β1 : Nat → Nat} {w1 : World} {H1 : Heap} (hh : HR o1 β1 w1 H1) (hold : ∀ b, b < w.heap.size → w1.heap[b]? = w.heap[b]? ∧ (o1 b = .im ∨ o1 b = .other))
    (him : ∀ b, b < w.heap.size → o1 b = .im → own b = .im ∨ H1 = [])
    (hsz : w.heap.size ≤ w1.heap.size) (o2 : Own) (β2 : Nat → Nat)
    (h2 : ∀ b, b < w.heap.size → o2 b = own b) (h3 : ∀ b, w.heap.size ≤ b → o2 b = match o1 b with | .blk id => .blk (id + σ.heap.length) | .cell id j => .cell (id + σ.heap.length) j | l => l)
    (h4 : ∀ id, id < σ.heap.length → β2 id = β id) (h5 : ∀ id, β2 (id + σ.heap.length) = β1 id) :
    SR o2 β2 w1 { env := σ.env, heap := σ.heap ++ H1.map (shiftB σ.heap.length) } a.tmps ∧ BX β β2 σ.heap (σ.heap ++ H1.map (shiftB σ.heap.length)) := by
  have imv : ∀ b, own b = .im → o2 b = .im ∧ w1.heap[b]? = w.heap[b]? := fun b hb => by
    have hlt := h.heap.lt b (by rw [hb]; simp)
    exact ⟨by rw [h2 b hlt, hb], (hold b hlt).1⟩
  have idlt : ∀ id cs, bcells σ.heap id = some cs → id < σ.heap.length := fun id cs hi => bcells_lt hi
  have bold : ∀ id, id < σ.heap.length → bcells (σ.heap ++ H1.map (shiftB σ.heap.length)) id = bcells σ.heap id := fun id hi => by
    unfold bcells; rw [List.getElem?_append_left hi]
  have bnew : ∀ id cs, bcells (σ.heap ++ H1.map (shiftB σ.heap.length)) id = some cs → σ.heap.length ≤ id → ∃ cs0, bcells H1 (id - σ.heap.length) = some cs0 ∧ cs = cs0.map (shiftX σ.heap.length) := fun id cs hc hi => by
    unfold bcells at hc ⊢
    rw [List.getElem?_append_right hi, List.getElem?_map] at hc
    cases hx : H1[id - σ.heap.length]? with
    | none => simp [hx] at hc
    | some b =>
      cases b with
      | dead => simp [hx, shiftB] at hc
      | cells cs0 => simp [hx, shiftB] at hc; exact ⟨cs0, rfl, hc.symm⟩
  have blkv : ∀ id, own (β id) = .blk id → o2 (β2 id) = .blk id ∧ β2 id = β id := fun id hb => by
    obtain ⟨_, cs, hcs⟩ := h.heap.inv _ _ hb
    have e := h4 id (idlt id cs hcs)
    exact ⟨by rw [e, h2 _ (h.heap.lt _ (by rw [hb]; simp)), hb], e⟩
  have anyv : ∀ l, l ≠ .other → ∀ b, own b = l → o2 b = l ∧ w1.heap[b]? = w.heap[b]? := fun l hl b hb => by
    have hlt := h.heap.lt b (by rw [hb]; exact hl)
    exact ⟨by rw [h2 b hlt, hb], (hold b hlt).1⟩
  have lookv : ∀ p sz n xs, look σ p = .ex sz n xs → look { env := σ.env, heap := σ.heap ++ H1.map (shiftB σ.heap.length) } p = .ex sz n xs := fun p sz n xs hl => by
    cases p with
    | slot t => exact hl
    | cell id off =>
      obtain ⟨cs, hc, _⟩ := Place.cases_look hl
      simp only [look] at hl ⊢
      rw [bold id (idlt id cs hc)]; exact hl
  refine ⟨⟨fun u => ?_, fun id cs hi => ?_, fun b id hb => ?_, fun b hb => ?_⟩, by simp, fun id cs hi => ⟨h4 id (idlt id cs hi), cs, by rw [bold id (idlt id cs hi)]; exact hi⟩⟩
  · have hu := h.env u
    cases hv : get σ.env u with
    | lent p =>
      rw [hv] at hu
      obtain ⟨sz, n, xs, q1, q2⟩ := hu
      refine ⟨sz, n, xs, lookv p sz n xs q1, ?_⟩
      cases p with
      | slot x => exact q2
      | cell id off =>
        obtain ⟨cs, hc, _⟩ := Place.cases_look q1
        simp only [conc] at q2 ⊢
        rw [h4 id (idlt id cs hc), ← q2]
        exact World.cell?_of_block (w := w) (anyv _ (by simp) (β id) (h.heap.blk id cs hc).own).2
    | xptr p i off =>
      rw [hv] at hu
      obtain ⟨sz, n, xs, b, len, cap, q1, q2, q3, q4⟩ := hu
      refine ⟨sz, n, xs, b, len, cap, lookv p sz n xs q1, ?_, (anyv _ (by cases p <;> simp [locOf]) b q3).1, q4⟩
      cases p with
      | slot x => exact q2
      | cell id off =>
        obtain ⟨cs, hc, _⟩ := Place.cases_look q1
        simp only [conc] at q2 ⊢
        rw [h4 id (idlt id cs hc), ← q2]
        exact World.cell?_of_block (w := w) (anyv _ (by simp) (β id) (h.heap.blk id cs hc).own).2
    | _ =>
      have hw : isWay (get σ.env u) = false := by rw [hv]; rfl
      have := (hu.to_TR hw).mono imv blkv (fun i j b hb => anyv _ (by simp) b hb)
      rw [hv] at this
      exact ER.of_TR this rfl
  · rcases Nat.lt_or_ge id σ.heap.length with hlt | hge
    · rw [bold id hlt] at hi
      have hB := h.heap.blk id cs hi
      exact hB.mono imv blkv (fun j b hb => anyv _ (by simp) b hb) (anyv _ (by simp) _ hB.own).2
    · obtain ⟨cs0, hc0, rfl⟩ := bnew id cs hi hge
      have g1 := (hh.blk _ _ hc0).own
      have hid : id = (id - σ.heap.length) + σ.heap.length := by omega
      have hne : H1 ≠ [] := by rintro rfl; simp [bcells] at hc0
      have := (hh.blk _ _ hc0).shift (own' := o2) (β' := β2) (n := σ.heap.length) (fun b hb => ?_) (fun id' hb => ?_) (fun id' j b hb => ?_)
      · rwa [← hid] at this
      · rcases Nat.lt_or_ge b w.heap.size with hlt | hge''
        · rw [h2 b hlt]; exact (him b hlt hb).resolve_right hne
        · rw [h3 b hge'', hb]
      · have hge'' : w.heap.size ≤ β1 id' := by
          rcases Nat.lt_or_ge (β1 id') w.heap.size with hlt | hge''
          · rcases (hold _ hlt).2 with e | e <;> rw [hb] at e <;> cases e
          · exact hge''
        refine ⟨by rw [h5, h3 _ hge'', hb], h5 id'⟩
      · have hge'' : w.heap.size ≤ b := by
          rcases Nat.lt_or_ge b w.heap.size with hlt | hge''
          · rcases (hold _ hlt).2 with e | e <;> rw [hb] at e <;> cases e
          · exact hge''
        rw [h3 b hge'', hb]
  · rcases Nat.lt_or_ge b w.heap.size with hlt | hge
    · rw [h2 b hlt] at hb
      obtain ⟨e1, cs, hcs⟩ := h.heap.inv b id hb
      have hl := idlt id cs hcs
      exact ⟨by rw [h4 id hl]; exact e1, cs, by rw [bold id hl]; exact hcs⟩
    · rw [h3 b hge] at hb
      split at hb
      · rename_i id' hq
        injection hb with hb
        obtain ⟨e1, cs, hcs⟩ := hh.inv b id' hq
        subst hb
        refine ⟨by rw [h5]; exact e1, cs.map (shiftX σ.heap.length), ?_⟩
        unfold bcells at hcs ⊢
        rw [List.getElem?_append_right (by omega), Nat.add_sub_cancel, List.getElem?_map]
        cases hx : H1[id']? with
        | none => simp [hx] at hcs
        | some x =>
          cases x with
          | dead => simp [hx] at hcs
          | cells ds => simp [hx] at hcs; subst hcs; rfl
      · cases hb
      · rename_i hq1 hq2
        exact absurd hb (hq1 id)
  · rcases Nat.lt_or_ge b w.heap.size with hlt | hge
    · omega
    · rw [h3 b hge] at hb
      refine hh.lt b fun hq => hb (by rw [hq])

end
end Go.Vm
end

section
/- V18: a call as an operation; every operation. -/
namespace Go.Vm
open Go

section
variable {P : Program} {o : Oper} {own : Own} {β : Nat → Nat} {w : World} {σ : St} {a : Act}

theorem onlyIm_ne {l : Loc} (h : l ≠ .im) : onlyIm l = .other := by
  cases l <;> first | exact absurd rfl h | rfl

def shiftL (n : Nat) (l : Loc) : Loc := match l with | .blk id => .blk (id + n) | .cell id j => .cell (id + n) j | l => l

/-- Behind a call with data. -/
theorem after_data (h : SR own β w σ a.tmps) {og : Own} {o1 : Own} {β1 : Nat → Nat} {w1 : World} {H1 : Heap} (hh : HR o1 β1 w1 H1) (hst : Stay (fun b => onlyIm (og b)) w o1 w1)
    (him : ∀ b, b < w.heap.size → o1 b = .im → own b = .im ∨ H1 = []) :
    ∃ o2 β2, Nxt own β w σ a o2 β2 w1 { env := σ.env, heap := σ.heap ++ H1.map (shiftB σ.heap.length) } a ∧ (∀ b, b < w.heap.size → o2 b = own b) ∧
      (∀ b, w.heap.size ≤ b → o2 b = shiftL σ.heap.length (o1 b)) ∧ (∀ id, β2 (id + σ.heap.length) = β1 id) ∧ (∀ b, b < w.heap.size → o1 b = .im ∨ o1 b = .other) := by
  have hold : ∀ b, b < w.heap.size → w1.heap[b]? = w.heap[b]? ∧ (o1 b = .im ∨ o1 b = .other) := fun b hb => by
    by_cases hi : og b = .im
    · obtain ⟨e1, e2⟩ := hst.im b (by simp only [hi, onlyIm])
      exact ⟨e2, .inl e1⟩
    · obtain ⟨e1, e2⟩ := hst.other b hb (onlyIm_ne hi)
      exact ⟨e2, .inr e1⟩
  let o2 : Own := fun b => if b < w.heap.size then own b else shiftL σ.heap.length (o1 b)
  let β2 : Nat → Nat := fun id => if id < σ.heap.length then β id else β1 (id - σ.heap.length)
  have e2 : ∀ b, b < w.heap.size → o2 b = own b := fun b hb => by simp only [o2, if_pos hb]
  have e3 : ∀ b, w.heap.size ≤ b → o2 b = shiftL σ.heap.length (o1 b) := fun b hb => by simp only [o2, if_neg (Nat.not_lt.2 hb)]
  have e5 : ∀ id, β2 (id + σ.heap.length) = β1 id := fun id => by simp only [β2]; rw [if_neg (by omega)]; congr 1; omega
  obtain ⟨g1, g2⟩ := grown h hh hold him hst.size o2 β2 e2 e3 (fun id hid => by simp only [β2, if_pos hid]) e5
  refine ⟨o2, β2, ⟨g1, ⟨fun b hb => ?_, fun b hlt hb => ⟨by rw [e2 b hlt, hb], (hold b hlt).1⟩, hst.size, hst.os, hst.tape, hst.output⟩, g2, rfl, rfl⟩, e2, e3, e5, fun b hb => (hold b hb).2⟩
  have hlt := h.heap.lt b (by rw [hb]; simp)
  exact ⟨by rw [e2 b hlt, hb], (hold b hlt).1⟩

theorem VR_of_FR {L : Nat → Loc} {v : V} {c : Value} (h : FR own w v c) : VR own β w L v c ∧ noEx v = true := by
  cases h <;> first
    | exact ⟨trivial, rfl⟩
    | exact ⟨FR.bool _, rfl⟩
    | exact ⟨FR.int _ _, rfl⟩
    | exact ⟨FR.str _, rfl⟩
    | exact ⟨FR.nilp, rfl⟩
    | exact ⟨FR.nilf, rfl⟩
    | exact ⟨FR.nilm, rfl⟩
    | exact ⟨FR.nil, rfl⟩
    | exact ⟨FR.none _ _, rfl⟩
    | exact ⟨FR.sl _ _ _ _ _ _ ‹_› ‹_› ‹_› ‹_›, rfl⟩
theorem VR_of_PR {L : Nat → Loc} {v : V} {c : Value} (h : PR own β w v c) : VR own β w L v c ∧ noEx v = true := by
  cases v with
  | ptr id off => exact ⟨h, rfl⟩
  | ref m id => exact ⟨h, rfl⟩
  | _ => exact VR_of_FR h

theorem AR_of_PR {vs : List V} {cs : Array Value} (hs : cs.size = vs.length) (h : ∀ (j : Nat) (v : V) (c : Value), vs[j]? = some v → cs[j]? = some c → PR own β w v c) : AR own β w vs cs.toList :=
  ⟨by simpa using hs, fun j v c hv hc => VR_of_PR (h j v c hv (by simpa using hc))⟩
theorem AR.reloc {ρ : Loc → Loc} (hr : Reloc ρ) {vs : List V} {cs : List Value} (h : AR own β w vs cs) : AR (fun b => ρ (own b)) β w vs cs :=
  ⟨h.1, fun j v c hv hc => ⟨((h.2 j v c hv hc).1.reloc hr).place (h.2 j v c hv hc).2, (h.2 j v c hv hc).2⟩⟩

theorem killCell_in (ks : List Nat) (v : V) : killCell (killCellsIn ks v) = killCell v := by
  cases v with
  | lent p =>
    cases p with
    | slot t => rfl
    | cell i j => simp only [killCellsIn]; split <;> rfl
  | xptr p k off =>
    cases p with
    | slot t => rfl
    | cell i j => simp only [killCellsIn]; split <;> rfl
  | _ => rfl

/-- A call, whoever is called. -/
def Enters (P : Program) (o : Oper) (a : Act) (w : World) (call : CallF) (f : FuncId) (β : Nat → Nat) (vs : List V) (cs : List Value) : Prop :=
  ∀ (H : Heap) (r : V) (H' : Heap), call f vs H = some (r, H') → ∀ (own : Own), HR own β w H → AR own β w vs cs → (∀ b i j k, own b ≠ .slot i j k) →
    ∀ (own0 : Own) (σ σ1 : St) (v : V), (∀ d, o.dst = some d → d < a.tmps.size) →
      (∀ e w', Ret own β w H r H' e w' → ∃ c o1 β1, e = .returned c ∧ Nxt own0 β w σ a o1 β1 w' σ1 a ∧ TR o1 β1 w' (fun i j => .res i j) v c) → OpOk P o own0 β w σ a (put σ1 o.dst v)

theorem ok_callGo {call : CallF} (hdst : ∀ d, o.dst = some d → d < a.tmps.size) (hsr : SR own β w σ a.tmps) {f : FuncId} {vs : List V} {cs : List Value} {ids : List Nat} {ps : List (Place × V)} (hE : Enters P o a w call f β vs cs)
    {ρ : Loc → Loc} (h1 : Nxt own β w σ a (fun b => ρ (own b)) β w (setPlaces σ ps) a) (hAR : AR (fun b => ρ (own b)) β w vs cs) {e : Eff} (he : callGo call σ f vs ids ps = some e) : OpOk P o own β w σ a (apply σ o.dst e) := by
  unfold callGo at he
  split at he
  · rename_i hdata
    simp only [Bool.and_eq_true] at hdata
    have hdata := hdata.1
    have hHR := h1.sr.heap.onlyIm
    have hAR' := hAR.onlyIm hdata
    have noslot : ∀ b i j k, (fun b => onlyIm (ρ (own b))) b ≠ .slot i j k := fun b i j k hq => by
      simp only [onlyIm] at hq; split at hq <;> cases hq
    split at he
    · rename_i r hcall
      injection he with he; subst he
      refine hE _ _ _ hcall _ hHR hAR' noslot own σ _ _ hdst ?_
      rintro e w' ⟨c', o', β', rfl, t1, t2, t3, t4, t5⟩
      have noblk : ∀ id, o' (β' id) ≠ .blk id := fun id hq => by
        obtain ⟨_, cs, hcs⟩ := t2.inv _ _ hq; simp [bcells] at hcs
      by_cases hap : apart r = true
      · obtain ⟨o2, β2, g1, g2, g3, g4, g5⟩ := after_data hsr t2 t3 (fun _ _ _ => .inr rfl)
        simp only [List.map_nil, List.append_nil] at g1
        refine ⟨c', o2, β2, rfl, by simp only [hap, if_true, setPlaces, setMem]; exact g1, t1.apart hap (fun i j b hq => ?_)⟩
        have hge : w.heap.size ≤ b := by
          rcases Nat.lt_or_ge b w.heap.size with hlt | hge
          · rcases g5 b hlt with e | e <;> rw [hq] at e <;> cases e
          · exact hge
        rw [g3 b hge, hq]; rfl
      · obtain ⟨o2, β2, g1, g2, g3, g4, g5⟩ := after_data h1.sr t2 t3 (fun _ _ _ => .inr rfl)
        simp only [List.map_nil, List.append_nil] at g1
        refine ⟨c', o2, β2, rfl, ?_, t1.mono (fun b hq => ⟨?_, rfl⟩) (fun id hq => absurd hq (noblk id)) (fun i j b hq => ⟨?_, rfl⟩)⟩
        · simp only [hap, setMem]
          exact h1.trans g1
        · rcases Nat.lt_or_ge b w.heap.size with hlt | hge
          · rw [g2 b hlt]
            by_cases hi : ρ (own b) = .im
            · exact hi
            · obtain ⟨e1, _⟩ := t3.other b hlt (onlyIm_ne hi)
              rw [hq] at e1; cases e1
          · rw [g3 b hge, hq]; rfl
        · have hge : w.heap.size ≤ b := by
            rcases Nat.lt_or_ge b w.heap.size with hlt | hge
            · rcases g5 b hlt with e | e <;> rw [hq] at e <;> cases e
            · exact hge
          rw [g3 b hge, hq]; rfl
    · rename_i r H1 hne hcall
      injection he with he; subst he
      refine hE _ _ _ hcall _ hHR hAR' noslot own σ _ _ hdst ?_
      rintro e w' ⟨c', o', β', rfl, t1, t2, t3, t4, t5⟩
      have himv : ∀ b, b < w.heap.size → o' b = .im → ρ (own b) = .im := fun b hlt hq => by
        by_cases hi : ρ (own b) = .im
        · exact hi
        · obtain ⟨e1, _⟩ := t3.other b hlt (onlyIm_ne hi)
          rw [hq] at e1; cases e1
      obtain ⟨o2, β2, g1, g2, g3, g4, g5⟩ := after_data h1.sr t2 t3 (fun b hlt hq => .inl (himv b hlt hq))
      have hge : ∀ b, o' b ≠ .im → o' b ≠ .other → w.heap.size ≤ b := fun b hq1 hq2 => by
        rcases Nat.lt_or_ge b w.heap.size with hlt | hge
        · rcases g5 b hlt with e | e
          · exact absurd e hq1
          · exact absurd e hq2
        · exact hge
      have g1' : Nxt (fun b => ρ (own b)) β w (setPlaces σ ps) a o2 β2 w' (setMem (setPlaces σ ps) (.all ((setPlaces σ ps).heap ++ H1.map (shiftB (setPlaces σ ps).heap.length)))) a :=
        { g1 with sr := g1.sr.killCells }
      refine ⟨c', o2, β2, rfl, h1.trans g1', t1.shift (fun b hq => ?_) (fun id hq => ⟨?_, g4 id⟩) (fun i j b hq => ?_)⟩
      · rcases Nat.lt_or_ge b w.heap.size with hlt | hge'
        · rw [g2 b hlt]; exact himv b hlt hq
        · rw [g3 b hge', hq]; rfl
      · rw [g4, g3 _ (hge _ (by rw [hq]; simp) (by rw [hq]; simp)), hq]; rfl
      · rw [g3 _ (hge _ (by rw [hq]; simp) (by rw [hq]; simp)), hq]; rfl
    · cases he
  · simp only at he
    generalize reach (setPlaces σ ps).heap (setPlaces σ ps).heap.length (ids ++ argIds vs) = ks at he
    split at he
    · rename_i hcl
      simp only [Bool.and_eq_true, List.all_append] at hcl
      split at he
      · rename_i r H' hcall
        split at he
        · rename_i hdead
          have hC := hE _ _ _ hcall _ (h1.sr.heap.mask hcl.1) (hAR.mask hcl.2.2) (fun b i j k => mlower_not) own σ
          split at he
          · rename_i hlen
            injection he with he; subst he
            refine hC _ _ hdst ?_
            rintro e w' ⟨c', o', β', rfl, t1, t2, t3, t4, t5⟩
            obtain ⟨o2, β2, g1, g2⟩ := back_part ks h1.sr t2 t3 t4 hdead t1
            have e1 : partS ks (setPlaces σ ps) H' = setMem (setPlaces σ ps) (.put ks H') := by
              simp only [partS, setMem]
              rw [List.drop_of_length_le (by omega), List.append_nil]
            rw [e1] at g1
            exact ⟨c', o2, β2, rfl, h1.trans g1, g2⟩
          · injection he with he; subst he
            refine hC _ _ hdst ?_
            rintro e w' ⟨c', o', β', rfl, t1, t2, t3, t4, t5⟩
            obtain ⟨o2, β2, g1, g2⟩ := back_part ks h1.sr t2 t3 t4 hdead t1
            have g1' : Nxt (fun b => ρ (own b)) β w (setPlaces σ ps) a o2 β2 w' (setMem (setPlaces σ ps) (.all (putH ks (setPlaces σ ps).heap H' ++ H'.drop (setPlaces σ ps).heap.length))) a := by
              refine { g1 with sr := (g1.sr.killCells).congr (fun t => ?_) rfl }
              simp only [setMem, partS]
              rw [get_map killCell rfl, get_map killCell rfl, get_map (killCellsIn ks) rfl, killCell_in]
            exact ⟨c', o2, β2, rfl, h1.trans g1', g2⟩
        · cases he
      · cases he
    · cases he

theorem ok_call {T : Types} {call : CallF} (hS : Sound P call) (h : Hyp P T o own β w σ a) {c : Call} (ho : o.op = .call c) {f : Operand} (hb : c.callee = .value f) {vs : List V} {ps : List (Place × V)}
    (hv : views σ c.args.toList = some (vs, ps)) {e : Eff} (he : callAt call σ (opd σ.env f) vs ps = some e) : OpOk P o own β w σ a (apply σ o.dst e) := by
  have hsr := h.sr
  obtain ⟨o1, h1, h2, ρ, hr, rfl⟩ := freezes ps own σ hsr (views_ps hsr _ _ _ hv)
  have hargs := views_args hsr hr rfl hr.other _ _ _ hv h2
  unfold callAt at he
  split at he
  · rename_i fid first captured hf
    have hfe := opd_TR hsr f (by rw [hf]; rfl)
    rw [hf] at hfe
    obtain ⟨ca, cb, hce, hc1, hc2, hc3, hc4⟩ := hfe
    have hAR : AR (fun b => ρ (own b)) β w (first ++ vs ++ captured) (ca.toList ++ c.args.toList.map a.eval ++ cb.toList) :=
      (((AR_of_PR hc1 hc3).reloc hr).append hargs).append ((AR_of_PR hc2 hc4).reloc hr)
    split at he
    · rename_i hlt
      refine ok_callGo h.dst hsr (fun H r H' hcall own' hH hA hn own0 σ0 σ1 v hd hR => ?_) h1 hAR he
      obtain ⟨⟨fn, q1, q2, q3⟩, hC⟩ := hS.1 _ _ _ _ _ (by rw [Nat.blt_eq] at hlt; exact hlt) hcall
      obtain ⟨bd, q3'⟩ := Option.isSome_iff_exists.1 q3
      have hargs' : (ca.toList ++ c.args.toList.map a.eval ++ cb.toList).toArray = ca ++ c.args.map a.eval ++ cb := by
        apply Array.ext'; simp
      have hrun : (execOp a.eval o).run P w = .ok (.enter fid (ca.toList ++ c.args.toList.map a.eval ++ cb.toList).toArray) w := by
        rw [hargs']
        simp [execOp, ho, resolve, hb, hce, Deferred.ofValue, invoke, callFunc, q1, q2, q3']
      exact OpOk.call hrun ((hC _ β w _ hH hA hn).mono hR) hd
    · cases he
  · rename_i id hf
    obtain ⟨hce, hown⟩ := opd_ref hsr hf
    simp only [refVal] at hce
    refine ok_callGo h.dst hsr (fun H r H' hcall own' hH hA hn own0 σ0 σ1 v hd hR => ?_) h1 hargs he
    obtain ⟨rec, q1, q2, q3⟩ := hS.2 _ _ _ _ _ hcall _ β w _ hH hA hn
    have hrun : (execOp a.eval o).run P w = .ok (.round (β id) rec.fn ((rec.params.zip (c.args.toList.map a.eval).toArray).foldl (fun tmps (t, a) => tmps.setIfInBounds t a) rec.tmps) rec.assign rec.body) w := by
      have hy := run_yield (P := P) (args := c.args.map a.eval) q1 (by simpa using q2)
      have hargs' : (c.args.toList.map a.eval).toArray = c.args.map a.eval := by apply Array.ext'; simp
      rw [hargs']
      simp [execOp, ho, resolve, hb, hce, Deferred.ofValue, invoke, hy]
    exact OpOk.round hrun (q3.mono hR) hd
  · cases he

end
end Go.Vm
end

section
/- V18M: maps. -/
namespace Go.Vm
open Go Go.MapKept

section
variable {P : Program} {o : Oper} {own : Own} {β : Nat → Nat} {w : World} {σ : St} {a : Act}

/-! ### A block that is no variable is written -/
theorem SR.putSpec (h : SR own β w σ a.tmps) {id : Nat} {v v' : V} {ob : Obj} (hcs : bcells σ.heap id = some [v]) (hs : isSpec v = true) {w' : World} (hw : ∀ b, b ≠ β id → w'.heap[b]? = w.heap[b]?)
    (hsz : w'.heap.size = w.heap.size) (hos : w'.os = w.os) (htape : w'.tape = w.tape) (hout : w'.output = w.output) (hnew : w'.heap[β id]? = some ob) (hn : OR own β w id v' ob) :
    Nxt own β w σ a own β w' (setMem σ (.set id 0 [v'])) a := by
  have hbl := (h.heap.blk id _ hcs).own
  have hid := bcells_lt hcs
  have hne : ∀ l, l ≠ .blk id → ∀ b, own b = l → w'.heap[b]? = w.heap[b]? := fun l hl b hb => hw b fun he => hl (by rw [← hb, he, hbl])
  have hk : ∀ b, own b = .im → own b = .im ∧ w'.heap[b]? = w.heap[b]? := fun b hb => ⟨hb, hne .im (by simp) b hb⟩
  have hb : ∀ i, own (β i) = .blk i → own (β i) = .blk i ∧ β i = β i := fun i hi => ⟨hi, rfl⟩
  have hset : setMem σ (.set id 0 [v']) = { env := σ.env.map (fun x => (x.1, killIn id 0 1 x.2)), heap := σ.heap.set id (.cells [v']) } := by simp [setMem, hcs, setCells]
  have noref : ∀ t i o, (get σ.env t).refsTo (.cell i o) = true → i ≠ id := fun t i o hp he => by
    subst he
    have hE := h.env t
    have hlk : ∃ sz n xs, look σ (.cell i o) = .ex sz n xs := by
      cases hv' : get σ.env t <;> rw [hv'] at hp hE <;> simp [V.refsTo] at hp <;> subst hp
      · obtain ⟨sz, n, xs, b, len, cap, q1, q2⟩ := hE; exact ⟨_, _, _, q1⟩
      · obtain ⟨sz, n, xs, q1, q2⟩ := hE; exact ⟨_, _, _, q1⟩
    obtain ⟨_, _, _, hlk⟩ := hlk
    obtain ⟨ds, h3, h4⟩ := Place.cases_look hlk
    rw [hcs] at h3; injection h3 with h3; subst h3
    have := specB_of_ex h4
    rw [specB, hs] at this; cases this
  have hsame : ∀ t, killIn id 0 1 (get σ.env t) = get σ.env t := fun t => by
    have hn := noref t
    cases hv' : get σ.env t with
    | lent p =>
      cases p with
      | slot x => rfl
      | cell i o => simp only [killIn]; rw [if_neg]; intro hh; exact hn i o (by rw [hv']; simp [V.refsTo]) hh.1
    | xptr p k off =>
      cases p with
      | slot x => rfl
      | cell i o => simp only [killIn]; rw [if_neg]; intro hh; exact hn i o (by rw [hv']; simp [V.refsTo]) hh.1
    | _ => rfl
  have hget : ∀ t, get (σ.env.map fun x => (x.1, killIn id 0 1 x.2)) t = get σ.env t := fun t => (get_map (killIn id 0 1) rfl t σ.env).trans (hsame t)
  rw [hset]
  refine ⟨⟨fun t => ?_, ⟨fun i ds hi => ?_, fun b i hbi => ?_, fun b hbo => ?_⟩⟩, ⟨hk, fun b hlt hbo => ⟨hbo, hne .other (by simp) b hbo⟩, by omega, hos, htape, hout⟩, ⟨by simp, fun i ds hi => ⟨rfl, ?_⟩⟩, rfl, rfl⟩
  · simp only
    rw [hget]
    refine (h.env t).keep hk hb (fun i j b hbb => ⟨hbb, hne _ (by simp) b hbb⟩) (fun p hp => ⟨fun sz n xs hlk => ⟨n, xs, ?_, rfl⟩, fun c hcc => ?_, fun b hbb => hbb⟩)
    · cases p with
      | slot x => simp only [look] at hlk ⊢; rw [hget]; exact hlk
      | cell i o =>
        simp only [look] at hlk ⊢
        rw [bcells_set hid, if_neg (noref t i o hp)]; exact hlk
    · cases p with
      | slot x => exact hcc
      | cell i o =>
        simp only [conc] at hcc ⊢
        have hE := h.env t
        have hlk : ∃ sz n xs, look σ (.cell i o) = .ex sz n xs := by
          cases hv' : get σ.env t <;> rw [hv'] at hp hE <;> simp [V.refsTo] at hp <;> subst hp
          · obtain ⟨sz, n, xs, b, len, cap, q1, q2⟩ := hE; exact ⟨_, _, _, q1⟩
          · obtain ⟨sz, n, xs, q1, q2⟩ := hE; exact ⟨_, _, _, q1⟩
        obtain ⟨_, _, _, hlk⟩ := hlk
        obtain ⟨ds, h3, _⟩ := Place.cases_look hlk
        rw [← hcc]
        exact World.cell?_of_block (w := w) (hne (.blk i) (by simp [noref t i o hp]) _ (h.heap.blk i ds h3).own)
  · simp only at hi
    rw [bcells_set hid] at hi
    split at hi
    · rename_i hii; subst hii
      injection hi with hi; subst hi
      exact .inr ⟨hbl, v', ob, rfl, hnew, hn.mono hk hb⟩
    · rename_i hii
      exact (h.heap.blk i ds hi).mono hk hb (fun j b hbb => ⟨hbb, hne _ (by simp) b hbb⟩) (hne (.blk i) (by simp [hii]) _ (h.heap.blk i ds hi).own)
  · obtain ⟨q1, ds, q2⟩ := h.heap.inv b i hbi
    refine ⟨q1, ?_⟩
    simp only
    rw [bcells_set hid]
    split
    · exact ⟨_, rfl⟩
    · exact ⟨ds, q2⟩
  · have := h.heap.lt b hbo; omega
  · simp only
    rw [bcells_set hid]
    split
    · exact ⟨_, rfl⟩
    · exact ⟨ds, hi⟩

/-! ### Keys -/
/-- A key of its type, and the machine's. -/
def KV (i : TI) (k : V) (c : Value) : Prop :=
  match i.kind.isAgg with
  | true => ∃ cs arr, k = .agg cs ∧ c = .agg arr ∧ i.leaves ≠ [] ∧ Agree i.leaves cs arr.toList
  | false => leafB i.kind k c = true

theorem leafB_of {k : TK} {v : V} {c : Value} (h : leafV k v = true) (hf : FR own w v c) : leafB k v c = true := by
  cases k <;> cases v <;> simp [leafV] at h <;> cases hf <;> simp [leafB, h]

theorem kv_of {i : TI} {k : V} {c : Value} {L : Nat → Loc} (h : keyFits i k = true) (hv : VR own β w L k c) : KV i k c := by
  unfold keyFits at h
  unfold KV
  cases hag : i.kind.isAgg <;> simp only [hag] at h ⊢
  · have hd : cellDat k = true := by cases k <;> first | rfl | (cases hk : i.kind <;> simp [hk, leafV] at h)
    refine leafB_of (own := own) (w := w) h ?_
    cases k <;> first
      | (cases hk : i.kind <;> simp [hk, leafV] at h; done)
      | exact hv
  · cases k <;> simp only at h <;> try (cases h; done)
    rename_i cs
    simp only [Bool.and_eq_true, Bool.not_eq_true', List.isEmpty_eq_false_iff] at h
    obtain ⟨arr, h1, h2, h3⟩ := hv
    exact ⟨cs, arr, rfl, h1, h.1, agree_of (own := own) (w := w) h.2 h2 (fun j v c hv hc => FR_of_CR (h3 j v c hv hc) (List.all_eq_true.1 (fits_dat h.2) v (List.mem_of_getElem? hv)))⟩

theorem leafB_inj {k : TK} {u v : V} {c d : Value} (h1 : leafB k u c = true) (h2 : leafB k v d = true) : cellEqv u v = true ↔ c = d := by
  cases k <;> cases u <;> cases c <;> simp [leafB] at h1 <;> cases v <;> cases d <;> simp [leafB] at h2
  · subst h1; subst h2; simp [cellEqv]
  · obtain ⟨rfl, rfl, rfl⟩ := h1
    obtain ⟨rfl, rfl, rfl⟩ := h2
    simp [cellEqv]
  · subst h1; subst h2
    simp only [cellEqv, beq_iff_eq]
    constructor
    · intro h
      rw [ByteArray.toList_eq, ByteArray.toList_eq] at h
      congr 1
      rename_i x y
      cases x; cases y
      congr 1
      exact Array.toList_inj.1 h
    · rintro h; injection h with h; rw [h]

theorem agree_inj : ∀ {ks : List TK} {us vs : List V} {cs ds : List Value}, Agree ks us cs → Agree ks vs ds → (cellsEqv us vs = true ↔ cs = ds)
  | [], us, vs, cs, ds, h1, h2 => by
    obtain rfl := List.eq_nil_of_length_eq_zero h1.1
    obtain rfl := List.eq_nil_of_length_eq_zero h1.2.1
    obtain rfl := List.eq_nil_of_length_eq_zero h2.2.1
    simp [cellsEqv]
  | k :: ks, us, vs, cs, ds, h1, h2 => by
    match us, vs, cs, ds, h1, h2 with
    | u :: us, v :: vs, c :: cs, d :: ds, h1, h2 =>
      have e1 := leafB_inj (h1.2.2 0 k u c rfl rfl rfl) (h2.2.2 0 k v d rfl rfl rfl)
      have e2 := agree_inj (ks := ks) (us := us) (vs := vs) (cs := cs) (ds := ds) ⟨by simpa using h1.1, by simpa using h1.2.1, fun j k a x hk ha hx => h1.2.2 (j + 1) k a x (by simpa using hk) (by simpa using ha) (by simpa using hx)⟩
        ⟨by simpa using h2.1, by simpa using h2.2.1, fun j k a x hk ha hx => h2.2.2 (j + 1) k a x (by simpa using hk) (by simpa using ha) (by simpa using hx)⟩
      simp only [cellsEqv, Bool.and_eq_true, e1, e2, List.cons.injEq]
    | [], _, _, _, h1, _ => simp [Agree] at h1
    | _ :: _, [], _, _, _, h2 => simp [Agree] at h2
    | _ :: _, _ :: _, [], _, h1, _ => simp [Agree] at h1
    | _ :: _, _ :: _, _ :: _, [], _, h2 => simp [Agree] at h2

theorem kv_inj {i : TI} {k u : V} {c d : Value} (h1 : KV i k c) (h2 : KV i u d) : cellsEqv k.cells u.cells = true ↔ c = d := by
  unfold KV at h1 h2
  cases hag : i.kind.isAgg <;> simp only [hag] at h1 h2
  · have one : ∀ {v c}, leafB i.kind v c = true → v.cells = [v] := fun {v c} h => by cases v <;> first | rfl | (cases hk : i.kind <;> simp [hk, leafB] at h)
    rw [one h1, one h2]
    simp only [cellsEqv, Bool.and_true]
    exact leafB_inj h1 h2
  · obtain ⟨as, arr, rfl, rfl, _, g1⟩ := h1
    obtain ⟨bs, arr', rfl, rfl, _, g2⟩ := h2
    simp only [V.cells]
    rw [agree_inj g1 g2]
    simp

theorem KV.plain {t : TypeId} {i : TI} (r : Row P t i) {k : V} {c : Value} (h : KV i k c) (hag : i.kind.isAgg = false) : IsKey r.d c := by
  unfold KV at h
  simp only [hag] at h
  have hkk := r.hkind
  cases hk : i.kind <;> rw [hk] at h hkk <;> cases k <;> cases c <;> simp [leafB] at h
  all_goals
    cases hd : r.d <;> simp [hd, kindB] at hkk <;> simp [IsKey, h, hkk]

theorem check_ok (em : Bool) : ∀ (d : Nat) (t : TypeId) (dd : Nat) (w : World) (ks : List TK) (as : List V) (a : Value), leavesP P d t = some ks → Agree ks as a.cells.toList → a.formed P t = true → d ≤ dd →
    (Instr.checkKey em dd t a).run P w = .ok () w
  | 0, t, dd, w, ks, as, a, hl, _, _, _ => by simp [leavesP] at hl
  | d + 1, t, 0, w, ks, as, a, hl, _, _, h => by omega
  | d + 1, t, dd + 1, w, ks, as, a, hl, ha, fa, hd => by
    have IH := fun e w ks as a => check_ok em d e dd w ks as a
    simp only [leavesP] at hl
    cases hu : P.underlying t with
    | none => simp [hu] at hl
    | some kd =>
      unfold Instr.checkKey
      simp only [Sem.run_bind, run_underlying hu, Result.andThen_ok]
      cases kd <;> simp only [hu] at hl <;> try (cases hl; done)
      case bool => cases a <;> simp
      case int k => cases a <;> simp
      case string => cases a <;> simp
      case array n e =>
        cases hk : leavesP P d e with
        | none => simp [hk] at hl
        | some k1 =>
          simp only [hk] at hl
          split at hl
          · rename_i hs
            injection hl with hl; subst hl
            cases a <;> simp only [Value.formed, hu, Bool.false_eq_true] at fa
            rename_i xs
            obtain ⟨i, hi⟩ : ∃ i, P.info? e = some i := by
              cases hue : P.underlying e with
              | none => cases d <;> simp [leavesP, hue] at hk
              | some _ => exact info_of_underlying hue
            simp only [Std.Legacy.Range.forIn_eq_forIn_range', Std.Legacy.Range.size, Nat.sub_zero, Nat.add_one_sub_one, Nat.div_one]
            have key : ∀ (m s : Nat) (as : List V), Agree (List.replicate m k1).flatten as (xs.toList.drop (s * k1.length)) →
                (forIn (List.range' s m) PUnit.unit fun i r => do
                  Instr.checkKey em dd e (← part e xs (i * (← sizeOf e)))
                  pure (ForInStep.yield PUnit.unit) : Sem PUnit).run P w = .ok PUnit.unit w := by
              intro m
              induction m with
              | zero => intro s as _; simp
              | succ m ih =>
                intro s as h
                simp only [List.replicate_succ, List.flatten_cons] at h
                obtain ⟨y, p1, p2, p3⟩ := run_part_leaves w hk hs h.take
                have q := IH e w k1 _ y hk (by rw [p3]; exact h.take) p2 (by omega)
                have hrest := ih (s + 1) _ (by have := h.drop; rw [List.drop_drop] at this; rw [Nat.succ_mul]; exact this)
                rw [← hs] at p1
                simp only [List.range'_succ, List.forIn_cons, Sem.run_bind, run_sizeOf w hi, Result.andThen_ok, p1, q, Sem.run_pure]
                exact hrest
            have := key n 0 as (by simpa [Value.cells] using ha)
            simpa using this
          · cases hl
      case struct fs =>
        split at hl
        · cases hl
        · cases a <;> simp only [Value.formed, hu, Bool.false_eq_true] at fa
          rename_i xs
          dsimp only
          rw [← Array.forIn_toList]
          have key : ∀ (l : List Field) (o : Nat) (ks : List TK) (as : List V), leavesF (leavesP P d) P.cellsOf o l = some ks → Agree ks as (xs.toList.drop o) →
              (forIn l PUnit.unit fun f r => do
                if f.name ≠ "_" then Instr.checkKey em dd f.type (← part f.type xs f.offset)
                pure (ForInStep.yield PUnit.unit) : Sem PUnit).run P w = .ok PUnit.unit w := by
            intro l
            induction l with
            | nil => intro o ks as _ _; simp
            | cons f l ih =>
              intro o ks as hl h
              simp only [leavesF] at hl
              cases hk : leavesP P d f.type with
              | none => simp [hk] at hl
              | some k1 =>
                simp only [hk] at hl
                split at hl
                · rename_i hc
                  obtain ⟨c1, c2, c3⟩ := hc
                  rw [Option.map_eq_some_iff] at hl
                  obtain ⟨k2, hl2, rfl⟩ := hl
                  subst c1
                  obtain ⟨y, p1, p2, p3⟩ := run_part_leaves w hk c3 h.take
                  have q := IH f.type w k1 _ y hk (by rw [p3]; exact h.take) p2 (by omega)
                  have hrest := ih _ k2 _ hl2 (by have := h.drop; rw [List.drop_drop] at this; exact this)
                  simp only [List.forIn_cons, Sem.run_bind, c2, ne_eq, not_false_eq_true, if_true, Result.andThen_ok, p1, q, Sem.run_pure]
                  exact hrest
                · cases hl
          have := key fs.toList 0 ks as hl (by simpa [Value.cells] using ha)
          simpa using this


/-- What a row says of a key. -/
theorem KV.agg {t : TypeId} {i : TI} (r : Row P t i) {k : V} {c : Value} (h : KV i k c) (hag : i.kind.isAgg = true) : leavesP P 8 t = some i.leaves ∧ ∃ cs arr, k = .agg cs ∧ c = .agg arr ∧ Agree i.leaves cs arr.toList ∧ c.formed P t = true := by
  unfold KV at h
  simp only [hag] at h
  obtain ⟨cs, arr, rfl, rfl, hne, g⟩ := h
  have hl := r.hleaves
  unfold leavesB at hl
  cases hk : i.leaves with
  | nil => exact absurd hk hne
  | cons k ks =>
    simp only [hk, Bool.and_eq_true, decide_eq_true_eq, beq_iff_eq, Bool.not_eq_true'] at hl
    obtain ⟨⟨⟨l1, l2⟩, l3⟩, l4⟩ := hl
    rw [hk] at g
    refine ⟨l1, cs, arr, rfl, rfl, g, ?_⟩
    have hkk := r.hkind
    have hu := r.hd
    have hcells : P.cellsOf t = i.size := by simp [Program.cellsOf, r.hinfo, r.hsize]
    have hlen := g.2.1
    simp only [Array.length_toList] at hlen
    cases hki : i.kind <;> rw [hki] at hag hkk <;> simp [TK.isAgg] at hag
    all_goals
      cases hd : r.d <;> simp only [hd, kindB] at hkk <;> try (cases hkk; done)
      rw [hd] at hu
      simp only [Value.formed, hu, hcells, beq_iff_eq]
      omega

theorem run_check {t : TypeId} {i : TI} (r : Row P t i) {k : V} {c : Value} (h : KV i k c) (em : Bool) (w : World) : (Instr.checkKey em 10000 t c).run P w = .ok () w := by
  cases hag : i.kind.isAgg
  · exact run_checkKey r.hd (h.plain r hag) em 9999
  · obtain ⟨l1, cs, arr, rfl, rfl, g1, g2⟩ := h.agg r hag
    exact check_ok em 8 t 10000 w _ cs _ l1 (by simpa [Value.cells] using g1) g2 (by omega)

theorem run_eqKey {t : TypeId} {i : TI} (r : Row P t i) {k u : V} {c d : Value} (h1 : KV i k c) (h2 : KV i u d) (hag : i.kind.isAgg = true) (w : World) : (Op.equal t c d).run P w = .ok (cellsEqv k.cells u.cells) w := by
  obtain ⟨l1, cs, arr, rfl, rfl, g1, g2⟩ := h1.agg r hag
  obtain ⟨_, cs', arr', rfl, rfl, g1', g2'⟩ := h2.agg r hag
  exact eq_ok (P := P) 9992 8 t w _ cs cs' _ _ l1 (by simpa [Value.cells] using g1) (by simpa [Value.cells] using g1') g2 g2'

theorem run_find {t : TypeId} {i : TI} (r : Row P t i) {k : V} {c : Value} (hk : KV i k c) (w : World) (es : List MapEntry) (ks : List V) (hl : es.length = ks.length)
    (he : ∀ (j : Nat) (e : MapEntry) (u : V), es[j]? = some e → ks[j]? = some u → KV i u e.key) :
    (Instr.findKey t c es).run P w = .ok ((findK k ks).bind fun j => (es[j]?).map fun e => (j, e.val)) w := by
  cases hag : i.kind.isAgg
  · refine run_findKey r.hd ?_
    have key : ∀ (es : List MapEntry) (ks : List V) (s : Nat), es.length = ks.length → (∀ (j : Nat) (e : MapEntry) (u : V), es[j]? = some e → ks[j]? = some u → KV i u e.key) →
        Instr.findNow r.d c es s = some ((findK k ks).bind fun j => (es[j]?).map fun e => (s + j, e.val)) := by
      intro es
      induction es with
      | nil => intro ks s hl _; obtain rfl := List.eq_nil_of_length_eq_zero hl.symm; rfl
      | cons e es ih =>
        intro ks s hl he
        match ks, hl, he with
        | u :: ks, hl, he =>
          have h0 := he 0 e u rfl rfl
          obtain ⟨b, hb, hiff⟩ := sameNow_of_keys (hk.plain r hag) (h0.plain r hag)
          have hc : cellsEqv k.cells u.cells = b := by
            rw [Bool.eq_iff_iff, kv_inj hk h0, hiff]
          unfold Instr.findNow findK
          rw [hb, hc]
          cases b
          · simp only
            rw [ih ks (s + 1) (by simpa using hl) (fun j e u h1 h2 => he (j + 1) e u (by simpa using h1) (by simpa using h2))]
            cases findK k ks <;> simp [Nat.add_assoc, Nat.add_comm 1]
          · simp
    have := key es ks 0 hl he
    simpa using this
  · have ask : ∀ (es : List MapEntry) (ks : List V) (s : Nat), es.length = ks.length → (∀ (j : Nat) (e : MapEntry) (u : V), es[j]? = some e → ks[j]? = some u → KV i u e.key) →
        (Instr.findAsking t c es s).run P w = .ok ((findK k ks).bind fun j => (es[j]?).map fun e => (s + j, e.val)) w := by
      intro es
      induction es with
      | nil => intro ks s hl _; obtain rfl := List.eq_nil_of_length_eq_zero hl.symm; rfl
      | cons e es ih =>
        intro ks s hl he
        match ks, hl, he with
        | u :: ks, hl, he =>
          have h0 := he 0 e u rfl rfl
          unfold Instr.findAsking findK
          simp only [Sem.run_bind, run_eqKey r hk h0 hag, Result.andThen_ok]
          cases hc : cellsEqv k.cells u.cells
          · simp only [Bool.false_eq_true, if_false]
            rw [ih ks (s + 1) (by simpa using hl) (fun j e u h1 h2 => he (j + 1) e u (by simpa using h1) (by simpa using h2))]
            cases findK k ks <;> simp [Nat.add_assoc, Nat.add_comm 1]
          · simp
    unfold Instr.findKey
    simp only [Sem.run_bind, run_underlying r.hd, Result.andThen_ok]
    have hnow : Instr.findNow r.d c es 0 = none ∨ es = [] := by
      cases es with
      | nil => exact .inr rfl
      | cons e es =>
        left
        obtain ⟨_, cs, arr, _, rfl, _, _⟩ := hk.agg r hag
        unfold Instr.findNow
        cases r.d <;> rfl
    rcases hnow with hn | rfl
    · rw [hn]
      have := ask es ks 0 hl he
      simpa using this
    · obtain rfl := List.eq_nil_of_length_eq_zero hl.symm
      rfl

theorem findK_some {k : V} : ∀ {ks : List V} {j : Nat}, findK k ks = some j → ∃ u, ks[j]? = some u ∧ cellsEqv k.cells u.cells = true
  | [], j, h => by simp [findK] at h
  | u :: ks, j, h => by
    unfold findK at h
    cases hc : cellsEqv k.cells u.cells <;> simp only [hc] at h
    · rw [Option.map_eq_some_iff] at h
      obtain ⟨m, h1, rfl⟩ := h
      obtain ⟨v, g1, g2⟩ := findK_some h1
      exact ⟨v, by simpa using g1, g2⟩
    · injection h with h; subst h
      exact ⟨u, rfl, hc⟩

theorem run_stays {i : TI} {t : TypeId} (r : Row P t i) {k : V} {c : Value} (h : KV i k c) (w : World) : (Instr.keyThatStays c c).run P w = .ok c w := by
  cases hag : i.kind.isAgg
  · exact run_keyThatStays (h.plain r hag)
  · obtain ⟨_, cs, arr, rfl, rfl, g1, _⟩ := h.agg r hag
    have hs : Instr.sameBits 10000 (.agg arr) (.agg arr) = true := by
      show Instr.sameBits (9999 + 1) (.agg arr) (.agg arr) = true
      simp only [Instr.sameBits, beq_self_eq_true, Bool.true_and, List.all_eq_true]
      intro p hp
      obtain ⟨j, hj, e⟩ := List.getElem_of_mem hp
      rw [List.getElem_zip] at e
      have hlt : j < arr.toList.length := by simp at hj; simpa using hj
      have hl := g1.2.2 j (i.leaves[j]'(by rw [← g1.2.1]; exact hlt)) (cs[j]'(by rw [g1.1, ← g1.2.1]; exact hlt)) arr.toList[j] (List.getElem?_eq_getElem _) (List.getElem?_eq_getElem _) (List.getElem?_eq_getElem _)
      rw [← e]
      generalize arr.toList[j] = x at hl
      generalize i.leaves[j]'(by rw [← g1.2.1]; exact hlt) = q at hl
      generalize cs[j]'(by rw [g1.1, ← g1.2.1]; exact hlt) = y at hl
      cases q <;> cases y <;> cases x <;> simp [leafB] at hl <;> simp [Instr.sameBits, bytes_beq]
    simp [Instr.keyThatStays, hs]


/-! ### Operations -/
theorem xr_of_kv {own : Own} {β : Nat → Nat} {w : World} {id : Nat} {i : TI} {k : V} {c : Value} (h : KV i k c) : XR own β w id k c ∧ k.flat = true := by
  have leaf : ∀ {q : TK} {v : V} {c : Value}, leafB q v c = true → FR own w v c ∧ flatC v = true ∧ okBelow (id + 1) v = true := fun {q v c} h => by
    cases q <;> cases v <;> cases c <;> simp [leafB] at h
    · subst h; exact ⟨.bool _, rfl, rfl⟩
    · obtain ⟨rfl, rfl, rfl⟩ := h; exact ⟨.int _ _, rfl, rfl⟩
    · subst h; exact ⟨.str _, rfl, rfl⟩
  unfold KV at h
  cases hag : i.kind.isAgg <;> simp only [hag] at h
  · obtain ⟨h1, h2, h3⟩ := leaf h
    have hone : k.cells = [k] := by cases k <;> first | rfl | (cases hk : i.kind <;> simp [hk, leafB] at h)
    obtain ⟨g1, g2⟩ := VR_of_FR (β := β) (L := fun _ => .im) h1
    exact ⟨⟨g1, g2, by rw [hone]; simp [h3]⟩, by simp [V.flat, hone, h2]⟩
  · obtain ⟨cs, arr, rfl, rfl, _, g1, g2, g3⟩ := h
    have each : ∀ (j : Nat) (v : V) (c : Value), cs[j]? = some v → arr[j]? = some c → FR own w v c ∧ flatC v = true ∧ okBelow (id + 1) v = true := fun j v c hv hc => by
      have hlt := (List.getElem?_eq_some_iff.1 hv).1
      exact leaf (g3 j (i.leaves[j]'(by omega)) v c (List.getElem?_eq_getElem _) hv (by simpa using hc))
    have all : ∀ v ∈ cs, flatC v = true ∧ okBelow (id + 1) v = true := fun v hv => by
      obtain ⟨j, hj⟩ := List.getElem?_of_mem hv
      have hlt := (List.getElem?_eq_some_iff.1 hj).1
      have hs : j < arr.size := by rw [← Array.length_toList]; omega
      exact (each j v arr[j] hj (Array.getElem?_eq_getElem hs)).2
    refine ⟨⟨⟨arr, rfl, by rw [← Array.length_toList]; omega, fun j v c hv hc => CR_of_FR (each j v c hv hc).1⟩, ?_, ?_⟩, ?_⟩
    · simp only [noEx, List.all_eq_true]
      intro v hv
      have := (all v hv).1
      cases v <;> first | rfl | (simp [flatC] at this)
    · simp only [V.cells, List.all_eq_true]; exact fun v hv => (all v hv).2
    · simp only [V.flat, V.cells, List.all_eq_true]; exact fun v hv => (all v hv).1

theorem opd_kv (h : SR own β w σ a.tmps) {x : Operand} {i : TI} (hk : keyFits i (opd σ.env x) = true) : KV i (opd σ.env x) (a.eval x) := by
  have hw : isWay (opd σ.env x) = false := by
    unfold keyFits at hk
    cases hv : opd σ.env x <;> first
      | rfl
      | (rw [hv] at hk; cases hag : i.kind.isAgg <;> simp only [hag] at hk <;> first | (cases hk; done) | (cases hq : i.kind <;> simp [hq, leafV] at hk))
  have ht := opd_TR h x hw
  refine kv_of (own := own) (β := β) (w := w) (L := opL x 0) hk ?_
  cases hv : opd σ.env x <;> first
    | (rw [hv] at ht; exact ht)
    | (rw [hv] at hk; unfold keyFits at hk; cases hag : i.kind.isAgg <;> simp only [hag] at hk <;> first | (cases hk; done) | (cases hq : i.kind <;> simp [hq, leafV] at hk))

theorem kv_old {id : Nat} {u : V} {c : Value} {i : TI} (h : XR own β w id u c) (hf : keyFits i u = true) : KV i u c := kv_of (own := own) (β := β) (w := w) (L := fun _ => .im) hf h.1

theorem takeMap_ok (h : SR own β w σ a.tmps) {x : Operand} {v : V} {ps : List (Place × V)} (ht : takeMap σ x = some (v, ps)) :
    ∃ o1, Nxt own β w σ a o1 β w (setPlaces σ ps) a ∧ VR o1 β w (fun _ => .im) v (a.eval x) ∧ noEx v = true := by
  unfold takeMap at ht
  split at ht
  · rename_i sz n xs hv
    split at ht
    · rename_i t htm
      obtain rfl := tmpOf_some htm
      injection ht with ht; injection ht with h1 h2; subst h1; subst h2
      obtain ⟨o1, c, g1, g2, g3, _⟩ := Nxt.freeze (p := .slot t) h hv
      simp only [conc] at g2; injection g2 with g2; subst g2
      exact ⟨o1, g1, VR_of_FR g3⟩
    · cases ht
  · rename_i p hv
    obtain ⟨sz, n, xs, q1, q2⟩ := opd_lent h hv
    simp only [q1] at ht
    injection ht with ht; injection ht with h1 h2; subst h1; subst h2
    obtain ⟨o1, c, g1, g2, g3, _⟩ := Nxt.freeze h q1
    rw [q2] at g2; injection g2 with g2; subst g2
    exact ⟨o1, g1, VR_of_FR g3⟩
  · rename_i cs hv
    split at ht
    · rename_i hc
      injection ht with ht; injection ht with h1 h2; subst h1; subst h2
      have := opd_TR h x (by rw [hv]; rfl)
      rw [hv] at this
      have hn : noEx (.agg cs) = true := by
        simp only [noEx, List.all_eq_true] at hc ⊢
        intro y hy
        have := hc y hy
        cases y <;> first | rfl | (simp [plainM] at this)
      exact ⟨own, Nxt.refl h, VR.place (L := opL x 0) this hn, hn⟩
    · cases ht
  · rename_i v' hne1 hne2 hne3
    split at ht
    · rename_i hp
      injection ht with ht; injection ht with h1 h2; subst h1; subst h2
      cases hv : opd σ.env x <;> rw [hv] at hp <;> simp only [plainM] at hp <;> try (cases hp; done)
      all_goals
        have := opd_TR h x (by rw [hv]; rfl)
        rw [hv] at this
        exact ⟨own, Nxt.refl h, VR.place (L := opL x 0) this rfl, rfl⟩
    · cases ht

theorem Row.zeroRun {t : TypeId} {i : TI} (r : Row P t i) (w : World) : (zeroValue t).run P w = .ok r.z w := by
  simp [zeroValue, typeInfo, r.hinfo, r.hz]

theorem Row.zeroVR {t : TypeId} {i : TI} (r : Row P t i) (own : Own) (β : Nat → Nat) (w : World) (L : Nat → Loc) : VR own β w L i.zero r.z ∧ noEx i.zero = true ∧ isWay i.zero = false := by
  have hc := r.hzc own w
  have hl := r.hzl
  have hs := r.hzs
  by_cases hag : i.kind.isAgg = true
  · obtain ⟨arr, hz⟩ := r.hagg.1 hag
    cases hzz : i.zero with
    | agg cs =>
      rw [hzz, hz] at hc
      rw [hzz] at hl; rw [hz] at hs
      simp only [V.cells] at hl hc
      simp only [Value.cells] at hs hc
      have hn : ∀ (j : Nat) (v : V) , cs[j]? = some v → ∃ c, arr[j]? = some c ∧ FR own w v c := fun j v hv => by
        have hlt := (List.getElem?_eq_some_iff.1 hv).1
        exact ⟨arr[j]'(by omega), Array.getElem?_eq_getElem _, hc j v _ hv (Array.getElem?_eq_getElem _)⟩
      rw [hz]
      refine ⟨⟨arr, rfl, by omega, fun j v c hv hcv => CR_of_FR (hc j v c hv hcv)⟩, ?_, rfl⟩
      simp only [noEx, List.all_eq_true]
      intro v hv
      obtain ⟨j, hj⟩ := List.getElem?_of_mem hv
      obtain ⟨c, _, hf⟩ := hn j v hj
      exact notEx_of_plain (plain_of_FR hf)
    | _ => have := r.hzk; rw [hzz, hag] at this; simp [isAggV] at this
  · have hk := r.hzk
    have h1 := r.one (by simpa using hag)
    have hna : isAggV i.zero = false := by rw [hk]; simpa using hag
    have hcell : i.zero.cells = [i.zero] := by cases hz : i.zero <;> first | rfl | (rw [hz] at hna; simp [isAggV] at hna)
    have hzc : r.z.cells = #[r.z] := by
      have : ¬ ∃ arr, r.z = .agg arr := fun hx => hag (r.hagg.2 hx)
      cases hz : r.z <;> first | rfl | exact absurd ⟨_, hz⟩ this
    have hf : FR own w i.zero r.z := hc 0 _ _ (by rw [hcell]; rfl) (by rw [hzc]; rfl)
    obtain ⟨g1, g2⟩ := VR_of_FR (β := β) (L := L) hf
    exact ⟨g1, g2, by have := plain_of_FR hf; cases hz : i.zero <;> rw [hz] at this <;> first | rfl | (simp [plainC] at this)⟩

theorem ok_makeMap {T : Types} {call : CallF} {cx : Cx} {fr : Nat} (h : Hyp P T o own β w σ a) {t : TypeId} {n : Option Operand} (ho : o.op = .makeMap t n) {e : Eff}
    (he : eff T call cx fr o σ = some e) : OpOk P o own β w σ a (apply σ o.dst e) := by
  simp only [eff, ho] at he
  have key : ∀ kt et, kindOf T t = some (.map kt et) → (fr < σ.heap.length ∧ bcells σ.heap fr = none) → (∀ x, n = some x → ∃ k m, opd σ.env x = .int k m) →
      OpOk P o own β w σ a (apply σ o.dst { val := .ref .map fr, mem := .init fr [.mp [] []] }) := by
    intro kt et hk hc hx
    obtain ⟨i, r, hki⟩ := kindOf_row h.T hk
    have hu := kind_map r hki
    obtain ⟨o1, β1, g1, g2, g3, g4, g5⟩ := h.sr.lay (id := fr) (cs := [.mp [] []]) (.map #[] 0) hc.1 hc.2 (fun own' β' hk hb hl h1 h2 =>
      .inr ⟨h1, .mp [] [], .map #[] 0, rfl, by rw [h2]; exact heap_alloc_new w _, #[], rfl, rfl, rfl, by simp⟩)
    have hrun : (execOp a.eval o).run P w = .ok (.value (.map (some w.heap.size))) (w.alloc (.map #[] 0)) := by
      cases n with
      | none => simp [execOp, ho, Instr.makeMap, run_newObj_alloc]
      | some x =>
        obtain ⟨k, m, hm⟩ := hx x rfl
        have := opd_int h.sr hm
        simp [execOp, ho, Instr.makeMap, run_newObj_alloc, run_underlying hu, this, asInt, asIntOf]
    refine OpOk.value (σ1 := setMem σ (.init fr [.mp [] []])) hrun ⟨g1, g2, g3, rfl, rfl⟩ h.dst rfl ?_
    exact ⟨by rw [g4]; rfl, g5⟩
  split at he
  · rename_i kt et hk
    split at he
    · rename_i hc
      injection he with he; subst he
      exact key kt et hk hc (fun x hx => by cases hx)
    · cases he
  · rename_i kt et x hk
    split at he
    · rename_i k m hx
      split at he
      · rename_i hc
        injection he with he; subst he
        exact key kt et hk hc (fun y hy => by injection hy with hy; subst hy; exact ⟨k, m, hx⟩)
      · cases he
    · cases he
  · cases he

theorem ok_lookup {T : Types} {call : CallF} {cx : Cx} {fr : Nat} (h : Hyp P T o own β w σ a) {t : TypeId} {m k : Operand} {ok : Bool} (ho : o.op = .lookup t m k ok) {e : Eff}
    (he : eff T call cx fr o σ = some e) : OpOk P o own β w σ a (apply σ o.dst e) := by
  simp only [eff, ho, Option.map_eq_some_iff] at he
  obtain ⟨v, hv, rfl⟩ := he
  unfold lookupAt at hv
  split at hv
  case h_2 => cases hv
  rename_i kt et hk
  obtain ⟨i, r, hki⟩ := kindOf_row h.T hk
  have hu := kind_map r hki
  split at hv
  case h_2 => cases hv
  rename_i ki ei hTk hTe
  obtain ⟨rk⟩ := Row.of h.T hTk
  obtain ⟨re⟩ := Row.of h.T hTe
  split at hv
  case h_2 => cases hv
  rename_i ks vs hmv
  split at hv
  case isFalse => cases hv
  rename_i hc
  have hkv := opd_kv h.sr hc.1
  have hz := re.zeroVR own β w (fun _ => .im)
  -- what comes out
  have fin : ∀ (x : V) (c : Value) (b : Bool), VR own β w (fun _ => .im) x c → noEx x = true → isWay x = false →
      (execOp a.eval o).run P w = .ok (.value (if ok then .tuple #[c, .bool b] else c)) w → OpOk P o own β w σ a (put σ o.dst (okV ok x b)) := by
    intro x c b g1 g2 g3 hrun
    cases ok
    · refine OpOk.value hrun (Nxt.refl h.sr) h.dst g3 (TR_of_VR g1 g2)
    · refine OpOk.value hrun (Nxt.refl h.sr) h.dst rfl ⟨#[c, .bool b], rfl, rfl, fun j u d hu hd => ?_⟩
      match j with
      | 0 => simp at hu hd; subst hu; subst hd; exact VR.place g1 g2
      | 1 => simp at hu hd; subst hu; subst hd; exact FR.bool b
      | j + 2 => simp at hu
  rcases mapView_ok h.sr hmv with ⟨hxe, rfl, rfl⟩ | ⟨id, _, hb, hxe, hown, ob, g2, es, rfl, g3, g4, g5⟩
  · simp only [findK] at hv
    injection hv with hv; subst hv
    refine fin _ re.z false hz.1 hz.2.1 hz.2.2 ?_
    have hf := run_find rk hkv w [] [] rfl (by simp)
    simp only [findK, Option.bind_none] at hf
    cases ok <;> simp [execOp, ho, Instr.lookup, run_underlying hu, hxe, run_check rk hkv, hf, re.zeroRun]
  · have hall : ∀ (j : Nat) (e : MapEntry) (u : V), es.toList[j]? = some e → ks[j]? = some u → KV ki u e.key := fun j e u he hu => by
      obtain ⟨_, q1, _⟩ := g5 j e (by simpa using he)
      exact kv_old (q1 u hu).1 (List.all_eq_true.1 hc.2 u (List.mem_of_getElem? hu))
    have hf := run_find rk hkv w es.toList ks (by simpa using g3) hall
    cases hfk : findK (opd σ.env k) ks with
    | none =>
      simp only [hfk] at hv hf
      injection hv with hv; subst hv
      refine fin _ re.z false hz.1 hz.2.1 hz.2.2 ?_
      simp only [Option.bind_none] at hf
      cases ok <;> simp [execOp, ho, Instr.lookup, run_underlying hu, hxe, run_objMap g2, run_check rk hkv, hf, re.zeroRun]
    | some j =>
      simp only [hfk] at hv hf
      cases hvj : vs[j]? with
      | none => simp [hvj] at hv
      | some x =>
        simp only [hvj] at hv
        injection hv with hv; subst hv
        have hlt : j < es.size := by have := (List.getElem?_eq_some_iff.1 hvj).1; omega
        obtain ⟨_, _, q2⟩ := g5 j es[j] (Array.getElem?_eq_getElem hlt)
        obtain ⟨p1, p2, _⟩ := q2 x hvj
        simp only [Option.bind_some, Array.getElem?_toList, Array.getElem?_eq_getElem hlt, Option.map_some] at hf
        refine fin _ es[j].val true p1 p2 ?_ ?_
        · cases x <;> first | rfl | (simp only [VR, CR] at p1; cases p1)
        · cases ok <;> simp [execOp, ho, Instr.lookup, run_underlying hu, hxe, run_objMap g2, run_check rk hkv, hf]

theorem setPlaces_heap' : ∀ (ps : List (Place × V)) (σ : St), ps.all isSlot = true → (setPlaces σ ps).heap = σ.heap
  | [], _, _ => rfl
  | (.slot t, v) :: ps, σ, h => by
    simp only [List.all_cons, Bool.and_eq_true] at h
    simp only [setPlaces]
    rw [setPlaces_heap' ps _ h.2]; rfl
  | (.cell _ _, _) :: _, _, h => by simp [isSlot] at h

theorem ok_update {T : Types} (h : Hyp P T o own β w σ a) {t : TypeId} {m k x : Operand} (ho : o.op = .mapUpdate t m k x ∨ o.op = .insert t m k x) {e : Eff}
    (he : updateAt T σ t m k x = some e) : OpOk P o own β w σ a (apply σ o.dst e) := by
  unfold updateAt at he
  split at he
  case h_2 => cases he
  rename_i kt et id ks vs v ps hk hm ht
  obtain ⟨i, r, hki⟩ := kindOf_row h.T hk
  have hu := kind_map r hki
  split at he
  case h_2 => cases he
  rename_i ki ei hTk hTe
  obtain ⟨rk⟩ := Row.of h.T hTk
  split at he
  case isFalse => cases he
  rename_i hc
  obtain ⟨c1, c2, c3, c4, c5⟩ := hc
  injection he with he; subst he
  have hkv := opd_kv h.sr c1
  obtain ⟨o1, h1, q1, q2⟩ := takeMap_ok h.sr ht
  -- the map
  have hmm : opd σ.env m = .ref .map id ∧ bcells σ.heap id = some [.mp ks vs] := by
    unfold mapOf at hm
    split at hm
    · rename_i id' hv
      split at hm
      · rename_i ks' vs' hb
        injection hm with hm; injection hm with e1 e2; injection e2 with e2 e3
        subst e1; subst e2; subst e3
        exact ⟨hv, hb⟩
      · cases hm
    · cases hm
  obtain ⟨hxe, hown⟩ := opd_ref h.sr hmm.1
  simp only [refVal] at hxe
  have hb1 : bcells (setPlaces σ ps).heap id = some [.mp ks vs] := by rw [setPlaces_heap' ps σ c5]; exact hmm.2
  obtain ⟨_, ob, g2, es, rfl, g3, g4, g5⟩ := (h1.sr.heap.blk id _ hb1).spec rfl
  have hall : ∀ (j : Nat) (e : MapEntry) (u : V), es.toList[j]? = some e → ks[j]? = some u → KV ki u e.key := fun j e u he hu => by
    obtain ⟨_, q1, _⟩ := g5 j e (by simpa using he)
    exact kv_old (q1 u hu).1 (List.all_eq_true.1 c2 u (List.mem_of_getElem? hu))
  have hf := run_find rk hkv w es.toList ks (by simpa using g3) hall
  have hlt : β id < w.heap.size := (Array.getElem?_eq_some_iff.1 g2).1
  have hxv : XR o1 β w id v (a.eval x) := ⟨q1, q2, c4⟩
  have fin : ∀ (es' : Array MapEntry), es'.size = es'.size → (execOp a.eval o).run P w = .ok .skip { w with heap := w.heap.setIfInBounds (β id) (.map es' es'.size) } → OR o1 β w id (mapPut ks vs (opd σ.env k) v) (.map es' es'.size) →
      OpOk P o own β w σ a (put (setMem (setPlaces σ ps) (.set id 0 [mapPut ks vs (opd σ.env k) v])) o.dst .undef) := by
    intro es' _ hrun hor
    refine OpOk.skip hrun (h1.trans (h1.sr.putSpec hb1 rfl (fun b hb => ?_) (by simp) rfl rfl rfl ?_ hor)) h.dst
    · simp [Array.getElem?_setIfInBounds_ne (Ne.symm hb)]
    · simp [hlt]
  cases hfk : findK (opd σ.env k) ks with
  | none =>
    rw [hfk] at hf
    simp only [Option.bind_none] at hf
    have hsz : (es.push { key := a.eval k, val := a.eval x, born := es.size }).size = es.size + 1 := by simp
    refine fin (es.push { key := a.eval k, val := a.eval x, born := es.size }) rfl ?_ ?_
    · rw [hsz]
      rcases ho with ho | ho <;> simp [execOp, ho, Instr.mapUpdate, run_underlying hu, hxe, run_objMap g2, run_check rk hkv, hf, run_setObj_map _ g2]
    · simp only [mapPut, hfk]
      refine ⟨_, rfl, by simp [g3], by simp [g4], fun j e he => ?_⟩
      rw [Array.getElem?_push] at he
      split at he
      · rename_i hj
        injection he with he; subst he; subst hj
        refine ⟨rfl, fun k' hk' => ?_, fun v' hv' => ?_⟩
        · rw [List.getElem?_append_right (by omega), g3] at hk'
          simp at hk'; subst hk'
          exact xr_of_kv hkv
        · rw [List.getElem?_append_right (by omega), show es.size - vs.length = 0 by omega] at hv'
          simp at hv'; subst hv'
          exact hxv
      · obtain ⟨p1, p2, p3⟩ := g5 j e he
        have hj := (Array.getElem?_eq_some_iff.1 he).1
        refine ⟨p1, fun k' hk' => p2 k' ?_, fun v' hv' => p3 v' ?_⟩
        · rwa [List.getElem?_append_left (by omega)] at hk'
        · rwa [List.getElem?_append_left (by omega)] at hv'
  | some j =>
    rw [hfk] at hf
    obtain ⟨u, hu1, hu2⟩ := findK_some hfk
    have hj : j < es.size := by have := (List.getElem?_eq_some_iff.1 hu1).1; omega
    have hkeq : a.eval k = es[j].key := (kv_inj hkv (hall j es[j] u (by simp [hj]) hu1)).1 hu2
    simp only [Option.bind_some, Array.getElem?_toList, Array.getElem?_eq_getElem hj, Option.map_some] at hf
    have hst := run_stays rk hkv w
    have hsz : (es.modify j fun e => { e with key := a.eval k, val := a.eval x }).size = es.size := by simp
    refine fin (es.modify j fun e => { e with key := a.eval k, val := a.eval x }) rfl ?_ ?_
    · rw [hsz]
      rcases ho with ho | ho <;> simp [execOp, ho, Instr.mapUpdate, run_underlying hu, hxe, run_objMap g2, run_check rk hkv, hf, Array.getElem?_eq_getElem hj, ← hkeq, hst, run_setObj_map _ g2]
    · simp only [mapPut, hfk]
      refine ⟨_, rfl, by simp [g3], by simp [g4], fun j' e he => ?_⟩
      rw [Array.getElem?_modify] at he
      split at he
      · rename_i hjj; subst hjj
        rw [Array.getElem?_eq_getElem hj] at he
        simp only [Option.map_some, Option.some.injEq] at he
        subst he
        obtain ⟨p1, p2, p3⟩ := g5 j es[j] (Array.getElem?_eq_getElem hj)
        refine ⟨p1, fun k' hk' => ?_, fun v' hv' => ?_⟩
        · rw [List.getElem?_set_self (by omega)] at hk'
          injection hk' with hk'; subst hk'
          exact xr_of_kv hkv
        · rw [List.getElem?_set_self (by omega)] at hv'
          injection hv' with hv'; subst hv'
          exact hxv
      · rename_i hjj
        obtain ⟨p1, p2, p3⟩ := g5 j' e he
        refine ⟨p1, fun k' hk' => p2 k' ?_, fun v' hv' => p3 v' ?_⟩
        · rwa [List.getElem?_set_ne hjj] at hk'
        · rwa [List.getElem?_set_ne hjj] at hv'

end
end Go.Vm
end

section
/- V18E: functions that are told by a contract of their own: slices.Delete. -/
namespace Go.Vm
open Go

/-- What slices.Delete is at elements of so many cells, when it is handed an array whole. -/
def DelOk (P : Program) (f : FuncId) (sz : Nat) : Prop :=
  (∃ fn, P.funcs[f]? = some fn ∧ fn.name ≠ "runtime.NumGoroutine" ∧ fn.body.isSome = true) ∧
  ∀ (w : World) (b n cap : Nat) (T : TypeId) (arr : Array Value) (i j : Nat), w.heap[b]? = some (.cells arr T (0, 0)) → n ≤ cap → arr.size = cap * sz →
    (∀ m c, m < n * sz → arr[m]? = some c → c.oneCell' = true) → i ≤ j → j ≤ n →
    Calls P f #[.slice (some ⟨b, 0, none⟩) n cap, .int .i64 i, .int .i64 j] w fun e w' => e = .returned (.slice (some ⟨b, 0, none⟩) (n - (j - i)) cap) ∧
      ∃ arr', w'.heap[b]? = some (.cells arr' T (0, 0)) ∧ arr'.size = arr.size ∧ (∀ m, m < (n - (j - i)) * sz → arr'[m]? = arr[if m < i * sz then m else m + (j - i) * sz]?) ∧
        (∀ k, k ≠ b → w'.heap[k]? = w.heap[k]?) ∧ w'.heap.size = w.heap.size ∧ w'.os = w.os ∧ w'.tape = w.tape ∧ w'.output = w.output

def CxOk (P : Program) (cx : Cx) : Prop := ∀ x ∈ cx.told, DelOk P x.1 x.2

theorem CxOk.lookup : ∀ {l : List (Nat × Nat)} {f sz : Nat}, l.lookup f = some sz → (f, sz) ∈ l
  | [], _, _, h => by simp at h
  | (g, s) :: l, f, sz, h => by
    rw [List.lookup_cons] at h
    split at h
    · rename_i he
      injection h with h; subst h
      rw [beq_iff_eq] at he; subst he
      exact List.mem_cons_self
    · exact List.mem_cons_of_mem _ (CxOk.lookup h)

section
variable {P : Program} {o : Oper} {own : Own} {β : Nat → Nat} {w : World} {σ : St} {a : Act}

theorem ok_delete {T : Types} {cx : Cx} (hC : CxOk P cx) (h : Hyp P T o own β w σ a) {c : Call} (ho : o.op = .call c) {f : Operand} (hb : c.callee = .value f) {sz : Nat}
    (hf : toldOf cx (opd σ.env f) = some sz) {e : Eff} (he : deleteAt sz σ c.args.toList = some e) : OpOk P o own β w σ a (apply σ o.dst e) := by
  have hsr := h.sr
  unfold toldOf at hf
  split at hf
  case h_2 => cases hf
  rename_i fid hfv
  obtain ⟨⟨fn, q1, q2, q3⟩, hD⟩ : DelOk P fid sz := hC _ (CxOk.lookup hf)
  have hfe := opd_TR hsr f (by rw [hfv]; rfl)
  rw [hfv] at hfe
  obtain ⟨ca, cb, hce, hc1, hc2, hc3, hc4⟩ := hfe
  have hca : ca = #[] := Array.eq_empty_of_size_eq_zero (by simpa using hc1)
  have hcb : cb = #[] := Array.eq_empty_of_size_eq_zero (by simpa using hc2)
  subst hca; subst hcb
  unfold deleteAt at he
  split at he
  case h_2 => cases he
  rename_i x i j hargs
  split at he
  case h_2 => cases he
  rename_i n xs ps i' j' hbase hi hj
  split at he
  case isFalse => cases he
  rename_i hcond
  obtain ⟨c1, c2, c3, c4⟩ := hcond
  injection he with he; subst he
  obtain ⟨o1, h1, h2, ρ, hr, rfl⟩ := base_ok hsr hbase
  have hargs' : c.args = #[x, i, j] := by rw [← Array.toList_inj]; simpa using hargs
  rcases h2 with ⟨rfl, _⟩ | ⟨rfl, _⟩ | ⟨rfl, b, cap, T', arr, hx, hb2, hb3, hb4, hb5, hb6⟩
  · simp at c4
  · simp at c4
  obtain ⟨bd, q3'⟩ := Option.isSome_iff_exists.1 q3
  have ei := opd_int hsr hi
  have ej := opd_int hsr hj
  have ni : ((i'.toNat : Nat) : Int) = i' := Int.toNat_of_nonneg c1
  have nj : ((j'.toNat : Nat) : Int) = j' := Int.toNat_of_nonneg (by omega)
  have hrun : (execOp a.eval o).run P w = .ok (.enter fid #[.slice (some ⟨b, 0, none⟩) xs.length cap, .int .i64 (i'.toNat : Nat), .int .i64 (j'.toNat : Nat)]) w := by
    rw [ni, nj]
    simp [execOp, ho, resolve, hb, hce, Deferred.ofValue, invoke, callFunc, q1, q2, q3', hargs', hx, ei, ej]
  have hone : ∀ m c, m < xs.length * sz → arr[m]? = some c → c.oneCell' = true := fun m c hm hc => by
    have hsz : 0 < sz := by
      rcases Nat.eq_zero_or_pos sz with h0 | h0
      · subst h0; simp at hm
      · exact h0
    have hi : m / sz < xs.length := Nat.div_lt_of_lt_mul (by rw [Nat.mul_comm]; exact hm)
    obtain ⟨g1, g2⟩ := hb6 (m / sz) _ (List.getElem?_eq_getElem hi)
    have hj : m % sz < (xs[m / sz]).cells.length := by rw [g1]; exact Nat.mod_lt _ hsz
    exact (g2 (m % sz) _ c (List.getElem?_eq_getElem hj) (by rw [Nat.mul_comm, Nat.div_add_mod]; exact hc)).one
  have hij : i'.toNat ≤ j'.toNat := by omega
  have hjn : j'.toNat ≤ xs.length := by omega
  refine OpOk.call hrun ((hD w b xs.length cap T' arr i'.toNat j'.toNat hb3 hb4 hb5 hone hij hjn).mono ?_) h.dst
  rintro e w' ⟨rfl, arr', g1, g2, g3, g4, g5, g6, g7, g8⟩
  obtain ⟨s1, s2⟩ := h1.sr.pokeRes hb2 g5 g4 g6 g7 g8
  have hlen : (xs.take i'.toNat ++ xs.drop j'.toNat).length = xs.length - (j'.toNat - i'.toNat) := by simp; omega
  refine ⟨_, _, _, rfl, h1.trans ⟨s1, s2, BX.refl _ _, rfl, rfl⟩, .inr (.inr ⟨rfl, b, cap, T', arr', by rw [hlen], hb2, g1, by rw [hlen]; omega, by rw [g2]; exact hb5, fun k y hk => ?_⟩)⟩
  have hk' : k < xs.length - (j'.toNat - i'.toNat) := by rw [← hlen]; exact (List.getElem?_eq_some_iff.1 hk).1
  have hsrc : xs[if k < i'.toNat then k else k + (j'.toNat - i'.toNat)]? = some y := by
    rw [List.getElem?_append] at hk
    have hl : (xs.take i'.toNat).length = i'.toNat := by simp; omega
    rw [hl] at hk
    split at hk
    · rename_i hlt
      rw [if_pos hlt]
      rwa [List.getElem?_take, if_pos hlt] at hk
    · rename_i hlt
      rw [if_neg hlt]
      rw [List.getElem?_drop] at hk
      rw [← hk]; congr 1; omega
  obtain ⟨f1, f2⟩ := hb6 _ y hsrc
  refine ⟨f1, fun m v c hv hc => ?_⟩
  have hm : m < sz := by rw [← f1]; exact (List.getElem?_eq_some_iff.1 hv).1
  refine (f2 m v c hv ?_).mono fun b' hb' => ⟨hb', g4 b' fun he => ?_⟩
  · rw [← hc, g3 (k * sz + m) (by
      have : (k + 1) * sz ≤ (xs.length - (j'.toNat - i'.toNat)) * sz := Nat.mul_le_mul_right _ hk'
      rw [Nat.succ_mul] at this; omega)]
    by_cases hlt : k < i'.toNat
    · have : (k + 1) * sz ≤ i'.toNat * sz := Nat.mul_le_mul_right _ hlt
      rw [Nat.succ_mul] at this
      rw [if_pos hlt, if_pos (by omega)]
    · have : i'.toNat * sz ≤ k * sz := Nat.mul_le_mul_right _ (by omega)
      rw [if_neg hlt, if_neg (by omega), Nat.add_mul]
      congr 1; omega
  · subst he; have := hb2.symm.trans hb'; cases this

end
end Go.Vm
end

section
/- V19: every operation; regions in their text's order. -/
namespace Go.Vm
open Go

section
variable {P : Program} {o : Oper} {own : Own} {β : Nat → Nat} {w : World} {σ : St} {a : Act}

theorem ok_eff {T : Types} {call : CallF} {cx : Cx} {fr : Nat} (hS : Sound P call) (hC : CxOk P cx) (h : Hyp P T o own β w σ a) {e : Eff}
    (he : eff T call cx fr o σ = some e) (hnd : ∀ d, o.dst = some d → e.val.refsTo (.slot d) = false) : OpOk P o own β w σ a (apply σ o.dst e) := by
  cases ho : o.op
  case move x => exact ok_move h ho (by simpa only [eff, ho] using he) hnd
  case assign x =>
    have he' := he
    simp only [eff, ho] at he'
    cases hd : o.dst with
    | none => simp [hd] at he'
    | some d => simp only [hd] at he'; rw [← hd]; exact ok_assign h ho he' hnd
  case pick c x y => exact ok_pick h ho he
  case alloc t => exact ok_alloc h ho he
  case box t x => exact ok_box h ho he
  case build t parts => exact ok_build h ho he
  case buildSlice t l parts => exact ok_buildSlice h ho he
  case load t x => exact ok_load h ho he hnd
  case store t p x => exact ok_store h ho he
  case nilCheck x => exact ok_nilCheck h ho he
  case binOp op t x y g => exact ok_binOp h ho he
  case unOp op t x => exact ok_unOp h ho he
  case convert s t x => exact ok_convert h ho he
  case makeFunc f x y => exact ok_makeFunc h ho he
  case slice t x lo hi mx => exact ok_slice h ho he
  case fieldAddr t p f => exact ok_fieldAddr h ho he hnd
  case field t x f => exact ok_field h ho he
  case indexAddr t x k => exact ok_indexAddr h ho he hnd
  case index t x k => exact ok_index h ho he
  case extract x j => exact ok_extract h ho he
  case makeSlice t l c => exact ok_makeSlice h ho he
  case makeMap t n => exact ok_makeMap h ho he
  case insert t m k x => exact ok_update h (.inr ho) (by simpa only [eff, ho] using he)
  case mapUpdate t m k x => exact ok_update h (.inl ho) (by simpa only [eff, ho] using he)
  case lookup t m k ok => exact ok_lookup h ho he
  case call c =>
    simp only [eff, ho] at he
    cases hb : c.callee with
    | builtin b =>
      simp only [hb] at he
      cases b <;> simp only [builtinAt] at he <;> try (cases he; done)
      · exact ok_append h ho hb he
      · exact ok_len h ho hb he
      · exact ok_mm h ho (big := true) hb he
      · exact ok_mm h ho (big := false) hb he
    | value f =>
      simp only [hb] at he
      cases ht : toldOf cx (opd σ.env f) with
      | some sz =>
        simp only [ht] at he
        exact ok_delete hC h ho hb ht he
      | none =>
        simp only [ht] at he
        cases hv : views σ c.args.toList with
        | none => simp [hv] at he
        | some vp =>
          obtain ⟨vs, ps⟩ := vp
          simp only [hv] at he
          exact ok_call hS h ho hb hv he
    | invoke x m => simp [hb] at he
  all_goals (simp [eff, ho] at he)

end
end Go.Vm
end

section
/- V20: regions in their text's order; what is forgotten. -/
namespace Go.Vm
open Go

section
variable {P : Program} {o : Oper} {own : Own} {β : Nat → Nat} {w : World} {σ : St} {a : Act}

theorem SR.forget {σ' : St} (h : SR own β w σ a.tmps) (hh : σ'.heap = σ.heap) (hg : ∀ t, get σ'.env t = get σ.env t ∨ get σ'.env t = .undef)
    (hr : ∀ t x, (get σ'.env t).refsTo (.slot x) = true → get σ'.env x = get σ.env x) : SR own β w σ' a.tmps := by
  refine ⟨fun t => ?_, by rw [hh]; exact h.heap⟩
  rcases hg t with e | e
  · have ht := h.env t
    have lk : ∀ p, (get σ'.env t).refsTo p = true → look σ' p = look σ p := fun p hp => by
      cases p with
      | slot x => exact hr t x hp
      | cell id off => simp only [look, hh]
    rw [e]
    cases hv : get σ.env t with
    | lent p =>
      rw [hv] at ht
      obtain ⟨sz, n, xs, q1, q2⟩ := ht
      exact ⟨sz, n, xs, by rw [lk p (by rw [e, hv]; simp [V.refsTo])]; exact q1, q2⟩
    | xptr p i off =>
      rw [hv] at ht
      obtain ⟨sz, n, xs, b, len, cap, q1, q2⟩ := ht
      exact ⟨sz, n, xs, b, len, cap, by rw [lk p (by rw [e, hv]; simp [V.refsTo])]; exact q1, q2⟩
    | _ => rw [hv] at ht; exact ht
  · rw [e]; exact ER.undef _ _ _ _ _ _ _

theorem get_mapped (env : Env) : ∀ (l : List Nat) (t : Nat), get (l.map fun t => (t, get env t)) t = if t ∈ l then get env t else .undef
  | [], t => rfl
  | u :: l, t => by
    simp only [List.map_cons, get]
    by_cases h : u = t
    · subst h; simp
    · rw [if_neg h, get_mapped env l t]
      simp [h, Ne.symm h, eq_comm]
theorem get_append : ∀ (e1 e2 : Env) (t : Nat), get (e1 ++ e2) t = bif (e1.any fun x => x.1 == t) then get e1 t else get e2 t
  | [], e2, t => rfl
  | (u, v) :: e1, e2, t => by
    simp only [List.cons_append, get, List.any_cons]
    by_cases h : u = t
    · subst h; simp
    · have hb : (u == t) = false := by simpa using h
      rw [if_neg h, if_neg h, get_append e1 e2 t, hb, Bool.false_or]

theorem slotRef_of {v : V} {x : Nat} (h : v.refsTo (.slot x) = true) : slotRef v = some x := by
  cases v <;> simp [V.refsTo] at h
  · rename_i p i off; subst h; rfl
  · rename_i p; subst h; rfl

theorem get_prune (l : List Nat) (t : Nat) : get (prune (some l) σ).env t = if t ∈ l ∨ ∃ u ∈ l, slotRef (get σ.env u) = some t then get σ.env t else .undef := by
  simp only [prune]
  rw [get_append]
  have h1 : ((l.map fun t => (t, get σ.env t)).any fun x => x.1 == t) = decide (t ∈ l) := by
    rw [Bool.eq_iff_iff]
    simp
  rw [h1, get_mapped, get_mapped]
  by_cases ht : t ∈ l
  · simp [ht]
  · simp only [ht, decide_false, cond_false, false_or]
    have : (t ∈ (l.map fun t => (t, get σ.env t)).filterMap fun x => slotRef x.2) ↔ ∃ u ∈ l, slotRef (get σ.env u) = some t := by
      simp
    simp only [this]

theorem SR.prune (h : SR own β w σ a.tmps) (k : Option (List Nat)) : SR own β w (Vm.prune k σ) a.tmps := by
  cases k with
  | none => exact h
  | some l =>
    refine h.forget rfl (fun t => ?_) (fun t x hx => ?_)
    · rw [get_prune]; split <;> simp
    · rw [get_prune] at hx ⊢
      split at hx
      · rename_i ht
        rw [if_pos]
        right
        rcases ht with ht | ⟨u, hu, he⟩
        · exact ⟨t, ht, slotRef_of hx⟩
        · -- the owner is no way
          have hu' := h.env u
          have hex : ∃ sz n xs, get σ.env t = .ex sz n xs := by
            cases hv : get σ.env u <;> rw [hv] at he hu' <;> simp [slotRef] at he
            · rename_i p i off
              cases p <;> simp at he
              subst he
              obtain ⟨sz, n, xs, b, len, cap, q1, _⟩ := hu'
              exact ⟨sz, n, xs, q1⟩
            · rename_i p
              cases p <;> simp at he
              subst he
              obtain ⟨sz, n, xs, q1, _⟩ := hu'
              exact ⟨sz, n, xs, q1⟩
          obtain ⟨sz, n, xs, hex⟩ := hex
          rw [hex] at hx; simp [V.refsTo] at hx
      · simp [V.refsTo] at hx

theorem bcells_reserve (H : Heap) (k id : Nat) : bcells (H ++ List.replicate k .dead) id = bcells H id := by
  unfold bcells
  rcases Nat.lt_or_ge id H.length with hlt | hge
  · rw [List.getElem?_append_left hlt]
  · rw [List.getElem?_append_right hge, List.getElem?_replicate, List.getElem?_eq_none hge]
    split <;> rename_i hq <;> split at hq <;> simp at hq ⊢
theorem SR.reserve (h : SR own β w σ a.tmps) (ops : Array Oper) : SR own β w (reserve ops σ) a.tmps ∧ BX β β σ.heap (reserve ops σ).heap := by
  refine ⟨⟨fun t => ?_, fun id cs hi => h.heap.blk id cs (by rw [← bcells_reserve]; exact hi), fun b id hb => ?_, h.heap.lt⟩, by simp [Vm.reserve], fun id cs hi => ⟨rfl, cs, by simp only [Vm.reserve]; rw [bcells_reserve]; exact hi⟩⟩
  · have ht := h.env t
    have lk : ∀ p, look (Vm.reserve ops σ) p = look σ p := fun p => by
      cases p with
      | slot x => rfl
      | cell id off => simp only [look, Vm.reserve]; rw [bcells_reserve]
    show ER own β w _ _ t (get σ.env t) _
    cases hv : get σ.env t with
    | lent p =>
      rw [hv] at ht
      obtain ⟨sz, n, xs, q1, q2⟩ := ht
      exact ⟨sz, n, xs, by rw [lk p]; exact q1, q2⟩
    | xptr p i off =>
      rw [hv] at ht
      obtain ⟨sz, n, xs, b, len, cap, q1, q2⟩ := ht
      exact ⟨sz, n, xs, b, len, cap, by rw [lk p]; exact q1, q2⟩
    | _ => rw [hv] at ht; exact ht
  · obtain ⟨e, cs, hc⟩ := h.heap.inv b id hb
    exact ⟨e, cs, by simp only [Vm.reserve]; rw [bcells_reserve]; exact hc⟩

theorem wants_ok {ops : Array Oper} (h : SR own β w σ a.tmps) {b : Bool} (hw : wants ops σ.env o = some b) : Region.wanted o (yielded ops a.tmps) = b := by
  unfold wants at hw
  unfold Region.wanted
  split at hw
  · rename_i hg; rw [hg]; injection hw
  · rename_i j want hg
    rw [hg]
    simp only
    split at hw
    · rename_i t ht
      split at hw
      · rename_i c hc
        injection hw with hw; subst hw
        have he : a.tmps.getD t undef = .bool c := opd_bool (a := a) h (x := .tmp t) hc
        have hy : yielded ops a.tmps j = some c := by
          unfold yielded
          rw [ht]
          simp only [Option.bind_some]
          rcases Nat.lt_or_ge t a.tmps.size with hlt | hge
          · rw [Array.getElem?_eq_getElem hlt]
            have : a.tmps[t] = .bool c := by rw [← he]; simp [hlt]
            rw [this]
          · rw [Array.getD_eq_getD_getElem?, Array.getElem?_eq_none hge] at he; simp [undef] at he
        rw [hy]
        cases c <;> cases want <;> rfl
      · rename_i hc
        injection hw with hw; subst hw
        have he := h.env t
        rw [hc] at he
        obtain ⟨arr, he, _⟩ := he
        have hy : yielded ops a.tmps j = none := by
          unfold yielded
          rw [ht]
          simp only [Option.bind_some]
          rcases Nat.lt_or_ge t a.tmps.size with hlt | hge
          · rw [Array.getElem?_eq_getElem hlt]
            have : a.tmps[t] = .tuple arr := by rw [← he]; simp [hlt]
            rw [this]
          · rw [Array.getElem?_eq_none hge]
        rw [hy]
        cases want <;> rfl
      · cases hw
    · cases hw

/-- An operation, with its guard. -/
theorem ok_vop {T : Types} {call : CallF} {cx : Cx} {fr : Nat} {ops : Array Oper} (hS : Sound P call) (hC : CxOk P cx) (h : Hyp P T o own β w σ a) {σ' : St} (hv : vop T call cx ops fr o σ = some σ')
    (r : Option Nat) (K : Act → World → Prop) (Q : Exit → Act → World → Prop) (hK : ∀ own' β' w' a', Nxt own β w σ a own' β' w' σ' a' → K a' w') :
    if Region.wanted o (yielded ops a.tmps) then o.wpIn (Fw r) 0 P a w K Q else (∀ f, o.about P w a.eval = some f → (Fw r).fn f) ∧ K (a.put o.dst undef) w := by
  unfold vop effG at hv
  split at hv
  · rename_i hw
    rw [wants_ok h.sr hw]
    simp only [if_true]
    split at hv
    · rename_i e he
      have hnd : ∀ d, o.dst = some d → e.val.refsTo (.slot d) = false := fun d hd => by
        cases hq : e.val.refsTo (.slot d) with
        | false => rfl
        | true => simp [hd, hq] at hv
      have hv' : apply σ o.dst e = σ' := by
        cases hd : o.dst with
        | none => rw [hd] at hv; simpa using hv
        | some d => rw [hd] at hv; simpa [hnd d hd] using hv
      subst hv'
      exact ok_eff hS hC h he hnd r K Q hK
    · cases hv
  · rename_i hw
    rw [wants_ok h.sr hw]
    simp only [Bool.false_eq_true, if_false]
    simp only [Option.map_some] at hv
    injection hv with hv; subst hv
    obtain ⟨o3, h3⟩ := (Nxt.refl h.sr).put (c := undef) h.dst (v := .tup []) rfl ⟨#[], rfl, rfl, by simp⟩
    exact ⟨fun _ _ => trivial, hK _ _ _ _ h3⟩
  · cases hv

theorem ok_vops {T : Types} {call : CallF} {cx : Cx} {ops : Array Oper} (hS : Sound P call) (hC : CxOk P cx) (hT : TOk P T) (r : Option Nat) (Q : Exit → Act → World → Prop) : ∀ (l : List Oper) (fr : Nat) (own : Own) (β : Nat → Nat) (w : World) (σ : St) (a : Act) (σ' : St),
    SR own β w σ a.tmps → (∀ o ∈ l, ∀ d, o.dst = some d → d < a.tmps.size) → vops T call cx ops fr l σ = some σ' → (∀ own' β' w' a', Nxt own β w σ a own' β' w' σ' a' → Q .normal a' w') → wpListIn (Fw r) 0 P ops Q l a w
  | [], fr, own, β, w, σ, a, σ', h, hd, hv, hQ => by
    simp only [vops] at hv; injection hv with hv; subst hv
    exact hQ _ _ _ _ (Nxt.refl h)
  | o :: l, fr, own, β, w, σ, a, σ', h, hd, hv, hQ => by
    simp only [vops, Option.bind_eq_some_iff] at hv
    obtain ⟨σ1, h1, h2⟩ := hv
    unfold wpListIn
    refine ok_vop hS hC ⟨h, hd o (by simp), hT⟩ h1 r _ Q (fun own1 β1 w1 a1 hn => ?_)
    refine ok_vops hS hC hT r Q l _ own1 β1 w1 σ1 a1 σ' hn.sr (fun o ho d hd' => by rw [hn.size]; exact hd o (by simp [ho]) d hd') h2 (fun own' β' w' a' hn' => hQ _ _ _ _ (hn.trans hn'))


end
end Go.Vm
end

section
/- V26: what an operation reads. -/
namespace Go.Vm
open Go

/-- The same to all who look. -/
def Eqv (σ τ : St) : Prop := (∀ t, get σ.env t = get τ.env t) ∧ σ.heap = τ.heap
theorem Eqv.refl (σ : St) : Eqv σ σ := ⟨fun _ => rfl, rfl⟩
theorem Eqv.symm {σ τ : St} (h : Eqv σ τ) : Eqv τ σ := ⟨fun t => (h.1 t).symm, h.2.symm⟩
theorem Eqv.trans {σ τ υ : St} (h : Eqv σ τ) (k : Eqv τ υ) : Eqv σ υ := ⟨fun t => (h.1 t).trans (k.1 t), h.2.trans k.2⟩
theorem Eqv.setPlace {σ τ : St} (h : Eqv σ τ) (p : Place) (v : V) : Eqv (Vm.setPlace σ p v) (Vm.setPlace τ p v) := by
  cases p with
  | slot t =>
    refine ⟨fun u => ?_, h.2⟩
    simp only [Vm.setPlace, get]
    split
    · rfl
    · rw [get_kill, get_kill, h.1 u]
  | cell id off =>
    refine ⟨fun u => ?_, ?_⟩
    · simp only [Vm.setPlace]
      rw [get_kill, get_kill, h.1 u]
    · simp only [Vm.setPlace, h.2]
theorem Eqv.setPlaces : ∀ (ps : List (Place × V)) {σ τ : St}, Eqv σ τ → Eqv (Vm.setPlaces σ ps) (Vm.setPlaces τ ps)
  | [], _, _, h => h
  | (p, v) :: ps, _, _, h => Eqv.setPlaces ps (h.setPlace p v)
theorem Eqv.setMem {σ τ : St} (h : Eqv σ τ) (m : HE) : Eqv (Vm.setMem σ m) (Vm.setMem τ m) := by
  cases m with
  | keep => exact h
  | set id off cs =>
    refine ⟨fun t => ?_, by simp only [Vm.setMem, h.2]⟩
    simp only [Vm.setMem]
    rw [get_map (killIn id off cs.length) rfl, get_map (killIn id off cs.length) rfl, h.1 t]
  | init id cs => exact ⟨h.1, by simp only [Vm.setMem, h.2]⟩
  | all H =>
    refine ⟨fun t => ?_, rfl⟩
    simp only [Vm.setMem]
    rw [get_map killCell rfl, get_map killCell rfl, h.1 t]
  | put ks H =>
    refine ⟨fun t => ?_, by simp only [Vm.setMem, h.2]⟩
    simp only [Vm.setMem]
    rw [get_map (killCellsIn ks) rfl, get_map (killCellsIn ks) rfl, h.1 t]
theorem Eqv.put {σ τ : St} (h : Eqv σ τ) (d : Option Nat) (v : V) : Eqv (Vm.put σ d v) (Vm.put τ d v) := by
  cases d with
  | none => exact h
  | some d =>
    refine ⟨fun u => ?_, h.2⟩
    simp only [Vm.put, get]
    split
    · rfl
    · rw [get_kill, get_kill, h.1 u]
theorem Eqv.poke {σ τ : St} (h : Eqv σ τ) (x : Option (Nat × V)) : Eqv (Vm.pokeS σ x) (Vm.pokeS τ x) := by
  cases x with
  | none => exact h
  | some y =>
    refine ⟨fun t => ?_, h.2⟩
    simp only [Vm.pokeS]
    by_cases ht : y.1 = t
    · subst ht; rw [get_cons_same, get_cons_same]
    · rw [get_cons_ne _ _ ht, get_cons_ne _ _ ht]; exact h.1 t
theorem Eqv.apply {σ τ : St} (h : Eqv σ τ) (d : Option Nat) (e : Eff) : Eqv (Vm.apply σ d e) (Vm.apply τ d e) :=
  Eqv.put (Eqv.setMem (Eqv.setPlaces e.places (Eqv.poke h e.poke)) e.mem) d e.val
theorem Eqv.look {σ τ : St} (h : Eqv σ τ) (p : Place) : Vm.look σ p = Vm.look τ p := by
  cases p with
  | slot t => exact h.1 t
  | cell id off => simp only [Vm.look, h.2]
theorem Eqv.opd {σ τ : St} (h : Eqv σ τ) (x : Operand) : Vm.opd σ.env x = Vm.opd τ.env x := by cases x <;> first | rfl | exact h.1 _

section
variable {σ τ : St}
def placesB (id : Nat) : List (Place × V) → Option (List V) → Option (List V)
  | [], c => c
  | (.cell i off, v) :: ps, c => placesB id ps (if i = id then c.map (·.set off v) else c)
  | (.slot _, _) :: ps, c => placesB id ps c
theorem bcells_setPlace (p : Place) (v : V) (id : Nat) : bcells (setPlace σ p v).heap id = placesB id [(p, v)] (bcells σ.heap id) ∧ (setPlace σ p v).heap.length = σ.heap.length := by
  cases p with
  | slot t => exact ⟨rfl, rfl⟩
  | cell i off =>
    simp only [setPlace, placesB]
    cases hc : bcells σ.heap i with
    | none =>
      refine ⟨?_, rfl⟩
      simp only
      by_cases h : i = id
      · subst h; rw [hc]; simp
      · rw [if_neg h]
    | some cs =>
      refine ⟨?_, by simp⟩
      simp only
      rw [bcells_set (bcells_lt hc)]
      by_cases h : i = id
      · subst h; rw [hc]; simp
      · rw [if_neg (Ne.symm h), if_neg h]

theorem placesB_cons (id : Nat) (x : Place × V) (ps : List (Place × V)) (c : Option (List V)) : placesB id (x :: ps) c = placesB id ps (placesB id [x] c) := by
  obtain ⟨p, v⟩ := x
  cases p <;> rfl

theorem bcells_setPlaces : ∀ (ps : List (Place × V)) (σ : St) (id : Nat), bcells (setPlaces σ ps).heap id = placesB id ps (bcells σ.heap id) ∧ (setPlaces σ ps).heap.length = σ.heap.length
  | [], σ, id => ⟨rfl, rfl⟩
  | x :: ps, σ, id => by
    obtain ⟨h1, h2⟩ := bcells_setPlaces ps (setPlace σ x.1 x.2) id
    obtain ⟨g1, g2⟩ := bcells_setPlace (σ := σ) x.1 x.2 id
    exact ⟨by rw [placesB_cons]; simp only [setPlaces]; rw [h1, g1], by simp only [setPlaces]; rw [h2, g2]⟩

theorem heap_ext {H1 H2 : Heap} (hl : H1.length = H2.length) (h : ∀ id, bcells H1 id = bcells H2 id) : H1 = H2 := by
  apply List.ext_getElem hl
  intro i h1 h2
  have := h i
  unfold bcells at this
  rw [List.getElem?_eq_getElem h1, List.getElem?_eq_getElem h2] at this
  cases hx : H1[i] <;> cases hy : H2[i] <;> simp [hx, hy] at this
  · rfl
  · rw [this]


theorem more_sub (H : Heap) (l : List Nat) : ∀ i ∈ l, i ∈ more H l := by
  have key : ∀ (m acc : List Nat), ∀ i ∈ acc, i ∈ m.foldl (fun acc i => if acc.contains i then acc else acc ++ [i]) acc := by
    intro m
    induction m with
    | nil => intro acc i hi; exact hi
    | cons x m ih =>
      intro acc i hi
      simp only [List.foldl_cons]
      refine ih _ i ?_
      split
      · exact hi
      · simp [hi]
  exact fun i hi => key _ l i hi
theorem reach_sub (H : Heap) : ∀ (n : Nat) (l : List Nat), ∀ i ∈ l, i ∈ reach H n l
  | 0, _, i, hi => hi
  | n + 1, l, i, hi => reach_sub H n (more H l) i (more_sub H l i hi)
theorem reach_same {H K : Heap} : ∀ (n : Nat) (l : List Nat), (∀ i ∈ reach H n l, bcells H i = bcells K i) → reach K n l = reach H n l
  | 0, _, _ => rfl
  | n + 1, l, h => by
    have e : more K l = more H l := by
      unfold more
      have : l.flatMap (cellIds K) = l.flatMap (cellIds H) := by
        simp only [List.flatMap]
        congr 1
        refine List.map_congr_left fun i hi => ?_
        unfold cellIds
        rw [h i (reach_sub H n _ i (more_sub H l i hi))]
      rw [this]
    simp only [reach, e]
    exact reach_same n _ h
theorem maskH_same {H K : Heap} {ks : List Nat} (hl : H.length = K.length) (h : ∀ i, ks.contains i = true → bcells H i = bcells K i) : maskH ks K = maskH ks H := by
  refine heap_ext (by rw [maskH_length, maskH_length, hl]) fun id => ?_
  rw [bcells_mask, bcells_mask]
  split
  · rename_i hk; rw [h id hk]
  · rfl
theorem closedK_same {H K : Heap} {ks : List Nat} (h : ∀ i, ks.contains i = true → bcells H i = bcells K i) : closedK ks K = closedK ks H := by
  unfold closedK
  rw [Bool.eq_iff_iff, List.all_eq_true, List.all_eq_true]
  have : ∀ id ∈ ks, cellIds K id = cellIds H id := fun id hid => by unfold cellIds; rw [h id (by simpa using hid)]
  exact ⟨fun q id hid => by rw [← this id hid]; exact q id hid, fun q id hid => by rw [this id hid]; exact q id hid⟩
end

/-- Two states that agree on some operands, and on what these lead to. -/
structure Same (b : Bool) (xs : List Operand) (σ τ : St) : Prop where
  opd : ∀ x ∈ xs, opd σ.env x = opd τ.env x
  look : ∀ x ∈ xs, ∀ p, (Vm.opd σ.env x).refsTo p = true → look σ p = look τ p
  blk : b = true → ∀ x ∈ xs, ∀ id, blkOf (Vm.opd σ.env x) = some id → bcells σ.heap id = bcells τ.heap id

theorem Same.sub {b : Bool} {xs ys : List Operand} {σ τ : St} (h : Same b xs σ τ) (hs : ∀ y ∈ ys, y ∈ xs) : Same b ys σ τ :=
  ⟨fun x hx => h.opd x (hs x hx), fun x hx => h.look x (hs x hx), fun hb x hx => h.blk hb x (hs x hx)⟩

theorem Eqv.same {σ τ : St} (h : Eqv σ τ) (xs : List Operand) : Same true xs σ τ := ⟨fun x _ => h.opd x, fun _ _ p _ => h.look p, fun _ _ _ _ _ => by rw [h.2]⟩

section
variable {b : Bool} {σ τ : St} {x : Operand} {xs : List Operand}

theorem content_same (h : Same b xs σ τ) (hx : x ∈ xs) : content σ (opd σ.env x) = content τ (opd τ.env x) := by
  rw [← h.opd x hx]
  cases hv : opd σ.env x <;> simp only [content]
  rw [h.look x hx _ (by rw [hv]; simp [V.refsTo])]
theorem lenV_same (h : Same b xs σ τ) (hx : x ∈ xs) : lenV σ (opd σ.env x) = lenV τ (opd τ.env x) := by
  have hc := content_same h hx
  rw [← h.opd x hx] at hc ⊢
  unfold lenV
  split
  · rfl
  · rw [hc]
theorem base_same {sz : Nat} (h : Same b xs σ τ) (hx : x ∈ xs) : base sz σ x = base sz τ x := by
  unfold base
  rw [← h.opd x hx]
  cases hv : opd σ.env x
  case lent p => simp only [h.look x hx p (by rw [hv]; simp [V.refsTo])]
  case sl b ys => cases b <;> cases ys <;> rfl
  all_goals rfl
theorem take_same (h : Same b xs σ τ) (hx : x ∈ xs) : take σ x = take τ x := by
  unfold take
  rw [← h.opd x hx]
  cases hv : opd σ.env x <;> simp only
  rw [h.look x hx _ (by rw [hv]; simp [V.refsTo])]
theorem takeDat_same (h : Same b xs σ τ) (hx : x ∈ xs) : takeDat σ x = takeDat τ x := by
  unfold takeDat
  rw [← h.opd x hx]
  cases hv : opd σ.env x <;> simp only
  rw [h.look x hx _ (by rw [hv]; simp [V.refsTo])]
theorem view_same (h : Same b xs σ τ) (hx : x ∈ xs) : view σ x = view τ x := by
  unfold view
  rw [← h.opd x hx]
  cases hv : opd σ.env x <;> simp only
  rw [h.look x hx _ (by rw [hv]; simp [V.refsTo])]
theorem views_same (h : Same b xs σ τ) : ∀ (l : List Operand), (∀ x ∈ l, x ∈ xs) → views σ l = views τ l
  | [], _ => rfl
  | x :: l, hl => by
    simp only [views, view_same h (hl x (by simp)), views_same h l (fun y hy => hl y (by simp [hy]))]
theorem numOf_same (h : Same b xs σ τ) {o : Option Operand} (ho : ∀ x, o = some x → x ∈ xs) (d : Int) : numOf σ o d = numOf τ o d := by
  unfold numOf
  cases o with
  | none => rfl
  | some x => simp only [h.opd x (ho x rfl)]
theorem ncells_same {id : Nat} (h : bcells σ.heap id = bcells τ.heap id) : ncells σ.heap id = ncells τ.heap id := by unfold ncells; rw [h]
theorem mapView_same (h : Same true xs σ τ) (hx : x ∈ xs) : mapView σ (opd σ.env x) = mapView τ (opd τ.env x) := by
  unfold mapView
  rw [← h.opd x hx]
  cases hv : opd σ.env x <;> try rfl
  rename_i m id
  cases m <;> try rfl
  simp only
  rw [h.blk rfl x hx id (by rw [hv]; rfl)]
theorem mapOf_same (h : Same true xs σ τ) (hx : x ∈ xs) : mapOf σ (opd σ.env x) = mapOf τ (opd τ.env x) := by
  unfold mapOf
  rw [← h.opd x hx]
  cases hv : opd σ.env x <;> try rfl
  rename_i m id
  cases m <;> try rfl
  simp only
  rw [h.blk rfl x hx id (by rw [hv]; rfl)]
theorem takeMap_same (h : Same b xs σ τ) (hx : x ∈ xs) : takeMap σ x = takeMap τ x := by
  unfold takeMap
  rw [← h.opd x hx]
  cases hv : opd σ.env x <;> simp only
  rw [h.look x hx _ (by rw [hv]; simp [V.refsTo])]
theorem updateAt_same {T : Types} {t : Nat} {m k : Operand} (h : Same true xs σ τ) (hm : m ∈ xs) (hk : k ∈ xs) (hx : x ∈ xs) : updateAt T σ t m k x = updateAt T τ t m k x := by
  unfold updateAt
  rw [mapOf_same h hm, takeMap_same h hx, h.opd k hk]
theorem lookupAt_same {T : Types} {t : Nat} {m k : Operand} {ok : Bool} (h : Same true xs σ τ) (hm : m ∈ xs) (hk : k ∈ xs) : lookupAt T σ t m k ok = lookupAt T τ t m k ok := by
  unfold lookupAt
  rw [mapView_same h hm, h.opd k hk]
theorem loadAt_same (h : Same true xs σ τ) (hx : x ∈ xs) (i : TI) : loadAt i σ (opd σ.env x) = loadAt i τ (opd τ.env x) := by
  unfold loadAt
  rw [← h.opd x hx]
  cases hv : opd σ.env x <;> simp only
  · rw [ncells_same (h.blk rfl x hx _ (by rw [hv]; rfl))]
  · rw [h.look x hx _ (by rw [hv]; simp [V.refsTo])]
theorem storeAt_same {p : Operand} (h : Same true xs σ τ) (hp : p ∈ xs) (hx : x ∈ xs) (i : TI) : storeAt i σ (opd σ.env p) x = storeAt i τ (opd τ.env p) x := by
  unfold storeAt
  rw [← h.opd p hp, take_same h hx, takeDat_same h hx]
  cases hv : opd σ.env p <;> simp only
  · rw [ncells_same (h.blk rfl p hp _ (by rw [hv]; rfl))]
  · rw [h.look p hp _ (by rw [hv]; simp [V.refsTo])]
theorem indexAt_same (h : Same b xs σ τ) (hx : x ∈ xs) (T : Types) (i : TI) (k : Int) : indexAt T i σ x k = indexAt T i τ x k := by
  unfold indexAt
  rw [← h.opd x hx]
  cases hv : opd σ.env x <;> try rfl
  case ref m id => cases m <;> rfl
  simp only
  rw [h.look x hx _ (by rw [hv]; simp [V.refsTo])]

theorem takes_nil {f : St → Operand → Option (V × List (Place × V))} (hf : ∀ x ∈ xs, f σ x = f τ x) : ∀ (l : List (Nat × Operand)) (vs : List (Nat × V)), (∀ x ∈ l, x.2 ∈ xs) → takes f σ l = some (vs, []) → takes f τ l = some (vs, [])
  | [], vs, _, h => by simpa [takes] using h
  | (i, x) :: l, vs, hl, h => by
    simp only [takes] at h ⊢
    rw [← hf x (hl (i, x) (by simp))]
    cases h1 : f σ x with
    | none => simp [h1] at h
    | some vp =>
      obtain ⟨v, ps⟩ := vp
      simp only [h1] at h ⊢
      cases h2 : takes f (setPlaces σ ps) l with
      | none => simp [h2] at h
      | some vq =>
        obtain ⟨vs', qs⟩ := vq
        simp only [h2] at h
        injection h with h
        injection h with e1 e2
        obtain ⟨rfl, rfl⟩ := List.append_eq_nil_iff.1 e2
        simp only [setPlaces] at h2 ⊢
        rw [takes_nil hf l vs' (fun y hy => hl y (by simp [hy])) h2]
        simp [e1]

theorem takes_eqv {f : St → Operand → Option (V × List (Place × V))} (hf : ∀ (σ τ : St) x, Eqv σ τ → f σ x = f τ x) : ∀ (l : List (Nat × Operand)) {σ τ : St}, Eqv σ τ → takes f σ l = takes f τ l
  | [], _, _, _ => rfl
  | (i, x) :: l, σ, τ, h => by
    simp only [takes]
    rw [hf σ τ x h]
    cases f τ x with
    | none => rfl
    | some vp => simp only; rw [takes_eqv hf l (h.setPlaces vp.2)]

theorem callGo_same {call : CallF} {f : FuncId} {vs : List V} {ids : List Nat} {ps : List (Place × V)} {e : Eff} (he : callGo call σ f vs ids ps = some e) (hc : ∀ H, e.mem ≠ .all H)
    (hput : ∀ ks H, e.mem = .put ks H → σ.heap.length = τ.heap.length ∧ ∀ id, ks.contains id = true → bcells σ.heap id = bcells τ.heap id) : callGo call τ f vs ids ps = some e := by
  unfold callGo at he ⊢
  simp only at he ⊢
  split at he
  · rename_i hd
    rw [if_pos hd]
    split at he
    · exact he
    · injection he with he; subst he
      exact absurd rfl (hc _)
    · cases he
  · rename_i hd
    rw [if_neg hd]
    generalize hks : reach (setPlaces σ ps).heap (setPlaces σ ps).heap.length (ids ++ argIds vs) = ks at he
    split at he
    · rename_i hcl
      split at he
      · rename_i r H' hcall
        split at he
        · rename_i hdead
          split at he
          · rename_i hlen
            injection he with he
            have hm : e.mem = .put ks H' := by rw [← he]
            obtain ⟨q1, q2⟩ := hput ks H' hm
            have l1 : (setPlaces σ ps).heap.length = (setPlaces τ ps).heap.length := by rw [(bcells_setPlaces ps σ 0).2, (bcells_setPlaces ps τ 0).2, q1]
            have l2 : ∀ id, ks.contains id = true → bcells (setPlaces σ ps).heap id = bcells (setPlaces τ ps).heap id := fun id hid => by
              rw [(bcells_setPlaces ps σ id).1, (bcells_setPlaces ps τ id).1, q2 id hid]
            have e1 : reach (setPlaces τ ps).heap (setPlaces τ ps).heap.length (ids ++ argIds vs) = ks := by
              rw [← l1, reach_same _ _ (fun i hi => l2 i (by rw [← hks]; simpa using hi)), hks]
            rw [e1, closedK_same l2, if_pos hcl, maskH_same l1 l2, hcall]
            simp only
            rw [← l1, if_pos hdead, if_pos hlen, he]
          · injection he with he; subst he
            exact absurd rfl (hc _)
        · cases he
      · cases he
    · cases he

theorem callAt_same {call : CallF} {f : V} {args : List V} {ps : List (Place × V)} {e : Eff} (he : callAt call σ f args ps = some e) (hc : ∀ H, e.mem ≠ .all H)
    (hput : ∀ ks H, e.mem = .put ks H → σ.heap.length = τ.heap.length ∧ ∀ id, ks.contains id = true → bcells σ.heap id = bcells τ.heap id) : callAt call τ f args ps = some e := by
  unfold callAt at he ⊢
  split at he
  · split at he
    · rename_i hl; simp only [hl, if_true]; exact callGo_same he hc hput
    · cases he
  · exact callGo_same he hc hput
  · cases he

theorem vbin_same {op : BinOp} {i : TI} {b : Bool} {X Y : V} (c1 : content σ X = content τ X) (c2 : content σ Y = content τ Y) : vbin op i b σ X Y = vbin op i b τ X Y := by
  unfold vbin
  split <;> first
    | rfl
    | rw [c1, c2]

theorem eff_same {T : Types} {call : CallF} {cx : Cx} {fr : Nat} {o : Oper} {e : Eff} (he : eff T call cx fr o σ = some e) (hc : calm o e = true ∨ Eqv σ τ) (h : Same (derefs o) o.op.operands.toList σ τ)
    (hput : ∀ ks H, e.mem = .put ks H → σ.heap.length = τ.heap.length ∧ ∀ id, ks.contains id = true → bcells σ.heap id = bcells τ.heap id)
    (hfr : isFresh o = true → σ.heap.length = τ.heap.length ∧ bcells σ.heap fr = bcells τ.heap fr) : eff T call cx fr o τ = some e := by
  have mem : ∀ x, x ∈ o.op.operands → x ∈ o.op.operands.toList := fun x hx => by simpa using hx
  cases ho : o.op <;> simp only [ho, Go.Op.operands] at h
  case move x =>
    simp only [eff, ho] at he ⊢
    unfold moveAt at he ⊢
    rw [← h.opd x (by simp)]; exact he
  case pick c x y =>
    simp only [eff, ho] at he ⊢
    rw [← h.opd c (by simp), ← h.opd x (by simp), ← h.opd y (by simp)]; exact he
  case load t x =>
    simp only [eff, ho] at he ⊢
    cases hT : T t <;> simp only [hT] at he ⊢
    · exact he
    · rw [← loadAt_same (by simpa [derefs, ho] using h) (by simp)]; exact he
  case nilCheck x =>
    simp only [eff, ho] at he ⊢
    rw [← h.opd x (by simp)]; exact he
  case unOp op t x =>
    simp only [eff, ho] at he ⊢
    rw [← h.opd x (by simp)]; exact he
  case convert s t x =>
    simp only [eff, ho] at he ⊢
    rw [← h.opd x (by simp)]; exact he
  case fieldAddr t p f =>
    simp only [eff, ho] at he ⊢
    rw [← h.opd p (by simp)]; exact he
  case field t p f =>
    simp only [eff, ho] at he ⊢
    rw [← h.opd p (by simp)]; exact he
  case assign x =>
    simp only [eff, ho] at he ⊢
    cases hd : o.dst <;> simp only [hd] at he ⊢
    · exact he
    · unfold assignAt at he ⊢
      rw [← h.opd x (by simp)]
      cases hv : opd σ.env x <;> simp only [hv] at he ⊢ <;> try exact he
      · rename_i b ys
        cases b <;> cases ys <;> exact he
      · rw [← h.look x (by simp) _ (by rw [hv]; simp [V.refsTo])]; exact he
  case alloc t =>
    simp only [eff, ho] at he ⊢
    obtain ⟨h1, h2⟩ := hfr (by simp [isFresh, ho])
    rw [← h1, ← h2]; exact he
  case box t x =>
    simp only [eff, ho] at he ⊢
    obtain ⟨h1, h2⟩ := hfr (by simp [isFresh, ho])
    rw [← h1, ← h2, ← take_same h (by simp)]; exact he
  case build t ps =>
    simp only [eff, ho] at he ⊢
    cases hT : T t <;> cases ht : takes take σ ps.toList <;> simp only [hT, ht] at he <;> try (cases he; done)
    rename_i i vp
    obtain ⟨vs, qs⟩ := vp
    rcases hc with hc | hc
    case inr => rw [← takes_eqv (f := take) (fun _ _ x h => take_same (h.same [x]) (by simp)) ps.toList hc, ht]; exact he
    have hq : qs = [] := by
      simp only [calm, ho, Bool.and_eq_true, List.isEmpty_iff] at hc
      simp only at he
      cases hk : i.kind <;> simp only [hk] at he <;> try (cases he; done)
      · rename_i n el
        cases hel : T el <;> simp only [hel] at he
        · cases he
        · split at he
          · injection he with he; subst he; exact hc.2
          · cases he
      · rename_i fs
        split at he
        · cases he
        · split at he
          · injection he with he; subst he; exact hc.2
          · cases he
    subst hq
    rw [takes_nil (fun x hx => take_same h hx) ps.toList vs (fun x hx => by simpa using ⟨x.1, by simpa using hx⟩) ht]
    exact he
  case buildSlice t n ps =>
    simp only [eff, ho] at he ⊢
    have e1 : Eqv σ τ → takes takeDat σ ps.toList = takes takeDat τ ps.toList := fun hq => takes_eqv (f := takeDat) (fun _ _ x h => takeDat_same (h.same [x]) (by simp)) ps.toList hq
    have e2 : Eqv σ τ → takes takeMap σ ps.toList = takes takeMap τ ps.toList := fun hq => takes_eqv (f := takeMap) (fun _ _ x h => takeMap_same (h.same [x]) (by simp)) ps.toList hq
    cases hk : kindOf T t <;> cases ht : takes takeDat σ ps.toList <;> simp only [hk, ht] at he <;> try (cases he; done)
    · rename_i k
      cases k <;> simp only at he <;> try (cases he; done)
      rename_i el
      rcases hc with hc | hc
      · unfold buildRef at he
        split at he
        · split at he
          · injection he with he; subst he; simp [calm] at hc
          · cases he
        · cases he
      · rw [← e1 hc, ht]
        simp only
        unfold buildRef at he ⊢
        rw [← e2 hc, ← hc.2]; exact he
    · rename_i k vp
      obtain ⟨vs, qs⟩ := vp
      rcases hc with hc | hc
      case inr => rw [← takes_eqv (f := takeDat) (fun _ _ x h => takeDat_same (h.same [x]) (by simp)) ps.toList hc, ht]; cases k <;> simp only at he ⊢ <;> first | exact he | (cases he; done)
      have hq : qs = [] := by
        simp only [calm, ho, Bool.and_eq_true, List.isEmpty_iff] at hc
        cases k <;> simp only at he <;> try (cases he; done)
        rename_i el
        cases hel : T el <;> simp only [hel] at he
        · cases he
        · split at he
          · injection he with he; subst he; exact hc.2
          · cases he
      subst hq
      rw [takes_nil (fun x hx => takeDat_same h hx) ps.toList vs (fun x hx => by simpa using ⟨x.1, by simpa using hx⟩) ht]
      cases k <;> simp only at he ⊢ <;> first | exact he | (cases he; done)
  case store t p x =>
    simp only [eff, ho] at he ⊢
    cases hT : T t <;> simp only [hT] at he ⊢
    · exact he
    · rw [← storeAt_same (by simpa [derefs, ho] using h) (by simp) (by simp)]; exact he
  case binOp op t x y g =>
    simp only [eff, ho] at he ⊢
    cases hT : T t <;> simp only [hT] at he ⊢
    · exact he
    · rename_i i
      have hb : vbinop op i (isConst x || isConst y) σ (opd σ.env x) (opd σ.env y) = vbinop op i (isConst x || isConst y) τ (opd τ.env x) (opd τ.env y) := by
        have c1 := content_same h (x := x) (by simp)
        have c2 := content_same h (x := y) (by simp)
        rw [← h.opd x (by simp), ← h.opd y (by simp)] at *
        unfold vbinop
        cases i.kind.isAgg
        · exact vbin_same c1 c2
        · rfl
      rw [← hb]; exact he
  case makeFunc fn first captured =>
    simp only [eff, ho] at he ⊢
    have e1 : first.toList.map (opd τ.env) = first.toList.map (opd σ.env) := List.map_congr_left fun x hx => (h.opd x (by simp; left; simpa using hx)).symm
    have e2 : captured.toList.map (opd τ.env) = captured.toList.map (opd σ.env) := List.map_congr_left fun x hx => (h.opd x (by simp; right; simpa using hx)).symm
    rw [e1, e2]; exact he
  case slice t x lo hi mx =>
    simp only [eff, ho] at he ⊢
    have e1 : sliceAt T τ t x lo hi mx = sliceAt T σ t x lo hi mx := by
      unfold sliceAt
      rw [← h.opd x (by simp)]
      cases kindOf T t with
      | none => rfl
      | some k =>
        cases k <;> simp only
        cases hv : opd σ.env x <;> simp only
        rw [← numOf_same h (o := lo) (fun y hy => by simp [hy]), ← numOf_same h (o := hi) (fun y hy => by simp [hy])]
        cases mx with
        | none => rfl
        | some m => simp only [← numOf_same h (o := some m) (fun y hy => by simp at hy; simp [hy])]
    rw [e1]; exact he
  case indexAddr t x k =>
    simp only [eff, ho] at he ⊢
    rw [← h.opd k (by simp)]
    cases hT : T t <;> cases hk : opd σ.env k <;> simp only [hT, hk] at he ⊢ <;> try exact he
    rw [← indexAt_same h (by simp)]; exact he
  case index t x k =>
    simp only [eff, ho] at he ⊢
    rw [← h.opd k (by simp), ← h.opd x (by simp)]; exact he
  case extract x j =>
    simp only [eff, ho] at he ⊢
    rw [← h.opd x (by simp)]; exact he
  case makeMap t n =>
    simp only [eff, ho] at he ⊢
    obtain ⟨h1, h2⟩ := hfr (by simp [isFresh, ho])
    rw [← h1, ← h2]
    cases hk : kindOf T t with
    | none => simp [hk] at he
    | some kk =>
      cases n with
      | none => cases kk <;> simp only [hk] at he ⊢ <;> exact he
      | some n => cases kk <;> simp only [hk] at he ⊢ <;> first | exact he | (rw [← h.opd n (by simp)]; exact he)
  case insert t m k x =>
    simp only [eff, ho] at he ⊢
    rw [← updateAt_same (by simpa [derefs, ho] using h) (by simp) (by simp) (by simp)]; exact he
  case mapUpdate t m k x =>
    simp only [eff, ho] at he ⊢
    rw [← updateAt_same (by simpa [derefs, ho] using h) (by simp) (by simp) (by simp)]; exact he
  case lookup t m k ok =>
    simp only [eff, ho] at he ⊢
    rw [← lookupAt_same (by simpa [derefs, ho] using h) (by simp) (by simp)]; exact he
  case makeSlice t l c =>
    simp only [eff, ho] at he ⊢
    rw [← h.opd l (by simp), ← h.opd c (by simp)]; exact he
  case call c =>
    simp only [eff, ho] at he ⊢
    cases hcal : c.callee with
    | invoke x m => simp [hcal] at he
    | builtin b =>
      have hargs : ∀ x, x ∈ c.args.toList → x ∈ c.operands.toList := fun x hx => by simp [Call.operands]; exact .inr (by simpa using hx)
      simp only [hcal] at he ⊢
      cases b <;> simp only [builtinAt] at he ⊢ <;> try (cases he; done)
      · unfold appendAt at he ⊢
        split at he <;> try (cases he; done)
        rename_i s x t tx ha ht
        rw [ha] at hargs
        try simp only [ha, ht]
        rw [← content_same h (hargs x (by simp))]
        split at he <;> try (cases he; done)
        rename_i el el' m ys k1 k2 k3
        try simp only [k1, k2, k3]
        cases hel : T el <;> simp only [hel] at he ⊢
        · exact he
        · rw [← base_same h (hargs s (by simp))]; exact he
      · unfold lenAt at he ⊢
        split at he <;> try (cases he; done)
        rename_i x t ha ht
        rw [ha] at hargs
        try simp only [ha, ht]
        have hm := mapView_same (by simpa [derefs, ho, hcal] using h) (hargs x (by simp))
        rw [← lenV_same h (hargs x (by simp)), ← hm, ← h.opd x (hargs x (by simp))]; exact he
      · unfold mmAt at he ⊢
        split at he <;> try (cases he; done)
        rename_i x y ha
        rw [ha] at hargs
        try simp only [ha]
        rw [← h.opd x (hargs x (by simp)), ← h.opd y (hargs y (by simp))]; exact he
      · unfold mmAt at he ⊢
        split at he <;> try (cases he; done)
        rename_i x y ha
        rw [ha] at hargs
        try simp only [ha]
        rw [← h.opd x (hargs x (by simp)), ← h.opd y (hargs y (by simp))]; exact he
    | value f =>
      have hargs : ∀ x, x ∈ c.args.toList → x ∈ c.operands.toList := fun x hx => by simp [Call.operands]; exact .inr (by simpa using hx)
      have hf : f ∈ c.operands.toList := by simp [Call.operands, hcal]
      simp only [hcal] at he ⊢
      rw [← views_same h c.args.toList hargs, ← h.opd f hf]
      cases htold : toldOf cx (opd σ.env f) with
      | some sz =>
        simp only [htold] at he ⊢
        unfold deleteAt at he ⊢
        split at he <;> try (cases he; done)
        rename_i x i j ha
        rw [ha] at hargs
        try simp only [ha]
        rw [← base_same h (hargs x (by simp)), ← h.opd i (hargs i (by simp)), ← h.opd j (hargs j (by simp))]; exact he
      | none =>
      simp only [htold] at he ⊢
      cases hv : views σ c.args.toList with
      | none => simp [hv] at he
      | some vp =>
        obtain ⟨vs, ps⟩ := vp
        simp only [hv] at he ⊢
        rcases hc with hc | hc
        case inr =>
          have hh := (hc.setPlaces ps).2
          unfold callAt callGo at he ⊢
          simp only [hh] at he ⊢
          exact he
        refine callAt_same he (fun H hH => ?_) hput
        simp [calm, hH] at hc
  all_goals (simp [eff, ho] at he)

end
end Go.Vm
end

section
/- V27: what an operation leaves of what it does not write. -/
namespace Go.Vm
open Go

theorem refRes_of {v : V} {p : Place} (h : v.refsTo p = true) : plRes p ∈ refRes v := by
  cases v <;> simp [V.refsTo] at h <;> subst h <;> simp [refRes]

def lastAt (t : Nat) : List (Place × V) → Option V
  | [] => none
  | (p, v) :: ps => match lastAt t ps with
    | some x => some x
    | none => if p = .slot t then some v else none
def killedBy (ps : List (Place × V)) (x : V) : Bool := ps.any fun y => x.refsTo y.1
def memKills : HE → V → Bool
  | .keep, _ => false
  | .set id off cs, .lent (.cell i o) => decide (i = id ∧ off ≤ o ∧ o < off + cs.length)
  | .set id off cs, .xptr (.cell i o) _ _ => decide (i = id ∧ off ≤ o ∧ o < off + cs.length)
  | .set _ _ _, _ => false
  | .init _ _, _ => false
  | .all _, .lent (.cell _ _) => true
  | .all _, .xptr (.cell _ _) _ _ => true
  | .all _, _ => false
  | .put ks _, .lent (.cell i _) => ks.contains i
  | .put ks _, .xptr (.cell i _) _ _ => ks.contains i
  | .put _ _, _ => false

theorem refsTo_nonway {v : V} (h : isWay v = false) (p : Place) : v.refsTo p = false := by cases v <;> first | rfl | (simp [isWay] at h)

section
variable {σ τ : St}

theorem get_setPlace (p : Place) (v : V) (t : Nat) : get (setPlace σ p v).env t = if p = .slot t then v else if (get σ.env t).refsTo p then .undef else get σ.env t := by
  cases p with
  | slot u =>
    simp only [setPlace]
    by_cases h : u = t
    · subst h; simp [get_cons_same]
    · have hne : ¬ Place.slot u = Place.slot t := by simp [h]
      rw [get_cons_ne _ _ h, get_kill]; simp only [hne, if_false]
  | cell id off =>
    have hne : ¬ Place.cell id off = Place.slot t := by simp
    simp only [setPlace, get_kill, hne, if_false]

theorem get_setPlaces : ∀ (ps : List (Place × V)) (σ : St) (t : Nat), (∀ x ∈ ps, isWay x.2 = false) →
    get (setPlaces σ ps).env t = match lastAt t ps with | some v => v | none => if killedBy ps (get σ.env t) then .undef else get σ.env t
  | [], σ, t, _ => by simp [setPlaces, lastAt, killedBy]
  | (p, v) :: ps, σ, t, h => by
    simp only [setPlaces, lastAt]
    rw [get_setPlaces ps (setPlace σ p v) t (fun x hx => h x (by simp [hx]))]
    have hv := h (p, v) (by simp)
    simp only at hv
    cases lastAt t ps with
    | some x => rfl
    | none =>
      simp only
      rw [get_setPlace]
      by_cases hp : p = .slot t
      · have hk : killedBy ps v = false := by
          simp only [killedBy, List.any_eq_false]
          intro y _; rw [refsTo_nonway hv]; simp
        simp only [if_pos hp, hk, Bool.false_eq_true, if_false]
      · rw [if_neg hp]
        by_cases hr : (get σ.env t).refsTo p = true
        · have hk : killedBy ((p, v) :: ps) (get σ.env t) = true := by simp only [killedBy, List.any_cons, hr, Bool.true_or]
          have hu : killedBy ps .undef = false := by simp [killedBy, V.refsTo]
          rw [if_pos hr, hk, hu]; simp only [hp, if_false, if_true, Bool.false_eq_true]
        · have hk : killedBy ((p, v) :: ps) (get σ.env t) = killedBy ps (get σ.env t) := by
            have : (get σ.env t).refsTo p = false := by simpa using hr
            simp only [killedBy, List.any_cons, this, Bool.false_or]
          rw [if_neg hr, hk]; simp only [hp, if_false]

theorem get_setMem (m : HE) (t : Nat) : get (setMem σ m).env t = if memKills m (get σ.env t) then .undef else get σ.env t := by
  cases m with
  | keep => simp [setMem, memKills]
  | init id cs => simp [setMem, memKills]
  | set id off cs =>
    simp only [setMem]
    rw [get_map (killIn id off cs.length) rfl]
    cases hv : get σ.env t with
    | lent p => cases p <;> simp [killIn, memKills]
    | xptr p i o => cases p <;> simp [killIn, memKills]
    | _ => simp [killIn, memKills]
  | all H =>
    simp only [setMem]
    rw [get_map killCell rfl]
    cases hv : get σ.env t with
    | lent p => cases p <;> simp [killCell, memKills]
    | xptr p i o => cases p <;> simp [killCell, memKills]
    | _ => simp [killCell, memKills]
  | put ks H =>
    simp only [setMem]
    rw [get_map (killCellsIn ks) rfl]
    cases hv : get σ.env t with
    | lent p => cases p <;> simp [killCellsIn, memKills]
    | xptr p i o => cases p <;> simp [killCellsIn, memKills]
    | _ => simp [killCellsIn, memKills]

theorem get_put (d : Option Nat) (v : V) (t : Nat) : get (put σ d v).env t = if d = some t then v else if (match d with | some d => (get σ.env t).refsTo (.slot d) | none => false) then .undef else get σ.env t := by
  cases d with
  | none => simp [put]
  | some d =>
    simp only [put]
    by_cases h : d = t
    · subst h; simp [get_cons_same]
    · have hne : ¬ some d = some t := by simp [h]
      rw [get_cons_ne _ _ h, get_kill]; simp only [hne, if_false]

/-- What a slot holds when its array has other elements. -/
def poked (e : Eff) (t : Nat) (v : V) : V := match e.poke with
  | some (u, w) => if u = t then w else v
  | none => v
theorem get_poke (e : Eff) (t : Nat) : get (pokeS σ e.poke).env t = poked e t (get σ.env t) := by
  unfold poked
  cases e.poke with
  | none => rfl
  | some y =>
    simp only [pokeS]
    split
    · rename_i h; subst h; exact get_cons_same _ _ _
    · rename_i h; exact get_cons_ne _ _ h

/-- Who of the ways an operation cuts. -/
def kills (d : Option Nat) (e : Eff) (x : V) : Bool := killedBy e.places x || memKills e.mem x || (match d with | some d => x.refsTo (.slot d) | none => false)
/-- A slot that it writes. -/
def told (d : Option Nat) (e : Eff) (t : Nat) : Option V := if d = some t then some e.val else lastAt t e.places

theorem lastAt_mem {t : Nat} : ∀ {ps : List (Place × V)} {v : V}, lastAt t ps = some v → (Place.slot t, v) ∈ ps
  | [], v, h => by simp [lastAt] at h
  | (p, u) :: ps, v, h => by
    simp only [lastAt] at h
    cases hl : lastAt t ps with
    | some x => simp only [hl] at h; injection h with h; subst h; exact List.mem_cons_of_mem _ (lastAt_mem hl)
    | none =>
      simp only [hl] at h
      split at h
      · rename_i hp; injection h with h; subst h; subst hp; simp
      · cases h

theorem memKills_nonway {m : HE} {v : V} (h : isWay v = false) : memKills m v = false := by
  cases m <;> cases v <;> first | rfl | (simp [isWay] at h)

theorem get_apply (d : Option Nat) (e : Eff) (he : ∀ x ∈ e.places, isWay x.2 = false) (t : Nat) :
    get (apply σ d e).env t = match told d e t with | some v => v | none => if kills d e (poked e t (get σ.env t)) then .undef else poked e t (get σ.env t) := by
  unfold apply told
  rw [get_put, get_setMem, get_setPlaces _ _ _ he, get_poke]
  generalize poked e t (get σ.env t) = gv
  by_cases hd : d = some t
  · simp [hd]
  · simp only [if_neg hd]
    cases hl : lastAt t e.places with
    | some v =>
      simp only
      have hv : isWay v = false := he (.slot t, v) (lastAt_mem hl)
      rw [memKills_nonway hv]
      cases d <;> simp [refsTo_nonway hv]
    | none =>
      simp only [kills]
      have hu : memKills e.mem .undef = false := memKills_nonway rfl
      by_cases h1 : killedBy e.places gv = true
      · simp only [h1, if_true, hu, Bool.false_eq_true, if_false, Bool.true_or]
        cases d <;> simp [V.refsTo]
      · by_cases h2 : memKills e.mem gv = true
        · simp only [h1, h2, Bool.false_eq_true, if_false, if_true, Bool.or_true, Bool.true_or]
          cases d <;> simp [V.refsTo]
        · simp only [h1, h2, Bool.false_eq_true, if_false, Bool.false_or]

theorem told_writes {d : Option Nat} {e : Eff} {t : Nat} {v : V} (h : told d e t = some v) : Res.slot t ∈ writes d e ∧ Res.body t ∈ writes d e := by
  unfold told at h
  unfold writes
  split at h
  · rename_i hd; subst hd; simp
  · have := lastAt_mem h
    simp only [List.mem_append, List.mem_flatMap]
    exact ⟨.inl (.inl (.inr ⟨_, this, by simp [plRes]⟩)), .inl (.inl (.inr ⟨_, this, by simp [bodyRes]⟩))⟩

theorem kills_writes {d : Option Nat} {e : Eff} (hm : ∀ H, e.mem ≠ .all H) {x : V} (h : kills d e x = true) : ∃ r ∈ refRes x, r ∈ writes d e := by
  unfold kills at h
  simp only [Bool.or_eq_true] at h
  unfold writes
  rcases h with (h | h) | h
  · simp only [killedBy, List.any_eq_true] at h
    obtain ⟨y, hy, hr⟩ := h
    refine ⟨_, refRes_of hr, ?_⟩
    simp only [List.mem_append, List.mem_flatMap]
    exact .inl (.inl (.inr ⟨y, hy, by simp⟩))
  · cases hmm : e.mem with
    | keep => simp [hmm, memKills] at h
    | init id cs => simp [hmm, memKills] at h
    | all H => exact absurd hmm (hm H)
    | put ks H =>
      rw [hmm] at h
      cases x <;> simp only [memKills] at h <;> try (cases h; done)
      · rename_i p i o
        cases p with
        | slot t => simp [memKills] at h
        | cell i' o' => exact ⟨.blk i', by simp [refRes, plRes], by simp [memKills] at h; simp [h]⟩
      · rename_i p
        cases p with
        | slot t => simp [memKills] at h
        | cell i' o' => exact ⟨.blk i', by simp [refRes, plRes], by simp [memKills] at h; simp [h]⟩
    | set id off cs =>
      rw [hmm] at h
      cases x <;> simp only [memKills] at h <;> try (cases h; done)
      · rename_i p i o
        cases p <;> simp [memKills] at h
        exact ⟨.blk id, by simp [refRes, plRes, h.1], by simp⟩
      · rename_i p
        cases p <;> simp [memKills] at h
        exact ⟨.blk id, by simp [refRes, plRes, h.1], by simp⟩
  · cases d with
    | none => simp at h
    | some d => exact ⟨.slot d, refRes_of (p := .slot d) h, by simp⟩

end
end Go.Vm
end

section
/- V28: two operations that do not touch each other's places. -/
namespace Go.Vm
open Go

section
variable {σ τ : St}

def memB (m : HE) (n id : Nat) (c : Option (List V)) : Option (List V) :=
  match m with
  | .set i off vs => if i = id then c.map (fun cs => setCells cs off vs) else c
  | .init i vs => if i = id ∧ i < n then some vs else c
  | .put ks H => if id < n ∧ ks.contains id = true then bcells H id else c
  | _ => c

theorem bcells_setB {H : Heap} (id : Nat) (cs : List V) (i : Nat) : bcells (H.set id (.cells cs)) i = if id = i ∧ id < H.length then some cs else bcells H i := by
  by_cases h : id < H.length
  · rw [bcells_set h]
    by_cases hi : i = id
    · subst hi; simp [h]
    · rw [if_neg hi, if_neg (by simp [Ne.symm hi])]
  · rw [List.set_eq_of_length_le (by omega), if_neg (by simp [h])]

theorem bcells_put1 (ks : List Nat) (H H' : Heap) (id : Nat) : bcells (putH ks H H') id = if id < H.length ∧ ks.contains id = true then bcells H' id else bcells H id := by
  unfold bcells putH
  rw [zipIdx_map_getElem?]
  rcases Nat.lt_or_ge id H.length with hlt | hge
  · rw [List.getElem?_eq_getElem hlt]
    cases hk : ks.contains id
    · simp only [Option.map_some, hk, Bool.false_eq_true, and_false, if_false]
    · simp only [Option.map_some, hk, if_true]
      rw [if_pos ⟨hlt, trivial⟩, List.getD_eq_getElem?_getD]
      cases H'[id]? <;> simp
  · rw [List.getElem?_eq_none hge, if_neg (fun hq => by omega)]; rfl

theorem bcells_apply (d : Option Nat) (e : Eff) (hm : ∀ H, e.mem ≠ .all H) (id : Nat) :
    bcells (apply σ d e).heap id = memB e.mem σ.heap.length id (placesB id e.places (bcells σ.heap id)) ∧ (apply σ d e).heap.length = σ.heap.length := by
  unfold apply
  rw [put_heap]
  obtain ⟨h1, h2⟩ := bcells_setPlaces e.places (pokeS σ e.poke) id
  have hp : (pokeS σ e.poke).heap = σ.heap := by cases e.poke <;> rfl
  rw [hp] at h1 h2
  cases hmm : e.mem with
  | keep => exact ⟨h1, h2⟩
  | all H => exact absurd hmm (hm H)
  | put ks H =>
    refine ⟨?_, by simp only [setMem, putH_length, h2]⟩
    simp only [setMem, memB]
    rw [bcells_put1, h1, h2]
  | init i vs =>
    refine ⟨?_, by simp [setMem, h2]⟩
    simp only [setMem, memB]
    rw [bcells_setB, h1, h2]
  | set i off vs =>
    simp only [setMem, memB]
    cases hc : bcells (setPlaces (pokeS σ e.poke) e.places).heap i with
    | none =>
      refine ⟨?_, h2⟩
      simp only
      rw [h1]
      by_cases hi : i = id
      · subst hi; rw [h1] at hc; rw [hc]; simp
      · rw [if_neg hi]
    | some ds =>
      refine ⟨?_, by simp [h2]⟩
      simp only
      rw [bcells_set (bcells_lt hc), h1]
      by_cases hi : i = id
      · subst hi; rw [h1] at hc; rw [hc]; simp
      · rw [if_neg (Ne.symm hi), if_neg hi]

theorem placesB_none {id : Nat} : ∀ {ps : List (Place × V)} {c : Option (List V)}, (∀ x ∈ ps, plRes x.1 ≠ .blk id) → placesB id ps c = c
  | [], c, _ => rfl
  | (.slot t, v) :: ps, c, h => by
    show placesB id ps c = c
    exact placesB_none (ps := ps) (fun x hx => h x (List.mem_cons_of_mem _ hx))
  | (.cell i off, v) :: ps, c, h => by
    have hne : i ≠ id := fun hi => h (.cell i off, v) (by simp) (by simp [plRes, hi])
    simp only [placesB, if_neg hne]
    exact placesB_none (ps := ps) (fun x hx => h x (List.mem_cons_of_mem _ hx))

theorem bcells_apply_none {d : Option Nat} {e : Eff} {id : Nat} (hw : Res.blk id ∉ writes d e) {n : Nat} (c : Option (List V)) : memB e.mem n id (placesB id e.places c) = c := by
  unfold writes at hw
  simp only [List.mem_append, List.mem_flatMap, List.mem_cons, not_or, not_exists, not_and] at hw
  rw [placesB_none (fun x hx he => (hw.1.1.2 x hx).1 he.symm)]
  cases hm : e.mem with
  | keep => rfl
  | all H => rfl
  | put ks H =>
    have : ks.contains id = false := by
      cases hk : ks.contains id with
      | false => rfl
      | true => exact absurd (by simp [hm]; simpa using hk) hw.2
    simp only [memB, this, Bool.false_eq_true, and_false, if_false]
  | init i vs =>
    have : i ≠ id := fun hi => hw.2 (by simp [hm, hi])
    simp [memB, this]
  | set i off vs =>
    have : i ≠ id := fun hi => hw.2 (by simp [hm, hi])
    simp [memB, this]

/-- What is asked of an operation's effect where the order is drawn. -/
structure Tame (e : Eff) : Prop where
  ways : ∀ x ∈ e.places, isWay x.2 = false
  poke : ∀ t v, e.poke = some (t, v) → isEx v = true
  all : ∀ H, e.mem ≠ .all H

theorem kills_undef {d : Option Nat} {e : Eff} : kills d e .undef = false := by
  unfold kills
  rw [memKills_nonway rfl]
  cases d <;> simp [killedBy, V.refsTo]

theorem told_safe {d1 d2 : Option Nat} {e1 e2 : Eff} (h1 : Tame e1) (h2 : Tame e2) (hv : ∀ r ∈ refRes e1.val, r ∉ writes d2 e2) {t : Nat} {v : V} (ht : told d1 e1 t = some v) : kills d2 e2 v = false := by
  cases hk : kills d2 e2 v with
  | false => rfl
  | true =>
    obtain ⟨r, hr1, hr2⟩ := kills_writes h2.all hk
    unfold told at ht
    split at ht
    · injection ht with ht; subst ht; exact absurd hr2 (hv r hr1)
    · have := h1.ways _ (lastAt_mem ht)
      simp only at this
      have hkk : kills d2 e2 v = false := by
        unfold kills
        rw [memKills_nonway this]
        cases d2 <;> simp [killedBy, refsTo_nonway this]
      rw [hkk] at hk; cases hk

theorem kills_ex {d : Option Nat} {e : Eff} {v : V} (h : isEx v = true) : kills d e v = false := by
  cases v <;> simp [isEx] at h
  unfold kills
  rw [memKills_nonway rfl]
  cases d <;> simp [killedBy, V.refsTo]
theorem poke_writes {d : Option Nat} {e : Eff} {t : Nat} {v : V} (h : e.poke = some (t, v)) : Res.body t ∈ writes d e := by
  unfold writes; rw [h]; simp
theorem poked_none {d : Option Nat} {e : Eff} {t : Nat} (h : Res.body t ∉ writes d e) (v : V) : poked e t v = v := by
  unfold poked
  cases hp : e.poke with
  | none => rfl
  | some y =>
    obtain ⟨u, w⟩ := y
    simp only
    rw [if_neg (fun (hu : u = t) => h (hu ▸ poke_writes hp))]
theorem poked_cases (e : Eff) (t : Nat) : (∃ w, e.poke = some (t, w) ∧ ∀ v, poked e t v = w) ∨ ∀ v, poked e t v = v := by
  unfold poked
  cases hp : e.poke with
  | none => exact .inr fun _ => rfl
  | some y =>
    obtain ⟨u, w⟩ := y
    by_cases hu : u = t
    · subst hu; exact .inl ⟨w, rfl, fun v => by simp⟩
    · exact .inr fun v => by simp [hu]

/-- **They may be exchanged.** -/
theorem comm {d1 d2 : Option Nat} {e1 e2 : Eff} (h1 : Tame e1) (h2 : Tame e2) (hw : ∀ r ∈ writes d1 e1, r ∉ writes d2 e2) (hv1 : ∀ r ∈ refRes e1.val, r ∉ writes d2 e2) (hv2 : ∀ r ∈ refRes e2.val, r ∉ writes d1 e1) :
    Eqv (Vm.apply (Vm.apply σ d1 e1) d2 e2) (Vm.apply (Vm.apply σ d2 e2) d1 e1) := by
  refine ⟨fun t => ?_, heap_ext ?_ fun id => ?_⟩
  · rw [get_apply d2 e2 h2.ways, get_apply d1 e1 h1.ways, get_apply d1 e1 h1.ways, get_apply d2 e2 h2.ways]
    cases ht1 : told d1 e1 t with
    | some v1 =>
      have hn : told d2 e2 t = none := by
        cases ht2 : told d2 e2 t with
        | none => rfl
        | some v2 => exact absurd (told_writes ht2).1 (hw _ (told_writes ht1).1)
      simp only [hn, poked_none (hw _ (told_writes ht1).2), told_safe h1 h2 hv1 ht1, Bool.false_eq_true, if_false]
    | none =>
      cases ht2 : told d2 e2 t with
      | some v2 =>
        have hb : Res.body t ∉ writes d1 e1 := fun hq => hw _ hq (told_writes ht2).2
        simp only [poked_none hb, told_safe h2 h1 hv2 ht2, Bool.false_eq_true, if_false]
      | none =>
        simp only
        rcases poked_cases e1 t with ⟨w1, p1, q1⟩ | q1
        · have k1 := kills_ex (d := d1) (e := e1) (h1.poke _ _ p1)
          have k2 := kills_ex (d := d2) (e := e2) (h1.poke _ _ p1)
          have q2 := poked_none (d := d2) (e := e2) (t := t) (hw _ (poke_writes p1))
          simp only [q1, q2, k1, k2, Bool.false_eq_true, if_false]
        rcases poked_cases e2 t with ⟨w2, p2, q2⟩ | q2
        · have k1 := kills_ex (d := d1) (e := e1) (h2.poke _ _ p2)
          have k2 := kills_ex (d := d2) (e := e2) (h2.poke _ _ p2)
          simp only [q1, q2, k1, k2, Bool.false_eq_true, if_false]
        simp only [q1, q2]
        by_cases k1 : kills d1 e1 (get σ.env t) = true <;> by_cases k2 : kills d2 e2 (get σ.env t) = true <;> simp [k1, k2, kills_undef]
  · rw [(bcells_apply d2 e2 h2.all 0).2, (bcells_apply d1 e1 h1.all 0).2, (bcells_apply d1 e1 h1.all 0).2, (bcells_apply d2 e2 h2.all 0).2]
  · rw [(bcells_apply d2 e2 h2.all id).1, (bcells_apply d1 e1 h1.all id).1, (bcells_apply d1 e1 h1.all id).1, (bcells_apply d2 e2 h2.all id).1, (bcells_apply d1 e1 h1.all 0).2, (bcells_apply d2 e2 h2.all 0).2]
    by_cases hm : Res.blk id ∈ writes d1 e1
    · have := hw _ hm
      rw [bcells_apply_none this, bcells_apply_none this]
    · rw [bcells_apply_none hm, bcells_apply_none hm]

end
end Go.Vm
end

section
/- V29: what an operation reads is left alone by one that does not write it. -/
namespace Go.Vm
open Go

/-- The same, or arrays of one shape. -/
def eqL (l : Bool) (v w : V) : Prop := v = w ∨ l = true ∧ ∃ sz n xs ys, v = .ex sz n xs ∧ w = .ex sz n ys ∧ xs.length = ys.length
theorem eqL.refl (l : Bool) (v : V) : eqL l v v := .inl rfl
theorem eqL.symm {l : Bool} {v w : V} (h : eqL l v w) : eqL l w v := by
  rcases h with rfl | ⟨hl, sz, n, xs, ys, rfl, rfl, he⟩
  · exact .inl rfl
  · exact .inr ⟨hl, sz, n, ys, xs, rfl, rfl, he.symm⟩
theorem eqL.full {v w : V} (h : eqL false v w) : v = w := by
  rcases h with h | ⟨hl, _⟩
  · exact h
  · cases hl
theorem eqL.of_not {l : Bool} {v w : V} (h : eqL l v w) (hv : isEx v = false) : v = w := by
  rcases h with h | ⟨_, sz, n, xs, ys, rfl, _⟩
  · exact h
  · simp [isEx] at hv
theorem eqL.isEx {l : Bool} {v w : V} (h : eqL l v w) : Vm.isEx w = Vm.isEx v := by
  rcases h with rfl | ⟨_, sz, n, xs, ys, rfl, rfl, _⟩ <;> rfl
theorem eqL.isUndef {l : Bool} {v w : V} (h : eqL l v w) : Vm.isUndef w = Vm.isUndef v := by
  rcases h with rfl | ⟨_, sz, n, xs, ys, rfl, rfl, _⟩ <;> rfl
theorem eqL.refRes {l : Bool} {v w : V} (h : eqL l v w) : Vm.refRes w = Vm.refRes v := by
  rcases h with rfl | ⟨_, sz, n, xs, ys, rfl, rfl, _⟩ <;> rfl
theorem eqL.refBodies {l : Bool} {v w : V} (h : eqL l v w) : Vm.refBodies w = Vm.refBodies v := by
  rcases h with rfl | ⟨_, sz, n, xs, ys, rfl, rfl, _⟩ <;> rfl

/-- Two states in which an operation sees the same. -/
structure Alike (b l : Bool) (σ τ : St) (x : Operand) : Prop where
  opd : eqL l (opd σ.env x) (opd τ.env x)
  look : ∀ p, (Vm.opd σ.env x).refsTo p = true → eqL l (look σ p) (look τ p)
  blk : b = true → ∀ id, blkOf (Vm.opd σ.env x) = some id → bcells σ.heap id = bcells τ.heap id

/-- What is written into a slot's array has its shape. -/
def PokeOk (σ : St) (e : Eff) : Prop := ∀ t v, e.poke = some (t, v) → ∃ sz n xs ys, get σ.env t = .ex sz n xs ∧ v = .ex sz n ys ∧ xs.length = ys.length

section
variable {σ : St} {d : Option Nat} {e : Eff}

theorem told_none {t : Nat} (h : Res.slot t ∉ writes d e) : told d e t = none := by
  cases ht : told d e t with
  | none => rfl
  | some v => exact absurd (told_writes ht).1 h

theorem blk_left (he : Tame e) {id : Nat} (h : Res.blk id ∉ writes d e) : bcells (apply σ d e).heap id = bcells σ.heap id := by
  rw [(bcells_apply d e he.all id).1, bcells_apply_none h]

/-- A slot that is not told: what it holds behind. -/
theorem get_left (he : Tame e) (hp : PokeOk σ e) {l : Bool} {t : Nat} (h1 : Res.slot t ∉ writes d e) (h2 : l = false → Res.body t ∉ writes d e) (hk : kills d e (get σ.env t) = false) :
    eqL l (get σ.env t) (get (apply σ d e).env t) := by
  rw [get_apply d e he.ways, told_none h1]
  simp only
  rcases poked_cases e t with ⟨w, p1, p2⟩ | p2
  · obtain ⟨sz, n, xs, ys, q1, q2, q3⟩ := hp _ _ p1
    rw [p2, kills_ex (he.poke _ _ p1)]
    simp only [Bool.false_eq_true, if_false]
    cases l with
    | false => exact absurd (poke_writes p1) (h2 rfl)
    | true => exact .inr ⟨rfl, sz, n, xs, ys, q1, q2, q3⟩
  · rw [p2, hk]; simp only [Bool.false_eq_true, if_false]; exact .inl rfl

theorem reads_slot {b l : Bool} {env : Env} {t : Nat} : Res.slot t ∈ opReads b l env (.tmp t) ∧ (l = false → Res.body t ∈ opReads b l env (.tmp t)) := by
  unfold opReads; cases l <;> simp
theorem reads_ref {b l : Bool} {env : Env} {x : Operand} {r : Res} (h : r ∈ refRes (opd env x)) : r ∈ opReads b l env x := by unfold opReads; simp [h]
theorem reads_body {b l : Bool} {env : Env} {x : Operand} {u : Nat} (h : (opd env x).refsTo (.slot u) = true) (hl : l = false) : Res.body u ∈ opReads b l env x := by
  unfold opReads
  subst hl
  cases hv : opd env x <;> rw [hv] at h <;> simp [V.refsTo] at h <;> subst h <;> simp [refBodies, bodyRes]

/-- Forth. -/
theorem alike_forth {b l : Bool} (he : Tame e) (hpk : PokeOk σ e) {x : Operand} (hs : seen σ x = true) (hw : ∀ r ∈ opReads b l σ.env x, r ∉ writes d e) : Alike b l σ (apply σ d e) x := by
  have hk : kills d e (opd σ.env x) = false := by
    cases hk : kills d e (opd σ.env x) with
    | false => rfl
    | true =>
      obtain ⟨r, h1, h2⟩ := kills_writes he.all hk
      exact absurd h2 (hw r (reads_ref h1))
  have ho : eqL l (opd σ.env x) (opd (apply σ d e).env x) := by
    cases x with
    | tmp t => exact get_left he hpk (hw _ reads_slot.1) (fun hl => hw _ (reads_slot.2 hl)) hk
    | _ => exact .inl rfl
  refine ⟨ho, fun p hp => ?_, fun hb id hp => ?_⟩
  · have hr : plRes p ∉ writes d e := hw _ (reads_ref (refRes_of hp))
    have hex : isEx (look σ p) = true := by
      unfold seen at hs
      simp only [Bool.and_eq_true] at hs
      cases hv : opd σ.env x <;> rw [hv] at hp hs <;> simp [V.refsTo] at hp <;> subst hp <;> exact hs.2
    cases p with
    | slot u =>
      simp only [look] at hex ⊢
      exact get_left he hpk hr (fun hl => hw _ (reads_body hp hl)) (kills_ex hex)
    | cell id off => simp only [look]; rw [blk_left he hr]; exact .inl rfl
  · subst hb; rw [blk_left he (hw _ (by unfold opReads; simp [hp]))]

theorem not_killed (he : Tame e) (hpk : PokeOk σ e) {t : Nat} (ht : Res.slot t ∉ writes d e) (hu : isUndef (get (apply σ d e).env t) = false) : kills d e (get σ.env t) = false := by
  rw [get_apply d e he.ways, told_none ht] at hu
  simp only at hu
  rcases poked_cases e t with ⟨w, p1, p2⟩ | p2
  · obtain ⟨sz, n, xs, ys, q1, q2, q3⟩ := hpk _ _ p1
    rw [q1]; exact kills_ex rfl
  · rw [p2] at hu
    cases hk : kills d e (get σ.env t) with
    | false => rfl
    | true => rw [hk] at hu; simp [isUndef] at hu

/-- Back. -/
theorem alike_back {b l : Bool} (he : Tame e) (hpk : PokeOk σ e) {x : Operand} (hs : seen (apply σ d e) x = true) (hw : ∀ r ∈ opReads b l (apply σ d e).env x, r ∉ writes d e) : Alike b l σ (apply σ d e) x := by
  unfold seen at hs
  simp only [Bool.and_eq_true, Bool.not_eq_true'] at hs
  obtain ⟨hs1, hs2⟩ := hs
  have hkill : ∀ t, Res.slot t ∉ writes d e → isUndef (get (apply σ d e).env t) = false → kills d e (get σ.env t) = false := fun t ht hu => not_killed he hpk ht hu
  have ho : eqL l (opd σ.env x) (opd (apply σ d e).env x) := by
    cases x with
    | tmp t => exact get_left he hpk (hw _ reads_slot.1) (fun hl => hw _ (reads_slot.2 hl)) (hkill t (hw _ reads_slot.1) hs1)
    | _ => exact .inl rfl
  refine ⟨ho, fun p hp => ?_, fun hb id hp => ?_⟩
  · have hne : isEx (opd σ.env x) = false := by cases hv : opd σ.env x <;> rw [hv] at hp <;> simp [V.refsTo] at hp <;> rfl
    have ho' := ho.of_not hne
    rw [ho'] at hp
    have hr : plRes p ∉ writes d e := hw _ (reads_ref (refRes_of hp))
    have hex : isEx (look (apply σ d e) p) = true := by
      cases hv : opd (apply σ d e).env x <;> rw [hv] at hp hs2 <;> simp [V.refsTo] at hp <;> subst hp <;> exact hs2
    cases p with
    | slot u =>
      simp only [look] at hex ⊢
      refine get_left he hpk hr (fun hl => hw _ (reads_body hp hl)) (hkill u hr ?_)
      cases hv : get (apply σ d e).env u <;> rw [hv] at hex <;> simp [isEx] at hex <;> rfl
    | cell id off => simp only [look]; rw [blk_left he hr]; exact .inl rfl
  · subst hb
    have ho' := ho.of_not (by cases hv : opd σ.env x <;> rw [hv] at hp <;> simp [blkOf] at hp <;> rfl)
    rw [ho'] at hp
    rw [blk_left he (hw _ (by unfold opReads; simp [hp]))]

end
end Go.Vm
end

section
/- V30: two operations, the other way round. -/
namespace Go.Vm
open Go

section
variable {T : Types} {call : CallF} {cx : Cx} {ops : Array Oper} {σ τ : St} {o : Oper} {e : Eff} {fr : Nat}

theorem light_pick {c a b : Operand} (ho : o.op = .pick c a b) : light o = false := by unfold light; rw [ho]

theorem rd_same (h : ∀ x ∈ rd σ.env o, eqL (light o) (opd σ.env x) (opd τ.env x)) : rd τ.env o = rd σ.env o := by
  unfold rd at h ⊢
  cases ho : o.op <;> simp only [ho] at h ⊢
  rename_i c a b
  rw [light_pick ho] at h
  cases hc : opd σ.env c <;> simp only [hc] at h <;> rw [← (h c (by simp)).full, hc]

theorem opReads_same {b l : Bool} {x : Operand} (h : eqL l (opd σ.env x) (opd τ.env x)) : opReads b l τ.env x = opReads b l σ.env x := by
  rcases h with h | ⟨_, sz, n, xs, ys, h1, h2, _⟩
  · unfold opReads; rw [h]
  · unfold opReads; rw [h1, h2]; cases b <;> rfl

theorem seen_same {b l : Bool} {x : Operand} (h : Alike b l σ τ x) : seen τ x = seen σ x := by
  have h1 := h.opd
  have h2 := h.look
  unfold seen
  rw [h1.isUndef]
  rcases h1 with h1 | ⟨_, sz, n, xs, ys, e1, e2, _⟩
  · rw [← h1]
    cases hv : opd σ.env x <;> simp only
    · rw [(h2 _ (by rw [hv]; simp [V.refsTo])).isEx]
    · rw [(h2 _ (by rw [hv]; simp [V.refsTo])).isEx]
  · rw [e1, e2]

/-- An operation that looks at shapes alone. -/
theorem eff_light {call : CallF} (hl : light o = true) (he : eff T call cx fr o σ = some e) (h : ∀ x ∈ rd σ.env o, Alike (derefs o) (light o) σ τ x) : eff T call cx fr o τ = some e := by
  unfold light at hl
  unfold rd at h
  cases ho : o.op <;> simp only [ho] at hl h he ⊢ <;> try (cases hl; done)
  case move x =>
    have h1 := (h x (by simp [Op.operands])).opd
    simp only [eff, ho, moveAt] at he ⊢
    rcases h1 with h1 | ⟨_, sz, n, xs, ys, e1, e2, _⟩
    · rw [← h1]; exact he
    · rw [e1] at he; rw [e2]; exact he
  case indexAddr t x k =>
    have hx := h x (by simp [Op.operands])
    have hk := h k (by simp [Op.operands])
    simp only [eff, ho] at he ⊢
    cases hT : T t <;> simp only [hT] at he ⊢
    · cases he
    have hkk : opd τ.env k = opd σ.env k := by
      cases hv : opd σ.env k <;> rw [hv] at he <;> simp only at he <;> try (cases he; done)
      exact (hk.opd.of_not (by rw [hv]; rfl)).symm.trans hv
    rw [hkk]
    cases hv : opd σ.env k <;> simp only [hv] at he ⊢ <;> try (cases he; done)
    rw [← he]
    congr 1
    unfold indexAt
    have hxo := hx.opd
    rcases hxo with h1 | ⟨_, sz, n, xs, ys, e1, e2, e3⟩
    · rw [← h1]
      cases hvx : opd σ.env x <;> try rfl
      case ref m id => cases m <;> rfl
      rename_i p
      simp only
      rcases hx.look p (by rw [hvx]; simp [V.refsTo]) with h2 | ⟨_, sz, n, xs, ys, e1, e2, e3⟩
      · rw [h2]
      · rw [e1, e2]; simp only [e3]
    · rw [e1, e2]; simp only [e3]
  case call c =>
    cases hc : c.callee with
    | value f => simp [hc] at hl
    | invoke x m => simp [hc] at hl
    | builtin b =>
      cases b <;> simp [hc] at hl
      simp only [eff, ho, hc, builtinAt] at he ⊢
      unfold lenAt at he ⊢
      cases ha : c.args.toList with
      | nil => simp [ha] at he
      | cons x rest =>
        cases rest with
        | cons _ _ => simp [ha] at he
        | nil =>
          have hx := h x (by simp [Op.operands, Call.operands, hc]; rw [← Array.mem_toList_iff, ha]; simp)
          cases ht : c.argTypes.toList with
          | nil => simp [ha, ht] at he
          | cons t rest =>
            cases rest with
            | cons _ _ => simp [ha, ht] at he
            | nil =>
              simp only [ha, ht] at he ⊢
              have hcont : lenV τ (opd τ.env x) = lenV σ (opd σ.env x) := by
                rcases hx.opd with h1 | ⟨_, sz, n, xs, ys, e1, e2, e3⟩
                · rw [← h1]
                  cases hvx : opd σ.env x <;> try rfl
                  case ref m id => cases m <;> rfl
                  rename_i p
                  simp only [lenV, content]
                  rcases hx.look p (by rw [hvx]; simp [V.refsTo]) with h2 | ⟨_, sz, n, xs, ys, e1, e2, e3⟩
                  · rw [h2]
                  · rw [e1, e2]; simp [e3]
                · rw [e1, e2]; simp [lenV, content, e3]
              cases hk : kindOf T t with
              | none => simp [hk] at he
              | some kk =>
                cases kk <;> simp only [hk] at he ⊢ <;> try (cases he; done)
                · cases hv : opd σ.env x <;> rw [hv] at he <;> simp only at he <;> try (cases he; done)
                  rw [← hx.opd.of_not (by rw [hv]; rfl), hv]; exact he
                · rw [hcont]; exact he
                · exact he
                · have hm : mapView τ (opd τ.env x) = mapView σ (opd σ.env x) := by
                    cases hv : opd σ.env x with
                    | nilm => rw [← hx.opd.of_not (by rw [hv]; rfl), hv]; rfl
                    | ref m id =>
                      cases m with
                      | yld => simp [mapView, hv] at he
                      | arr n => simp [mapView, hv] at he
                      | map =>
                        rw [← hx.opd.of_not (by rw [hv]; rfl), hv]
                        simp only [mapView]
                        rw [hx.blk (by simp [derefs, ho, hc]) id (by rw [hv]; rfl)]
                    | _ => simp [mapView, hv] at he
                  rw [hm]; exact he

theorem eff_rd (he : eff T call cx fr o σ = some e) (hc : calm o e = true ∨ Eqv σ τ) (h : ∀ x ∈ rd σ.env o, Alike (derefs o) (light o) σ τ x)
    (hput : ∀ ks H, e.mem = .put ks H → σ.heap.length = τ.heap.length ∧ ∀ id, ks.contains id = true → bcells σ.heap id = bcells τ.heap id)
    (hfr : isFresh o = true → σ.heap.length = τ.heap.length ∧ bcells σ.heap fr = bcells τ.heap fr) : eff T call cx fr o τ = some e := by
  cases hl : light o with
  | true => exact eff_light hl he h
  | false =>
  rw [hl] at h
  have viaAll : rd σ.env o = o.op.operands.toList → eff T call cx fr o τ = some e := fun hr => by
    rw [hr] at h
    exact eff_same he hc ⟨fun x hx => (h x hx).opd.full, fun x hx p hp => ((h x hx).look p hp).full, fun hb x hx => (h x hx).blk hb⟩ hput hfr
  cases ho : o.op
  case pick c a b =>
    simp only [eff, ho] at he ⊢
    unfold rd at h
    simp only [ho] at h
    cases hv : opd σ.env c <;> simp only [hv] at he h <;> try (cases he; done)
    rename_i t
    rw [← (h c (by simp)).opd.full, hv]
    have h2 := (h (if t then a else b) (by simp)).opd.full
    cases t
    · simp only [Bool.false_eq_true, if_false] at he h2 ⊢
      rw [← h2]; exact he
    · simp only [if_true] at he h2 ⊢
      rw [← h2]; exact he
  all_goals exact viaAll (by unfold rd; rw [ho])

def gsame (ops : Array Oper) (o : Oper) (σ τ : St) : Prop := ∀ t, guardSlot ops o = some t → get σ.env t = get τ.env t

theorem wants_same (h : gsame ops o σ τ) : wants ops τ.env o = wants ops σ.env o := by
  unfold gsame guardSlot at h
  unfold wants
  cases hg : o.guard with
  | none => rfl
  | some jw =>
    obtain ⟨j, want⟩ := jw
    simp only [hg] at h ⊢
    cases ht : (ops[j]?).bind (·.dst) with
    | none => rfl
    | some t => simp only; rw [h t ht]

theorem effG_rd (he : effG T call cx ops fr o σ = some e) (hc : calm o e = true ∨ Eqv σ τ) (hg : gsame ops o σ τ) (h : ∀ x ∈ rdG ops σ.env o, Alike (derefs o) (light o) σ τ x)
    (hput : ∀ ks H, e.mem = .put ks H → σ.heap.length = τ.heap.length ∧ ∀ id, ks.contains id = true → bcells σ.heap id = bcells τ.heap id)
    (hfr : isFresh o = true → σ.heap.length = τ.heap.length ∧ bcells σ.heap fr = bcells τ.heap fr) : effG T call cx ops fr o τ = some e := by
  unfold effG at he ⊢
  rw [wants_same hg]
  cases hw : wants ops σ.env o with
  | none => simp [hw] at he
  | some b =>
    cases b with
    | false => simpa [hw] using he
    | true =>
      simp only [hw] at he ⊢
      cases h1 : eff T call cx fr o σ with
      | none => simp [h1] at he
      | some e1 =>
        simp only [h1] at he
        have hee : e1 = e := by
          split at he
          · split at he
            · cases he
            · injection he
          · simpa using he
        subst hee
        rw [eff_rd h1 hc (by unfold rdG at h; simpa [hw] using h) hput hfr]
        exact he

theorem effG_guard (he : effG T call cx ops fr o σ = some e) {t : Nat} (ht : guardSlot ops o = some t) : isWay (get σ.env t) = false ∧ isUndef (get σ.env t) = false ∧ isEx (get σ.env t) = false := by
  unfold effG wants at he
  unfold guardSlot at ht
  cases hg : o.guard with
  | none => simp [hg] at ht
  | some jw =>
    obtain ⟨j, want⟩ := jw
    simp only [hg] at he ht
    rw [ht] at he
    cases hv : get σ.env t <;> simp only [hv] at he <;> first
      | (cases he; done)
      | exact ⟨rfl, rfl, rfl⟩

theorem rdG_same (hg : gsame ops o σ τ) (h : ∀ x ∈ rdG ops σ.env o, eqL (light o) (opd σ.env x) (opd τ.env x)) : rdG ops τ.env o = rdG ops σ.env o := by
  unfold rdG at h ⊢
  rw [wants_same hg]
  cases hw : wants ops σ.env o with
  | none => rw [hw] at h; exact rd_same h
  | some b => cases b with
    | false => rfl
    | true => rw [hw] at h; exact rd_same h

/-- What is written into a slot's array has its shape. -/
theorem eff_poke {call : CallF} (he : eff T call cx fr o σ = some e) : PokeOk σ e := by
  intro t v hp
  have no : e.poke = none → ∃ sz n xs ys, get σ.env t = .ex sz n xs ∧ v = .ex sz n ys ∧ xs.length = ys.length := fun h => by rw [h] at hp; cases hp
  cases ho : o.op <;> simp only [eff, ho] at he <;> try (cases he; done)
  case store t' p x =>
    split at he <;> try (cases he; done)
    rename_i i hT
    have hs : ∃ e0, storeAt i σ (opd σ.env p) x = some e0 ∧ e0 = e := by
      split at he
      · rename_i e0 h0
        refine ⟨e0, h0, ?_⟩
        split at he
        · split at he
          · injection he
          · cases he
        · injection he
      · cases he
    obtain ⟨e0, hs, rfl⟩ := hs
    unfold storeAt at hs
    split at hs
    · split at hs
      · split at hs
        · injection hs with hs; subst hs; cases hp
        · cases hs
      · cases hs
    · rename_i q k off hpv
      split at hs
      · rename_i v' sz n xs hv hl
        split at hs
        · split at hs
          · injection hs with hs; subst hs
            cases q with
            | cell qi qo => cases hp
            | slot u =>
              simp only [rewr] at hp
              injection hp with hp; injection hp with h1 h2; subst h1; subst h2
              exact ⟨sz, n, xs, _, hl, rfl, by simp⟩
          · cases hs
        · cases hs
      · cases hs
    · cases hs
  all_goals
    refine no ?_
    clear no hp
    try simp only [assignAt, moveAt, sliceAt, builtinAt, lenAt, appendAt, mmAt, deleteAt, callAt, callGo, updateAt, buildRef] at he
    (repeat' split at he) <;> first
      | (cases he; done)
      | (injection he with he; subst he; rfl)
      | (rw [Option.map_eq_some_iff] at he; obtain ⟨_, _, rfl⟩ := he; rfl)
theorem effG_poke {call : CallF} (he : effG T call cx ops fr o σ = some e) : PokeOk σ e := by
  unfold effG at he
  split at he
  · split at he
    · rename_i e1 h1
      have hee : e1 = e := by
        split at he
        · split at he
          · cases he
          · injection he
        · simpa using he
      subst hee; exact eff_poke h1
    · cases he
  · injection he with he; subst he; intro t v hp; cases hp
  · cases he

/-- An operation comes up, and is what the table says of it. -/
def Stp (T : Types) (call : CallF) (cx : Cx) (ops : Array Oper) (fr : Nat → Nat) (R W : Nat → List Res) (i : Nat) (σ σ' : St) : Prop :=
  (∃ o e, ops[i]? = some o ∧ effG T call cx ops (fr i) o σ = some e ∧ Tame e ∧ calm o e = true ∧ (rdG ops σ.env o).all (seen σ) = true ∧ reads ops (fr i) o σ.env e = R i ∧ writes o.dst e = W i ∧
    (∀ r ∈ refRes e.val, r ∈ R i) ∧ σ' = apply σ o.dst e) ∨
  ∃ o e, ops[i]? = some o ∧ effG T call cx ops (fr i) o σ = some e ∧ Res.top ∈ R i ∧ σ' = apply σ o.dst e

theorem Stp.op {fr : Nat → Nat} {R W : Nat → List Res} {i : Nat} {σ σ' : St} (h : Stp T call cx ops fr R W i σ σ') : ∃ o e, ops[i]? = some o ∧ effG T call cx ops (fr i) o σ = some e ∧ σ' = apply σ o.dst e := by
  rcases h with ⟨o, e, h1, h2, _, _, _, _, _, _, h3⟩ | ⟨o, e, h1, h2, _, h3⟩
  · exact ⟨o, e, h1, h2, h3⟩
  · exact ⟨o, e, h1, h2, h3⟩

/-- The same operation where it sees the same. -/
theorem stp_same {fr : Nat → Nat} {i : Nat} (ho : ops[i]? = some o) (he : effG T call cx ops (fr i) o σ = some e) (hc : calm o e = true) (hs : (rdG ops σ.env o).all (seen σ) = true)
    (hg : gsame ops o σ τ) (h : ∀ x ∈ rdG ops σ.env o, Alike (derefs o) (light o) σ τ x)
    (hput : ∀ ks H, e.mem = .put ks H → σ.heap.length = τ.heap.length ∧ ∀ id, ks.contains id = true → bcells σ.heap id = bcells τ.heap id)
    (hfr : isFresh o = true → σ.heap.length = τ.heap.length ∧ bcells σ.heap (fr i) = bcells τ.heap (fr i)) :
    effG T call cx ops (fr i) o τ = some e ∧ (rdG ops τ.env o).all (seen τ) = true ∧ reads ops (fr i) o τ.env e = reads ops (fr i) o σ.env e := by
  have hr := rdG_same (τ := τ) hg (fun x hx => (h x hx).opd)
  refine ⟨effG_rd he (.inl hc) hg h hput hfr, ?_, ?_⟩
  · rw [hr, List.all_eq_true] at *
    exact fun x hx => by rw [seen_same (h x hx)]; exact hs x hx
  · unfold reads
    rw [hr]
    have : (rdG ops σ.env o).flatMap (opReads (derefs o) (light o) τ.env) = (rdG ops σ.env o).flatMap (opReads (derefs o) (light o) σ.env) := by
      simp only [List.flatMap]
      congr 1
      exact List.map_congr_left fun x hx => opReads_same (h x hx).opd
    rw [this]

def apartR (R W R' W' : List Res) : Prop := (Res.top ∉ R ∧ Res.top ∉ R') ∧ (∀ r ∈ W, r ∉ R') ∧ (∀ r ∈ W', r ∉ R) ∧ (∀ r ∈ W, r ∉ W')

theorem reads_op {x : Operand} (hx : x ∈ rdG ops σ.env o) {r : Res} (hr : r ∈ opReads (derefs o) (light o) σ.env x) : r ∈ reads ops fr o σ.env e := by
  unfold reads
  simp only [List.mem_append, List.mem_flatMap]
  exact .inl (.inl (.inr ⟨x, hx, hr⟩))
theorem reads_guard {t : Nat} (h : guardSlot ops o = some t) : Res.slot t ∈ reads ops fr o σ.env e := by
  unfold reads; rw [h]; simp
theorem reads_fresh (h : isFresh o = true) : Res.blk fr ∈ reads ops fr o σ.env e := by
  unfold reads; rw [h]; simp

theorem reads_put {ks : List Nat} {H : Heap} (h : e.mem = .put ks H) {id : Nat} (hid : ks.contains id = true) : Res.blk id ∈ reads ops fr o σ.env e := by
  unfold reads memReads
  rw [h]
  simp only [List.mem_append, List.mem_map]
  exact .inl (.inl (.inl ⟨id, by simpa using hid, rfl⟩))

/-- **The other way round.** -/
theorem swap {fr : Nat → Nat} {R W : Nat → List Res} {i j : Nat} {σ1 σ2 : St} (hi : Stp T call cx ops fr R W i σ σ1) (hj : Stp T call cx ops fr R W j σ1 σ2) (ha : apartR (R i) (W i) (R j) (W j)) :
    ∃ τ τ2, Stp T call cx ops fr R W j σ τ ∧ Stp T call cx ops fr R W i τ τ2 ∧ Eqv σ2 τ2 := by
  obtain ⟨⟨a01, a02⟩, a1, a2, a3⟩ := ha
  rcases hi with ⟨oi, ei, i1, i2, i3, i4, i5, i6, i7, i8, rfl⟩ | ⟨_, _, _, _, ht, _⟩
  case inr => exact absurd ht a01
  rcases hj with ⟨oj, ej, j1, j2, j3, j4, j5, j6, j7, j8, rfl⟩ | ⟨_, _, _, _, ht, _⟩
  case inr => exact absurd ht a02
  rw [List.all_eq_true] at i5 j5
  have pi : PokeOk σ ei := effG_poke i2
  -- j first
  have alj : ∀ x ∈ rdG ops (apply σ oi.dst ei).env oj, Alike (derefs oj) (light oj) σ (apply σ oi.dst ei) x := fun x hx =>
    alike_back i3 pi (j5 x hx) (fun r hr hw => a1 r (i7 ▸ hw) (j6 ▸ reads_op hx hr))
  have alj' : ∀ x ∈ rdG ops (apply σ oi.dst ei).env oj, Alike (derefs oj) (light oj) (apply σ oi.dst ei) σ x := fun x hx => by
    obtain ⟨q1, q2, q3⟩ := alj x hx
    refine ⟨q1.symm, fun p hp => (q2 p ?_).symm, fun hb id hp => (q3 hb id ?_).symm⟩
    · have hne : isEx (opd (apply σ oi.dst ei).env x) = false := by cases hv : opd (apply σ oi.dst ei).env x <;> rw [hv] at hp <;> simp [V.refsTo] at hp <;> rfl
      rw [← q1.symm.of_not hne]; exact hp
    · rw [← q1.symm.of_not (by cases hv : opd (apply σ oi.dst ei).env x <;> rw [hv] at hp <;> simp [blkOf] at hp <;> rfl)]; exact hp
  have gj : gsame ops oj (apply σ oi.dst ei) σ := fun t ht => by
    obtain ⟨_, hb, hx⟩ := effG_guard j2 ht
    have hns : Res.slot t ∉ writes oi.dst ei := fun hw => a1 _ (i7 ▸ hw) (j6 ▸ reads_guard ht)
    exact (get_left (l := true) i3 pi hns (fun h => by cases h) (not_killed i3 pi hns hb)).symm.of_not hx
  obtain ⟨e1, e2, e3⟩ := stp_same (τ := σ) j1 j2 j4 (List.all_eq_true.2 j5) gj alj' (fun ks H hm => ⟨(bcells_apply _ _ i3.all 0).2, fun id hid => blk_left i3 (fun hw => a1 _ (i7 ▸ hw) (j6 ▸ reads_put hm hid))⟩) (fun hf => ⟨(bcells_apply _ _ i3.all 0).2, blk_left i3 (fun hw => a1 _ (i7 ▸ hw) (j6 ▸ reads_fresh hf))⟩)
  have pj : PokeOk σ ej := effG_poke e1
  -- i behind it
  have ali : ∀ x ∈ rdG ops σ.env oi, Alike (derefs oi) (light oi) σ (apply σ oj.dst ej) x := fun x hx => alike_forth j3 pj (i5 x hx) (fun r hr hw => a2 r (j7 ▸ hw) (i6 ▸ reads_op hx hr))
  have gi : gsame ops oi σ (apply σ oj.dst ej) := fun t ht => by
    obtain ⟨hb, _, hx⟩ := effG_guard i2 ht
    have hns : Res.slot t ∉ writes oj.dst ej := fun hw => a2 _ (j7 ▸ hw) (i6 ▸ reads_guard ht)
    have hk : kills oj.dst ej (get σ.env t) = false := by
      unfold kills
      rw [memKills_nonway hb]
      cases oj.dst <;> simp [killedBy, refsTo_nonway hb]
    exact (get_left (l := true) j3 pj hns (fun h => by cases h) hk).of_not hx
  obtain ⟨f1, f2, f3⟩ := stp_same (τ := apply σ oj.dst ej) i1 i2 i4 (List.all_eq_true.2 i5) gi ali (fun ks H hm => ⟨(bcells_apply _ _ j3.all 0).2.symm, fun id hid => (blk_left j3 (fun hw => a2 _ (j7 ▸ hw) (i6 ▸ reads_put hm hid))).symm⟩) (fun hf => ⟨(bcells_apply _ _ j3.all 0).2.symm, (blk_left j3 (fun hw => a2 _ (j7 ▸ hw) (i6 ▸ reads_fresh hf))).symm⟩)
  refine ⟨_, _, .inl ⟨oj, ej, j1, e1, j3, j4, e2, by rw [e3, j6], j7, j8, rfl⟩, .inl ⟨oi, ei, i1, f1, i3, i4, f2, by rw [f3, i6], i7, i8, rfl⟩, ?_⟩
  exact comm i3 j3 (fun r hr hw => a3 r (i7 ▸ hr) (j7 ▸ hw)) (fun r hr hw => a2 r (j7 ▸ hw) (i8 r hr)) (fun r hr hw => a1 r (i7 ▸ hw) (j8 r hr))

end
end Go.Vm
end

section
/- V31: all orders. -/
namespace Go.Vm
open Go

def Closed (ops : Array Oper) (L : Array Bool) : Prop := ∀ j o, ops[j]? = some o → L.getD j false = true → ∀ e ∈ o.after, Region.binds .any e = true → L.getD e.on false = true

theorem fold_bits (anc : List Nat) (i : Nat) : ∀ (l : List Edge) (b : Nat), (l.foldl (fun b e => if Region.binds .any e then b ||| 2 ^ e.on ||| anc.getD e.on 0 else b) b).testBit i = true →
    b.testBit i = true ∨ ∃ e ∈ l, Region.binds .any e = true ∧ (e.on = i ∨ (anc.getD e.on 0).testBit i = true)
  | [], b, h => .inl h
  | e :: l, b, h => by
    simp only [List.foldl_cons] at h
    rcases fold_bits anc i l _ h with h | ⟨x, hx, h⟩
    · split at h
      · rename_i hb
        simp only [Nat.testBit_or, Bool.or_eq_true, Nat.testBit_two_pow, decide_eq_true_eq] at h
        rcases h with (h | h) | h
        · exact .inl h
        · exact .inr ⟨e, by simp, hb, .inl h⟩
        · exact .inr ⟨e, by simp, hb, .inr h⟩
      · exact .inl h
    · exact .inr ⟨x, by simp [hx], h⟩

def AncOk (ops : Array Oper) (acc : List Nat) : Prop := ∀ (L : Array Bool), Closed ops L → ∀ j i o, ops[j]? = some o → (∀ e ∈ o.after, Region.binds .any e = true → L.getD e.on false = true) → (acc.getD j 0).testBit i = true → L.getD i false = true

theorem ancs_ok {ops : Array Oper} : ∀ (l : List Oper) (acc : List Nat), AncOk ops acc → (∀ j, l[j]? = ops[acc.length + j]?) → AncOk ops (ancs l acc)
  | [], acc, h, _ => h
  | o :: l, acc, h, hl => by
    refine ancs_ok l _ (fun L hc j i o' ho' hd hb => ?_) (fun j => by have := hl (j + 1); simpa [Nat.add_assoc, Nat.add_comm 1 j] using this)
    rcases Nat.lt_or_ge j acc.length with hlt | hge
    · rw [List.getD_eq_getElem?_getD, List.getElem?_append_left hlt, ← List.getD_eq_getElem?_getD] at hb
      exact h L hc j i o' ho' hd hb
    · by_cases hj : j = acc.length
      · subst hj
        have h0 : ops[acc.length]? = some o := by simpa using (hl 0).symm
        obtain rfl : o' = o := Option.some.inj (ho'.symm.trans h0)
        have hb' : (ancStep acc o').testBit i = true := by simpa using hb
        rcases fold_bits acc i _ 0 hb' with h1 | ⟨e, he, h1, h2⟩
        · simp at h1
        · have he' : e ∈ o'.after := by simpa using he
          rcases h2 with h2 | h2
          · rw [← h2]; exact hd e he' h1
          · cases hoe : ops[e.on]? with
            | none =>
              have hlt : e.on < acc.length := by
                rcases Nat.lt_or_ge e.on acc.length with h' | h'
                · exact h'
                · simp [List.getD_eq_getElem?_getD, List.getElem?_eq_none h'] at h2
              have h3 := (Array.getElem?_eq_some_iff.1 h0).1
              rw [Array.getElem?_eq_none_iff] at hoe; omega
            | some oe => exact h L hc e.on i oe hoe (hc e.on oe hoe (hd e he' h1)) h2
      · have : (acc ++ [ancStep acc o]).getD j 0 = 0 := by
          rw [List.getD_eq_getElem?_getD, List.getElem?_eq_none (by simp; omega)]; rfl
        rw [this] at hb; simp at hb

theorem dep_listed {ops : Array Oper} {L : Array Bool} (hc : Closed ops L) (j i : Nat) (o : Oper) (ho : ops[j]? = some o) (hd : ∀ e ∈ o.after, Region.binds .any e = true → L.getD e.on false = true)
    (h : depB ops j i = true) : L.getD i false = true :=
  ancs_ok ops.toList [] (fun _ _ _ _ _ _ _ h => by simp at h) (by simp) L hc j i o ho hd h

theorem Closed.set {ops : Array Oper} {L : Array Bool} (hc : Closed ops L) {i : Nat} (hi : i ∈ Region.ready .any ops L) : Closed ops (L.setIfInBounds i true) := by
  obtain ⟨_, oi, hoi, hall⟩ := mem_ready.1 hi
  intro j o hj hl e he hb
  by_cases hij : i = j
  · subst hij
    have : o = oi := Option.some.inj (hj.symm.trans hoi)
    subst this
    exact getD_set_true (hall e he hb)
  · rw [getD_set_ne false hij] at hl
    exact getD_set_true (hc j o hj hl e he hb)

section
variable {T : Types} {call : CallF} {cx : Cx} {ops : Array Oper} {fr : Nat → Nat} {R W : Nat → List Res} {Q : St → Prop}

theorem alike_eqv {b l : Bool} {σ τ : St} (h : Eqv σ τ) (x : Operand) : Alike b l σ τ x :=
  ⟨.inl (h.opd x), fun p _ => .inl (h.look p), fun _ id _ => by rw [h.2]⟩

theorem stp_eqv {σ τ σ' : St} {i : Nat} (hs : Stp T call cx ops fr R W i σ σ') (h : Eqv σ τ) : ∃ τ', Stp T call cx ops fr R W i τ τ' ∧ Eqv σ' τ' := by
  rcases hs with ⟨o, e, i1, i2, i3, i4, i5, i6, i7, i8, rfl⟩ | ⟨o, e, i1, i2, i3, rfl⟩
  · obtain ⟨f1, f2, f3⟩ := stp_same (τ := τ) i1 i2 i4 i5 (fun t _ => h.1 t) (fun x _ => alike_eqv h x) (fun _ _ _ => ⟨by rw [h.2], fun _ _ => by rw [h.2]⟩) (fun _ => ⟨by rw [h.2], by rw [h.2]⟩)
    exact ⟨_, .inl ⟨o, e, i1, f1, i3, i4, f2, by rw [f3, i6], i7, i8, rfl⟩, h.apply _ _⟩
  · exact ⟨_, .inr ⟨o, e, i1, effG_rd i2 (.inr h) (fun t _ => h.1 t) (fun x _ => alike_eqv h x) (fun _ _ _ => ⟨by rw [h.2], fun _ _ => by rw [h.2]⟩) (fun _ => ⟨by rw [h.2], by rw [h.2]⟩), i3, rfl⟩, h.apply _ _⟩

def VAny (T : Types) (call : CallF) (cx : Cx) (ops : Array Oper) (fr : Nat → Nat) (R W : Nat → List Res) (Q : St → Prop) : Nat → Array Bool → St → Prop
  | 0, L, σ => Region.ready .any ops L = [] ∧ Q σ
  | f + 1, L, σ => (Region.ready .any ops L = [] → Q σ) ∧ ∀ i ∈ Region.ready .any ops L, ∃ σ', Stp T call cx ops fr R W i σ σ' ∧ VAny T call cx ops fr R W Q f (L.setIfInBounds i true) σ'

theorem vany_eqv (hQ : ∀ σ τ, Eqv σ τ → Q σ → Q τ) : ∀ (f : Nat) (L : Array Bool) (σ τ : St), VAny T call cx ops fr R W Q f L σ → Eqv σ τ → VAny T call cx ops fr R W Q f L τ
  | 0, L, σ, τ, h, he => ⟨h.1, hQ _ _ he h.2⟩
  | f + 1, L, σ, τ, h, he => by
    refine ⟨fun h0 => hQ _ _ he (h.1 h0), fun i hi => ?_⟩
    obtain ⟨σ', h1, h2⟩ := h.2 i hi
    obtain ⟨τ', g1, g2⟩ := stp_eqv h1 he
    exact ⟨τ', g1, vany_eqv hQ f _ σ' τ' h2 g2⟩

theorem getD_not {L : Array Bool} {i : Nat} (h : L.getD i true = false) : L.getD i false = false := by
  rcases Nat.lt_or_ge i L.size with h' | h'
  · simp [h'] at h ⊢; exact h
  · simp [Array.getElem?_eq_none h'] at h

theorem vany_first (hQ : ∀ σ τ, Eqv σ τ → Q σ → Q τ) {i : Nat} : ∀ (f : Nat) (L : Array Bool) (σ σ1 : St), Closed ops L →
    (∀ j, j < ops.size → j ≠ i → L.getD j true = false → depB ops j i = true ∨ apartR (R i) (W i) (R j) (W j)) → i ∈ Region.ready .any ops L → Stp T call cx ops fr R W i σ σ1 →
    VAny T call cx ops fr R W Q f (L.setIfInBounds i true) σ1 → VAny T call cx ops fr R W Q (f + 1) L σ
  | 0, L, σ, σ1, hc, hfree, hr, hs, H => by
    refine ⟨fun h => (by rw [h] at hr; cases hr), fun j hj => ?_⟩
    by_cases hji : j = i
    · subst hji; exact ⟨σ1, hs, H⟩
    · have := ready_mono hj hji
      rw [H.1] at this
      cases this
  | f + 1, L, σ, σ1, hc, hfree, hr, hs, H => by
    refine ⟨fun h => (by rw [h] at hr; cases hr), fun j hj => ?_⟩
    by_cases hji : j = i
    · subst hji; exact ⟨σ1, hs, H⟩
    · obtain ⟨σ2, h1, h2⟩ := H.2 j (ready_mono hj hji)
      obtain ⟨hjun, oj, hoj, hall⟩ := mem_ready.1 hj
      have hap : apartR (R i) (W i) (R j) (W j) := by
        rcases hfree j (Array.getElem?_eq_some_iff.1 hoj).1 hji hjun with hd | ha
        · have := dep_listed hc j i oj hoj hall hd
          rw [getD_not (mem_ready.1 hr).1] at this; cases this
        · exact ha
      obtain ⟨τ, τ2, g1, g2, g3⟩ := swap hs h1 hap
      refine ⟨τ, g1, vany_first hQ f _ τ τ2 (hc.set hj) (fun k hk hki hun => hfree k hk hki ?_) (ready_mono hr (Ne.symm hji)) g2 ?_⟩
      · by_cases hjk : j = k
        · subst hjk; exact hjun
        · rw [getD_set_ne true hjk] at hun; exact hun
      · rw [Array.setIfInBounds_comm _ _ hji]
        exact vany_eqv hQ f _ σ2 τ2 h2 g3

/-- The text's order. -/
def Lex (T : Types) (call : CallF) (cx : Cx) (ops : Array Oper) (fr : Nat → Nat) (R W : Nat → List Res) (Q : St → Prop) : Nat → Nat → St → Prop
  | 0, _, σ => Q σ
  | n + 1, k, σ => ∃ σ', Stp T call cx ops fr R W k σ σ' ∧ Lex T call cx ops fr R W Q n (k + 1) σ'
theorem getD_in_range {L : Array Bool} {i : Nat} (h : i < L.size) (b c : Bool) : L.getD i b = L.getD i c := by simp [h]

theorem vany_lex (hQ : ∀ σ τ, Eqv σ τ → Q σ → Q τ) (hback : ∀ k o, ops[k]? = some o → ∀ e ∈ o.after, Region.binds .any e = true → e.on < k)
    (hp : ∀ i j, i < j → j < ops.size → depB ops j i = true ∨ apartR (R i) (W i) (R j) (W j)) : ∀ (n k : Nat) (L : Array Bool) (σ : St),
    Closed ops L → (∀ j, j < ops.size → L.getD j true = decide (j < k)) → k + n = ops.size → L.size = ops.size → Lex T call cx ops fr R W Q n k σ → VAny T call cx ops fr R W Q n L σ
  | 0, k, L, σ, hc, hl, hn, hs, h => by
    refine ⟨?_, h⟩
    rw [List.eq_nil_iff_forall_not_mem]
    intro j hj
    obtain ⟨h1, o, ho, _⟩ := mem_ready.1 hj
    have hlt := (Array.getElem?_eq_some_iff.1 ho).1
    rw [hl j hlt] at h1
    simp at h1; omega
  | n + 1, k, L, σ, hc, hl, hn, hs, h => by
    have hk : k < ops.size := by omega
    have hr' : k ∈ Region.ready .any ops L := by
      refine mem_ready.2 ⟨by rw [hl k hk]; simp, ops[k], Array.getElem?_eq_getElem hk, fun e he hb => ?_⟩
      have hlt := hback k _ (Array.getElem?_eq_getElem hk) e he hb
      rw [getD_in_range (by omega) false true, hl e.on (by omega)]; simpa using hlt
    obtain ⟨σ1, h1, h2⟩ := h
    refine vany_first hQ n L σ σ1 hc (fun j hj hjk hun => hp k j ?_ hj) hr' h1 (vany_lex hQ hback hp n (k + 1) _ σ1 (hc.set hr') (fun j hj => ?_) (by omega) (by simpa using hs) h2)
    · rw [hl j hj] at hun; simp at hun; omega
    · by_cases hjk : k = j
      · subst hjk
        simp [hs, hj]
      · rw [getD_set_ne true hjk, hl j hj]
        rw [Bool.eq_iff_iff]; simp; omega

end
end Go.Vm
end

section
/- V32: a region that draws its order. -/
namespace Go.Vm
open Go

section
variable {P : Program} {T : Types} {call : CallF} {cx : Cx} {ops : Array Oper} {fr : Nat → Nat} {R W : Nat → List Res}

theorem wpAny_of_vany (hS : Sound P call) (hC : CxOk P cx) (hT : TOk P T) (r : Option Nat) (Q : Exit → Act → World → Prop) (G : St → Prop) : ∀ (f : Nat) (L : Array Bool) (own : Own) (β : Nat → Nat) (w : World) (σ : St) (a : Act), SR own β w σ a.tmps →
    (∀ o ∈ ops.toList, ∀ d, o.dst = some d → d < a.tmps.size) → VAny T call cx ops fr R W G f L σ → (∀ own' β' w' a' σ', G σ' → Nxt own β w σ a own' β' w' σ' a' → Q .normal a' w') → wpAnyIn (Fw r) 0 P .any ops Q f L a w
  | 0, L, own, β, w, σ, a, h, hd, hv, hQ => ⟨hv.1, hQ _ _ _ _ _ hv.2 (Nxt.refl h)⟩
  | f + 1, L, own, β, w, σ, a, h, hd, hv, hQ => by
    refine ⟨fun h0 => hQ _ _ _ _ _ (hv.1 h0) (Nxt.refl h), fun i hi => ?_⟩
    obtain ⟨σ', hst, h2⟩ := hv.2 i hi
    obtain ⟨o, e, i1, i2, rfl⟩ := hst.op
    have ho : o ∈ ops.toList := by simpa using Array.mem_of_getElem? i1
    have hvop : vop T call cx ops (fr i) o σ = some (apply σ o.dst e) := by unfold vop; rw [i2]; rfl
    unfold wpOpIn
    simp only [i1]
    refine ok_vop hS hC ⟨h, hd o ho, hT⟩ hvop r _ Q (fun own1 β1 w1 a1 hn => ?_)
    exact wpAny_of_vany hS hC hT r Q G f _ own1 β1 w1 _ a1 hn.sr (fun o ho d hd' => by rw [hn.size]; exact hd o ho d hd') h2 (fun own' β' w' a' σ' hg hn' => hQ _ _ _ _ _ hg (hn.trans hn'))

/-- What is known of a state is known of one that looks the same. -/
theorem Nxt.eqv {own own' : Own} {β β' : Nat → Nat} {w w' : World} {σ σ1 σ2 : St} {a a' : Act} (h : Nxt own β w σ a own' β' w' σ1 a') (he : Eqv σ1 σ2) : Nxt own β w σ a own' β' w' σ2 a' :=
  ⟨h.sr.congr (fun t => (he.1 t).symm) he.2.symm, h.stay, by rw [← he.2]; exact h.bx, h.defers, h.size⟩

end
end Go.Vm
end
