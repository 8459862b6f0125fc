/- V14: append, operators. -/
import Derived.Test.YtgmdkjiflhklaaaV13E
namespace Go.Vm
open Go

section
variable {P : Program} {o : Oper} {own : Own} {β : Nat → Nat} {w : World} {σ : St} {a : Act}

theorem SrcL.reloc {ρ : Loc → Loc} (hr : Reloc ρ) {sz : Nat} {ys : List V} {news : List Value} (h : SrcL own w sz ys news) : SrcL (fun b => ρ (own b)) w sz ys news :=
  ⟨h.len, h.cells, fun i x j y c hi hj hc => (h.fr i x j y c hi hj hc).reloc hr⟩

theorem base_ok (h : SR own β w σ a.tmps) {sz : Nat} {x : Operand} {n : Bool} {xs : List V} {ps : List (Place × V)} (hb : base sz σ x = some (n, xs, ps)) :
    ∃ o1, Nxt own β w σ a o1 β w (setPlaces σ ps) a ∧ EXR o1 w (.res 0 0) sz n xs (a.eval x) ∧ ∃ ρ, Reloc ρ ∧ o1 = fun b => ρ (own b) := by
  unfold base at hb
  have give : ∀ p m ys, look σ p = .ex sz m ys → conc β a.tmps w p = some (a.eval x) →
      ∃ o1, Nxt own β w σ a o1 β w (setPlaces σ [(p, .undef)]) a ∧ EXR o1 w (.res 0 0) sz m ys (a.eval x) ∧ ∃ ρ, Reloc ρ ∧ o1 = fun b => ρ (own b) := by
    intro p m ys q1 q2
    obtain ⟨o1, c, h1, h2, h3, h4⟩ := Nxt.give h q1
    rw [q2] at h2; injection h2 with h2; subst h2
    refine ⟨o1, h1, h3, _, moved_reloc ?_ ?_ ?_ ?_ ?_, h4⟩ <;> cases p <;> simp [locOf]
  split at hb
  · rename_i hv
    injection hb with hb; injection hb with h1 hb; injection hb with h2 h3; subst h1; subst h2; subst h3
    have hf := opd_sl h hv
    refine ⟨own, Nxt.refl h, ?_, id, reloc_id, rfl⟩
    generalize a.eval x = c at hf
    cases hf
    exact .inl ⟨rfl, rfl, rfl⟩
  · rename_i sz' m ys hv
    split at hb
    · rename_i t ht
      obtain rfl := tmpOf_some ht
      split at hb
      · rename_i hs; subst hs
        injection hb with hb; injection hb with h1 hb; injection hb with h2 h3; subst h1; subst h2; subst h3
        exact give (.slot t) _ _ hv rfl
      · cases hb
    · cases hb
  · rename_i p hv
    obtain ⟨sz', m, ys, q1, q2⟩ := opd_lent h hv
    simp only [q1] at hb
    split at hb
    · rename_i hs; subst hs
      injection hb with hb; injection hb with h1 hb; injection hb with h2 h3; subst h1; subst h2; subst h3
      exact give p _ _ q1 q2
    · cases hb
  · cases hb

theorem content_src (h : SR own β w σ a.tmps) {x : Operand} {n : Bool} {ys : List V} (hc : content σ (opd σ.env x) = some (n, ys)) {sz : Nat} {tx e' : TypeId} (hs : 0 < sz)
    (hk : P.underlying tx = some (.slice e')) (hcells : ∀ y ∈ ys, y.cells.length = sz) : ∃ news, Src P sz tx (a.eval x) ys.length news w ∧ SrcL own w sz ys news := by
  cases hv : opd σ.env x <;> simp only [hv, content] at hc <;> try (cases hc; done)
  · injection hc with hc; injection hc with h1 h2; subst h1; subst h2
    exact src_of_FR hs hk (opd_sl h hv) hcells
  · injection hc with hc; injection hc with h1 h2; subst h1; subst h2
    have := opd_TR h x (by rw [hv]; rfl)
    rw [hv] at this
    exact src_of_EXR hs hk this hcells
  · rename_i p
    obtain ⟨sz, m, ys, q1, q2⟩ := opd_lent h hv
    simp only [q1] at hc
    injection hc with hc; injection hc with h1 h2; subst h1; subst h2
    obtain ⟨c0, g1, g2⟩ := h.at_ q1
    rw [q2] at g1; injection g1 with g1
    rw [← g1] at g2
    exact src_of_EXR hs hk g2 hcells

theorem ok_append {T : Types} (h : Hyp P T o own β w σ a) {c : Call} (ho : o.op = .call c) (hb : c.callee = .builtin .append) {e : Eff}
    (he : appendAt T σ c = some e) : OpOk P o own β w σ a (apply σ o.dst e) := by
  unfold appendAt at he
  split at he
  · rename_i s x t tx hx ht
    have hx' : c.args = #[s, x] := by rw [← Array.toList_inj]; simpa using hx
    have ht' : c.argTypes = #[t, tx] := by rw [← Array.toList_inj]; simpa using ht
    split at he
    · rename_i el el' n' ys hk hk' hc
      obtain ⟨i, r, hki⟩ := kindOf_row h.T hk
      have hu := kind_slice r hki
      obtain ⟨i', r', hki'⟩ := kindOf_row h.T hk'
      have hu' := kind_slice r' hki'
      cases hel : T el <;> simp only [hel] at he
      · cases he
      rename_i ei
      obtain ⟨re⟩ := Row.of h.T hel
      split at he
      · rename_i n xs ps hbase
        split at he
        · rename_i hcond
          obtain ⟨c1, c2, c3, c4⟩ := hcond
          injection he with he; subst he
          obtain ⟨o1, h1, h2, ρ, hr, rfl⟩ := base_ok h.sr hbase
          obtain ⟨news, hs1, hs2⟩ := content_src (P := P) h.sr hc c2 hu' (fun y hy => by simpa using List.all_eq_true.1 c4 y hy)
          have hsz := re.hsize
          obtain ⟨c', w', o2, g1, g2, g3, g4⟩ := SR.append (P := P) (ty := o.type) h1.sr hu re.hinfo re.hz (by rw [re.hzs, hsz]) (by rw [hsz]; exact c2) (by rw [hsz]; exact h2)
            (by rw [hsz]; exact hs1) (by rw [hsz]; exact hs2.reloc hr) (by rw [re.hbytes]; simpa [rooms, maxRoom] using of_decide_eq_true c1) c3
          obtain ⟨_, hrun⟩ := run_builtin (P := P) (a := a) ho hb w
          have hrun' : (execOp a.eval o).run P w = .ok (.value c') w' := by
            rw [hrun]
            simp [builtin, hx', ht', g1]
          rw [hsz] at g4
          exact OpOk.value hrun' ⟨g2, h1.stay.trans g3, h1.bx, rfl, rfl⟩ h.dst rfl g4
        · cases he
      · cases he
    · cases he
  · cases he

theorem run_ptrs {t el : TypeId} (hu : P.underlying t = some (.pointer el)) (p q : Option Addr) (h : p = none ∨ q = none) (w : World) :
    (binOp .eql t (.pointer p) (.pointer q)).run P w = .ok (.bool (p.isNone && q.isNone)) w ∧ (binOp .neq t (.pointer p) (.pointer q)).run P w = .ok (.bool (!(p.isNone && q.isNone))) w := by
  have he : ∀ d, (Op.equalIn (d + 1) t (.pointer p) (.pointer q)).run P w = .ok (p.isNone && q.isNone) w := by
    intro d
    rcases h with rfl | rfl
    · simp [Op.equalIn, run_underlying hu]
    · cases p <;> simp [Op.equalIn, run_underlying hu]
  constructor <;> simp only [binOp, Op.equal, Op.maxDepth, Sem.run_bind] <;> rw [he 9999] <;> rfl

theorem run_slices {t el : TypeId} (hu : P.underlying t = some (.slice el)) (p q : Option Addr) (l c l' c' : Nat) (h : p = none ∨ q = none) (w : World) :
    (binOp .eql t (.slice p l c) (.slice q l' c')).run P w = .ok (.bool (p.isNone && q.isNone)) w ∧ (binOp .neq t (.slice p l c) (.slice q l' c')).run P w = .ok (.bool (!(p.isNone && q.isNone))) w := by
  have he : ∀ d, (Op.equalIn (d + 1) t (.slice p l c) (.slice q l' c')).run P w = .ok (p.isNone && q.isNone) w := by
    intro d
    rcases h with rfl | rfl
    · simp [Op.equalIn, run_underlying hu]
    · cases p <;> simp [Op.equalIn, run_underlying hu]
  constructor <;> simp only [binOp, Op.equal, Op.maxDepth, Sem.run_bind] <;> rw [he 9999] <;> rfl

theorem guard_none {op : BinOp} {t : TypeId} {x y : Operand} {c d : Value} (h1 : c ≠ .nilIface) (h2 : ∀ arr, c ≠ .agg arr) (w : World) : (eqGuard op t x y c d).run P w = .ok () w := by
  unfold eqGuard
  cases op <;> simp <;> (cases c <;> first | rfl | exact absurd rfl h1 | exact absurd rfl (h2 _))

theorem fits_get : ∀ {ks : List TK} {as : List V}, fits ks as = true → as.length = ks.length ∧ ∀ (j : Nat) (k : TK) (a : V), ks[j]? = some k → as[j]? = some a → leafV k a = true
  | [], [], _ => ⟨rfl, by simp⟩
  | k :: ks, a :: as, h => by
    simp only [fits, Bool.and_eq_true] at h
    obtain ⟨h1, h2⟩ := fits_get h.2
    refine ⟨by simp [h1], fun j k' a' hk ha => ?_⟩
    cases j with
    | zero => simp at hk ha; subst hk; subst ha; exact h.1
    | succ j => exact h2 j k' a' (by simpa using hk) (by simpa using ha)
  | [], _ :: _, h => by simp [fits] at h
  | _ :: _, [], h => by simp [fits] at h

theorem fits_dat {ks : List TK} {as : List V} (h : fits ks as = true) : as.all cellDat = true := by
  obtain ⟨h1, h2⟩ := fits_get h
  rw [List.all_eq_true]
  intro a ha
  obtain ⟨j, hj⟩ := List.getElem?_of_mem ha
  have hlt := (List.getElem?_eq_some_iff.1 hj).1
  have := h2 j (ks[j]'(by omega)) a (List.getElem?_eq_getElem _) hj
  generalize ks[j]'(by omega) = k at this
  cases k <;> cases a <;> simp [leafV] at this <;> rfl

theorem agree_of {ks : List TK} {as : List V} {arr : Array Value} (h : fits ks as = true) (hs : arr.size = as.length) (hf : ∀ (j : Nat) (v : V) (c : Value), as[j]? = some v → arr[j]? = some c → FR own w v c) : Agree ks as arr.toList := by
  obtain ⟨h1, h2⟩ := fits_get h
  refine ⟨h1, by simp [hs, h1], fun j k a x hk ha hx => ?_⟩
  have hl := h2 j k a hk ha
  have hfr := hf j a x ha (by simpa using hx)
  cases k <;> cases a <;> simp [leafV] at hl
  · cases hfr; simp [leafB]
  · cases hfr; simp [leafB, hl]
  · cases hfr; simp [leafB]

/-- Structs and arrays, compared. -/
theorem run_aggs (h : SR own β w σ a.tmps) {t : TypeId} {i : TI} (r : Row P t i) {x y : Operand} {as bs : List V} (hx : opd σ.env x = .agg as) (hy : opd σ.env y = .agg bs) (hne : i.leaves ≠ [])
    (f1 : fits i.leaves as = true) (f2 : fits i.leaves bs = true) :
    (∀ op, (eqGuard op t x y (a.eval x) (a.eval y)).run P w = .ok () w) ∧ (binOp .eql t (a.eval x) (a.eval y)).run P w = .ok (.bool (cellsEqv as bs)) w ∧ (binOp .neq t (a.eval x) (a.eval y)).run P w = .ok (.bool (!cellsEqv as bs)) w := by
  obtain ⟨xs, e1, s1, g1⟩ := opd_agg h hx (fits_dat f1)
  obtain ⟨ys, e2, s2, g2⟩ := opd_agg h hy (fits_dat f2)
  have hl := r.hleaves
  unfold leavesB at hl
  cases hk : i.leaves with
  | nil => exact absurd hk hne
  | cons k ks =>
    simp only [hk, Bool.and_eq_true, decide_eq_true_eq, beq_iff_eq, Bool.not_eq_true'] at hl
    obtain ⟨⟨⟨l1, l2⟩, l3⟩, l4⟩ := hl
    rw [hk] at f1 f2
    have a1 := agree_of (own := own) (w := w) f1 s1 g1
    have a2 := agree_of (own := own) (w := w) f2 s2 g2
    have hcells : P.cellsOf t = i.size := by simp [Program.cellsOf, r.hinfo, r.hsize]
    have hform : ∀ (arr : Array Value) (cs : List V), arr.size = cs.length → fits (k :: ks) cs = true → Value.formed P t (.agg arr) = true := by
      intro arr cs hs hf
      have hkk := r.hkind
      have hu := r.hd
      have hlen := (fits_get hf).1
      cases hki : i.kind <;> rw [hki] at l3 hkk <;> simp [TK.isAgg] at l3
      all_goals
        cases hd : r.d <;> simp only [hd, kindB] at hkk <;> try (cases hkk; done)
        rw [hd] at hu
        simp only [Value.formed, hu, hcells, beq_iff_eq]
        omega
    have heq := eq_ok (P := P) 9992 8 t w (k :: ks) as bs (.agg xs) (.agg ys) l1 (by simpa [Value.cells] using a1) (by simpa [Value.cells] using a2) (hform xs as s1 f1) (hform ys bs s2 f2)
    refine ⟨fun op => ?_, ?_, ?_⟩
    · rw [e1, e2]; exact run_eqGuard_agg w op t x y xs ys l2
    · rw [e1, e2, run_eql_struct, heq]; rfl
    · rw [e1, e2, run_neq_struct, heq]; rfl

theorem ok_binOp {T : Types} {call : CallF} {cx : Cx} {fr : Nat} (h : Hyp P T o own β w σ a) {op : BinOp} {t : TypeId} {x y : Operand} {g : _} (ho : o.op = .binOp op t x y g) {e : Eff}
    (he : eff T call cx fr o σ = some e) : OpOk P o own β w σ a (apply σ o.dst e) := by
  have hsr := h.sr
  simp only [eff, ho] at he
  cases hT : T t <;> simp only [hT] at he
  · cases he
  rename_i i
  obtain ⟨r⟩ := Row.of h.T hT
  rw [Option.map_eq_some_iff] at he
  obtain ⟨v, hv, rfl⟩ := he
  have key : ∀ c, (eqGuard op t x y (a.eval x) (a.eval y)).run P w = .ok () w → (binOp op t (a.eval x) (a.eval y)).run P w = .ok c w → (execOp a.eval o).run P w = .ok (.value c) w := by
    intro c hg hb
    simp only [execOp, ho, Sem.run_bind, hg, Result.andThen_ok, hb, Sem.run_pure]
  have hkk := r.hkind
  have hdd := r.hd
  unfold vbinop at hv
  cases hag : i.kind.isAgg <;> simp only [hag] at hv
  case true =>
    unfold vaggEq at hv
    split at hv <;> try (cases hv; done)
    rename_i as bs hx hy
    split at hv <;> try (cases hv; done)
    all_goals
      split at hv <;> try (cases hv; done)
      rename_i hc
      injection hv with hv; subst hv
      obtain ⟨b1, b2, b3⟩ := run_aggs (P := P) hsr r hx hy hc.1 hc.2.1 hc.2.2
      first
        | exact OpOk.plain h (key _ (b1 _) b2) rfl (fun _ => .bool _) rfl
        | exact OpOk.plain h (key _ (b1 _) b3) rfl (fun _ => .bool _) rfl
  unfold vbin at hv
  split at hv
  · rename_i k m k' n hx hy
    have h1 := opd_int hsr hx
    have h2 := opd_int hsr hy
    rw [h1, h2] at key
    have hg : (eqGuard op t x y (.int k m) (.int k' n)).run P w = .ok () w := guard_none (by simp) (by simp) w
    split at hv
    · split at hv
      · cases hv
      · rename_i hn
        injection hv with hv; subst hv
        exact OpOk.plain h (key _ hg (by simp [binOp, Op.shift, hn])) rfl (fun _ => .int _ _) rfl
    · split at hv
      · cases hv
      · rename_i hn
        injection hv with hv; subst hv
        exact OpOk.plain h (key _ hg (by simp [binOp, Op.shift, hn])) rfl (fun _ => .int _ _) rfl
    · split at hv
      · rename_i hkk'; subst hkk'
        cases op <;> simp only at hv <;> try (cases hv; done)
        case quo =>
          split at hv
          · cases hv
          · rename_i hn
            injection hv with hv; subst hv
            exact OpOk.plain h (key _ hg (by simp [binOp, Op.intDiv, hn])) rfl (fun _ => .int _ _) rfl
        case rem =>
          split at hv
          · cases hv
          · rename_i hn
            injection hv with hv; subst hv
            exact OpOk.plain h (key _ hg (by simp [binOp, Op.intDiv, hn])) rfl (fun _ => .int _ _) rfl
        all_goals
          injection hv with hv; subst hv
          refine OpOk.plain h (key _ hg (by simp only [binOp, Op.intArith, Op.intBits, Op.intCmp, ne_eq, not_true_eq_false, if_false, Sem.run_pure]; rfl)) rfl (fun _ => ?_) rfl
          first | exact .int _ _ | exact .bool _
      · cases hv
  · rename_i p q hx hy
    have h1 := opd_bool hsr hx
    have h2 := opd_bool hsr hy
    rw [h1, h2] at key
    have hg : (eqGuard op t x y (.bool p) (.bool q)).run P w = .ok () w := guard_none (by simp) (by simp) w
    split at hv <;> rename_i hki <;> try (cases hv; done)
    all_goals
      injection hv with hv; subst hv
      rw [hki] at hkk
      have hd : r.d = .bool := by cases hd : r.d <;> simp [hd, kindB] at hkk ⊢
      rw [hd] at hdd
      exact OpOk.plain h (key _ hg (by simp [binOp, Op.equal, Op.maxDepth, run_equalIn_bool w 9999 t p q hdd])) rfl (fun _ => .bool _) rfl
  · rename_i p q hx hy
    have h1 := opd_str hsr hx
    have h2 := opd_str hsr hy
    rw [h1, h2] at key
    have hg : (eqGuard op t x y (.string p) (.string q)).run P w = .ok () w := guard_none (by simp) (by simp) w
    split at hv <;> try (cases hv; done)
    all_goals try
      injection hv with hv; subst hv
      exact OpOk.plain h (key _ hg (by simp [binOp, Op.stringOp])) rfl (fun _ => .bool _) rfl
    split at hv
    · rename_i hlt
      injection hv with hv; subst hv
      have : ¬ ((p.size + q.size : Nat) : Int) > IntKind.i64.max := by omega
      exact OpOk.plain h (key _ hg (by simp only [binOp, Op.stringOp, this, if_false, Sem.run_pure])) rfl (fun _ => .str _) rfl
    · cases hv
  · rename_i hx hy
    have h1 := opd_nilp hsr hx
    have h2 := opd_nilp hsr hy
    rw [h1, h2] at key
    have hg : (eqGuard op t x y (.pointer none) (.pointer none)).run P w = .ok () w := guard_none (by simp) (by simp) w
    split at hv <;> rename_i hki <;> try (cases hv; done)
    all_goals
      injection hv with hv; subst hv
      rw [hki] at hkk
      obtain ⟨el, hd⟩ : ∃ el, r.d = .pointer el := by cases hd : r.d <;> simp [hd, kindB] at hkk; exact ⟨_, rfl⟩
      rw [hd] at hdd
      first | exact OpOk.plain h (key _ hg (run_ptrs hdd _ _ (by simp) w).1) rfl (fun _ => .bool _) rfl | exact OpOk.plain h (key _ hg (run_ptrs hdd _ _ (by simp) w).2) rfl (fun _ => .bool _) rfl
  · rename_i id off hx hy
    obtain ⟨h1, _⟩ := opd_ptr hsr hx
    have h2 := opd_nilp hsr hy
    rw [h1, h2] at key
    have hg : (eqGuard op t x y (.pointer (some ⟨β id, off, none⟩)) (.pointer none)).run P w = .ok () w := guard_none (by simp) (by simp) w
    split at hv <;> rename_i hki <;> try (cases hv; done)
    all_goals
      injection hv with hv; subst hv
      rw [hki] at hkk
      obtain ⟨el, hd⟩ : ∃ el, r.d = .pointer el := by cases hd : r.d <;> simp [hd, kindB] at hkk; exact ⟨_, rfl⟩
      rw [hd] at hdd
      first | exact OpOk.plain h (key _ hg (run_ptrs hdd _ _ (by simp) w).1) rfl (fun _ => .bool _) rfl | exact OpOk.plain h (key _ hg (run_ptrs hdd _ _ (by simp) w).2) rfl (fun _ => .bool _) rfl
  · rename_i id off hx hy
    have h1 := opd_nilp hsr hx
    obtain ⟨h2, _⟩ := opd_ptr hsr hy
    rw [h1, h2] at key
    have hg : (eqGuard op t x y (.pointer none) (.pointer (some ⟨β id, off, none⟩))).run P w = .ok () w := guard_none (by simp) (by simp) w
    split at hv <;> rename_i hki <;> try (cases hv; done)
    all_goals
      injection hv with hv; subst hv
      rw [hki] at hkk
      obtain ⟨el, hd⟩ : ∃ el, r.d = .pointer el := by cases hd : r.d <;> simp [hd, kindB] at hkk; exact ⟨_, rfl⟩
      rw [hd] at hdd
      first | exact OpOk.plain h (key _ hg (run_ptrs hdd _ _ (by simp) w).1) rfl (fun _ => .bool _) rfl | exact OpOk.plain h (key _ hg (run_ptrs hdd _ _ (by simp) w).2) rfl (fun _ => .bool _) rfl
  · cases hv
  · have nilOf : ∀ z, isConst z = true → ∀ n xs, content σ (opd σ.env z) = some (n, xs) → n = true ∧ a.eval z = .slice none 0 0 := by
      intro z hz n xs hc
      cases z <;> simp [isConst] at hz
      rename_i c
      obtain ⟨b, cap, q1, q2⟩ := content_shape hsr hc
      simp only [opd] at hc
      unfold cellOf at hc
      split at hc <;> simp only [content] at hc <;> try (cases hc; done)
      injection hc with hc; injection hc with h1 h2; subst h1; subst h2
      exact ⟨rfl, rfl⟩
    split at hv <;> try (cases hv; done)
    all_goals
      rename_i el hki hone
      split at hv <;> try (cases hv; done)
      rename_i n xs m ys hcx hcy
      injection hv with hv; subst hv
      have hu := kind_slice r hki
      obtain ⟨b1, c1, e1, g1⟩ := content_shape hsr hcx
      obtain ⟨b2, c2, e2, g2⟩ := content_shape hsr hcy
      have hg : ∀ op, (eqGuard op t x y (a.eval x) (a.eval y)).run P w = .ok () w := fun op => guard_none (by rw [e1]; simp) (by rw [e1]; simp) w
      have hor : b1 = none ∨ b2 = none := by
        rcases Bool.or_eq_true_iff.1 hone with hz | hz
        · exact .inl (g1.1 (nilOf x hz _ _ hcx).1)
        · exact .inr (g2.1 (nilOf y hz _ _ hcy).1)
      have hval : (b1.isNone && b2.isNone) = (n == m) := by
        have i1 : b1.isNone = n := by cases b1 <;> cases n <;> simp at g1 ⊢
        have i2 : b2.isNone = m := by cases b2 <;> cases m <;> simp at g2 ⊢
        rw [i1, i2]
        rcases Bool.or_eq_true_iff.1 hone with hz | hz
        · rw [(nilOf x hz _ _ hcx).1]; cases m <;> rfl
        · rw [(nilOf y hz _ _ hcy).1]; cases n <;> rfl
      have hb := run_slices (P := P) hu b1 b2 xs.length c1 ys.length c2 hor w
      rw [← e1, ← e2, hval] at hb
      first
        | exact OpOk.plain h (key _ (hg _) hb.1) rfl (fun _ => .bool _) rfl
        | exact OpOk.plain h (key _ (hg _) hb.2) rfl (fun _ => .bool _) rfl

end
end Go.Vm
