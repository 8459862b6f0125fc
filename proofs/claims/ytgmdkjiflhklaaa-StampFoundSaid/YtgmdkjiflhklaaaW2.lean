/- W2: V, an evaluator that carries contents (V14, V15, V16, V17, V18, V18E, V19, V20, V26, V27, V28, V29, V30, V31, V32, V33, V21, V22, V23, V24, V25, V34). No conditions. -/
import Derived.Tactics
import Derived.Orders
import Derived.LoopN
import Derived.ChangeShapes
import Derived.DataReads
import Derived.ChangeOld
import Derived.ChangeArms
import Derived.OpenShut
import Derived.Carry
import Derived.Test.YtgmdkjiflhklaaaW1

section
/- V14: append, operators. -/
namespace Go.Vm
open Go

section
variable {P : Program} {o : Oper} {own : Own} {β : Nat → Nat} {w : World} {σ : St} {a : Act}

theorem SrcL.reloc {ρ : Loc → Loc} (hr : Reloc ρ) {sz : Nat} {ys : List V} {news : List Value} (h : SrcL own w sz ys news) : SrcL (fun b => ρ (own b)) w sz ys news :=
  ⟨h.len, h.cells, fun i x j y c hi hj hc => (h.fr i x j y c hi hj hc).reloc hr⟩

theorem base_ok (h : SR own β w σ a.tmps) {sz : Nat} {x : Operand} {n : Bool} {xs : List V} {ps : List (Place × V)} (hb : base sz σ x = some (n, xs, ps)) :
    ∃ o1, Nxt own β w σ a o1 β w (setPlaces σ ps) a ∧ EXR o1 w (.res 0 0) sz n xs (a.eval x) ∧ ∃ ρ, Reloc ρ ∧ o1 = fun b => ρ (own b) := by
  unfold base at hb
  have give : ∀ p m ys, look σ p = .ex sz m ys → conc β a.tmps w p = some (a.eval x) →
      ∃ o1, Nxt own β w σ a o1 β w (setPlaces σ [(p, .undef)]) a ∧ EXR o1 w (.res 0 0) sz m ys (a.eval x) ∧ ∃ ρ, Reloc ρ ∧ o1 = fun b => ρ (own b) := by
    intro p m ys q1 q2
    obtain ⟨o1, c, h1, h2, h3, h4⟩ := Nxt.give h q1
    rw [q2] at h2; injection h2 with h2; subst h2
    refine ⟨o1, h1, h3, _, moved_reloc ?_ ?_ ?_ ?_ ?_, h4⟩ <;> cases p <;> simp [locOf]
  split at hb
  · rename_i hv
    injection hb with hb; injection hb with h1 hb; injection hb with h2 h3; subst h1; subst h2; subst h3
    have hf := opd_sl h hv
    refine ⟨own, Nxt.refl h, ?_, id, reloc_id, rfl⟩
    generalize a.eval x = c at hf
    cases hf
    exact .inl ⟨rfl, rfl, rfl⟩
  · rename_i sz' m ys hv
    split at hb
    · rename_i t ht
      obtain rfl := tmpOf_some ht
      split at hb
      · rename_i hs; subst hs
        injection hb with hb; injection hb with h1 hb; injection hb with h2 h3; subst h1; subst h2; subst h3
        exact give (.slot t) _ _ hv rfl
      · cases hb
    · cases hb
  · rename_i p hv
    obtain ⟨sz', m, ys, q1, q2⟩ := opd_lent h hv
    simp only [q1] at hb
    split at hb
    · rename_i hs; subst hs
      injection hb with hb; injection hb with h1 hb; injection hb with h2 h3; subst h1; subst h2; subst h3
      exact give p _ _ q1 q2
    · cases hb
  · cases hb

theorem content_src (h : SR own β w σ a.tmps) {x : Operand} {n : Bool} {ys : List V} (hc : content σ (opd σ.env x) = some (n, ys)) {sz : Nat} {tx e' : TypeId} (hs : 0 < sz)
    (hk : P.underlying tx = some (.slice e')) (hcells : ∀ y ∈ ys, y.cells.length = sz) : ∃ news, Src P sz tx (a.eval x) ys.length news w ∧ SrcL own w sz ys news := by
  cases hv : opd σ.env x <;> simp only [hv, content] at hc <;> try (cases hc; done)
  · injection hc with hc; injection hc with h1 h2; subst h1; subst h2
    exact src_of_FR hs hk (opd_sl h hv) hcells
  · injection hc with hc; injection hc with h1 h2; subst h1; subst h2
    have := opd_TR h x (by rw [hv]; rfl)
    rw [hv] at this
    exact src_of_EXR hs hk this hcells
  · rename_i p
    obtain ⟨sz, m, ys, q1, q2⟩ := opd_lent h hv
    simp only [q1] at hc
    injection hc with hc; injection hc with h1 h2; subst h1; subst h2
    obtain ⟨c0, g1, g2⟩ := h.at_ q1
    rw [q2] at g1; injection g1 with g1
    rw [← g1] at g2
    exact src_of_EXR hs hk g2 hcells

theorem ok_append {T : Types} (h : Hyp P T o own β w σ a) {c : Call} (ho : o.op = .call c) (hb : c.callee = .builtin .append) {e : Eff}
    (he : appendAt T σ c = some e) : OpOk P o own β w σ a (apply σ o.dst e) := by
  unfold appendAt at he
  split at he
  · rename_i s x t tx hx ht
    have hx' : c.args = #[s, x] := by rw [← Array.toList_inj]; simpa using hx
    have ht' : c.argTypes = #[t, tx] := by rw [← Array.toList_inj]; simpa using ht
    split at he
    · rename_i el el' n' ys hk hk' hc
      obtain ⟨i, r, hki⟩ := kindOf_row h.T hk
      have hu := kind_slice r hki
      obtain ⟨i', r', hki'⟩ := kindOf_row h.T hk'
      have hu' := kind_slice r' hki'
      cases hel : T el <;> simp only [hel] at he
      · cases he
      rename_i ei
      obtain ⟨re⟩ := Row.of h.T hel
      split at he
      · rename_i n xs ps hbase
        split at he
        · rename_i hcond
          obtain ⟨c1, c2, c3, c4⟩ := hcond
          injection he with he; subst he
          obtain ⟨o1, h1, h2, ρ, hr, rfl⟩ := base_ok h.sr hbase
          obtain ⟨news, hs1, hs2⟩ := content_src (P := P) h.sr hc c2 hu' (fun y hy => by simpa using List.all_eq_true.1 c4 y hy)
          have hsz := re.hsize
          obtain ⟨c', w', o2, g1, g2, g3, g4⟩ := SR.append (P := P) (ty := o.type) h1.sr hu re.hinfo re.hz (by rw [re.hzs, hsz]) (by rw [hsz]; exact c2) (by rw [hsz]; exact h2)
            (by rw [hsz]; exact hs1) (by rw [hsz]; exact hs2.reloc hr) (by rw [re.hbytes]; simpa [rooms, maxRoom] using of_decide_eq_true c1) c3
          obtain ⟨_, hrun⟩ := run_builtin (P := P) (a := a) ho hb w
          have hrun' : (execOp a.eval o).run P w = .ok (.value c') w' := by
            rw [hrun]
            simp [builtin, hx', ht', g1]
          rw [hsz] at g4
          exact OpOk.value hrun' ⟨g2, h1.stay.trans g3, h1.bx, rfl, rfl⟩ h.dst rfl g4
        · cases he
      · cases he
    · cases he
  · cases he

theorem run_ptrs {t el : TypeId} (hu : P.underlying t = some (.pointer el)) (p q : Option Addr) (h : p = none ∨ q = none) (w : World) :
    (binOp .eql t (.pointer p) (.pointer q)).run P w = .ok (.bool (p.isNone && q.isNone)) w ∧ (binOp .neq t (.pointer p) (.pointer q)).run P w = .ok (.bool (!(p.isNone && q.isNone))) w := by
  have he : ∀ d, (Op.equalIn (d + 1) t (.pointer p) (.pointer q)).run P w = .ok (p.isNone && q.isNone) w := by
    intro d
    rcases h with rfl | rfl
    · simp [Op.equalIn, run_underlying hu]
    · cases p <;> simp [Op.equalIn, run_underlying hu]
  constructor <;> simp only [binOp, Op.equal, Op.maxDepth, Sem.run_bind] <;> rw [he 9999] <;> rfl

theorem run_slices {t el : TypeId} (hu : P.underlying t = some (.slice el)) (p q : Option Addr) (l c l' c' : Nat) (h : p = none ∨ q = none) (w : World) :
    (binOp .eql t (.slice p l c) (.slice q l' c')).run P w = .ok (.bool (p.isNone && q.isNone)) w ∧ (binOp .neq t (.slice p l c) (.slice q l' c')).run P w = .ok (.bool (!(p.isNone && q.isNone))) w := by
  have he : ∀ d, (Op.equalIn (d + 1) t (.slice p l c) (.slice q l' c')).run P w = .ok (p.isNone && q.isNone) w := by
    intro d
    rcases h with rfl | rfl
    · simp [Op.equalIn, run_underlying hu]
    · cases p <;> simp [Op.equalIn, run_underlying hu]
  constructor <;> simp only [binOp, Op.equal, Op.maxDepth, Sem.run_bind] <;> rw [he 9999] <;> rfl

theorem guard_none {op : BinOp} {t : TypeId} {x y : Operand} {c d : Value} (h1 : c ≠ .nilIface) (h2 : ∀ arr, c ≠ .agg arr) (w : World) : (eqGuard op t x y c d).run P w = .ok () w := by
  unfold eqGuard
  cases op <;> simp <;> (cases c <;> first | rfl | exact absurd rfl h1 | exact absurd rfl (h2 _))

theorem fits_get : ∀ {ks : List TK} {as : List V}, fits ks as = true → as.length = ks.length ∧ ∀ (j : Nat) (k : TK) (a : V), ks[j]? = some k → as[j]? = some a → leafV k a = true
  | [], [], _ => ⟨rfl, by simp⟩
  | k :: ks, a :: as, h => by
    simp only [fits, Bool.and_eq_true] at h
    obtain ⟨h1, h2⟩ := fits_get h.2
    refine ⟨by simp [h1], fun j k' a' hk ha => ?_⟩
    cases j with
    | zero => simp at hk ha; subst hk; subst ha; exact h.1
    | succ j => exact h2 j k' a' (by simpa using hk) (by simpa using ha)
  | [], _ :: _, h => by simp [fits] at h
  | _ :: _, [], h => by simp [fits] at h

theorem fits_dat {ks : List TK} {as : List V} (h : fits ks as = true) : as.all cellDat = true := by
  obtain ⟨h1, h2⟩ := fits_get h
  rw [List.all_eq_true]
  intro a ha
  obtain ⟨j, hj⟩ := List.getElem?_of_mem ha
  have hlt := (List.getElem?_eq_some_iff.1 hj).1
  have := h2 j (ks[j]'(by omega)) a (List.getElem?_eq_getElem _) hj
  generalize ks[j]'(by omega) = k at this
  cases k <;> cases a <;> simp [leafV] at this <;> rfl

theorem agree_of {ks : List TK} {as : List V} {arr : Array Value} (h : fits ks as = true) (hs : arr.size = as.length) (hf : ∀ (j : Nat) (v : V) (c : Value), as[j]? = some v → arr[j]? = some c → FR own w v c) : Agree ks as arr.toList := by
  obtain ⟨h1, h2⟩ := fits_get h
  refine ⟨h1, by simp [hs, h1], fun j k a x hk ha hx => ?_⟩
  have hl := h2 j k a hk ha
  have hfr := hf j a x ha (by simpa using hx)
  cases k <;> cases a <;> simp [leafV] at hl
  · cases hfr; simp [leafB]
  · cases hfr; simp [leafB, hl]
  · cases hfr; simp [leafB]

/-- Structs and arrays, compared. -/
theorem run_aggs (h : SR own β w σ a.tmps) {t : TypeId} {i : TI} (r : Row P t i) {x y : Operand} {as bs : List V} (hx : opd σ.env x = .agg as) (hy : opd σ.env y = .agg bs) (hne : i.leaves ≠ [])
    (f1 : fits i.leaves as = true) (f2 : fits i.leaves bs = true) :
    (∀ op, (eqGuard op t x y (a.eval x) (a.eval y)).run P w = .ok () w) ∧ (binOp .eql t (a.eval x) (a.eval y)).run P w = .ok (.bool (cellsEqv as bs)) w ∧ (binOp .neq t (a.eval x) (a.eval y)).run P w = .ok (.bool (!cellsEqv as bs)) w := by
  obtain ⟨xs, e1, s1, g1⟩ := opd_agg h hx (fits_dat f1)
  obtain ⟨ys, e2, s2, g2⟩ := opd_agg h hy (fits_dat f2)
  have hl := r.hleaves
  unfold leavesB at hl
  cases hk : i.leaves with
  | nil => exact absurd hk hne
  | cons k ks =>
    simp only [hk, Bool.and_eq_true, decide_eq_true_eq, beq_iff_eq, Bool.not_eq_true'] at hl
    obtain ⟨⟨⟨l1, l2⟩, l3⟩, l4⟩ := hl
    rw [hk] at f1 f2
    have a1 := agree_of (own := own) (w := w) f1 s1 g1
    have a2 := agree_of (own := own) (w := w) f2 s2 g2
    have hcells : P.cellsOf t = i.size := by simp [Program.cellsOf, r.hinfo, r.hsize]
    have hform : ∀ (arr : Array Value) (cs : List V), arr.size = cs.length → fits (k :: ks) cs = true → Value.formed P t (.agg arr) = true := by
      intro arr cs hs hf
      have hkk := r.hkind
      have hu := r.hd
      have hlen := (fits_get hf).1
      cases hki : i.kind <;> rw [hki] at l3 hkk <;> simp [TK.isAgg] at l3
      all_goals
        cases hd : r.d <;> simp only [hd, kindB] at hkk <;> try (cases hkk; done)
        rw [hd] at hu
        simp only [Value.formed, hu, hcells, beq_iff_eq]
        omega
    have heq := eq_ok (P := P) 9992 8 t w (k :: ks) as bs (.agg xs) (.agg ys) l1 (by simpa [Value.cells] using a1) (by simpa [Value.cells] using a2) (hform xs as s1 f1) (hform ys bs s2 f2)
    refine ⟨fun op => ?_, ?_, ?_⟩
    · rw [e1, e2]; exact run_eqGuard_agg w op t x y xs ys l2
    · rw [e1, e2, run_eql_struct, heq]; rfl
    · rw [e1, e2, run_neq_struct, heq]; rfl

theorem ok_binOp {T : Types} {call : CallF} {cx : Cx} {fr : Nat} (h : Hyp P T o own β w σ a) {op : BinOp} {t : TypeId} {x y : Operand} {g : _} (ho : o.op = .binOp op t x y g) {e : Eff}
    (he : eff T call cx fr o σ = some e) : OpOk P o own β w σ a (apply σ o.dst e) := by
  have hsr := h.sr
  simp only [eff, ho] at he
  cases hT : T t <;> simp only [hT] at he
  · cases he
  rename_i i
  obtain ⟨r⟩ := Row.of h.T hT
  rw [Option.map_eq_some_iff] at he
  obtain ⟨v, hv, rfl⟩ := he
  have key : ∀ c, (eqGuard op t x y (a.eval x) (a.eval y)).run P w = .ok () w → (binOp op t (a.eval x) (a.eval y)).run P w = .ok c w → (execOp a.eval o).run P w = .ok (.value c) w := by
    intro c hg hb
    simp only [execOp, ho, Sem.run_bind, hg, Result.andThen_ok, hb, Sem.run_pure]
  have hkk := r.hkind
  have hdd := r.hd
  unfold vbinop at hv
  cases hag : i.kind.isAgg <;> simp only [hag] at hv
  case true =>
    unfold vaggEq at hv
    split at hv <;> try (cases hv; done)
    rename_i as bs hx hy
    split at hv <;> try (cases hv; done)
    all_goals
      split at hv <;> try (cases hv; done)
      rename_i hc
      injection hv with hv; subst hv
      obtain ⟨b1, b2, b3⟩ := run_aggs (P := P) hsr r hx hy hc.1 hc.2.1 hc.2.2
      first
        | exact OpOk.plain h (key _ (b1 _) b2) rfl (fun _ => .bool _) rfl
        | exact OpOk.plain h (key _ (b1 _) b3) rfl (fun _ => .bool _) rfl
  unfold vbin at hv
  split at hv
  · rename_i k m k' n hx hy
    have h1 := opd_int hsr hx
    have h2 := opd_int hsr hy
    rw [h1, h2] at key
    have hg : (eqGuard op t x y (.int k m) (.int k' n)).run P w = .ok () w := guard_none (by simp) (by simp) w
    split at hv
    · split at hv
      · cases hv
      · rename_i hn
        injection hv with hv; subst hv
        exact OpOk.plain h (key _ hg (by simp [binOp, Op.shift, hn])) rfl (fun _ => .int _ _) rfl
    · split at hv
      · cases hv
      · rename_i hn
        injection hv with hv; subst hv
        exact OpOk.plain h (key _ hg (by simp [binOp, Op.shift, hn])) rfl (fun _ => .int _ _) rfl
    · split at hv
      · rename_i hkk'; subst hkk'
        cases op <;> simp only at hv <;> try (cases hv; done)
        case quo =>
          split at hv
          · cases hv
          · rename_i hn
            injection hv with hv; subst hv
            exact OpOk.plain h (key _ hg (by simp [binOp, Op.intDiv, hn])) rfl (fun _ => .int _ _) rfl
        case rem =>
          split at hv
          · cases hv
          · rename_i hn
            injection hv with hv; subst hv
            exact OpOk.plain h (key _ hg (by simp [binOp, Op.intDiv, hn])) rfl (fun _ => .int _ _) rfl
        all_goals
          injection hv with hv; subst hv
          refine OpOk.plain h (key _ hg (by simp only [binOp, Op.intArith, Op.intBits, Op.intCmp, ne_eq, not_true_eq_false, if_false, Sem.run_pure]; rfl)) rfl (fun _ => ?_) rfl
          first | exact .int _ _ | exact .bool _
      · cases hv
  · rename_i p q hx hy
    have h1 := opd_bool hsr hx
    have h2 := opd_bool hsr hy
    rw [h1, h2] at key
    have hg : (eqGuard op t x y (.bool p) (.bool q)).run P w = .ok () w := guard_none (by simp) (by simp) w
    split at hv <;> rename_i hki <;> try (cases hv; done)
    all_goals
      injection hv with hv; subst hv
      rw [hki] at hkk
      have hd : r.d = .bool := by cases hd : r.d <;> simp [hd, kindB] at hkk ⊢
      rw [hd] at hdd
      exact OpOk.plain h (key _ hg (by simp [binOp, Op.equal, Op.maxDepth, run_equalIn_bool w 9999 t p q hdd])) rfl (fun _ => .bool _) rfl
  · rename_i p q hx hy
    have h1 := opd_str hsr hx
    have h2 := opd_str hsr hy
    rw [h1, h2] at key
    have hg : (eqGuard op t x y (.string p) (.string q)).run P w = .ok () w := guard_none (by simp) (by simp) w
    split at hv <;> try (cases hv; done)
    all_goals try
      injection hv with hv; subst hv
      exact OpOk.plain h (key _ hg (by simp [binOp, Op.stringOp])) rfl (fun _ => .bool _) rfl
    split at hv
    · rename_i hlt
      injection hv with hv; subst hv
      have : ¬ ((p.size + q.size : Nat) : Int) > IntKind.i64.max := by omega
      exact OpOk.plain h (key _ hg (by simp only [binOp, Op.stringOp, this, if_false, Sem.run_pure])) rfl (fun _ => .str _) rfl
    · cases hv
  · rename_i hx hy
    have h1 := opd_nilp hsr hx
    have h2 := opd_nilp hsr hy
    rw [h1, h2] at key
    have hg : (eqGuard op t x y (.pointer none) (.pointer none)).run P w = .ok () w := guard_none (by simp) (by simp) w
    split at hv <;> rename_i hki <;> try (cases hv; done)
    all_goals
      injection hv with hv; subst hv
      rw [hki] at hkk
      obtain ⟨el, hd⟩ : ∃ el, r.d = .pointer el := by cases hd : r.d <;> simp [hd, kindB] at hkk; exact ⟨_, rfl⟩
      rw [hd] at hdd
      first | exact OpOk.plain h (key _ hg (run_ptrs hdd _ _ (by simp) w).1) rfl (fun _ => .bool _) rfl | exact OpOk.plain h (key _ hg (run_ptrs hdd _ _ (by simp) w).2) rfl (fun _ => .bool _) rfl
  · rename_i id off hx hy
    obtain ⟨h1, _⟩ := opd_ptr hsr hx
    have h2 := opd_nilp hsr hy
    rw [h1, h2] at key
    have hg : (eqGuard op t x y (.pointer (some ⟨β id, off, none⟩)) (.pointer none)).run P w = .ok () w := guard_none (by simp) (by simp) w
    split at hv <;> rename_i hki <;> try (cases hv; done)
    all_goals
      injection hv with hv; subst hv
      rw [hki] at hkk
      obtain ⟨el, hd⟩ : ∃ el, r.d = .pointer el := by cases hd : r.d <;> simp [hd, kindB] at hkk; exact ⟨_, rfl⟩
      rw [hd] at hdd
      first | exact OpOk.plain h (key _ hg (run_ptrs hdd _ _ (by simp) w).1) rfl (fun _ => .bool _) rfl | exact OpOk.plain h (key _ hg (run_ptrs hdd _ _ (by simp) w).2) rfl (fun _ => .bool _) rfl
  · rename_i id off hx hy
    have h1 := opd_nilp hsr hx
    obtain ⟨h2, _⟩ := opd_ptr hsr hy
    rw [h1, h2] at key
    have hg : (eqGuard op t x y (.pointer none) (.pointer (some ⟨β id, off, none⟩))).run P w = .ok () w := guard_none (by simp) (by simp) w
    split at hv <;> rename_i hki <;> try (cases hv; done)
    all_goals
      injection hv with hv; subst hv
      rw [hki] at hkk
      obtain ⟨el, hd⟩ : ∃ el, r.d = .pointer el := by cases hd : r.d <;> simp [hd, kindB] at hkk; exact ⟨_, rfl⟩
      rw [hd] at hdd
      first | exact OpOk.plain h (key _ hg (run_ptrs hdd _ _ (by simp) w).1) rfl (fun _ => .bool _) rfl | exact OpOk.plain h (key _ hg (run_ptrs hdd _ _ (by simp) w).2) rfl (fun _ => .bool _) rfl
  · cases hv
  · have nilOf : ∀ z, isConst z = true → ∀ n xs, content σ (opd σ.env z) = some (n, xs) → n = true ∧ a.eval z = .slice none 0 0 := by
      intro z hz n xs hc
      cases z <;> simp [isConst] at hz
      rename_i c
      obtain ⟨b, cap, q1, q2⟩ := content_shape hsr hc
      simp only [opd] at hc
      unfold cellOf at hc
      split at hc <;> simp only [content] at hc <;> try (cases hc; done)
      injection hc with hc; injection hc with h1 h2; subst h1; subst h2
      exact ⟨rfl, rfl⟩
    split at hv <;> try (cases hv; done)
    all_goals
      rename_i el hki hone
      split at hv <;> try (cases hv; done)
      rename_i n xs m ys hcx hcy
      injection hv with hv; subst hv
      have hu := kind_slice r hki
      obtain ⟨b1, c1, e1, g1⟩ := content_shape hsr hcx
      obtain ⟨b2, c2, e2, g2⟩ := content_shape hsr hcy
      have hg : ∀ op, (eqGuard op t x y (a.eval x) (a.eval y)).run P w = .ok () w := fun op => guard_none (by rw [e1]; simp) (by rw [e1]; simp) w
      have hor : b1 = none ∨ b2 = none := by
        rcases Bool.or_eq_true_iff.1 hone with hz | hz
        · exact .inl (g1.1 (nilOf x hz _ _ hcx).1)
        · exact .inr (g2.1 (nilOf y hz _ _ hcy).1)
      have hval : (b1.isNone && b2.isNone) = (n == m) := by
        have i1 : b1.isNone = n := by cases b1 <;> cases n <;> simp at g1 ⊢
        have i2 : b2.isNone = m := by cases b2 <;> cases m <;> simp at g2 ⊢
        rw [i1, i2]
        rcases Bool.or_eq_true_iff.1 hone with hz | hz
        · rw [(nilOf x hz _ _ hcx).1]; cases m <;> rfl
        · rw [(nilOf y hz _ _ hcy).1]; cases n <;> rfl
      have hb := run_slices (P := P) hu b1 b2 xs.length c1 ys.length c2 hor w
      rw [← e1, ← e2, hval] at hb
      first
        | exact OpOk.plain h (key _ (hg _) hb.1) rfl (fun _ => .bool _) rfl
        | exact OpOk.plain h (key _ (hg _) hb.2) rfl (fun _ => .bool _) rfl

end
end Go.Vm
end

section
/- V15: components of a call's results; what is handed to a call; cells' ways forgotten. -/
namespace Go.Vm
open Go

section
variable {P : Program} {o : Oper} {own : Own} {β : Nat → Nat} {w : World} {σ : St} {a : Act}

theorem CR.notWay {l : Loc} {v : V} {c : Value} (h : CR own β w l v c) : isWay v = false ∧ ∀ vs, v ≠ .tup vs := by
  cases v with
  | lent p => simp only [CR] at h; cases h
  | xptr p i off => simp only [CR] at h; cases h
  | tup vs => simp only [CR] at h; cases h
  | _ => exact ⟨rfl, fun _ => by simp⟩
theorem VR.notWay {L : Nat → Loc} {v : V} {c : Value} (h : VR own β w L v c) : isWay v = false ∧ ∀ vs, v ≠ .tup vs := by
  cases v with
  | lent p => exact CR.notWay (β := β) (l := L 0) h
  | xptr p i off => exact CR.notWay (β := β) (l := L 0) h
  | tup vs => exact CR.notWay (β := β) (l := L 0) h
  | _ => exact ⟨rfl, fun _ => by simp⟩
theorem TR.notWay {L : Nat → Nat → Loc} {v : V} {c : Value} (h : TR own β w L v c) : isWay v = false := by
  cases v with
  | lent p => simp only [TR, VR, CR] at h; cases h
  | xptr p i off => simp only [TR, VR, CR] at h; cases h
  | _ => rfl

def compOut (t j : Nat) (l : Loc) : Loc := match l with | .slot u i k => if u = t ∧ i = j then .res 0 k else l | l => l
theorem compOut_reloc (t j : Nat) : Reloc (compOut t j) := by
  refine ⟨rfl, rfl, fun _ => rfl, fun l id h => ?_, fun l h => ?_⟩
  · cases l <;> simp only [compOut] at h <;> first | rfl | exact h | (split at h <;> cases h)
  · cases l <;> simp only [compOut] at h <;> first | rfl | exact h | (split at h <;> cases h)

theorem VR.to_TR {L : Nat → Loc} {L' : Nat → Nat → Loc} {v : V} {c : Value} (h : VR own β w L v c) (he : L' 0 = L) : TR own β w L' v c := by
  have := h.notWay.2
  cases v <;> first
    | exact absurd rfl (this _)
    | (simp only [TR]; rw [he]; exact h)

theorem ok_extract {T : Types} {call : CallF} {cx : Cx} {fr : Nat} (h : Hyp P T o own β w σ a) {x : Operand} {j : Nat} (ho : o.op = .extract x j) {e : Eff}
    (he : eff T call cx fr o σ = some e) : OpOk P o own β w σ a (apply σ o.dst e) := by
  simp only [eff, ho] at he
  split at he
  · rename_i vs t hx ht
    obtain rfl := tmpOf_some ht
    cases hj : vs[j]? <;> simp only [hj] at he
    · cases he
    rename_i v
    have hE := opd_TR h.sr (.tmp t) (by rw [hx]; rfl)
    rw [hx] at hE
    obtain ⟨arr, h1, h2, h3⟩ := hE
    have hjl : j < vs.length := (List.getElem?_eq_some_iff.1 hj).1
    have hja : arr[j]? = some arr[j] := Array.getElem?_eq_getElem (by omega)
    have hv := h3 j v _ hj hja
    have hrun := run_extract (P := P) ho h1 hja w
    split at he
    · rename_i hd
      injection he with he; subst he
      exact OpOk.value hrun (Nxt.refl h.sr) h.dst (isWay_of_dat hd) (TR_of_VR hv (noEx_of_dat hd))
    · injection he with he; subst he
      have hr := compOut_reloc t j
      have hs : SR (fun b => compOut t j (own b)) β w (setPlace σ (.slot t) (.tup (vs.set j .undef))) a.tmps := by
        refine h.sr.slot hr (fun u i k hu => by simp [compOut, hu]) (fun _ _ => rfl) rfl ?_
        rw [← eval_tmp, h1]
        refine ⟨arr, rfl, by simpa using h2, fun i u c hu hc => ?_⟩
        rw [List.getElem?_set] at hu
        split at hu
        · injection hu with hu; subst hu; simp only [VR]
        · rename_i hij
          have := (h3 i u c hu hc).reloc hr
          simpa [compOut, opL, Ne.symm hij] using this
      have hv' : VR (fun b => compOut t j (own b)) β w (fun k => .res 0 k) v arr[j] := by
        have := hv.reloc hr
        simpa [compOut, opL] using this
      exact OpOk.value hrun ⟨hs, Stay.reloc hr, BX.refl _ _, rfl, rfl⟩ h.dst hv'.notWay.1 (hv'.to_TR (L' := fun i k => .res i k) rfl)
  · cases he

/-! ### Places that are frozen together -/
theorem look_setPlace_ne {p q : Place} {v x : V} (hne : q ≠ p) (hx : ∀ r, x.refsTo r = false) (hl : look σ q = x) : look (setPlace σ p v) q = x := by
  cases p with
  | slot t =>
    cases q with
    | slot u =>
      have hu : t ≠ u := fun h => hne (by rw [h])
      simp only [look, setPlace] at hl ⊢
      rw [get_cons_ne _ _ hu, get_kill, hl, if_neg (by simp [hx])]
    | cell id off => exact hl
  | cell id off =>
    cases q with
    | slot u =>
      simp only [look, setPlace] at hl ⊢
      rw [get_kill, hl, if_neg (by simp [hx])]
    | cell id' off' =>
      simp only [look, setPlace] at hl ⊢
      cases hc : bcells σ.heap id with
      | none => exact hl
      | some cs =>
        simp only
        rw [bcells_set (bcells_lt hc)]
        by_cases hi : id' = id
        · subst hi
          have ho : off ≠ off' := fun h => hne (by rw [h])
          rw [hc] at hl
          simp only [if_true]
          rw [← hl]
          simp [List.getD_eq_getElem?_getD, List.getElem?_set_ne ho]
        · rw [if_neg hi]; exact hl

theorem look_setPlace_eq {p : Place} {v : V} {sz : Nat} {n : Bool} {xs : List V} (hl : look σ p = .ex sz n xs) : look (setPlace σ p v) p = v := by
  cases p with
  | slot t => simp only [look, setPlace, get_cons_same]
  | cell id off =>
    obtain ⟨cs, hc, hcs⟩ := Place.cases_look hl
    simp only [look, setPlace, hc]
    rw [bcells_set (bcells_lt hc), if_pos rfl]
    have := (List.getElem?_eq_some_iff.1 hcs).1
    simp [List.getD_eq_getElem?_getD, this]

theorem conc_ex {p : Place} (p' : Place) (v : V) : conc β a.tmps w p = conc β a.tmps w p := rfl

def Frozen (own : Own) (β : Nat → Nat) (w : World) (σ : St) (tmps : Array Value) (p : Place) (n : Bool) (xs : List V) : Prop :=
  (∃ sz, look σ p = .ex sz n xs) ∨ (look σ p = .sl n xs ∧ ∀ c, conc β tmps w p = some c → FR own w (.sl n xs) c)

/-- A place that is frozen already. -/
theorem SR.same (h : SR own β w σ a.tmps) {p : Place} {n : Bool} {xs : List V} (hl : look σ p = .sl n xs) : SR own β w (setPlace σ p (.sl n xs)) a.tmps ∧ BX β β σ.heap (setPlace σ p (.sl n xs)).heap ∧ look (setPlace σ p (.sl n xs)) p = .sl n xs := by
  cases p with
  | slot t =>
    refine ⟨h.slot reloc_id (fun _ _ _ _ => rfl) (fun _ _ => rfl) rfl ?_, BX.refl _ _, by simp only [look, setPlace, get_cons_same]⟩
    have := h.env t
    simp only [look] at hl
    rw [hl] at this
    exact this
  | cell id off =>
    simp only [look] at hl
    cases hc : bcells σ.heap id with
    | none => simp [hc] at hl
    | some cs =>
      simp only [hc] at hl
      have hlt : off < cs.length := by
        rcases Nat.lt_or_ge off cs.length with h' | h'
        · exact h'
        · simp [List.getD_eq_getElem?_getD, List.getElem?_eq_none h'] at hl
      have hcs : cs[off]? = some (.sl n xs) := by
        rw [List.getD_eq_getElem?_getD, List.getElem?_eq_getElem hlt] at hl
        rw [List.getElem?_eq_getElem hlt]; simpa using hl
      refine ⟨h.cell reloc_id hc (fun _ _ _ => rfl) (fun _ _ _ => rfl) rfl (fun v c hv _ hcr => ?_), ?_, ?_⟩
      · rw [hcs] at hv; injection hv with hv; subst hv; exact hcr
      · simp only [setPlace, hc]
        refine ⟨by simp, fun i ds hi => ⟨rfl, ?_⟩⟩
        rw [bcells_set (bcells_lt hc)]
        split
        · exact ⟨_, rfl⟩
        · exact ⟨ds, hi⟩
      · simp only [look, setPlace, hc]
        rw [bcells_set (bcells_lt hc), if_pos rfl]
        simp [List.getD_eq_getElem?_getD, hlt]

theorem freezes : ∀ (ps : List (Place × V)) (own : Own) (σ : St), SR own β w σ a.tmps → (∀ x ∈ ps, ∃ n xs, x.2 = .sl n xs ∧ Frozen own β w σ a.tmps x.1 n xs) →
    ∃ o1, Nxt own β w σ a o1 β w (setPlaces σ ps) a ∧ (∀ x ∈ ps, ∀ c, conc β a.tmps w x.1 = some c → FR o1 w x.2 c) ∧ ∃ ρ, Reloc ρ ∧ o1 = fun b => ρ (own b)
  | [], own, σ, h, _ => ⟨own, Nxt.refl h, by simp, id, reloc_id, rfl⟩
  | (p, v) :: ps, own, σ, h, hp => by
    obtain ⟨n, xs, hv, hf⟩ := hp (p, v) (by simp)
    simp only at hv hf
    subst hv
    have step : ∃ o1, Nxt own β w σ a o1 β w (setPlace σ p (.sl n xs)) a ∧ (∀ c, conc β a.tmps w p = some c → FR o1 w (.sl n xs) c) ∧ (∃ ρ, Reloc ρ ∧ o1 = fun b => ρ (own b)) ∧
        look (setPlace σ p (.sl n xs)) p = .sl n xs := by
      rcases hf with ⟨sz, hl⟩ | ⟨hl, hc⟩
      · obtain ⟨o1, c, h1, h2, h3, h4⟩ := Nxt.freeze h hl
        exact ⟨o1, h1, fun c' hc' => by rw [h2] at hc'; injection hc' with hc'; subst hc'; exact h3, ⟨_, locOf_reloc p (by simp) (by simp), h4⟩, look_setPlace_eq hl⟩
      · obtain ⟨h1, h2, h3⟩ := h.same hl
        exact ⟨own, ⟨h1, Stay.refl _ _, h2, rfl, rfl⟩, hc, ⟨id, reloc_id, rfl⟩, h3⟩
    obtain ⟨o1, h1, h2, ⟨ρ, hr, rfl⟩, h4⟩ := step
    obtain ⟨o2, g1, g2, ρ', hr', rfl⟩ := freezes ps _ _ h1.sr (fun x hx => by
      obtain ⟨m, ys, e1, e2⟩ := hp x (by simp [hx])
      refine ⟨m, ys, e1, ?_⟩
      by_cases hq : x.1 = p
      · right
        have hk : look (setPlace σ p (.sl n xs)) x.1 = .sl n xs := by rw [hq]; exact h4
        have hsame : V.sl n xs = V.sl m ys := by
          rcases e2 with ⟨sz, e2⟩ | ⟨e2, _⟩ <;> rcases hf with ⟨sz', hf⟩ | ⟨hf, _⟩ <;> rw [hq, hf] at e2 <;> first | (injection e2 with _ k1 k2; rw [k1, k2]) | (injection e2 with k1 k2; rw [k1, k2]) | cases e2
        rw [← hsame, hk]
        exact ⟨rfl, fun c hc => h2 c (by rw [← hq]; exact hc)⟩
      · rcases e2 with ⟨sz, e2⟩ | ⟨e2, e3⟩
        · exact .inl ⟨sz, look_setPlace_ne hq (fun _ => rfl) e2⟩
        · exact .inr ⟨look_setPlace_ne hq (fun _ => rfl) e2, fun c hc => (e3 c hc).reloc hr⟩)
    refine ⟨_, h1.trans g1, fun x hx c hc => ?_, fun l => ρ' (ρ l), ⟨by rw [hr.im, hr'.im], by rw [hr.other, hr'.other], fun id => by rw [hr.blk, hr'.blk], fun l id hl => hr.noblk _ _ (hr'.noblk _ _ hl), fun l hl => hr.noother _ (hr'.noother _ hl)⟩, rfl⟩
    rcases List.mem_cons.1 hx with rfl | hx
    · exact (h2 c hc).reloc hr'
    · exact g2 x hx c hc

/-- What is handed to a call. -/
def AR (own : Own) (β : Nat → Nat) (w : World) (vs : List V) (cs : List Value) : Prop :=
  cs.length = vs.length ∧ ∀ (j : Nat) (v : V) (c : Value), vs[j]? = some v → cs[j]? = some c → VR own β w (fun _ => .other) v c ∧ noEx v = true

theorem AR.append {vs vs' : List V} {cs cs' : List Value} (h : AR own β w vs cs) (h' : AR own β w vs' cs') : AR own β w (vs ++ vs') (cs ++ cs') := by
  refine ⟨by simp [h.1, h'.1], fun j v c hv hc => ?_⟩
  rw [List.getElem?_append] at hv hc
  rw [h.1] at hc
  split at hv
  · rename_i hlt; rw [if_pos hlt] at hc; exact h.2 _ _ _ hv hc
  · rename_i hlt; rw [if_neg hlt] at hc; exact h'.2 _ _ _ hv hc

theorem view_ok (h : SR own β w σ a.tmps) {x : Operand} {v : V} {ps : List (Place × V)} (hv : view σ x = some (v, ps)) :
    (ps = [] ∧ VR own β w (fun _ => .other) v (a.eval x) ∧ noEx v = true) ∨ (∃ p sz n xs, ps = [(p, .sl n xs)] ∧ v = .sl n xs ∧ look σ p = .ex sz n xs ∧ conc β a.tmps w p = some (a.eval x)) := by
  unfold view at hv
  cases hx : opd σ.env x <;> simp only [hx] at hv
  case undef => cases hv
  case xptr => cases hv
  case tup => cases hv
  case ex sz n xs =>
    cases ht : tmpOf x <;> simp only [ht] at hv
    · cases hv
    rename_i t
    obtain rfl := tmpOf_some ht
    injection hv with hv; injection hv with h1 h2; subst h1; subst h2
    exact .inr ⟨.slot t, sz, n, xs, rfl, rfl, hx, rfl⟩
  case lent p =>
    obtain ⟨sz, n, xs, q1, q2⟩ := opd_lent h hx
    simp only [q1] at hv
    injection hv with hv; injection hv with h1 h2; subst h1; subst h2
    exact .inr ⟨p, sz, n, xs, rfl, rfl, q1, q2⟩
  case agg cs =>
    split at hv
    · rename_i hc
      injection hv with hv; injection hv with h1 h2; subst h1; subst h2
      left
      have := opd_TR h x (by rw [hx]; rfl)
      rw [hx] at this
      exact ⟨rfl, VR.place (L := opL x 0) this (noEx_dat hc), noEx_dat hc⟩
    · cases hv
  all_goals
    injection hv with hv; injection hv with h1 h2; subst h1; subst h2
    left
    have := opd_TR h x (by rw [hx]; rfl)
    rw [hx] at this
    exact ⟨rfl, VR.place (L := opL x 0) this rfl, rfl⟩

theorem views_ps (h : SR own β w σ a.tmps) : ∀ (l : List Operand) (vs : List V) (ps : List (Place × V)), views σ l = some (vs, ps) → ∀ x ∈ ps, ∃ n xs, x.2 = .sl n xs ∧ Frozen own β w σ a.tmps x.1 n xs
  | [], vs, ps, hv => by simp [views] at hv; rw [hv.2]; simp
  | y :: l, vs, ps, hv => by
    simp only [views] at hv
    cases h1 : view σ y <;> cases h2 : views σ l <;> simp only [h1, h2] at hv <;> try (cases hv; done)
    rename_i u us
    obtain ⟨u, q⟩ := u
    obtain ⟨us, qs⟩ := us
    injection hv with hv; injection hv with e1 e2; subst e1; subst e2
    intro x hx
    rcases List.mem_append.1 hx with hx | hx
    · rcases view_ok h h1 with ⟨rfl, _⟩ | ⟨p, sz, n, xs, rfl, _, hl, _⟩
      · cases hx
      · simp at hx; subst hx; exact ⟨n, xs, rfl, .inl ⟨sz, hl⟩⟩
    · exact views_ps h l us qs h2 x hx

theorem views_args (h : SR own β w σ a.tmps) {o1 : Own} {ρ : Loc → Loc} (hr : Reloc ρ) (ho : o1 = fun b => ρ (own b)) (hn : ρ .other = .other) :
    ∀ (l : List Operand) (vs : List V) (ps : List (Place × V)), views σ l = some (vs, ps) → (∀ x ∈ ps, ∀ c, conc β a.tmps w x.1 = some c → FR o1 w x.2 c) → AR o1 β w vs (l.map a.eval)
  | [], vs, ps, hv, _ => by simp [views] at hv; rw [hv.1]; exact ⟨rfl, by simp⟩
  | y :: l, vs, ps, hv, hf => by
    simp only [views] at hv
    cases h1 : view σ y <;> cases h2 : views σ l <;> simp only [h1, h2] at hv <;> try (cases hv; done)
    rename_i u us
    obtain ⟨u, q⟩ := u
    obtain ⟨us, qs⟩ := us
    injection hv with hv; injection hv with e1 e2; subst e1; subst e2
    have ih := views_args h hr ho hn l us qs h2 (fun x hx => hf x (List.mem_append.2 (.inr hx)))
    refine ⟨by simp [ih.1], fun j v c hj hc => ?_⟩
    cases j with
    | zero =>
      simp at hj hc
      subst hj; subst hc
      rcases view_ok h h1 with ⟨_, hv, hne⟩ | ⟨p, sz, n, xs, rfl, rfl, hl, hc⟩
      · subst ho
        have := hv.reloc hr
        exact ⟨this.place hne, hne⟩
      · exact ⟨hf (p, .sl n xs) (by simp) _ hc, rfl⟩
    | succ j => exact ih.2 j v c (by simpa using hj) (by simpa using hc)

end
end Go.Vm
end

section
/- V16: calls. -/
namespace Go.Vm
open Go

/-- What a call leaves, as its caller sees it. -/
def Ret (own : Own) (β : Nat → Nat) (w : World) (H : Heap) (r : V) (H' : Heap) (e : Ending) (w' : World) : Prop :=
  ∃ c own' β', e = .returned c ∧ TR own' β' w' (fun i j => .res i j) r c ∧ HR own' β' w' H' ∧ Stay own w own' w' ∧ BX β β' H H' ∧ ∀ b i j k, own' b ≠ .slot i j k

/-- V's calls are right. -/
def Sound (P : Program) (call : CallF) : Prop :=
  ∀ f vs H r H', call f vs H = some (r, H') → (∃ fn, P.funcs[f]? = some fn ∧ fn.name ≠ "runtime.NumGoroutine" ∧ fn.body.isSome = true) ∧
    ∀ (own : Own) (β : Nat → Nat) (w : World) (cs : List Value), HR own β w H → AR own β w vs cs → (∀ b i j k, own b ≠ .slot i j k) → Calls P f cs.toArray w (Ret own β w H r H')

section
variable {P : Program} {o : Oper} {own : Own} {β : Nat → Nat} {w : World} {σ : St} {a : Act}

theorem OpOk.call {σ1 : St} {v : V} {f : FuncId} {args : Array Value} (hrun : (execOp a.eval o).run P w = .ok (.enter f args) w)
    (hc : Calls P f args w (fun e w' => ∃ c o1 β1, e = .returned c ∧ Nxt own β w σ a o1 β1 w' σ1 a ∧ TR o1 β1 w' (fun i j => .res i j) v c)) (hd : ∀ d, o.dst = some d → d < a.tmps.size) :
    OpOk P o own β w σ a (put σ1 o.dst v) := by
  intro K Q hK
  unfold Oper.wp
  rw [hrun]
  refine hc.mono ?_
  rintro e w' ⟨c, o1, β1, rfl, h, hn⟩
  obtain ⟨o3, h3⟩ := h.put hd hn.notWay hn
  exact hK _ _ _ _ h3

/-- What may be forgotten: ways to cells. -/
theorem SR.killCells (h : SR own β w σ a.tmps) : SR own β w { env := σ.env.map (fun x => (x.1, killCell x.2)), heap := σ.heap } a.tmps := by
  refine ⟨fun u => ?_, h.heap⟩
  rw [get_map killCell rfl]
  have hu := h.env u
  cases hv : get σ.env u with
  | lent p =>
    cases p with
    | cell i j => exact ER.undef _ _ _ _ _ _ _
    | slot t =>
      rw [hv] at hu
      obtain ⟨sz, n, xs, h1, h2⟩ := hu
      refine ⟨sz, n, xs, ?_, h2⟩
      simp only [look] at h1 ⊢
      rw [get_map killCell rfl, h1]; rfl
  | xptr p i off =>
    cases p with
    | cell i j => exact ER.undef _ _ _ _ _ _ _
    | slot t =>
      rw [hv] at hu
      obtain ⟨sz, n, xs, b, len, cap, h1, h2⟩ := hu
      refine ⟨sz, n, xs, b, len, cap, ?_, h2⟩
      simp only [look] at h1 ⊢
      rw [get_map killCell rfl, h1]; rfl
  | _ => rw [hv] at hu; exact hu

theorem killCell_ref {v : V} {i j : Nat} : (killCell v).refsTo (.cell i j) = false := by
  cases v with
  | lent p => cases p <;> simp [killCell, V.refsTo]
  | xptr p k off => cases p <;> simp [killCell, V.refsTo]
  | _ => rfl

/-- Our slots, as the one that is called sees them. -/
def lower (l : Loc) : Loc := match l with | .slot _ _ _ => .other | .res _ _ => .other | l => l
def onlyIm (l : Loc) : Loc := match l with | .im => .im | _ => .other

theorem HR.lower (h : HR own β w σ.heap) : HR (fun b => lower (own b)) β w σ.heap := by
  refine ⟨fun id cs hi => ?_, fun b id hb => ?_, fun b hb => h.lt b fun hn => hb (by simp only [hn, Vm.lower])⟩
  · exact (h.blk id cs hi).mono (fun b hb => ⟨by simp only [hb, Vm.lower], rfl⟩) (fun id hb => ⟨by simp only [hb, Vm.lower], rfl⟩) (fun j b hb => ⟨by simp only [hb, Vm.lower], rfl⟩) rfl
  · refine h.inv b id ?_
    simp only [Vm.lower] at hb
    split at hb <;> first | cases hb | exact hb
theorem AR.lower {vs : List V} {cs : List Value} (h : AR own β w vs cs) : AR (fun b => lower (own b)) β w vs cs :=
  ⟨h.1, fun j v c hv hc => ⟨VR.mono (L := fun _ => .other) (h.2 j v c hv hc).1 (fun b hb => ⟨by simp only [hb, Vm.lower], rfl⟩) (fun id hb => ⟨by simp only [hb, Vm.lower], rfl⟩) (fun j b hb => ⟨by simp only [hb, Vm.lower], rfl⟩), (h.2 j v c hv hc).2⟩⟩
theorem HR.onlyIm (h : HR own β w σ.heap) : HR (fun b => onlyIm (own b)) β w [] := by
  refine ⟨fun id cs hi => by simp [bcells] at hi, fun b id hb => ?_, fun b hb => h.lt b fun hn => hb (by simp only [hn, Vm.onlyIm])⟩
  simp only [Vm.onlyIm] at hb
  split at hb <;> cases hb

theorem FR.onlyIm {v : V} {c : Value} (h : FR own w v c) : FR (fun b => onlyIm (own b)) w v c := h.mono fun b hb => ⟨by simp only [hb, Vm.onlyIm], rfl⟩
theorem PR.onlyIm {v : V} {c : Value} (h : PR own β w v c) (hd : cellDat v = true) : PR (fun b => onlyIm (own b)) β w v c := by
  cases v <;> first
    | (simp [cellDat] at hd; done)
    | exact FR.onlyIm h
theorem AR.onlyIm {vs : List V} {cs : List Value} (h : AR own β w vs cs) (hd : vs.all noPtr = true) : AR (fun b => onlyIm (own b)) β w vs cs := by
  refine ⟨h.1, fun j v c hv hc => ⟨?_, (h.2 j v c hv hc).2⟩⟩
  have h1 := (h.2 j v c hv hc).1
  have h2 : noPtr v = true := List.all_eq_true.1 hd v (List.mem_of_getElem? hv)
  cases v with
  | agg cs =>
    obtain ⟨arr, e1, e2, e3⟩ := h1
    simp only [noPtr, List.all_eq_true] at h2
    refine ⟨arr, e1, e2, fun j v c hv hc => ?_⟩
    have := FR_of_CR (e3 j v c hv hc) (h2 v (List.mem_of_getElem? hv))
    exact CR_of_FR this.onlyIm
  | clo f x y =>
    obtain ⟨ca, cb, e1, e2, e3, e4, e5⟩ := h1
    simp only [noPtr, Bool.and_eq_true, List.all_eq_true] at h2
    exact ⟨ca, cb, e1, e2, e3, fun j v c hv hc => (e4 j v c hv hc).onlyIm (h2.1 v (List.mem_of_getElem? hv)), fun j v c hv hc => (e5 j v c hv hc).onlyIm (h2.2 v (List.mem_of_getElem? hv))⟩
  | undef => trivial
  | _ => first
    | (simp [noPtr, cellDat] at h2; done)
    | exact FR.onlyIm h1

/-- **A call that may reach our variables.** -/
theorem back_all (h : SR own β w σ a.tmps) {o1 : Own} {β1 : Nat → Nat} {w1 : World} {H1 : Heap} {r : V} {c : Value} (hh : HR o1 β1 w1 H1) (hs : Stay (fun b => lower (own b)) w o1 w1)
    (hb : BX β β1 σ.heap H1) (ht : TR o1 β1 w1 (fun i j => .res i j) r c) (hn : ∀ b i j k, o1 b ≠ .slot i j k) :
    ∃ o2, Nxt own β w σ a o2 β1 w1 (setMem σ (.all H1)) a ∧ TR o2 β1 w1 (fun i j => .res i j) r c := by
  let o2 : Own := fun b => match own b with | .slot t i j => .slot t i j | _ => o1 b
  have slotv : ∀ b t i j, own b = .slot t i j → o2 b = .slot t i j := fun b t i j hb => by simp only [o2, hb]
  have slotu : ∀ b t i j, own b = .slot t i j → o1 b = .other ∧ w1.heap[b]? = w.heap[b]? := fun b t i j hb =>
    hs.other b (h.heap.lt b (by rw [hb]; simp)) (by simp only [hb, Vm.lower])
  have same : ∀ b, o1 b ≠ .other → o2 b = o1 b := fun b hb' => by
    simp only [o2]
    split
    · rename_i t i j hs'; exact absurd (slotu b t i j hs').1 hb'
    · rfl
  have imv : ∀ b, own b = .im → o2 b = .im ∧ w1.heap[b]? = w.heap[b]? := fun b hb' => by
    obtain ⟨h1, h2⟩ := hs.im b (by simp only [hb', Vm.lower])
    exact ⟨by rw [same b (by rw [h1]; simp), h1], h2⟩
  have blkv : ∀ id, own (β id) = .blk id → o2 (β1 id) = .blk id ∧ β1 id = β id := fun id hb' => by
    obtain ⟨_, cs, hcs⟩ := h.heap.inv _ _ hb'
    obtain ⟨e1, cs', hcs'⟩ := hb.2 id cs hcs
    have := (hh.blk id cs' hcs').1
    exact ⟨by rw [same _ (by rw [this]; simp), this], e1⟩
  have k1 : ∀ b, o1 b = .im → o2 b = .im ∧ w1.heap[b]? = w1.heap[b]? := fun b hb' => ⟨by rw [same b (by rw [hb']; simp), hb'], rfl⟩
  have k2 : ∀ id, o1 (β1 id) = .blk id → o2 (β1 id) = .blk id ∧ β1 id = β1 id := fun id hb' => ⟨by rw [same _ (by rw [hb']; simp), hb'], rfl⟩
  have hk := h.killCells
  refine ⟨o2, ⟨⟨fun u => ?_, ?_⟩, ⟨imv, fun b hlt hb' => ?_, hs.size, hs.os, hs.tape, hs.output⟩, hb, rfl, rfl⟩, ?_⟩
  · have hu := hk.env u
    simp only [setMem]
    rw [get_map killCell rfl] at hu ⊢
    refine hu.keep imv blkv (fun i j b hb' => ⟨slotv b u i j hb', (slotu b u i j hb').2⟩) (fun p hp => ?_)
    cases p with
    | cell i j => rw [killCell_ref] at hp; cases hp
    | slot x => exact ⟨fun sz n xs hl => ⟨n, xs, hl, rfl⟩, fun c hc => hc, fun b hb' => slotv b x 0 0 hb'⟩
  · refine ⟨fun id cs hi => ?_, fun b id hb' => ?_, fun b hb' => ?_⟩
    · exact (hh.blk id cs hi).mono k1 k2 (fun j b hb' => ⟨by rw [same b (by rw [hb']; simp), hb'], rfl⟩) rfl
    · simp only [o2] at hb'
      split at hb'
      · cases hb'
      · exact hh.inv b id hb'
    · by_cases hs' : ∃ t i j, own b = .slot t i j
      · obtain ⟨t, i, j, hs'⟩ := hs'
        exact Nat.lt_of_lt_of_le (h.heap.lt b (by rw [hs']; simp)) hs.size
      · have : o2 b = o1 b := by
          simp only [o2]
          split
          · rename_i t i j hq; exact absurd ⟨t, i, j, hq⟩ hs'
          · rfl
        rw [this] at hb'
        exact hh.lt b hb'
  · obtain ⟨h1, h2⟩ := hs.other b hlt (by simp only [hb', Vm.lower])
    exact ⟨by simp only [o2, hb', h1], h2⟩
  · exact ht.mono k1 k2 (fun i j b hb' => ⟨by rw [same b (by rw [hb']; simp), hb'], rfl⟩)


/-! ### A call that sees some blocks -/
theorem zipIdx_map_getElem? {α γ : Type} (f : α × Nat → γ) : ∀ (l : List α) (i : Nat), (l.zipIdx.map f)[i]? = (l[i]?).map fun x => f (x, i) := by
  intro l i
  rw [List.getElem?_map, List.getElem?_zipIdx]
  cases l[i]? <;> simp
theorem maskH_length (ks : List Nat) (H : Heap) : (maskH ks H).length = H.length := by simp [maskH]
theorem putH_length (ks : List Nat) (H H' : Heap) : (putH ks H H').length = H.length := by simp [putH]
theorem bcells_mask (ks : List Nat) (H : Heap) (id : Nat) : bcells (maskH ks H) id = if ks.contains id then bcells H id else none := by
  unfold bcells maskH
  rw [zipIdx_map_getElem?]
  cases H[id]? with
  | none => simp
  | some b => cases hk : ks.contains id <;> simp only [Option.map_some, hk, Bool.false_eq_true, if_false, if_true]
theorem bcells_putH (ks : List Nat) (H H' : Heap) (id : Nat) : bcells (putH ks H H' ++ H'.drop H.length) id = if id < H.length ∧ ks.contains id = false then bcells H id else bcells H' id := by
  unfold bcells
  rcases Nat.lt_or_ge id H.length with hlt | hge
  · rw [List.getElem?_append_left (by rw [putH_length]; exact hlt)]
    unfold putH
    rw [zipIdx_map_getElem?, List.getElem?_eq_getElem hlt]
    by_cases hk : ks.contains id = true
    · simp only [hk, Option.map_some, if_true]
      rw [if_neg (by simp)]
      rw [List.getD_eq_getElem?_getD]
      cases H'[id]? <;> simp
    · have hk' : ks.contains id = false := by simpa using hk
      simp only [hk', Option.map_some, Bool.false_eq_true, if_false]
      rw [if_pos ⟨hlt, trivial⟩]
  · rw [List.getElem?_append_right (by rw [putH_length]; exact hge), putH_length, List.getElem?_drop, if_neg (by omega), Nat.add_sub_cancel' hge]
theorem deadOut_none {ks : List Nat} {n : Nat} {H : Heap} (h : deadOut ks n H = true) {id : Nat} (hid : id < n) (hk : ks.contains id = false) : bcells H id = none := by
  have := List.all_eq_true.1 h id (List.mem_range.2 hid)
  rw [hk, Bool.false_or, List.getD_eq_getElem?_getD] at this
  unfold bcells
  cases hx : H[id]? with
  | none => rfl
  | some b => rw [hx] at this; cases b <;> simp [isDead] at this ⊢

def mlower (ks : List Nat) (l : Loc) : Loc := match l with
  | .slot _ _ _ => .other
  | .res _ _ => .other
  | .blk id => if ks.contains id then .blk id else .other
  | .cell id j => if ks.contains id then .cell id j else .other
  | l => l
def hid (ks : List Nat) (l : Loc) : Bool := match l with
  | .slot _ _ _ => true
  | .blk id => !ks.contains id
  | .cell id _ => !ks.contains id
  | _ => false
theorem mlower_hid {ks : List Nat} {l : Loc} (h : hid ks l = true) : mlower ks l = .other := by
  cases l <;> simp_all [hid, mlower]
theorem mlower_not {ks : List Nat} {l : Loc} : ∀ {i j k : Nat}, mlower ks l ≠ .slot i j k := by
  intro i j k hq
  cases l <;> simp only [mlower] at hq <;> first | cases hq | (split at hq <;> cases hq)

theorem PR.mask {ks : List Nat} {v : V} {c : Value} (h : PR own β w v c) (hv : (ptrId v).all ks.contains = true) : PR (fun b => mlower ks (own b)) β w v c := by
  cases v <;> simp only [PR] at h ⊢ <;> first
    | exact h.mono fun b hb => ⟨by simp only [hb, mlower], rfl⟩
    | (refine ⟨h.1, ?_⟩
       simp only [ptrId, List.all_cons, List.all_nil, Bool.and_true] at hv
       rw [h.2]; simp only [mlower, hv, if_true])
theorem CR.mask {ks : List Nat} {l : Loc} {v : V} {c : Value} (h : CR own β w l v c) (hl : mlower ks l = l) (hv : (ptrId v).all ks.contains = true) : CR (fun b => mlower ks (own b)) β w l v c := by
  have k1 : ∀ b, own b = .im → (fun b => mlower ks (own b)) b = .im ∧ w.heap[b]? = w.heap[b]? := fun b hb => ⟨by simp only [hb, mlower], rfl⟩
  cases v <;> simp only [CR] at h ⊢ <;> first
    | exact h.mono k1
    | (refine ⟨h.1, ?_⟩
       simp only [ptrId, List.all_cons, List.all_nil, Bool.and_true] at hv
       rw [h.2]; simp only [mlower, hv, if_true])
    | exact EXR.mono h k1 (fun b hb => ⟨by simp only [hb, hl], rfl⟩)
    | (obtain ⟨ca, cb, h1, h2, h3, h4, h5⟩ := h
       simp only [ptrId, List.flatMap_append, List.all_append, Bool.and_eq_true] at hv
       have sub : ∀ (a : List V), (a.flatMap fun x => match x with | .ptr id _ => [id] | _ => []).all ks.contains = true → ∀ (j : Nat) (v : V) (c : Value), a[j]? = some v → PR own β w v c → PR (fun b => mlower ks (own b)) β w v c := by
         intro a ha j v c hv hc
         cases v with
         | ptr id off =>
           refine hc.mask ?_
           rw [List.all_eq_true] at ha ⊢
           intro x hx
           simp only [ptrId, List.mem_singleton] at hx
           subst hx
           exact ha x (List.mem_flatMap.2 ⟨_, List.mem_of_getElem? hv, by simp⟩)
         | _ => exact FR.mono hc fun b hb => ⟨by simp only [hb, mlower], rfl⟩
       exact ⟨ca, cb, h1, h2, h3, fun j v c hv' hc => sub _ hv.1 j v c hv' (h4 j v c hv' hc), fun j v c hv' hc => sub _ hv.2 j v c hv' (h5 j v c hv' hc)⟩)

theorem HR.mask {ks : List Nat} {H : Heap} (h : HR own β w H) (hc : closedK ks H = true) : HR (fun b => mlower ks (own b)) β w (maskH ks H) := by
  refine ⟨fun id cs hi => ?_, fun b id hb => ?_, fun b hb => h.lt b fun hn => hb (by simp only [hn, mlower])⟩
  · rw [bcells_mask] at hi
    split at hi
    · rename_i hk
      obtain ⟨h1, h2, arr, T, h3, h4, h5⟩ := h.blk id cs hi
      have hall := List.all_eq_true.1 hc id (by simpa using hk)
      simp only [cellIds, hi] at hall
      refine ⟨by simp only [h1, mlower, hk, if_true], h2, arr, T, h3, h4, fun j v c hv hcv => (h5 j v c hv hcv).mask (by simp only [mlower, hk, if_true]) ?_⟩
      rw [List.all_eq_true] at hall ⊢
      exact fun x hx => hall x (List.mem_flatMap.2 ⟨v, List.mem_of_getElem? hv, hx⟩)
    · cases hi
  · cases ho : own b with
    | blk id' =>
      rw [ho] at hb; simp only [mlower] at hb
      split at hb
      · rename_i hk
        injection hb with hb; subst hb
        obtain ⟨e, cs, hcs⟩ := h.inv b _ ho
        exact ⟨e, cs, by rw [bcells_mask, if_pos hk]; exact hcs⟩
      · cases hb
    | _ =>
      rw [ho] at hb; simp only [mlower] at hb
      first
        | (cases hb; done)
        | (split at hb <;> cases hb)

theorem AR.mask {ks : List Nat} {vs : List V} {cs : List Value} (h : AR own β w vs cs) (hv : (argIds vs).all ks.contains = true) : AR (fun b => mlower ks (own b)) β w vs cs := by
  refine ⟨h.1, fun j v c hj hc => ⟨?_, (h.2 j v c hj hc).2⟩⟩
  obtain ⟨h1, h2⟩ := h.2 j v c hj hc
  have hin : ∀ x ∈ v.cells, (ptrId x).all ks.contains = true := fun x hx => by
    rw [List.all_eq_true] at hv ⊢
    exact fun y hy => hv y (List.mem_flatMap.2 ⟨v, List.mem_of_getElem? hj, List.mem_flatMap.2 ⟨x, hx, hy⟩⟩)
  cases v with
  | undef => trivial
  | agg ds =>
    obtain ⟨arr, e1, e2, e3⟩ := h1
    exact ⟨arr, e1, e2, fun j u c hu hcu => (e3 j u c hu hcu).mask rfl (hin u (List.mem_of_getElem? hu))⟩
  | rptr ds off =>
    obtain ⟨b, o, e1, e2, e3⟩ := h1
    refine ⟨b, o, e1, by simp only [e2, mlower], fun j u hu => ?_⟩
    obtain ⟨c', q1, q2⟩ := e3 j u hu
    exact ⟨c', q1, q2.mono fun b hb => ⟨by simp only [hb, mlower], rfl⟩⟩
  | bool b => exact CR.mask (β := β) (w := w) (l := .other) (v := .bool b) h1 rfl (hin _ (by simp [V.cells]))
  | int k n => exact CR.mask (β := β) (w := w) (l := .other) (v := .int k n) h1 rfl (hin _ (by simp [V.cells]))
  | str s => exact CR.mask (β := β) (w := w) (l := .other) (v := .str s) h1 rfl (hin _ (by simp [V.cells]))
  | nilp => exact CR.mask (β := β) (w := w) (l := .other) (v := .nilp) h1 rfl (hin _ (by simp [V.cells]))
  | nilf => exact CR.mask (β := β) (w := w) (l := .other) (v := .nilf) h1 rfl (hin _ (by simp [V.cells]))
  | ptr id off => exact CR.mask (β := β) (w := w) (l := .other) (v := .ptr id off) h1 rfl (hin _ (by simp [V.cells]))
  | xptr p i off => exact CR.mask (β := β) (w := w) (l := .other) (v := .xptr p i off) h1 rfl (hin _ (by simp [V.cells]))
  | sl n xs => exact CR.mask (β := β) (w := w) (l := .other) (v := .sl n xs) h1 rfl (hin _ (by simp [V.cells]))
  | ex sz n xs => exact CR.mask (β := β) (w := w) (l := .other) (v := .ex sz n xs) h1 rfl (hin _ (by simp [V.cells]))
  | lent p => exact CR.mask (β := β) (w := w) (l := .other) (v := .lent p) h1 rfl (hin _ (by simp [V.cells]))
  | clo f x y => exact CR.mask (β := β) (w := w) (l := .other) (v := .clo f x y) h1 rfl (hin _ (by simp [V.cells]))
  | tup us => exact CR.mask (β := β) (w := w) (l := .other) (v := .tup us) h1 rfl (hin _ (by simp [V.cells]))

theorem killCellsIn_ref {ks : List Nat} {v : V} {i j : Nat} (h : (killCellsIn ks v).refsTo (.cell i j) = true) : ks.contains i = false := by
  cases v with
  | lent p =>
    cases p with
    | slot t => simp [killCellsIn, V.refsTo] at h
    | cell a b =>
      by_cases hk : ks.contains a = true
      · simp only [killCellsIn, hk, if_true, V.refsTo, Bool.false_eq_true] at h
      · simp only [killCellsIn, hk, V.refsTo, Bool.false_eq_true, if_false, beq_iff_eq] at h
        injection h with h1 _; subst h1; simpa using hk
  | xptr p k off =>
    cases p with
    | slot t => simp [killCellsIn, V.refsTo] at h
    | cell a b =>
      by_cases hk : ks.contains a = true
      · simp only [killCellsIn, hk, if_true, V.refsTo, Bool.false_eq_true] at h
      · simp only [killCellsIn, hk, V.refsTo, Bool.false_eq_true, if_false, beq_iff_eq] at h
        injection h with h1 _; subst h1; simpa using hk
  | _ => simp [killCellsIn, V.refsTo] at h

theorem SR.killCellsIn (ks : List Nat) (h : SR own β w σ a.tmps) : SR own β w { env := σ.env.map (fun x => (x.1, Vm.killCellsIn ks x.2)), heap := σ.heap } a.tmps := by
  have hlook : ∀ p sz n xs, look σ p = .ex sz n xs → look { env := σ.env.map (fun x => (x.1, Vm.killCellsIn ks x.2)), heap := σ.heap } p = .ex sz n xs := fun p sz n xs hl => by
    cases p with
    | slot t => simp only [look] at hl ⊢; rw [get_map (Vm.killCellsIn ks) rfl, hl]; rfl
    | cell i j => exact hl
  refine ⟨fun u => ?_, h.heap⟩
  rw [get_map (Vm.killCellsIn ks) rfl]
  have hu := h.env u
  cases hv : get σ.env u with
  | lent p =>
    rw [hv] at hu
    obtain ⟨sz, n, xs, h1, h2⟩ := hu
    have keep : ER own β w { env := σ.env.map (fun x => (x.1, Vm.killCellsIn ks x.2)), heap := σ.heap } a.tmps u (.lent p) (a.tmps.getD u undef) := ⟨sz, n, xs, hlook p sz n xs h1, h2⟩
    cases p with
    | slot t => exact keep
    | cell i j =>
      by_cases hk : ks.contains i = true
      · simp only [Vm.killCellsIn, hk, if_true]; exact ER.undef _ _ _ _ _ _ _
      · simp only [Vm.killCellsIn, hk]; exact keep
  | xptr p i off =>
    rw [hv] at hu
    obtain ⟨sz, n, xs, b, len, cap, h1, h2⟩ := hu
    have keep : ER own β w { env := σ.env.map (fun x => (x.1, Vm.killCellsIn ks x.2)), heap := σ.heap } a.tmps u (.xptr p i off) (a.tmps.getD u undef) := ⟨sz, n, xs, b, len, cap, hlook p sz n xs h1, h2⟩
    cases p with
    | slot t => exact keep
    | cell i' j =>
      by_cases hk : ks.contains i' = true
      · simp only [Vm.killCellsIn, hk, if_true]; exact ER.undef _ _ _ _ _ _ _
      · simp only [Vm.killCellsIn, hk]; exact keep
  | _ => rw [hv] at hu; exact hu

def partS (ks : List Nat) (σ : St) (H1 : Heap) : St := { env := σ.env.map (fun x => (x.1, killCellsIn ks x.2)), heap := putH ks σ.heap H1 ++ H1.drop σ.heap.length }

/-- **A call that may reach some of our variables.** -/
theorem back_part (ks : List Nat) (h : SR own β w σ a.tmps) {o1 : Own} {β1 : Nat → Nat} {w1 : World} {H1 : Heap} {r : V} {c : Value} (hh : HR o1 β1 w1 H1) (hs : Stay (fun b => mlower ks (own b)) w o1 w1)
    (hb : BX β β1 (maskH ks σ.heap) H1) (hd : deadOut ks σ.heap.length H1 = true) (ht : TR o1 β1 w1 (fun i j => .res i j) r c) :
    ∃ o2 β2, Nxt own β w σ a o2 β2 w1 (partS ks σ H1) a ∧ TR o2 β2 w1 (fun i j => .res i j) r c := by
  have hlen : σ.heap.length ≤ H1.length := by have := hb.1; rwa [maskH_length] at this
  let o2 : Own := fun b => if hid ks (own b) = true then own b else o1 b
  let β2 : Nat → Nat := fun id => if id < σ.heap.length ∧ ks.contains id = false then β id else β1 id
  have hidv : ∀ b, hid ks (own b) = true → o1 b = .other ∧ w1.heap[b]? = w.heap[b]? := fun b hq =>
    hs.other b (h.heap.lt b (by intro hn; rw [hn] at hq; simp [hid] at hq)) (mlower_hid hq)
  have o2h : ∀ b, hid ks (own b) = true → o2 b = own b := fun b hq => by simp only [o2, if_pos hq]
  have same : ∀ b, o1 b ≠ .other → o2 b = o1 b := fun b hb' => by
    simp only [o2]
    split
    · rename_i hq; exact absurd (hidv b hq).1 hb'
    · rfl
  have imv : ∀ b, own b = .im → o2 b = .im ∧ w1.heap[b]? = w.heap[b]? := fun b hb' => by
    obtain ⟨h1, h2⟩ := hs.im b (by simp only [hb', mlower])
    exact ⟨by rw [same b (by rw [h1]; simp), h1], h2⟩
  have bnew : ∀ id, bcells (partS ks σ H1).heap id = if id < σ.heap.length ∧ ks.contains id = false then bcells σ.heap id else bcells H1 id := fun id => bcells_putH ks σ.heap H1 id
  have b2h : ∀ id, id < σ.heap.length ∧ ks.contains id = false → β2 id = β id := fun id hq => by simp only [β2, if_pos hq]
  have b2k : ∀ id, ¬ (id < σ.heap.length ∧ ks.contains id = false) → β2 id = β1 id := fun id hq => by simp only [β2, if_neg hq]
  have vis : ∀ id cs, bcells H1 id = some cs → ¬ (id < σ.heap.length ∧ ks.contains id = false) := fun id cs hi hq => by
    rw [deadOut_none hd hq.1 hq.2] at hi; cases hi
  have kept : ∀ id cs, bcells σ.heap id = some cs → ks.contains id = true → β1 id = β id ∧ ∃ cs', bcells H1 id = some cs' := fun id cs hi hk =>
    hb.2 id cs (by rw [bcells_mask, if_pos hk]; exact hi)
  have blkv : ∀ id, own (β id) = .blk id → o2 (β2 id) = .blk id ∧ β2 id = β id := fun id hb' => by
    obtain ⟨_, cs, hcs⟩ := h.heap.inv _ _ hb'
    by_cases hk : ks.contains id = true
    · obtain ⟨e1, cs', hcs'⟩ := kept id cs hcs hk
      have := (hh.blk id cs' hcs').1
      have e2 := b2k id (fun hq => absurd (hk.symm.trans hq.2) (by simp))
      exact ⟨by rw [e2, same _ (by rw [this]; simp), this], by rw [e2, e1]⟩
    · have hk' : ks.contains id = false := by simpa only [Bool.not_eq_true] using hk
      have e2 := b2h id ⟨bcells_lt hcs, hk'⟩
      exact ⟨by rw [e2, o2h _ (by rw [hb']; simp only [hid, hk', Bool.not_false]), hb'], e2⟩
  have k1 : ∀ b, o1 b = .im → o2 b = .im ∧ w1.heap[b]? = w1.heap[b]? := fun b hb' => ⟨by rw [same b (by rw [hb']; simp), hb'], rfl⟩
  have k2 : ∀ id, o1 (β1 id) = .blk id → o2 (β2 id) = .blk id ∧ β2 id = β1 id := fun id hb' => by
    obtain ⟨_, cs, hcs⟩ := hh.inv _ _ hb'
    have e2 := b2k id (vis id cs hcs)
    exact ⟨by rw [e2, same _ (by rw [hb']; simp), hb'], e2⟩
  have cellv : ∀ id j b, ks.contains id = false → own b = .cell id j → o2 b = .cell id j ∧ w1.heap[b]? = w.heap[b]? := fun id j b hk hb' => by
    have hq : hid ks (own b) = true := by rw [hb']; simp only [hid, hk, Bool.not_false]
    exact ⟨by rw [o2h b hq, hb'], (hidv b hq).2⟩
  have slotv : ∀ b t i j, own b = .slot t i j → o2 b = .slot t i j ∧ w1.heap[b]? = w.heap[b]? := fun b t i j hb' => by
    have hq : hid ks (own b) = true := by rw [hb']; rfl
    exact ⟨by rw [o2h b hq, hb'], (hidv b hq).2⟩
  have blkheap : ∀ id cs, bcells σ.heap id = some cs → ks.contains id = false → w1.heap[β id]? = w.heap[β id]? := fun id cs hi hk => by
    have hq : hid ks (own (β id)) = true := by rw [(h.heap.blk id cs hi).1]; simp only [hid, hk, Bool.not_false]
    exact (hidv _ hq).2
  have hk := h.killCellsIn ks
  refine ⟨o2, β2, ⟨⟨fun u => ?_, ⟨fun id cs hi => ?_, fun b id hb' => ?_, fun b hb' => ?_⟩⟩, ⟨imv, fun b hlt hb' => ?_, hs.size, hs.os, hs.tape, hs.output⟩, ⟨?_, fun id cs hi => ?_⟩, rfl, rfl⟩, ?_⟩
  · have hu := hk.env u
    simp only [partS]
    rw [get_map (Vm.killCellsIn ks) rfl] at hu ⊢
    have hlk : ∀ p, (Vm.killCellsIn ks (get σ.env u)).refsTo p = true → ∃ sz n xs, look { env := σ.env.map (fun x => (x.1, Vm.killCellsIn ks x.2)), heap := σ.heap } p = .ex sz n xs := fun p hp => by
      generalize Vm.killCellsIn ks (get σ.env u) = v at hu hp
      cases v with
      | lent q =>
        obtain ⟨sz, n, xs, q1, _⟩ := hu
        simp only [V.refsTo, beq_iff_eq] at hp; subst hp
        exact ⟨sz, n, xs, q1⟩
      | xptr q i off =>
        obtain ⟨sz, n, xs, _, _, _, q1, _⟩ := hu
        simp only [V.refsTo, beq_iff_eq] at hp; subst hp
        exact ⟨sz, n, xs, q1⟩
      | _ => simp [V.refsTo] at hp
    refine hu.keep imv blkv (fun i j b hb' => slotv b u i j hb') (fun p hp => ?_)
    cases p with
    | slot x => exact ⟨fun sz n xs hl => ⟨n, xs, hl, rfl⟩, fun c hc => hc, fun b hb' => (slotv b x 0 0 hb').1⟩
    | cell i j =>
      have hki := killCellsIn_ref hp
      refine ⟨fun sz n xs hl => ⟨n, xs, ?_, rfl⟩, fun c hc => ?_, fun b hb' => (cellv i j b hki hb').1⟩
      · obtain ⟨cs, hcs, _⟩ := Place.cases_look hl
        simp only [look] at hl ⊢
        have := bnew i
        simp only [partS] at this
        rw [this, if_pos ⟨bcells_lt hcs, hki⟩]; exact hl
      · obtain ⟨sz, n, xs, hl⟩ := hlk _ hp
        obtain ⟨cs, hcs, _⟩ := Place.cases_look hl
        simp only [conc] at hc ⊢
        rw [b2h i ⟨bcells_lt hcs, hki⟩, World.cell?_of_block (w := w) (by exact blkheap i cs hcs hki)]
        exact hc
  · rw [bnew] at hi
    split at hi
    · rename_i hq
      exact (h.heap.blk id cs hi).mono imv blkv (fun j b hb' => cellv id j b hq.2 hb') (blkheap id cs hi hq.2)
    · exact (hh.blk id cs hi).mono k1 k2 (fun j b hb' => ⟨by rw [same b (by rw [hb']; simp), hb'], rfl⟩) rfl
  · simp only [o2] at hb'
    split at hb'
    · rename_i hq
      obtain ⟨e, cs, hcs⟩ := h.heap.inv b id hb'
      have hk' : ks.contains id = false := by rw [hb'] at hq; simpa only [hid, Bool.not_eq_true'] using hq
      refine ⟨by rw [b2h id ⟨bcells_lt hcs, hk'⟩, e], cs, ?_⟩
      rw [bnew, if_pos ⟨bcells_lt hcs, hk'⟩]; exact hcs
    · obtain ⟨e, cs, hcs⟩ := hh.inv b id hb'
      refine ⟨by rw [b2k id (vis id cs hcs), e], cs, ?_⟩
      rw [bnew, if_neg (vis id cs hcs)]; exact hcs
  · by_cases hq : hid ks (own b) = true
    · exact Nat.lt_of_lt_of_le (h.heap.lt b (by intro hn; rw [hn] at hq; simp [hid] at hq)) hs.size
    · have : o2 b = o1 b := by simp only [o2, if_neg hq]
      rw [this] at hb'
      exact hh.lt b hb'
  · obtain ⟨h1, h2⟩ := hs.other b hlt (by simp only [hb', mlower])
    exact ⟨by simp only [o2, hb', hid, h1]; rfl, h2⟩
  · simp only [partS, List.length_append, putH_length, List.length_drop]; omega
  · by_cases hk' : ks.contains id = true
    · obtain ⟨e, cs', hcs'⟩ := kept id cs hi hk'
      refine ⟨by rw [b2k id (fun hq => absurd (hk'.symm.trans hq.2) (by simp)), e], cs', ?_⟩
      rw [bnew, if_neg (fun hq => absurd (hk'.symm.trans hq.2) (by simp))]; exact hcs'
    · have hk'' : ks.contains id = false := by simpa only [Bool.not_eq_true] using hk'
      refine ⟨b2h id ⟨bcells_lt hi, hk''⟩, cs, ?_⟩
      rw [bnew, if_pos ⟨bcells_lt hi, hk''⟩]; exact hi
  · exact ht.mono k1 k2 (fun i j b hb' => ⟨by rw [same b (by rw [hb']; simp), hb'], rfl⟩)

end
end Go.Vm
end

section
/- V17: calls with data. -/
namespace Go.Vm
open Go

section
variable {P : Program} {o : Oper} {own own' : Own} {β β' : Nat → Nat} {w : World} {σ : St} {a : Act} {n : Nat}

def oneC : V → Bool
  | .agg _ | .rptr _ _ | .undef => false
  | _ => true
theorem VR_one {own : Own} {β : Nat → Nat} {w : World} {L : Nat → Loc} {v : V} {c : Value} (h : oneC v = true) : VR own β w L v c = CR own β w (L 0) v c := by
  cases v <;> first | rfl | (simp [oneC] at h)
def oneT : V → Bool
  | .tup _ => false
  | _ => true
theorem TR_one {own : Own} {β : Nat → Nat} {w : World} {L : Nat → Nat → Loc} {v : V} {c : Value} (h : oneT v = true) : TR own β w L v c = VR own β w (L 0) v c := by
  cases v <;> first | rfl | (simp [oneT] at h)

theorem PR.shift (him : ∀ b, own b = .im → own' b = .im) (hblk : ∀ id, own (β id) = .blk id → own' (β' (id + n)) = .blk (id + n) ∧ β' (id + n) = β id) {v : V} {c : Value} (h : PR own β w v c) :
    PR own' β' w (shiftP n v) c := by
  cases v <;> simp only [PR, shiftP] at h ⊢ <;> first
    | exact h.mono fun b hb => ⟨him b hb, rfl⟩
    | exact ⟨by rw [(hblk _ h.2).2]; exact h.1, (hblk _ h.2).1⟩

theorem CR.shift (him : ∀ b, own b = .im → own' b = .im) (hblk : ∀ id, own (β id) = .blk id → own' (β' (id + n)) = .blk (id + n) ∧ β' (id + n) = β id) {l l' : Loc} (hl : ∀ b, own b = l → own' b = l')
    {v : V} {c : Value} (h : CR own β w l v c) : CR own' β' w l' (shiftC n v) c := by
  cases v <;> simp only [CR, shiftC] at h ⊢ <;> first
    | exact h.mono fun b hb => ⟨him b hb, rfl⟩
    | exact ⟨by rw [(hblk _ h.2).2]; exact h.1, (hblk _ h.2).1⟩
    | (rcases h with h | h | ⟨hn, b, cap, T, arr, h1, h2, h3, h4, h5, h6⟩
       · exact .inl h
       · exact .inr (.inl h)
       · exact .inr (.inr ⟨hn, b, cap, T, arr, h1, hl b h2, h3, h4, h5, fun i x hx => ⟨(h6 i x hx).1, fun j y c hy hc => ((h6 i x hx).2 j y c hy hc).mono fun b hb => ⟨him b hb, rfl⟩⟩⟩))
    | (obtain ⟨ca, cb, h1, h2, h3, h4, h5⟩ := h
       refine ⟨ca, cb, h1, by simpa using h2, by simpa using h3, fun j v c hv hc => ?_, fun j v c hv hc => ?_⟩
       · rw [List.getElem?_map, Option.map_eq_some_iff] at hv
         obtain ⟨u, hu, rfl⟩ := hv
         exact (h4 j u c hu hc).shift him hblk
       · rw [List.getElem?_map, Option.map_eq_some_iff] at hv
         obtain ⟨u, hu, rfl⟩ := hv
         exact (h5 j u c hu hc).shift him hblk)

theorem VR.shift (him : ∀ b, own b = .im → own' b = .im) (hblk : ∀ id, own (β id) = .blk id → own' (β' (id + n)) = .blk (id + n) ∧ β' (id + n) = β id) {L : Nat → Loc} (hl : ∀ j b, own b = L j → own' b = L j)
    {v : V} {c : Value} (h : VR own β w L v c) : VR own' β' w L (shift1 n v) c := by
  cases v with
  | agg cs =>
    obtain ⟨arr, h1, h2, h3⟩ := h
    refine ⟨arr, h1, by simpa using h2, fun j v c hv hc => ?_⟩
    rw [List.getElem?_map, Option.map_eq_some_iff] at hv
    obtain ⟨u, hu, rfl⟩ := hv
    exact (h3 j u c hu hc).shift him hblk (hl j)
  | rptr cs off =>
    obtain ⟨b, o, h1, h2, h3⟩ := h
    refine ⟨b, o, h1, him b h2, fun j v hv => ?_⟩
    obtain ⟨c', h4, h5⟩ := h3 j v hv
    exact ⟨c', h4, h5.mono fun b hb => ⟨him b hb, rfl⟩⟩
  | undef => trivial
  | lent p => exact absurd h.notWay.1 (by simp [isWay])
  | xptr p i off => exact absurd h.notWay.1 (by simp [isWay])
  | tup vs => exact absurd rfl (h.notWay.2 _)
  | _ =>
    rw [VR_one rfl] at h ⊢
    exact CR.shift (n := n) him hblk (hl 0) h

theorem TR.shift (him : ∀ b, own b = .im → own' b = .im) (hblk : ∀ id, own (β id) = .blk id → own' (β' (id + n)) = .blk (id + n) ∧ β' (id + n) = β id) {L : Nat → Nat → Loc} (hl : ∀ i j b, own b = L i j → own' b = L i j)
    {v : V} {c : Value} (h : TR own β w L v c) : TR own' β' w L (Vm.shift n v) c := by
  cases v with
  | tup vs =>
    obtain ⟨arr, h1, h2, h3⟩ := h
    refine ⟨arr, h1, by simpa using h2, fun j v c hv hc => ?_⟩
    rw [List.getElem?_map, Option.map_eq_some_iff] at hv
    obtain ⟨u, hu, rfl⟩ := hv
    exact (h3 j u c hu hc).shift him hblk (hl j)
  | lent p => exact absurd (TR.notWay h) (by simp [isWay])
  | xptr p i off => exact absurd (TR.notWay h) (by simp [isWay])
  | undef => trivial
  | _ =>
    rw [TR_one rfl] at h ⊢
    exact VR.shift (n := n) him hblk (hl 0) h

theorem okBelow_shift {k : Nat} {v : V} (h : okBelow k v = true) : okBelow (k + n) (shiftC n v) = true := by
  cases v with
  | ptr id off => simp [okBelow, shiftC] at h ⊢; exact h
  | clo f x y =>
    simp only [okBelow, shiftC, List.all_eq_true, List.mem_append, ← List.map_append] at h ⊢
    rintro v hv
    obtain ⟨u, hu, rfl⟩ := List.mem_map.1 hv
    have := h u (List.mem_append.1 hu)
    cases u <;> simp [shiftP] at this ⊢
    exact this
  | lent p => cases p <;> simp [okBelow, shiftC] at h ⊢ <;> omega
  | xptr p i off => cases p <;> simp [okBelow, shiftC] at h ⊢ <;> omega
  | _ => rfl

/-- No way out of data that is apart. -/
theorem FR.flat {own own' : Own} {w w' : World} {v : V} {c : Value} (h : FR own w v c) (hf : flatC v = true) : FR own' w' v c := by
  cases h <;> first
    | (simp [flatC] at hf; done)
    | exact .undef _ ‹_›
    | exact .bool _
    | exact .int _ _
    | exact .str _
    | exact .nilp
    | exact .nilf

theorem CR.apart {l : Loc} {v : V} {c : Value} (h : CR own β w l v c) (ha : apartC v = true) (hl : ∀ b, own b = l → own' b = l) : CR own' β' w l v c := by
  cases v with
  | ex sz m xs =>
    simp only [apartC, List.all_eq_true] at ha
    rcases h with h | h | ⟨hn, b, cap, T, arr, h1, h2, h3, h4, h5, h6⟩
    · exact .inl h
    · exact .inr (.inl h)
    · refine .inr (.inr ⟨hn, b, cap, T, arr, h1, hl b h2, h3, h4, h5, fun i x hx => ⟨(h6 i x hx).1, fun j y c hy hc => ?_⟩⟩)
      have hx' := ha x (List.mem_of_getElem? hx)
      simp only [V.flat, List.all_eq_true] at hx'
      exact ((h6 i x hx).2 j y c hy hc).flat (hx' y (List.mem_of_getElem? hy))
  | sl m xs =>
    simp only [apartC, Bool.and_eq_true, List.isEmpty_iff] at ha
    obtain ⟨rfl, rfl⟩ := ha
    simp only [CR] at h ⊢
    cases h
    exact .nil
  | _ => first
    | (simp [apartC] at ha; done)
    | (simp only [CR] at h ⊢; exact h.flat rfl)

theorem VR.apart {L : Nat → Loc} {v : V} {c : Value} (h : VR own β w L v c) (ha : v.cells.all apartC = true) (hl : ∀ j b, own b = L j → own' b = L j) : VR own' β' w L v c := by
  cases v with
  | agg cs =>
    simp only [V.cells, List.all_eq_true] at ha
    obtain ⟨arr, h1, h2, h3⟩ := h
    exact ⟨arr, h1, h2, fun j v c hv hc => (h3 j v c hv hc).apart (ha v (List.mem_of_getElem? hv)) (hl j)⟩
  | undef => trivial
  | rptr cs off => simp [V.cells, apartC] at ha
  | lent p => exact absurd h.notWay.1 (by simp [isWay])
  | xptr p i off => exact absurd h.notWay.1 (by simp [isWay])
  | tup vs => exact absurd rfl (h.notWay.2 _)
  | _ =>
    rw [VR_one rfl] at h ⊢
    exact CR.apart h (by simpa [V.cells] using ha) (hl 0)

theorem TR.apart {L : Nat → Nat → Loc} {v : V} {c : Value} (h : TR own β w L v c) (ha : Vm.apart v = true) (hl : ∀ i j b, own b = L i j → own' b = L i j) : TR own' β' w L v c := by
  cases v with
  | tup vs =>
    simp only [Vm.apart, List.all_eq_true] at ha
    obtain ⟨arr, h1, h2, h3⟩ := h
    exact ⟨arr, h1, h2, fun j v c hv hc => (h3 j v c hv hc).apart (List.all_eq_true.2 (ha v (List.mem_of_getElem? hv))) (hl j)⟩
  | lent p => exact absurd (TR.notWay h) (by simp [isWay])
  | xptr p i off => exact absurd (TR.notWay h) (by simp [isWay])
  | undef => trivial
  | _ =>
    rw [TR_one rfl] at h ⊢
    exact VR.apart h ha (hl 0)

/-- What lies in memory is as it was; new variables stand behind ours. -/
theorem grown (h : SR own β w σ a.tmps) {o1 : Own} {β1 : Nat → Nat} {w1 : World} {H1 : Heap} (hh : HR o1 β1 w1 H1) (hold : ∀ b, b < w.heap.size → w1.heap[b]? = w.heap[b]? ∧ (o1 b = .im ∨ o1 b = .other))
    (him : ∀ b, b < w.heap.size → o1 b = .im → own b = .im ∨ H1 = [])
    (hsz : w.heap.size ≤ w1.heap.size) (o2 : Own) (β2 : Nat → Nat)
    (h2 : ∀ b, b < w.heap.size → o2 b = own b) (h3 : ∀ b, w.heap.size ≤ b → o2 b = match o1 b with | .blk id => .blk (id + σ.heap.length) | .cell id j => .cell (id + σ.heap.length) j | l => l)
    (h4 : ∀ id, id < σ.heap.length → β2 id = β id) (h5 : ∀ id, β2 (id + σ.heap.length) = β1 id) :
    SR o2 β2 w1 { env := σ.env, heap := σ.heap ++ H1.map (shiftB σ.heap.length) } a.tmps ∧ BX β β2 σ.heap (σ.heap ++ H1.map (shiftB σ.heap.length)) := by
  have imv : ∀ b, own b = .im → o2 b = .im ∧ w1.heap[b]? = w.heap[b]? := fun b hb => by
    have hlt := h.heap.lt b (by rw [hb]; simp)
    exact ⟨by rw [h2 b hlt, hb], (hold b hlt).1⟩
  have idlt : ∀ id cs, bcells σ.heap id = some cs → id < σ.heap.length := fun id cs hi => bcells_lt hi
  have bold : ∀ id, id < σ.heap.length → bcells (σ.heap ++ H1.map (shiftB σ.heap.length)) id = bcells σ.heap id := fun id hi => by
    unfold bcells; rw [List.getElem?_append_left hi]
  have bnew : ∀ id cs, bcells (σ.heap ++ H1.map (shiftB σ.heap.length)) id = some cs → σ.heap.length ≤ id → ∃ cs0, bcells H1 (id - σ.heap.length) = some cs0 ∧ cs = cs0.map (shiftC σ.heap.length) := fun id cs hc hi => by
    unfold bcells at hc ⊢
    rw [List.getElem?_append_right hi, List.getElem?_map] at hc
    cases hx : H1[id - σ.heap.length]? with
    | none => simp [hx] at hc
    | some b =>
      cases b with
      | dead => simp [hx, shiftB] at hc
      | cells cs0 => simp [hx, shiftB] at hc; exact ⟨cs0, rfl, hc.symm⟩
  have blkv : ∀ id, own (β id) = .blk id → o2 (β2 id) = .blk id ∧ β2 id = β id := fun id hb => by
    obtain ⟨_, cs, hcs⟩ := h.heap.inv _ _ hb
    have e := h4 id (idlt id cs hcs)
    exact ⟨by rw [e, h2 _ (h.heap.lt _ (by rw [hb]; simp)), hb], e⟩
  have anyv : ∀ l, l ≠ .other → ∀ b, own b = l → o2 b = l ∧ w1.heap[b]? = w.heap[b]? := fun l hl b hb => by
    have hlt := h.heap.lt b (by rw [hb]; exact hl)
    exact ⟨by rw [h2 b hlt, hb], (hold b hlt).1⟩
  have lookv : ∀ p sz n xs, look σ p = .ex sz n xs → look { env := σ.env, heap := σ.heap ++ H1.map (shiftB σ.heap.length) } p = .ex sz n xs := fun p sz n xs hl => by
    cases p with
    | slot t => exact hl
    | cell id off =>
      obtain ⟨cs, hc, _⟩ := Place.cases_look hl
      simp only [look] at hl ⊢
      rw [bold id (idlt id cs hc)]; exact hl
  refine ⟨⟨fun u => ?_, fun id cs hi => ?_, fun b id hb => ?_, fun b hb => ?_⟩, by simp, fun id cs hi => ⟨h4 id (idlt id cs hi), cs, by rw [bold id (idlt id cs hi)]; exact hi⟩⟩
  · have hu := h.env u
    cases hv : get σ.env u with
    | lent p =>
      rw [hv] at hu
      obtain ⟨sz, n, xs, q1, q2⟩ := hu
      refine ⟨sz, n, xs, lookv p sz n xs q1, ?_⟩
      cases p with
      | slot x => exact q2
      | cell id off =>
        obtain ⟨cs, hc, _⟩ := Place.cases_look q1
        simp only [conc] at q2 ⊢
        rw [h4 id (idlt id cs hc), ← q2]
        exact World.cell?_of_block (w := w) (anyv _ (by simp) (β id) (h.heap.blk id cs hc).1).2
    | xptr p i off =>
      rw [hv] at hu
      obtain ⟨sz, n, xs, b, len, cap, q1, q2, q3, q4⟩ := hu
      refine ⟨sz, n, xs, b, len, cap, lookv p sz n xs q1, ?_, (anyv _ (by cases p <;> simp [locOf]) b q3).1, q4⟩
      cases p with
      | slot x => exact q2
      | cell id off =>
        obtain ⟨cs, hc, _⟩ := Place.cases_look q1
        simp only [conc] at q2 ⊢
        rw [h4 id (idlt id cs hc), ← q2]
        exact World.cell?_of_block (w := w) (anyv _ (by simp) (β id) (h.heap.blk id cs hc).1).2
    | _ =>
      have hw : isWay (get σ.env u) = false := by rw [hv]; rfl
      have := (hu.to_TR hw).mono imv blkv (fun i j b hb => anyv _ (by simp) b hb)
      rw [hv] at this
      exact ER.of_TR this rfl
  · rcases Nat.lt_or_ge id σ.heap.length with hlt | hge
    · rw [bold id hlt] at hi
      have hB := h.heap.blk id cs hi
      exact hB.mono imv blkv (fun j b hb => anyv _ (by simp) b hb) (anyv _ (by simp) _ hB.1).2
    · obtain ⟨cs0, hc0, rfl⟩ := bnew id cs hi hge
      obtain ⟨g1, g2, arr, T, g3, g4, g5⟩ := hh.blk _ _ hc0
      have hid : id = (id - σ.heap.length) + σ.heap.length := by omega
      have hne : H1 ≠ [] := by rintro rfl; simp [bcells] at hc0
      have hge' : w.heap.size ≤ β1 (id - σ.heap.length) := by
        rcases Nat.lt_or_ge (β1 (id - σ.heap.length)) w.heap.size with hlt | hge'
        · rcases (hold _ hlt).2 with e | e <;> rw [g1] at e <;> cases e
        · exact hge'
      have eβ : β2 id = β1 (id - σ.heap.length) := by rw [hid, h5]; congr 1; omega
      refine ⟨?_, fun v hv => ?_, arr, T, by rw [eβ]; exact g3, by simpa using g4, fun j v c hv hc => ?_⟩
      · rw [eβ, h3 _ hge', g1]
        simp only
        congr 1; omega
      · obtain ⟨u, hu, rfl⟩ := List.mem_map.1 hv
        have := okBelow_shift (n := σ.heap.length) (g2 u hu)
        rw [show id - σ.heap.length + 1 + σ.heap.length = id + 1 by omega] at this
        exact this
      · rw [List.getElem?_map, Option.map_eq_some_iff] at hv
        obtain ⟨u, hu, rfl⟩ := hv
        refine (g5 j u c hu hc).shift (fun b hb => ?_) (fun id' hb => ?_) (fun b hb => ?_)
        · rcases Nat.lt_or_ge b w.heap.size with hlt | hge''
          · rw [h2 b hlt]; exact (him b hlt hb).resolve_right hne
          · rw [h3 b hge'', hb]
        · have hge'' : w.heap.size ≤ β1 id' := by
            rcases Nat.lt_or_ge (β1 id') w.heap.size with hlt | hge''
            · rcases (hold _ hlt).2 with e | e <;> rw [hb] at e <;> cases e
            · exact hge''
          refine ⟨by rw [h5, h3 _ hge'', hb], h5 id'⟩
        · have hge'' : w.heap.size ≤ b := by
            rcases Nat.lt_or_ge b w.heap.size with hlt | hge''
            · rcases (hold _ hlt).2 with e | e <;> rw [hb] at e <;> cases e
            · exact hge''
          rw [h3 b hge'', hb]
          simp only
          congr 1; omega
  · rcases Nat.lt_or_ge b w.heap.size with hlt | hge
    · rw [h2 b hlt] at hb
      obtain ⟨e1, cs, hcs⟩ := h.heap.inv b id hb
      have hl := idlt id cs hcs
      exact ⟨by rw [h4 id hl]; exact e1, cs, by rw [bold id hl]; exact hcs⟩
    · rw [h3 b hge] at hb
      split at hb
      · rename_i id' hq
        injection hb with hb
        obtain ⟨e1, cs, hcs⟩ := hh.inv b id' hq
        subst hb
        refine ⟨by rw [h5]; exact e1, cs.map (shiftC σ.heap.length), ?_⟩
        unfold bcells at hcs ⊢
        rw [List.getElem?_append_right (by omega), Nat.add_sub_cancel, List.getElem?_map]
        cases hx : H1[id']? with
        | none => simp [hx] at hcs
        | some x =>
          cases x with
          | dead => simp [hx] at hcs
          | cells ds => simp [hx] at hcs; subst hcs; rfl
      · cases hb
      · rename_i hq1 hq2
        exact absurd hb (hq1 id)
  · rcases Nat.lt_or_ge b w.heap.size with hlt | hge
    · omega
    · rw [h3 b hge] at hb
      refine hh.lt b fun hq => hb (by rw [hq])

end
end Go.Vm
end

section
/- V18: a call as an operation; every operation. -/
namespace Go.Vm
open Go

section
variable {P : Program} {o : Oper} {own : Own} {β : Nat → Nat} {w : World} {σ : St} {a : Act}

theorem onlyIm_ne {l : Loc} (h : l ≠ .im) : onlyIm l = .other := by
  cases l <;> first | exact absurd rfl h | rfl

def shiftL (n : Nat) (l : Loc) : Loc := match l with | .blk id => .blk (id + n) | .cell id j => .cell (id + n) j | l => l

/-- Behind a call with data. -/
theorem after_data (h : SR own β w σ a.tmps) {og : Own} {o1 : Own} {β1 : Nat → Nat} {w1 : World} {H1 : Heap} (hh : HR o1 β1 w1 H1) (hst : Stay (fun b => onlyIm (og b)) w o1 w1)
    (him : ∀ b, b < w.heap.size → o1 b = .im → own b = .im ∨ H1 = []) :
    ∃ o2 β2, Nxt own β w σ a o2 β2 w1 { env := σ.env, heap := σ.heap ++ H1.map (shiftB σ.heap.length) } a ∧ (∀ b, b < w.heap.size → o2 b = own b) ∧
      (∀ b, w.heap.size ≤ b → o2 b = shiftL σ.heap.length (o1 b)) ∧ (∀ id, β2 (id + σ.heap.length) = β1 id) ∧ (∀ b, b < w.heap.size → o1 b = .im ∨ o1 b = .other) := by
  have hold : ∀ b, b < w.heap.size → w1.heap[b]? = w.heap[b]? ∧ (o1 b = .im ∨ o1 b = .other) := fun b hb => by
    by_cases hi : og b = .im
    · obtain ⟨e1, e2⟩ := hst.im b (by simp only [hi, onlyIm])
      exact ⟨e2, .inl e1⟩
    · obtain ⟨e1, e2⟩ := hst.other b hb (onlyIm_ne hi)
      exact ⟨e2, .inr e1⟩
  let o2 : Own := fun b => if b < w.heap.size then own b else shiftL σ.heap.length (o1 b)
  let β2 : Nat → Nat := fun id => if id < σ.heap.length then β id else β1 (id - σ.heap.length)
  have e2 : ∀ b, b < w.heap.size → o2 b = own b := fun b hb => by simp only [o2, if_pos hb]
  have e3 : ∀ b, w.heap.size ≤ b → o2 b = shiftL σ.heap.length (o1 b) := fun b hb => by simp only [o2, if_neg (Nat.not_lt.2 hb)]
  have e5 : ∀ id, β2 (id + σ.heap.length) = β1 id := fun id => by simp only [β2]; rw [if_neg (by omega)]; congr 1; omega
  obtain ⟨g1, g2⟩ := grown h hh hold him hst.size o2 β2 e2 e3 (fun id hid => by simp only [β2, if_pos hid]) e5
  refine ⟨o2, β2, ⟨g1, ⟨fun b hb => ?_, fun b hlt hb => ⟨by rw [e2 b hlt, hb], (hold b hlt).1⟩, hst.size, hst.os, hst.tape, hst.output⟩, g2, rfl, rfl⟩, e2, e3, e5, fun b hb => (hold b hb).2⟩
  have hlt := h.heap.lt b (by rw [hb]; simp)
  exact ⟨by rw [e2 b hlt, hb], (hold b hlt).1⟩

theorem VR_of_FR {L : Nat → Loc} {v : V} {c : Value} (h : FR own w v c) : VR own β w L v c ∧ noEx v = true := by
  cases h <;> first
    | exact ⟨trivial, rfl⟩
    | exact ⟨FR.bool _, rfl⟩
    | exact ⟨FR.int _ _, rfl⟩
    | exact ⟨FR.str _, rfl⟩
    | exact ⟨FR.nilp, rfl⟩
    | exact ⟨FR.nilf, rfl⟩
    | exact ⟨FR.nil, rfl⟩
    | exact ⟨FR.none _ _, rfl⟩
    | exact ⟨FR.sl _ _ _ _ _ _ ‹_› ‹_› ‹_› ‹_›, rfl⟩
theorem VR_of_PR {L : Nat → Loc} {v : V} {c : Value} (h : PR own β w v c) : VR own β w L v c ∧ noEx v = true := by
  cases v with
  | ptr id off => exact ⟨h, rfl⟩
  | _ => exact VR_of_FR h

theorem AR_of_PR {vs : List V} {cs : Array Value} (hs : cs.size = vs.length) (h : ∀ (j : Nat) (v : V) (c : Value), vs[j]? = some v → cs[j]? = some c → PR own β w v c) : AR own β w vs cs.toList :=
  ⟨by simpa using hs, fun j v c hv hc => VR_of_PR (h j v c hv (by simpa using hc))⟩
theorem AR.reloc {ρ : Loc → Loc} (hr : Reloc ρ) {vs : List V} {cs : List Value} (h : AR own β w vs cs) : AR (fun b => ρ (own b)) β w vs cs :=
  ⟨h.1, fun j v c hv hc => ⟨((h.2 j v c hv hc).1.reloc hr).place (h.2 j v c hv hc).2, (h.2 j v c hv hc).2⟩⟩

theorem killCell_in (ks : List Nat) (v : V) : killCell (killCellsIn ks v) = killCell v := by
  cases v with
  | lent p =>
    cases p with
    | slot t => rfl
    | cell i j => simp only [killCellsIn]; split <;> rfl
  | xptr p k off =>
    cases p with
    | slot t => rfl
    | cell i j => simp only [killCellsIn]; split <;> rfl
  | _ => rfl

theorem ok_call {T : Types} {call : CallF} (hS : Sound P call) (h : Hyp P T o own β w σ a) {c : Call} (ho : o.op = .call c) {f : Operand} (hb : c.callee = .value f) {vs : List V} {ps : List (Place × V)}
    (hv : views σ c.args.toList = some (vs, ps)) {e : Eff} (he : callAt call σ (opd σ.env f) vs ps = some e) : OpOk P o own β w σ a (apply σ o.dst e) := by
  have hsr := h.sr
  obtain ⟨o1, h1, h2, ρ, hr, rfl⟩ := freezes ps own σ hsr (views_ps hsr _ _ _ hv)
  have hargs := views_args hsr hr rfl hr.other _ _ _ hv h2
  unfold callAt at he
  split at he
  case h_2 => cases he
  rename_i fid first captured hf
  have hfe := opd_TR hsr f (by rw [hf]; rfl)
  rw [hf] at hfe
  obtain ⟨ca, cb, hce, hc1, hc2, hc3, hc4⟩ := hfe
  have hAR : AR (fun b => ρ (own b)) β w (first ++ vs ++ captured) (ca.toList ++ c.args.toList.map a.eval ++ cb.toList) :=
    (((AR_of_PR hc1 hc3).reloc hr).append hargs).append ((AR_of_PR hc2 hc4).reloc hr)
  have hrun : ∀ {H r H'}, call fid (first ++ vs ++ captured) H = some (r, H') → (execOp a.eval o).run P w = .ok (.enter fid (ca.toList ++ c.args.toList.map a.eval ++ cb.toList).toArray) w := by
    intro H r H' hcall
    obtain ⟨⟨fn, q1, q2, q3⟩, _⟩ := hS _ _ _ _ _ hcall
    obtain ⟨bd, q3'⟩ := Option.isSome_iff_exists.1 q3
    have hargs' : (ca.toList ++ c.args.toList.map a.eval ++ cb.toList).toArray = ca ++ c.args.map a.eval ++ cb := by
      apply Array.ext'; simp
    rw [hargs']
    simp [execOp, ho, resolve, hb, hce, Deferred.ofValue, invoke, callFunc, q1, q2, q3']
  simp only at he
  split at he
  · rename_i hdata
    have hHR := h1.sr.heap.onlyIm
    have hAR' := hAR.onlyIm hdata
    have noslot : ∀ b i j k, (fun b => onlyIm (ρ (own b))) b ≠ .slot i j k := fun b i j k hq => by
      simp only [onlyIm] at hq; split at hq <;> cases hq
    split at he
    · rename_i r hcall
      injection he with he; subst he
      obtain ⟨_, hC⟩ := hS _ _ _ _ _ hcall
      have hC := hC _ β w _ hHR hAR' noslot
      refine OpOk.call (hrun hcall) (hC.mono ?_) h.dst
      rintro e w' ⟨c', o', β', rfl, t1, t2, t3, t4, t5⟩
      have noblk : ∀ id, o' (β' id) ≠ .blk id := fun id hq => by
        obtain ⟨_, cs, hcs⟩ := t2.inv _ _ hq; simp [bcells] at hcs
      by_cases hap : apart r = true
      · obtain ⟨o2, β2, g1, g2, g3, g4, g5⟩ := after_data hsr t2 t3 (fun _ _ _ => .inr rfl)
        simp only [List.map_nil, List.append_nil] at g1
        refine ⟨c', o2, β2, rfl, by simp only [hap, if_true, setPlaces, setMem]; exact g1, t1.apart hap (fun i j b hq => ?_)⟩
        have hge : w.heap.size ≤ b := by
          rcases Nat.lt_or_ge b w.heap.size with hlt | hge
          · rcases g5 b hlt with e | e <;> rw [hq] at e <;> cases e
          · exact hge
        rw [g3 b hge, hq]; rfl
      · obtain ⟨o2, β2, g1, g2, g3, g4, g5⟩ := after_data h1.sr t2 t3 (fun _ _ _ => .inr rfl)
        simp only [List.map_nil, List.append_nil] at g1
        refine ⟨c', o2, β2, rfl, ?_, t1.mono (fun b hq => ⟨?_, rfl⟩) (fun id hq => absurd hq (noblk id)) (fun i j b hq => ⟨?_, rfl⟩)⟩
        · simp only [hap, setMem]
          exact h1.trans g1
        · rcases Nat.lt_or_ge b w.heap.size with hlt | hge
          · rw [g2 b hlt]
            by_cases hi : ρ (own b) = .im
            · exact hi
            · obtain ⟨e1, _⟩ := t3.other b hlt (onlyIm_ne hi)
              rw [hq] at e1; cases e1
          · rw [g3 b hge, hq]; rfl
        · have hge : w.heap.size ≤ b := by
            rcases Nat.lt_or_ge b w.heap.size with hlt | hge
            · rcases g5 b hlt with e | e <;> rw [hq] at e <;> cases e
            · exact hge
          rw [g3 b hge, hq]; rfl
    · rename_i r H1 hne hcall
      injection he with he; subst he
      obtain ⟨_, hC⟩ := hS _ _ _ _ _ hcall
      have hC := hC _ β w _ hHR hAR' noslot
      refine OpOk.call (hrun hcall) (hC.mono ?_) h.dst
      rintro e w' ⟨c', o', β', rfl, t1, t2, t3, t4, t5⟩
      have himv : ∀ b, b < w.heap.size → o' b = .im → ρ (own b) = .im := fun b hlt hq => by
        by_cases hi : ρ (own b) = .im
        · exact hi
        · obtain ⟨e1, _⟩ := t3.other b hlt (onlyIm_ne hi)
          rw [hq] at e1; cases e1
      obtain ⟨o2, β2, g1, g2, g3, g4, g5⟩ := after_data h1.sr t2 t3 (fun b hlt hq => .inl (himv b hlt hq))
      have hge : ∀ b, o' b ≠ .im → o' b ≠ .other → w.heap.size ≤ b := fun b hq1 hq2 => by
        rcases Nat.lt_or_ge b w.heap.size with hlt | hge
        · rcases g5 b hlt with e | e
          · exact absurd e hq1
          · exact absurd e hq2
        · exact hge
      have g1' : Nxt (fun b => ρ (own b)) β w (setPlaces σ ps) a o2 β2 w' (setMem (setPlaces σ ps) (.all ((setPlaces σ ps).heap ++ H1.map (shiftB (setPlaces σ ps).heap.length)))) a :=
        ⟨g1.sr.killCells, g1.stay, g1.bx, rfl, rfl⟩
      refine ⟨c', o2, β2, rfl, h1.trans g1', t1.shift (fun b hq => ?_) (fun id hq => ⟨?_, g4 id⟩) (fun i j b hq => ?_)⟩
      · rcases Nat.lt_or_ge b w.heap.size with hlt | hge'
        · rw [g2 b hlt]; exact himv b hlt hq
        · rw [g3 b hge', hq]; rfl
      · rw [g4, g3 _ (hge _ (by rw [hq]; simp) (by rw [hq]; simp)), hq]; rfl
      · rw [g3 _ (hge _ (by rw [hq]; simp) (by rw [hq]; simp)), hq]; rfl
    · cases he
  · split at he
    · rename_i hcl
      simp only [Bool.and_eq_true] at hcl
      generalize reach (setPlaces σ ps).heap (setPlaces σ ps).heap.length (argIds (first ++ vs ++ captured)) = ks at he hcl
      split at he
      · rename_i r H' hcall
        split at he
        · rename_i hdead
          obtain ⟨_, hC⟩ := hS _ _ _ _ _ hcall
          have hC := hC _ β w _ (h1.sr.heap.mask hcl.1) (hAR.mask hcl.2) (fun b i j k => mlower_not)
          split at he
          · rename_i hlen
            injection he with he; subst he
            refine OpOk.call (hrun hcall) (hC.mono ?_) h.dst
            rintro e w' ⟨c', o', β', rfl, t1, t2, t3, t4, t5⟩
            obtain ⟨o2, β2, g1, g2⟩ := back_part ks h1.sr t2 t3 t4 hdead t1
            have e1 : partS ks (setPlaces σ ps) H' = setMem (setPlaces σ ps) (.put ks H') := by
              simp only [partS, setMem]
              rw [List.drop_of_length_le (by omega), List.append_nil]
            rw [e1] at g1
            exact ⟨c', o2, β2, rfl, h1.trans g1, g2⟩
          · injection he with he; subst he
            refine OpOk.call (hrun hcall) (hC.mono ?_) h.dst
            rintro e w' ⟨c', o', β', rfl, t1, t2, t3, t4, t5⟩
            obtain ⟨o2, β2, g1, g2⟩ := back_part ks h1.sr t2 t3 t4 hdead t1
            have g1' : Nxt (fun b => ρ (own b)) β w (setPlaces σ ps) a o2 β2 w' (setMem (setPlaces σ ps) (.all (putH ks (setPlaces σ ps).heap H' ++ H'.drop (setPlaces σ ps).heap.length))) a := by
              refine ⟨(g1.sr.killCells).congr (fun t => ?_) rfl, g1.stay, g1.bx, g1.defers, g1.size⟩
              simp only [setMem, partS]
              rw [get_map killCell rfl, get_map killCell rfl, get_map (killCellsIn ks) rfl, killCell_in]
            exact ⟨c', o2, β2, rfl, h1.trans g1', g2⟩
        · cases he
      · cases he
    · cases he

end
end Go.Vm
end

section
/- V18E: functions that are told by a contract of their own: slices.Delete. -/
namespace Go.Vm
open Go

/-- What slices.Delete is at elements of so many cells, when it is handed an array whole. -/
def DelOk (P : Program) (f : FuncId) (sz : Nat) : Prop :=
  (∃ fn, P.funcs[f]? = some fn ∧ fn.name ≠ "runtime.NumGoroutine" ∧ fn.body.isSome = true) ∧
  ∀ (w : World) (b n cap : Nat) (T : TypeId) (arr : Array Value) (i j : Nat), w.heap[b]? = some (.cells arr T (0, 0)) → n ≤ cap → arr.size = cap * sz →
    (∀ m c, m < n * sz → arr[m]? = some c → c.oneCell' = true) → i ≤ j → j ≤ n →
    Calls P f #[.slice (some ⟨b, 0, none⟩) n cap, .int .i64 i, .int .i64 j] w fun e w' => e = .returned (.slice (some ⟨b, 0, none⟩) (n - (j - i)) cap) ∧
      ∃ arr', w'.heap[b]? = some (.cells arr' T (0, 0)) ∧ arr'.size = arr.size ∧ (∀ m, m < (n - (j - i)) * sz → arr'[m]? = arr[if m < i * sz then m else m + (j - i) * sz]?) ∧
        (∀ k, k ≠ b → w'.heap[k]? = w.heap[k]?) ∧ w'.heap.size = w.heap.size ∧ w'.os = w.os ∧ w'.tape = w.tape ∧ w'.output = w.output

def CxOk (P : Program) (cx : Cx) : Prop := ∀ x ∈ cx.told, DelOk P x.1 x.2

theorem CxOk.lookup : ∀ {l : List (Nat × Nat)} {f sz : Nat}, l.lookup f = some sz → (f, sz) ∈ l
  | [], _, _, h => by simp at h
  | (g, s) :: l, f, sz, h => by
    rw [List.lookup_cons] at h
    split at h
    · rename_i he
      injection h with h; subst h
      rw [beq_iff_eq] at he; subst he
      exact List.mem_cons_self
    · exact List.mem_cons_of_mem _ (CxOk.lookup h)

section
variable {P : Program} {o : Oper} {own : Own} {β : Nat → Nat} {w : World} {σ : St} {a : Act}

theorem ok_delete {T : Types} {cx : Cx} (hC : CxOk P cx) (h : Hyp P T o own β w σ a) {c : Call} (ho : o.op = .call c) {f : Operand} (hb : c.callee = .value f) {sz : Nat}
    (hf : toldOf cx (opd σ.env f) = some sz) {e : Eff} (he : deleteAt sz σ c.args.toList = some e) : OpOk P o own β w σ a (apply σ o.dst e) := by
  have hsr := h.sr
  unfold toldOf at hf
  split at hf
  case h_2 => cases hf
  rename_i fid hfv
  obtain ⟨⟨fn, q1, q2, q3⟩, hD⟩ : DelOk P fid sz := hC _ (CxOk.lookup hf)
  have hfe := opd_TR hsr f (by rw [hfv]; rfl)
  rw [hfv] at hfe
  obtain ⟨ca, cb, hce, hc1, hc2, hc3, hc4⟩ := hfe
  have hca : ca = #[] := Array.eq_empty_of_size_eq_zero (by simpa using hc1)
  have hcb : cb = #[] := Array.eq_empty_of_size_eq_zero (by simpa using hc2)
  subst hca; subst hcb
  unfold deleteAt at he
  split at he
  case h_2 => cases he
  rename_i x i j hargs
  split at he
  case h_2 => cases he
  rename_i n xs ps i' j' hbase hi hj
  split at he
  case isFalse => cases he
  rename_i hcond
  obtain ⟨c1, c2, c3, c4⟩ := hcond
  injection he with he; subst he
  obtain ⟨o1, h1, h2, ρ, hr, rfl⟩ := base_ok hsr hbase
  have hargs' : c.args = #[x, i, j] := by rw [← Array.toList_inj]; simpa using hargs
  rcases h2 with ⟨rfl, _⟩ | ⟨rfl, _⟩ | ⟨rfl, b, cap, T', arr, hx, hb2, hb3, hb4, hb5, hb6⟩
  · simp at c4
  · simp at c4
  obtain ⟨bd, q3'⟩ := Option.isSome_iff_exists.1 q3
  have ei := opd_int hsr hi
  have ej := opd_int hsr hj
  have ni : ((i'.toNat : Nat) : Int) = i' := Int.toNat_of_nonneg c1
  have nj : ((j'.toNat : Nat) : Int) = j' := Int.toNat_of_nonneg (by omega)
  have hrun : (execOp a.eval o).run P w = .ok (.enter fid #[.slice (some ⟨b, 0, none⟩) xs.length cap, .int .i64 (i'.toNat : Nat), .int .i64 (j'.toNat : Nat)]) w := by
    rw [ni, nj]
    simp [execOp, ho, resolve, hb, hce, Deferred.ofValue, invoke, callFunc, q1, q2, q3', hargs', hx, ei, ej]
  have hone : ∀ m c, m < xs.length * sz → arr[m]? = some c → c.oneCell' = true := fun m c hm hc => by
    have hsz : 0 < sz := by
      rcases Nat.eq_zero_or_pos sz with h0 | h0
      · subst h0; simp at hm
      · exact h0
    have hi : m / sz < xs.length := Nat.div_lt_of_lt_mul (by rw [Nat.mul_comm]; exact hm)
    obtain ⟨g1, g2⟩ := hb6 (m / sz) _ (List.getElem?_eq_getElem hi)
    have hj : m % sz < (xs[m / sz]).cells.length := by rw [g1]; exact Nat.mod_lt _ hsz
    exact (g2 (m % sz) _ c (List.getElem?_eq_getElem hj) (by rw [Nat.mul_comm, Nat.div_add_mod]; exact hc)).one
  have hij : i'.toNat ≤ j'.toNat := by omega
  have hjn : j'.toNat ≤ xs.length := by omega
  refine OpOk.call hrun ((hD w b xs.length cap T' arr i'.toNat j'.toNat hb3 hb4 hb5 hone hij hjn).mono ?_) h.dst
  rintro e w' ⟨rfl, arr', g1, g2, g3, g4, g5, g6, g7, g8⟩
  obtain ⟨s1, s2⟩ := h1.sr.pokeRes hb2 g5 g4 g6 g7 g8
  have hlen : (xs.take i'.toNat ++ xs.drop j'.toNat).length = xs.length - (j'.toNat - i'.toNat) := by simp; omega
  refine ⟨_, _, _, rfl, h1.trans ⟨s1, s2, BX.refl _ _, rfl, rfl⟩, .inr (.inr ⟨rfl, b, cap, T', arr', by rw [hlen], hb2, g1, by rw [hlen]; omega, by rw [g2]; exact hb5, fun k y hk => ?_⟩)⟩
  have hk' : k < xs.length - (j'.toNat - i'.toNat) := by rw [← hlen]; exact (List.getElem?_eq_some_iff.1 hk).1
  have hsrc : xs[if k < i'.toNat then k else k + (j'.toNat - i'.toNat)]? = some y := by
    rw [List.getElem?_append] at hk
    have hl : (xs.take i'.toNat).length = i'.toNat := by simp; omega
    rw [hl] at hk
    split at hk
    · rename_i hlt
      rw [if_pos hlt]
      rwa [List.getElem?_take, if_pos hlt] at hk
    · rename_i hlt
      rw [if_neg hlt]
      rw [List.getElem?_drop] at hk
      rw [← hk]; congr 1; omega
  obtain ⟨f1, f2⟩ := hb6 _ y hsrc
  refine ⟨f1, fun m v c hv hc => ?_⟩
  have hm : m < sz := by rw [← f1]; exact (List.getElem?_eq_some_iff.1 hv).1
  refine (f2 m v c hv ?_).mono fun b' hb' => ⟨hb', g4 b' fun he => ?_⟩
  · rw [← hc, g3 (k * sz + m) (by
      have : (k + 1) * sz ≤ (xs.length - (j'.toNat - i'.toNat)) * sz := Nat.mul_le_mul_right _ hk'
      rw [Nat.succ_mul] at this; omega)]
    by_cases hlt : k < i'.toNat
    · have : (k + 1) * sz ≤ i'.toNat * sz := Nat.mul_le_mul_right _ hlt
      rw [Nat.succ_mul] at this
      rw [if_pos hlt, if_pos (by omega)]
    · have : i'.toNat * sz ≤ k * sz := Nat.mul_le_mul_right _ (by omega)
      rw [if_neg hlt, if_neg (by omega), Nat.add_mul]
      congr 1; omega
  · subst he; have := hb2.symm.trans hb'; cases this

end
end Go.Vm
end

section
/- V19: every operation; regions in their text's order. -/
namespace Go.Vm
open Go

section
variable {P : Program} {o : Oper} {own : Own} {β : Nat → Nat} {w : World} {σ : St} {a : Act}

theorem ok_eff {T : Types} {call : CallF} {cx : Cx} {fr : Nat} (hS : Sound P call) (hC : CxOk P cx) (h : Hyp P T o own β w σ a) {e : Eff}
    (he : eff T call cx fr o σ = some e) (hnd : ∀ d, o.dst = some d → e.val.refsTo (.slot d) = false) : OpOk P o own β w σ a (apply σ o.dst e) := by
  cases ho : o.op
  case move x => exact ok_move h ho (by simpa only [eff, ho] using he) hnd
  case assign x =>
    have he' := he
    simp only [eff, ho] at he'
    cases hd : o.dst with
    | none => simp [hd] at he'
    | some d => simp only [hd] at he'; rw [← hd]; exact ok_assign h ho he' hnd
  case pick c x y => exact ok_pick h ho he
  case alloc t => exact ok_alloc h ho he
  case box t x => exact ok_box h ho he
  case build t parts => exact ok_build h ho he
  case buildSlice t l parts => exact ok_buildSlice h ho he
  case load t x => exact ok_load h ho he hnd
  case store t p x => exact ok_store h ho he
  case nilCheck x => exact ok_nilCheck h ho he
  case binOp op t x y g => exact ok_binOp h ho he
  case unOp op t x => exact ok_unOp h ho he
  case convert s t x => exact ok_convert h ho he
  case makeFunc f x y => exact ok_makeFunc h ho he
  case slice t x lo hi mx => exact ok_slice h ho he
  case fieldAddr t p f => exact ok_fieldAddr h ho he hnd
  case field t x f => exact ok_field h ho he
  case indexAddr t x k => exact ok_indexAddr h ho he hnd
  case index t x k => exact ok_index h ho he
  case extract x j => exact ok_extract h ho he
  case makeSlice t l c => exact ok_makeSlice h ho he
  case call c =>
    simp only [eff, ho] at he
    cases hb : c.callee with
    | builtin b =>
      simp only [hb] at he
      cases b <;> simp only [builtinAt] at he <;> try (cases he; done)
      · exact ok_append h ho hb he
      · exact ok_len h ho hb he
      · exact ok_mm h ho (big := true) hb he
      · exact ok_mm h ho (big := false) hb he
    | value f =>
      simp only [hb] at he
      cases ht : toldOf cx (opd σ.env f) with
      | some sz =>
        simp only [ht] at he
        exact ok_delete hC h ho hb ht he
      | none =>
        simp only [ht] at he
        cases hv : views σ c.args.toList with
        | none => simp [hv] at he
        | some vp =>
          obtain ⟨vs, ps⟩ := vp
          simp only [hv] at he
          exact ok_call hS h ho hb hv he
    | invoke x m => simp [hb] at he
  all_goals (simp [eff, ho] at he)

end
end Go.Vm
end

section
/- V20: regions in their text's order; what is forgotten. -/
namespace Go.Vm
open Go

section
variable {P : Program} {o : Oper} {own : Own} {β : Nat → Nat} {w : World} {σ : St} {a : Act}

theorem SR.forget {σ' : St} (h : SR own β w σ a.tmps) (hh : σ'.heap = σ.heap) (hg : ∀ t, get σ'.env t = get σ.env t ∨ get σ'.env t = .undef)
    (hr : ∀ t x, (get σ'.env t).refsTo (.slot x) = true → get σ'.env x = get σ.env x) : SR own β w σ' a.tmps := by
  refine ⟨fun t => ?_, by rw [hh]; exact h.heap⟩
  rcases hg t with e | e
  · have ht := h.env t
    have lk : ∀ p, (get σ'.env t).refsTo p = true → look σ' p = look σ p := fun p hp => by
      cases p with
      | slot x => exact hr t x hp
      | cell id off => simp only [look, hh]
    rw [e]
    cases hv : get σ.env t with
    | lent p =>
      rw [hv] at ht
      obtain ⟨sz, n, xs, q1, q2⟩ := ht
      exact ⟨sz, n, xs, by rw [lk p (by rw [e, hv]; simp [V.refsTo])]; exact q1, q2⟩
    | xptr p i off =>
      rw [hv] at ht
      obtain ⟨sz, n, xs, b, len, cap, q1, q2⟩ := ht
      exact ⟨sz, n, xs, b, len, cap, by rw [lk p (by rw [e, hv]; simp [V.refsTo])]; exact q1, q2⟩
    | _ => rw [hv] at ht; exact ht
  · rw [e]; exact ER.undef _ _ _ _ _ _ _

theorem get_mapped (env : Env) : ∀ (l : List Nat) (t : Nat), get (l.map fun t => (t, get env t)) t = if t ∈ l then get env t else .undef
  | [], t => rfl
  | u :: l, t => by
    simp only [List.map_cons, get]
    by_cases h : u = t
    · subst h; simp
    · rw [if_neg h, get_mapped env l t]
      simp [h, Ne.symm h, eq_comm]
theorem get_append : ∀ (e1 e2 : Env) (t : Nat), get (e1 ++ e2) t = bif (e1.any fun x => x.1 == t) then get e1 t else get e2 t
  | [], e2, t => rfl
  | (u, v) :: e1, e2, t => by
    simp only [List.cons_append, get, List.any_cons]
    by_cases h : u = t
    · subst h; simp
    · have hb : (u == t) = false := by simpa using h
      rw [if_neg h, if_neg h, get_append e1 e2 t, hb, Bool.false_or]

theorem slotRef_of {v : V} {x : Nat} (h : v.refsTo (.slot x) = true) : slotRef v = some x := by
  cases v <;> simp [V.refsTo] at h
  · rename_i p i off; subst h; rfl
  · rename_i p; subst h; rfl

theorem get_prune (l : List Nat) (t : Nat) : get (prune (some l) σ).env t = if t ∈ l ∨ ∃ u ∈ l, slotRef (get σ.env u) = some t then get σ.env t else .undef := by
  simp only [prune]
  rw [get_append]
  have h1 : ((l.map fun t => (t, get σ.env t)).any fun x => x.1 == t) = decide (t ∈ l) := by
    rw [Bool.eq_iff_iff]
    simp
  rw [h1, get_mapped, get_mapped]
  by_cases ht : t ∈ l
  · simp [ht]
  · simp only [ht, decide_false, cond_false, false_or]
    have : (t ∈ (l.map fun t => (t, get σ.env t)).filterMap fun x => slotRef x.2) ↔ ∃ u ∈ l, slotRef (get σ.env u) = some t := by
      simp
    simp only [this]

theorem SR.prune (h : SR own β w σ a.tmps) (k : Option (List Nat)) : SR own β w (Vm.prune k σ) a.tmps := by
  cases k with
  | none => exact h
  | some l =>
    refine h.forget rfl (fun t => ?_) (fun t x hx => ?_)
    · rw [get_prune]; split <;> simp
    · rw [get_prune] at hx ⊢
      split at hx
      · rename_i ht
        rw [if_pos]
        right
        rcases ht with ht | ⟨u, hu, he⟩
        · exact ⟨t, ht, slotRef_of hx⟩
        · -- the owner is no way
          have hu' := h.env u
          have hex : ∃ sz n xs, get σ.env t = .ex sz n xs := by
            cases hv : get σ.env u <;> rw [hv] at he hu' <;> simp [slotRef] at he
            · rename_i p i off
              cases p <;> simp at he
              subst he
              obtain ⟨sz, n, xs, b, len, cap, q1, _⟩ := hu'
              exact ⟨sz, n, xs, q1⟩
            · rename_i p
              cases p <;> simp at he
              subst he
              obtain ⟨sz, n, xs, q1, _⟩ := hu'
              exact ⟨sz, n, xs, q1⟩
          obtain ⟨sz, n, xs, hex⟩ := hex
          rw [hex] at hx; simp [V.refsTo] at hx
      · simp [V.refsTo] at hx

theorem bcells_reserve (H : Heap) (k id : Nat) : bcells (H ++ List.replicate k .dead) id = bcells H id := by
  unfold bcells
  rcases Nat.lt_or_ge id H.length with hlt | hge
  · rw [List.getElem?_append_left hlt]
  · rw [List.getElem?_append_right hge, List.getElem?_replicate, List.getElem?_eq_none hge]
    split <;> rename_i hq <;> split at hq <;> simp at hq ⊢
theorem SR.reserve (h : SR own β w σ a.tmps) (ops : Array Oper) : SR own β w (reserve ops σ) a.tmps ∧ BX β β σ.heap (reserve ops σ).heap := by
  refine ⟨⟨fun t => ?_, fun id cs hi => h.heap.blk id cs (by rw [← bcells_reserve]; exact hi), fun b id hb => ?_, h.heap.lt⟩, by simp [Vm.reserve], fun id cs hi => ⟨rfl, cs, by simp only [Vm.reserve]; rw [bcells_reserve]; exact hi⟩⟩
  · have ht := h.env t
    have lk : ∀ p, look (Vm.reserve ops σ) p = look σ p := fun p => by
      cases p with
      | slot x => rfl
      | cell id off => simp only [look, Vm.reserve]; rw [bcells_reserve]
    show ER own β w _ _ t (get σ.env t) _
    cases hv : get σ.env t with
    | lent p =>
      rw [hv] at ht
      obtain ⟨sz, n, xs, q1, q2⟩ := ht
      exact ⟨sz, n, xs, by rw [lk p]; exact q1, q2⟩
    | xptr p i off =>
      rw [hv] at ht
      obtain ⟨sz, n, xs, b, len, cap, q1, q2⟩ := ht
      exact ⟨sz, n, xs, b, len, cap, by rw [lk p]; exact q1, q2⟩
    | _ => rw [hv] at ht; exact ht
  · obtain ⟨e, cs, hc⟩ := h.heap.inv b id hb
    exact ⟨e, cs, by simp only [Vm.reserve]; rw [bcells_reserve]; exact hc⟩

theorem wants_ok {ops : Array Oper} (h : SR own β w σ a.tmps) {b : Bool} (hw : wants ops σ.env o = some b) : Region.wanted o (yielded ops a.tmps) = b := by
  unfold wants at hw
  unfold Region.wanted
  split at hw
  · rename_i hg; rw [hg]; injection hw
  · rename_i j want hg
    rw [hg]
    simp only
    split at hw
    · rename_i t ht
      split at hw
      · rename_i c hc
        injection hw with hw; subst hw
        have he : a.tmps.getD t undef = .bool c := opd_bool (a := a) h (x := .tmp t) hc
        have hy : yielded ops a.tmps j = some c := by
          unfold yielded
          rw [ht]
          simp only [Option.bind_some]
          rcases Nat.lt_or_ge t a.tmps.size with hlt | hge
          · rw [Array.getElem?_eq_getElem hlt]
            have : a.tmps[t] = .bool c := by rw [← he]; simp [hlt]
            rw [this]
          · rw [Array.getD_eq_getD_getElem?, Array.getElem?_eq_none hge] at he; simp [undef] at he
        rw [hy]
        cases c <;> cases want <;> rfl
      · rename_i hc
        injection hw with hw; subst hw
        have he := h.env t
        rw [hc] at he
        obtain ⟨arr, he, _⟩ := he
        have hy : yielded ops a.tmps j = none := by
          unfold yielded
          rw [ht]
          simp only [Option.bind_some]
          rcases Nat.lt_or_ge t a.tmps.size with hlt | hge
          · rw [Array.getElem?_eq_getElem hlt]
            have : a.tmps[t] = .tuple arr := by rw [← he]; simp [hlt]
            rw [this]
          · rw [Array.getElem?_eq_none hge]
        rw [hy]
        cases want <;> rfl
      · cases hw
    · cases hw

/-- An operation, with its guard. -/
theorem ok_vop {T : Types} {call : CallF} {cx : Cx} {fr : Nat} {ops : Array Oper} (hS : Sound P call) (hC : CxOk P cx) (h : Hyp P T o own β w σ a) {σ' : St} (hv : vop T call cx ops fr o σ = some σ')
    (K : Act → World → Prop) (Q : Exit → Act → World → Prop) (hK : ∀ own' β' w' a', Nxt own β w σ a own' β' w' σ' a' → K a' w') :
    if Region.wanted o (yielded ops a.tmps) then o.wp P a w K Q ∨ (o.asks P a w ∧ LetsOut Q) else K (a.put o.dst undef) w := by
  unfold vop effG at hv
  split at hv
  · rename_i hw
    rw [wants_ok h.sr hw]
    simp only [if_true]
    left
    split at hv
    · rename_i e he
      have hnd : ∀ d, o.dst = some d → e.val.refsTo (.slot d) = false := fun d hd => by
        cases hq : e.val.refsTo (.slot d) with
        | false => rfl
        | true => simp [hd, hq] at hv
      have hv' : apply σ o.dst e = σ' := by
        cases hd : o.dst with
        | none => rw [hd] at hv; simpa using hv
        | some d => rw [hd] at hv; simpa [hnd d hd] using hv
      subst hv'
      exact ok_eff hS hC h he hnd K Q hK
    · cases hv
  · rename_i hw
    rw [wants_ok h.sr hw]
    simp only [Bool.false_eq_true, if_false]
    simp only [Option.map_some] at hv
    injection hv with hv; subst hv
    obtain ⟨o3, h3⟩ := (Nxt.refl h.sr).put (c := undef) h.dst (v := .tup []) rfl ⟨#[], rfl, rfl, by simp⟩
    exact hK _ _ _ _ h3
  · cases hv

theorem ok_vops {T : Types} {call : CallF} {cx : Cx} {ops : Array Oper} (hS : Sound P call) (hC : CxOk P cx) (hT : TOk P T) (Q : Exit → Act → World → Prop) : ∀ (l : List Oper) (fr : Nat) (own : Own) (β : Nat → Nat) (w : World) (σ : St) (a : Act) (σ' : St),
    SR own β w σ a.tmps → (∀ o ∈ l, ∀ d, o.dst = some d → d < a.tmps.size) → vops T call cx ops fr l σ = some σ' → (∀ own' β' w' a', Nxt own β w σ a own' β' w' σ' a' → Q .normal a' w') → wpList P ops Q l a w
  | [], fr, own, β, w, σ, a, σ', h, hd, hv, hQ => by
    simp only [vops] at hv; injection hv with hv; subst hv
    exact hQ _ _ _ _ (Nxt.refl h)
  | o :: l, fr, own, β, w, σ, a, σ', h, hd, hv, hQ => by
    simp only [vops, Option.bind_eq_some_iff] at hv
    obtain ⟨σ1, h1, h2⟩ := hv
    unfold wpList
    refine ok_vop hS hC ⟨h, hd o (by simp), hT⟩ h1 _ Q (fun own1 β1 w1 a1 hn => ?_)
    refine ok_vops hS hC hT Q l _ own1 β1 w1 σ1 a1 σ' hn.sr (fun o ho d hd' => by rw [hn.size]; exact hd o (by simp [ho]) d hd') h2 (fun own' β' w' a' hn' => hQ _ _ _ _ (hn.trans hn'))


end
end Go.Vm
end

section
/- V26: what an operation reads. -/
namespace Go.Vm
open Go

/-- The same to all who look. -/
def Eqv (σ τ : St) : Prop := (∀ t, get σ.env t = get τ.env t) ∧ σ.heap = τ.heap
theorem Eqv.refl (σ : St) : Eqv σ σ := ⟨fun _ => rfl, rfl⟩
theorem Eqv.symm {σ τ : St} (h : Eqv σ τ) : Eqv τ σ := ⟨fun t => (h.1 t).symm, h.2.symm⟩
theorem Eqv.trans {σ τ υ : St} (h : Eqv σ τ) (k : Eqv τ υ) : Eqv σ υ := ⟨fun t => (h.1 t).trans (k.1 t), h.2.trans k.2⟩
theorem Eqv.setPlace {σ τ : St} (h : Eqv σ τ) (p : Place) (v : V) : Eqv (Vm.setPlace σ p v) (Vm.setPlace τ p v) := by
  cases p with
  | slot t =>
    refine ⟨fun u => ?_, h.2⟩
    simp only [Vm.setPlace, get]
    split
    · rfl
    · rw [get_kill, get_kill, h.1 u]
  | cell id off =>
    refine ⟨fun u => ?_, ?_⟩
    · simp only [Vm.setPlace]
      rw [get_kill, get_kill, h.1 u]
    · simp only [Vm.setPlace, h.2]
theorem Eqv.setPlaces : ∀ (ps : List (Place × V)) {σ τ : St}, Eqv σ τ → Eqv (Vm.setPlaces σ ps) (Vm.setPlaces τ ps)
  | [], _, _, h => h
  | (p, v) :: ps, _, _, h => Eqv.setPlaces ps (h.setPlace p v)
theorem Eqv.setMem {σ τ : St} (h : Eqv σ τ) (m : HE) : Eqv (Vm.setMem σ m) (Vm.setMem τ m) := by
  cases m with
  | keep => exact h
  | set id off cs =>
    refine ⟨fun t => ?_, by simp only [Vm.setMem, h.2]⟩
    simp only [Vm.setMem]
    rw [get_map (killIn id off cs.length) rfl, get_map (killIn id off cs.length) rfl, h.1 t]
  | init id cs => exact ⟨h.1, by simp only [Vm.setMem, h.2]⟩
  | all H =>
    refine ⟨fun t => ?_, rfl⟩
    simp only [Vm.setMem]
    rw [get_map killCell rfl, get_map killCell rfl, h.1 t]
  | put ks H =>
    refine ⟨fun t => ?_, by simp only [Vm.setMem, h.2]⟩
    simp only [Vm.setMem]
    rw [get_map (killCellsIn ks) rfl, get_map (killCellsIn ks) rfl, h.1 t]
theorem Eqv.put {σ τ : St} (h : Eqv σ τ) (d : Option Nat) (v : V) : Eqv (Vm.put σ d v) (Vm.put τ d v) := by
  cases d with
  | none => exact h
  | some d =>
    refine ⟨fun u => ?_, h.2⟩
    simp only [Vm.put, get]
    split
    · rfl
    · rw [get_kill, get_kill, h.1 u]
theorem Eqv.poke {σ τ : St} (h : Eqv σ τ) (x : Option (Nat × V)) : Eqv (Vm.pokeS σ x) (Vm.pokeS τ x) := by
  cases x with
  | none => exact h
  | some y =>
    refine ⟨fun t => ?_, h.2⟩
    simp only [Vm.pokeS]
    by_cases ht : y.1 = t
    · subst ht; rw [get_cons_same, get_cons_same]
    · rw [get_cons_ne _ _ ht, get_cons_ne _ _ ht]; exact h.1 t
theorem Eqv.apply {σ τ : St} (h : Eqv σ τ) (d : Option Nat) (e : Eff) : Eqv (Vm.apply σ d e) (Vm.apply τ d e) :=
  Eqv.put (Eqv.setMem (Eqv.setPlaces e.places (Eqv.poke h e.poke)) e.mem) d e.val
theorem Eqv.look {σ τ : St} (h : Eqv σ τ) (p : Place) : Vm.look σ p = Vm.look τ p := by
  cases p with
  | slot t => exact h.1 t
  | cell id off => simp only [Vm.look, h.2]
theorem Eqv.opd {σ τ : St} (h : Eqv σ τ) (x : Operand) : Vm.opd σ.env x = Vm.opd τ.env x := by cases x <;> first | rfl | exact h.1 _

section
variable {σ τ : St}
def placesB (id : Nat) : List (Place × V) → Option (List V) → Option (List V)
  | [], c => c
  | (.cell i off, v) :: ps, c => placesB id ps (if i = id then c.map (·.set off v) else c)
  | (.slot _, _) :: ps, c => placesB id ps c
theorem bcells_setPlace (p : Place) (v : V) (id : Nat) : bcells (setPlace σ p v).heap id = placesB id [(p, v)] (bcells σ.heap id) ∧ (setPlace σ p v).heap.length = σ.heap.length := by
  cases p with
  | slot t => exact ⟨rfl, rfl⟩
  | cell i off =>
    simp only [setPlace, placesB]
    cases hc : bcells σ.heap i with
    | none =>
      refine ⟨?_, rfl⟩
      simp only
      by_cases h : i = id
      · subst h; rw [hc]; simp
      · rw [if_neg h]
    | some cs =>
      refine ⟨?_, by simp⟩
      simp only
      rw [bcells_set (bcells_lt hc)]
      by_cases h : i = id
      · subst h; rw [hc]; simp
      · rw [if_neg (Ne.symm h), if_neg h]

theorem placesB_cons (id : Nat) (x : Place × V) (ps : List (Place × V)) (c : Option (List V)) : placesB id (x :: ps) c = placesB id ps (placesB id [x] c) := by
  obtain ⟨p, v⟩ := x
  cases p <;> rfl

theorem bcells_setPlaces : ∀ (ps : List (Place × V)) (σ : St) (id : Nat), bcells (setPlaces σ ps).heap id = placesB id ps (bcells σ.heap id) ∧ (setPlaces σ ps).heap.length = σ.heap.length
  | [], σ, id => ⟨rfl, rfl⟩
  | x :: ps, σ, id => by
    obtain ⟨h1, h2⟩ := bcells_setPlaces ps (setPlace σ x.1 x.2) id
    obtain ⟨g1, g2⟩ := bcells_setPlace (σ := σ) x.1 x.2 id
    exact ⟨by rw [placesB_cons]; simp only [setPlaces]; rw [h1, g1], by simp only [setPlaces]; rw [h2, g2]⟩

theorem heap_ext {H1 H2 : Heap} (hl : H1.length = H2.length) (h : ∀ id, bcells H1 id = bcells H2 id) : H1 = H2 := by
  apply List.ext_getElem hl
  intro i h1 h2
  have := h i
  unfold bcells at this
  rw [List.getElem?_eq_getElem h1, List.getElem?_eq_getElem h2] at this
  cases hx : H1[i] <;> cases hy : H2[i] <;> simp [hx, hy] at this
  · rfl
  · rw [this]


theorem more_sub (H : Heap) (l : List Nat) : ∀ i ∈ l, i ∈ more H l := by
  have key : ∀ (m acc : List Nat), ∀ i ∈ acc, i ∈ m.foldl (fun acc i => if acc.contains i then acc else acc ++ [i]) acc := by
    intro m
    induction m with
    | nil => intro acc i hi; exact hi
    | cons x m ih =>
      intro acc i hi
      simp only [List.foldl_cons]
      refine ih _ i ?_
      split
      · exact hi
      · simp [hi]
  exact fun i hi => key _ l i hi
theorem reach_sub (H : Heap) : ∀ (n : Nat) (l : List Nat), ∀ i ∈ l, i ∈ reach H n l
  | 0, _, i, hi => hi
  | n + 1, l, i, hi => reach_sub H n (more H l) i (more_sub H l i hi)
theorem reach_same {H K : Heap} : ∀ (n : Nat) (l : List Nat), (∀ i ∈ reach H n l, bcells H i = bcells K i) → reach K n l = reach H n l
  | 0, _, _ => rfl
  | n + 1, l, h => by
    have e : more K l = more H l := by
      unfold more
      have : l.flatMap (cellIds K) = l.flatMap (cellIds H) := by
        simp only [List.flatMap]
        congr 1
        refine List.map_congr_left fun i hi => ?_
        unfold cellIds
        rw [h i (reach_sub H n _ i (more_sub H l i hi))]
      rw [this]
    simp only [reach, e]
    exact reach_same n _ h
theorem maskH_same {H K : Heap} {ks : List Nat} (hl : H.length = K.length) (h : ∀ i, ks.contains i = true → bcells H i = bcells K i) : maskH ks K = maskH ks H := by
  refine heap_ext (by rw [maskH_length, maskH_length, hl]) fun id => ?_
  rw [bcells_mask, bcells_mask]
  split
  · rename_i hk; rw [h id hk]
  · rfl
theorem closedK_same {H K : Heap} {ks : List Nat} (h : ∀ i, ks.contains i = true → bcells H i = bcells K i) : closedK ks K = closedK ks H := by
  unfold closedK
  rw [Bool.eq_iff_iff, List.all_eq_true, List.all_eq_true]
  have : ∀ id ∈ ks, cellIds K id = cellIds H id := fun id hid => by unfold cellIds; rw [h id (by simpa using hid)]
  exact ⟨fun q id hid => by rw [← this id hid]; exact q id hid, fun q id hid => by rw [this id hid]; exact q id hid⟩
end

/-- Two states that agree on some operands, and on what these lead to. -/
structure Same (b : Bool) (xs : List Operand) (σ τ : St) : Prop where
  opd : ∀ x ∈ xs, opd σ.env x = opd τ.env x
  look : ∀ x ∈ xs, ∀ p, (Vm.opd σ.env x).refsTo p = true → look σ p = look τ p
  blk : b = true → ∀ x ∈ xs, ∀ id off, Vm.opd σ.env x = .ptr id off → bcells σ.heap id = bcells τ.heap id

theorem Same.sub {b : Bool} {xs ys : List Operand} {σ τ : St} (h : Same b xs σ τ) (hs : ∀ y ∈ ys, y ∈ xs) : Same b ys σ τ :=
  ⟨fun x hx => h.opd x (hs x hx), fun x hx => h.look x (hs x hx), fun hb x hx => h.blk hb x (hs x hx)⟩

theorem Eqv.same {σ τ : St} (h : Eqv σ τ) (xs : List Operand) : Same true xs σ τ := ⟨fun x _ => h.opd x, fun _ _ p _ => h.look p, fun _ _ _ _ _ _ => by rw [h.2]⟩

section
variable {b : Bool} {σ τ : St} {x : Operand} {xs : List Operand}

theorem content_same (h : Same b xs σ τ) (hx : x ∈ xs) : content σ (opd σ.env x) = content τ (opd τ.env x) := by
  rw [← h.opd x hx]
  cases hv : opd σ.env x <;> simp only [content]
  rw [h.look x hx _ (by rw [hv]; simp [V.refsTo])]
theorem base_same {sz : Nat} (h : Same b xs σ τ) (hx : x ∈ xs) : base sz σ x = base sz τ x := by
  unfold base
  rw [← h.opd x hx]
  cases hv : opd σ.env x
  case lent p => simp only [h.look x hx p (by rw [hv]; simp [V.refsTo])]
  case sl b ys => cases b <;> cases ys <;> rfl
  all_goals rfl
theorem take_same (h : Same b xs σ τ) (hx : x ∈ xs) : take σ x = take τ x := by
  unfold take
  rw [← h.opd x hx]
  cases hv : opd σ.env x <;> simp only
  rw [h.look x hx _ (by rw [hv]; simp [V.refsTo])]
theorem takeDat_same (h : Same b xs σ τ) (hx : x ∈ xs) : takeDat σ x = takeDat τ x := by
  unfold takeDat
  rw [← h.opd x hx]
  cases hv : opd σ.env x <;> simp only
  rw [h.look x hx _ (by rw [hv]; simp [V.refsTo])]
theorem view_same (h : Same b xs σ τ) (hx : x ∈ xs) : view σ x = view τ x := by
  unfold view
  rw [← h.opd x hx]
  cases hv : opd σ.env x <;> simp only
  rw [h.look x hx _ (by rw [hv]; simp [V.refsTo])]
theorem views_same (h : Same b xs σ τ) : ∀ (l : List Operand), (∀ x ∈ l, x ∈ xs) → views σ l = views τ l
  | [], _ => rfl
  | x :: l, hl => by
    simp only [views, view_same h (hl x (by simp)), views_same h l (fun y hy => hl y (by simp [hy]))]
theorem numOf_same (h : Same b xs σ τ) {o : Option Operand} (ho : ∀ x, o = some x → x ∈ xs) (d : Int) : numOf σ o d = numOf τ o d := by
  unfold numOf
  cases o with
  | none => rfl
  | some x => simp only [h.opd x (ho x rfl)]
theorem loadAt_same (h : Same true xs σ τ) (hx : x ∈ xs) (i : TI) : loadAt i σ (opd σ.env x) = loadAt i τ (opd τ.env x) := by
  unfold loadAt
  rw [← h.opd x hx]
  cases hv : opd σ.env x <;> simp only
  · rw [h.blk rfl x hx _ _ hv]
  · rw [h.look x hx _ (by rw [hv]; simp [V.refsTo])]
theorem storeAt_same {p : Operand} (h : Same true xs σ τ) (hp : p ∈ xs) (hx : x ∈ xs) (i : TI) : storeAt i σ (opd σ.env p) x = storeAt i τ (opd τ.env p) x := by
  unfold storeAt
  rw [← h.opd p hp, take_same h hx, takeDat_same h hx]
  cases hv : opd σ.env p <;> simp only
  · rw [h.blk rfl p hp _ _ hv]
  · rw [h.look p hp _ (by rw [hv]; simp [V.refsTo])]
theorem indexAt_same (h : Same b xs σ τ) (hx : x ∈ xs) (T : Types) (i : TI) (k : Int) : indexAt T i σ x k = indexAt T i τ x k := by
  unfold indexAt
  rw [← h.opd x hx]
  cases hv : opd σ.env x <;> simp only
  rw [h.look x hx _ (by rw [hv]; simp [V.refsTo])]

theorem takes_nil {f : St → Operand → Option (V × List (Place × V))} (hf : ∀ x ∈ xs, f σ x = f τ x) : ∀ (l : List (Nat × Operand)) (vs : List (Nat × V)), (∀ x ∈ l, x.2 ∈ xs) → takes f σ l = some (vs, []) → takes f τ l = some (vs, [])
  | [], vs, _, h => by simpa [takes] using h
  | (i, x) :: l, vs, hl, h => by
    simp only [takes] at h ⊢
    rw [← hf x (hl (i, x) (by simp))]
    cases h1 : f σ x with
    | none => simp [h1] at h
    | some vp =>
      obtain ⟨v, ps⟩ := vp
      simp only [h1] at h ⊢
      cases h2 : takes f (setPlaces σ ps) l with
      | none => simp [h2] at h
      | some vq =>
        obtain ⟨vs', qs⟩ := vq
        simp only [h2] at h
        injection h with h
        injection h with e1 e2
        obtain ⟨rfl, rfl⟩ := List.append_eq_nil_iff.1 e2
        simp only [setPlaces] at h2 ⊢
        rw [takes_nil hf l vs' (fun y hy => hl y (by simp [hy])) h2]
        simp [e1]

theorem takes_eqv {f : St → Operand → Option (V × List (Place × V))} (hf : ∀ (σ τ : St) x, Eqv σ τ → f σ x = f τ x) : ∀ (l : List (Nat × Operand)) {σ τ : St}, Eqv σ τ → takes f σ l = takes f τ l
  | [], _, _, _ => rfl
  | (i, x) :: l, σ, τ, h => by
    simp only [takes]
    rw [hf σ τ x h]
    cases f τ x with
    | none => rfl
    | some vp => simp only; rw [takes_eqv hf l (h.setPlaces vp.2)]

theorem callAt_same {call : CallF} {f : V} {args : List V} {ps : List (Place × V)} {e : Eff} (he : callAt call σ f args ps = some e) (hc : ∀ H, e.mem ≠ .all H)
    (hput : ∀ ks H, e.mem = .put ks H → σ.heap.length = τ.heap.length ∧ ∀ id, ks.contains id = true → bcells σ.heap id = bcells τ.heap id) : callAt call τ f args ps = some e := by
  unfold callAt at he ⊢
  split at he <;> try (cases he; done)
  rename_i fid first captured
  simp only at he ⊢
  split at he
  · rename_i hd
    rw [if_pos hd]
    split at he
    · exact he
    · injection he with he; subst he
      exact absurd rfl (hc _)
    · cases he
  · rename_i hd
    rw [if_neg hd]
    generalize hks : reach (setPlaces σ ps).heap (setPlaces σ ps).heap.length (argIds (first ++ args ++ captured)) = ks at he
    split at he
    · rename_i hcl
      split at he
      · rename_i r H' hcall
        split at he
        · rename_i hdead
          split at he
          · rename_i hlen
            injection he with he
            have hm : e.mem = .put ks H' := by rw [← he]
            obtain ⟨q1, q2⟩ := hput ks H' hm
            have l1 : (setPlaces σ ps).heap.length = (setPlaces τ ps).heap.length := by rw [(bcells_setPlaces ps σ 0).2, (bcells_setPlaces ps τ 0).2, q1]
            have l2 : ∀ id, ks.contains id = true → bcells (setPlaces σ ps).heap id = bcells (setPlaces τ ps).heap id := fun id hid => by
              rw [(bcells_setPlaces ps σ id).1, (bcells_setPlaces ps τ id).1, q2 id hid]
            have e1 : reach (setPlaces τ ps).heap (setPlaces τ ps).heap.length (argIds (first ++ args ++ captured)) = ks := by
              rw [← l1, reach_same _ _ (fun i hi => l2 i (by rw [← hks]; simpa using hi)), hks]
            rw [e1, closedK_same l2, if_pos hcl, maskH_same l1 l2, hcall]
            simp only
            rw [← l1, if_pos hdead, if_pos hlen, he]
          · injection he with he; subst he
            exact absurd rfl (hc _)
        · cases he
      · cases he
    · cases he

theorem vbin_same {op : BinOp} {i : TI} {b : Bool} {X Y : V} (c1 : content σ X = content τ X) (c2 : content σ Y = content τ Y) : vbin op i b σ X Y = vbin op i b τ X Y := by
  unfold vbin
  split <;> first
    | rfl
    | rw [c1, c2]

theorem eff_same {T : Types} {call : CallF} {cx : Cx} {fr : Nat} {o : Oper} {e : Eff} (he : eff T call cx fr o σ = some e) (hc : calm o e = true ∨ Eqv σ τ) (h : Same (derefs o) o.op.operands.toList σ τ)
    (hput : ∀ ks H, e.mem = .put ks H → σ.heap.length = τ.heap.length ∧ ∀ id, ks.contains id = true → bcells σ.heap id = bcells τ.heap id)
    (hfr : isFresh o = true → σ.heap.length = τ.heap.length ∧ bcells σ.heap fr = bcells τ.heap fr) : eff T call cx fr o τ = some e := by
  have mem : ∀ x, x ∈ o.op.operands → x ∈ o.op.operands.toList := fun x hx => by simpa using hx
  cases ho : o.op <;> simp only [ho, Go.Op.operands] at h
  case move x =>
    simp only [eff, ho] at he ⊢
    unfold moveAt at he ⊢
    rw [← h.opd x (by simp)]; exact he
  case pick c x y =>
    simp only [eff, ho] at he ⊢
    rw [← h.opd c (by simp), ← h.opd x (by simp), ← h.opd y (by simp)]; exact he
  case load t x =>
    simp only [eff, ho] at he ⊢
    cases hT : T t <;> simp only [hT] at he ⊢
    · exact he
    · rw [← loadAt_same (by simpa [derefs, ho] using h) (by simp)]; exact he
  case nilCheck x =>
    simp only [eff, ho] at he ⊢
    rw [← h.opd x (by simp)]; exact he
  case unOp op t x =>
    simp only [eff, ho] at he ⊢
    rw [← h.opd x (by simp)]; exact he
  case convert s t x =>
    simp only [eff, ho] at he ⊢
    rw [← h.opd x (by simp)]; exact he
  case fieldAddr t p f =>
    simp only [eff, ho] at he ⊢
    rw [← h.opd p (by simp)]; exact he
  case field t p f =>
    simp only [eff, ho] at he ⊢
    rw [← h.opd p (by simp)]; exact he
  case assign x =>
    simp only [eff, ho] at he ⊢
    cases hd : o.dst <;> simp only [hd] at he ⊢
    · exact he
    · unfold assignAt at he ⊢
      rw [← h.opd x (by simp)]
      cases hv : opd σ.env x <;> simp only [hv] at he ⊢ <;> try exact he
      · rename_i b ys
        cases b <;> cases ys <;> exact he
      · rw [← h.look x (by simp) _ (by rw [hv]; simp [V.refsTo])]; exact he
  case alloc t =>
    simp only [eff, ho] at he ⊢
    obtain ⟨h1, h2⟩ := hfr (by simp [isFresh, ho])
    rw [← h1, ← h2]; exact he
  case box t x =>
    simp only [eff, ho] at he ⊢
    obtain ⟨h1, h2⟩ := hfr (by simp [isFresh, ho])
    rw [← h1, ← h2, ← take_same h (by simp)]; exact he
  case build t ps =>
    simp only [eff, ho] at he ⊢
    cases hT : T t <;> cases ht : takes take σ ps.toList <;> simp only [hT, ht] at he <;> try (cases he; done)
    rename_i i vp
    obtain ⟨vs, qs⟩ := vp
    rcases hc with hc | hc
    case inr => rw [← takes_eqv (f := take) (fun _ _ x h => take_same (h.same [x]) (by simp)) ps.toList hc, ht]; exact he
    have hq : qs = [] := by
      simp only [calm, ho, Bool.and_eq_true, List.isEmpty_iff] at hc
      simp only at he
      cases hk : i.kind <;> simp only [hk] at he <;> try (cases he; done)
      · rename_i n el
        cases hel : T el <;> simp only [hel] at he
        · cases he
        · split at he
          · injection he with he; subst he; exact hc.2
          · cases he
      · rename_i fs
        split at he
        · cases he
        · split at he
          · injection he with he; subst he; exact hc.2
          · cases he
    subst hq
    rw [takes_nil (fun x hx => take_same h hx) ps.toList vs (fun x hx => by simpa using ⟨x.1, by simpa using hx⟩) ht]
    exact he
  case buildSlice t n ps =>
    simp only [eff, ho] at he ⊢
    cases hk : kindOf T t <;> cases ht : takes takeDat σ ps.toList <;> simp only [hk, ht] at he <;> try (cases he; done)
    · rename_i k vp
      obtain ⟨vs, qs⟩ := vp
      rcases hc with hc | hc
      case inr => rw [← takes_eqv (f := takeDat) (fun _ _ x h => takeDat_same (h.same [x]) (by simp)) ps.toList hc, ht]; exact he
      have hq : qs = [] := by
        simp only [calm, ho, Bool.and_eq_true, List.isEmpty_iff] at hc
        cases k <;> simp only at he <;> try (cases he; done)
        rename_i el
        cases hel : T el <;> simp only [hel] at he
        · cases he
        · split at he
          · injection he with he; subst he; exact hc.2
          · cases he
      subst hq
      rw [takes_nil (fun x hx => takeDat_same h hx) ps.toList vs (fun x hx => by simpa using ⟨x.1, by simpa using hx⟩) ht]
      exact he
  case store t p x =>
    simp only [eff, ho] at he ⊢
    cases hT : T t <;> simp only [hT] at he ⊢
    · exact he
    · rw [← storeAt_same (by simpa [derefs, ho] using h) (by simp) (by simp)]; exact he
  case binOp op t x y g =>
    simp only [eff, ho] at he ⊢
    cases hT : T t <;> simp only [hT] at he ⊢
    · exact he
    · rename_i i
      have hb : vbinop op i (isConst x || isConst y) σ (opd σ.env x) (opd σ.env y) = vbinop op i (isConst x || isConst y) τ (opd τ.env x) (opd τ.env y) := by
        have c1 := content_same h (x := x) (by simp)
        have c2 := content_same h (x := y) (by simp)
        rw [← h.opd x (by simp), ← h.opd y (by simp)] at *
        unfold vbinop
        cases i.kind.isAgg
        · exact vbin_same c1 c2
        · rfl
      rw [← hb]; exact he
  case makeFunc fn first captured =>
    simp only [eff, ho] at he ⊢
    have e1 : first.toList.map (opd τ.env) = first.toList.map (opd σ.env) := List.map_congr_left fun x hx => (h.opd x (by simp; left; simpa using hx)).symm
    have e2 : captured.toList.map (opd τ.env) = captured.toList.map (opd σ.env) := List.map_congr_left fun x hx => (h.opd x (by simp; right; simpa using hx)).symm
    rw [e1, e2]; exact he
  case slice t x lo hi mx =>
    simp only [eff, ho] at he ⊢
    have e1 : sliceAt T τ t x lo hi mx = sliceAt T σ t x lo hi mx := by
      unfold sliceAt
      rw [← h.opd x (by simp)]
      cases kindOf T t with
      | none => rfl
      | some k =>
        cases k <;> simp only
        cases hv : opd σ.env x <;> simp only
        rw [← numOf_same h (o := lo) (fun y hy => by simp [hy]), ← numOf_same h (o := hi) (fun y hy => by simp [hy])]
        cases mx with
        | none => rfl
        | some m => simp only [← numOf_same h (o := some m) (fun y hy => by simp at hy; simp [hy])]
    rw [e1]; exact he
  case indexAddr t x k =>
    simp only [eff, ho] at he ⊢
    rw [← h.opd k (by simp)]
    cases hT : T t <;> cases hk : opd σ.env k <;> simp only [hT, hk] at he ⊢ <;> try exact he
    rw [← indexAt_same h (by simp)]; exact he
  case index t x k =>
    simp only [eff, ho] at he ⊢
    rw [← h.opd k (by simp), ← h.opd x (by simp)]; exact he
  case extract x j =>
    simp only [eff, ho] at he ⊢
    rw [← h.opd x (by simp)]; exact he
  case makeSlice t l c =>
    simp only [eff, ho] at he ⊢
    rw [← h.opd l (by simp), ← h.opd c (by simp)]; exact he
  case call c =>
    simp only [eff, ho] at he ⊢
    cases hcal : c.callee with
    | invoke x m => simp [hcal] at he
    | builtin b =>
      have hargs : ∀ x, x ∈ c.args.toList → x ∈ c.operands.toList := fun x hx => by simp [Call.operands]; exact .inr (by simpa using hx)
      simp only [hcal] at he ⊢
      cases b <;> simp only [builtinAt] at he ⊢ <;> try (cases he; done)
      · unfold appendAt at he ⊢
        split at he <;> try (cases he; done)
        rename_i s x t tx ha ht
        rw [ha] at hargs
        try simp only [ha, ht]
        rw [← content_same h (hargs x (by simp))]
        split at he <;> try (cases he; done)
        rename_i el el' m ys k1 k2 k3
        try simp only [k1, k2, k3]
        cases hel : T el <;> simp only [hel] at he ⊢
        · exact he
        · rw [← base_same h (hargs s (by simp))]; exact he
      · unfold lenAt at he ⊢
        split at he <;> try (cases he; done)
        rename_i x t ha ht
        rw [ha] at hargs
        try simp only [ha, ht]
        rw [← content_same h (hargs x (by simp)), ← h.opd x (hargs x (by simp))]; exact he
      · unfold mmAt at he ⊢
        split at he <;> try (cases he; done)
        rename_i x y ha
        rw [ha] at hargs
        try simp only [ha]
        rw [← h.opd x (hargs x (by simp)), ← h.opd y (hargs y (by simp))]; exact he
      · unfold mmAt at he ⊢
        split at he <;> try (cases he; done)
        rename_i x y ha
        rw [ha] at hargs
        try simp only [ha]
        rw [← h.opd x (hargs x (by simp)), ← h.opd y (hargs y (by simp))]; exact he
    | value f =>
      have hargs : ∀ x, x ∈ c.args.toList → x ∈ c.operands.toList := fun x hx => by simp [Call.operands]; exact .inr (by simpa using hx)
      have hf : f ∈ c.operands.toList := by simp [Call.operands, hcal]
      simp only [hcal] at he ⊢
      rw [← views_same h c.args.toList hargs, ← h.opd f hf]
      cases htold : toldOf cx (opd σ.env f) with
      | some sz =>
        simp only [htold] at he ⊢
        unfold deleteAt at he ⊢
        split at he <;> try (cases he; done)
        rename_i x i j ha
        rw [ha] at hargs
        try simp only [ha]
        rw [← base_same h (hargs x (by simp)), ← h.opd i (hargs i (by simp)), ← h.opd j (hargs j (by simp))]; exact he
      | none =>
      simp only [htold] at he ⊢
      cases hv : views σ c.args.toList with
      | none => simp [hv] at he
      | some vp =>
        obtain ⟨vs, ps⟩ := vp
        simp only [hv] at he ⊢
        rcases hc with hc | hc
        case inr =>
          unfold callAt at he ⊢
          have hh := (hc.setPlaces ps).2
          simp only [hh] at he ⊢
          exact he
        refine callAt_same he (fun H hH => ?_) hput
        simp [calm, hH] at hc
  all_goals (simp [eff, ho] at he)

end
end Go.Vm
end

section
/- V27: what an operation leaves of what it does not write. -/
namespace Go.Vm
open Go

theorem refRes_of {v : V} {p : Place} (h : v.refsTo p = true) : plRes p ∈ refRes v := by
  cases v <;> simp [V.refsTo] at h <;> subst h <;> simp [refRes]

def lastAt (t : Nat) : List (Place × V) → Option V
  | [] => none
  | (p, v) :: ps => match lastAt t ps with
    | some x => some x
    | none => if p = .slot t then some v else none
def killedBy (ps : List (Place × V)) (x : V) : Bool := ps.any fun y => x.refsTo y.1
def memKills : HE → V → Bool
  | .keep, _ => false
  | .set id off cs, .lent (.cell i o) => decide (i = id ∧ off ≤ o ∧ o < off + cs.length)
  | .set id off cs, .xptr (.cell i o) _ _ => decide (i = id ∧ off ≤ o ∧ o < off + cs.length)
  | .set _ _ _, _ => false
  | .init _ _, _ => false
  | .all _, .lent (.cell _ _) => true
  | .all _, .xptr (.cell _ _) _ _ => true
  | .all _, _ => false
  | .put ks _, .lent (.cell i _) => ks.contains i
  | .put ks _, .xptr (.cell i _) _ _ => ks.contains i
  | .put _ _, _ => false

theorem refsTo_nonway {v : V} (h : isWay v = false) (p : Place) : v.refsTo p = false := by cases v <;> first | rfl | (simp [isWay] at h)

section
variable {σ τ : St}

theorem get_setPlace (p : Place) (v : V) (t : Nat) : get (setPlace σ p v).env t = if p = .slot t then v else if (get σ.env t).refsTo p then .undef else get σ.env t := by
  cases p with
  | slot u =>
    simp only [setPlace]
    by_cases h : u = t
    · subst h; simp [get_cons_same]
    · have hne : ¬ Place.slot u = Place.slot t := by simp [h]
      rw [get_cons_ne _ _ h, get_kill]; simp only [hne, if_false]
  | cell id off =>
    have hne : ¬ Place.cell id off = Place.slot t := by simp
    simp only [setPlace, get_kill, hne, if_false]

theorem get_setPlaces : ∀ (ps : List (Place × V)) (σ : St) (t : Nat), (∀ x ∈ ps, isWay x.2 = false) →
    get (setPlaces σ ps).env t = match lastAt t ps with | some v => v | none => if killedBy ps (get σ.env t) then .undef else get σ.env t
  | [], σ, t, _ => by simp [setPlaces, lastAt, killedBy]
  | (p, v) :: ps, σ, t, h => by
    simp only [setPlaces, lastAt]
    rw [get_setPlaces ps (setPlace σ p v) t (fun x hx => h x (by simp [hx]))]
    have hv := h (p, v) (by simp)
    simp only at hv
    cases lastAt t ps with
    | some x => rfl
    | none =>
      simp only
      rw [get_setPlace]
      by_cases hp : p = .slot t
      · have hk : killedBy ps v = false := by
          simp only [killedBy, List.any_eq_false]
          intro y _; rw [refsTo_nonway hv]; simp
        simp only [if_pos hp, hk, Bool.false_eq_true, if_false]
      · rw [if_neg hp]
        by_cases hr : (get σ.env t).refsTo p = true
        · have hk : killedBy ((p, v) :: ps) (get σ.env t) = true := by simp only [killedBy, List.any_cons, hr, Bool.true_or]
          have hu : killedBy ps .undef = false := by simp [killedBy, V.refsTo]
          rw [if_pos hr, hk, hu]; simp only [hp, if_false, if_true, Bool.false_eq_true]
        · have hk : killedBy ((p, v) :: ps) (get σ.env t) = killedBy ps (get σ.env t) := by
            have : (get σ.env t).refsTo p = false := by simpa using hr
            simp only [killedBy, List.any_cons, this, Bool.false_or]
          rw [if_neg hr, hk]; simp only [hp, if_false]

theorem get_setMem (m : HE) (t : Nat) : get (setMem σ m).env t = if memKills m (get σ.env t) then .undef else get σ.env t := by
  cases m with
  | keep => simp [setMem, memKills]
  | init id cs => simp [setMem, memKills]
  | set id off cs =>
    simp only [setMem]
    rw [get_map (killIn id off cs.length) rfl]
    cases hv : get σ.env t with
    | lent p => cases p <;> simp [killIn, memKills]
    | xptr p i o => cases p <;> simp [killIn, memKills]
    | _ => simp [killIn, memKills]
  | all H =>
    simp only [setMem]
    rw [get_map killCell rfl]
    cases hv : get σ.env t with
    | lent p => cases p <;> simp [killCell, memKills]
    | xptr p i o => cases p <;> simp [killCell, memKills]
    | _ => simp [killCell, memKills]
  | put ks H =>
    simp only [setMem]
    rw [get_map (killCellsIn ks) rfl]
    cases hv : get σ.env t with
    | lent p => cases p <;> simp [killCellsIn, memKills]
    | xptr p i o => cases p <;> simp [killCellsIn, memKills]
    | _ => simp [killCellsIn, memKills]

theorem get_put (d : Option Nat) (v : V) (t : Nat) : get (put σ d v).env t = if d = some t then v else if (match d with | some d => (get σ.env t).refsTo (.slot d) | none => false) then .undef else get σ.env t := by
  cases d with
  | none => simp [put]
  | some d =>
    simp only [put]
    by_cases h : d = t
    · subst h; simp [get_cons_same]
    · have hne : ¬ some d = some t := by simp [h]
      rw [get_cons_ne _ _ h, get_kill]; simp only [hne, if_false]

/-- What a slot holds when its array has other elements. -/
def poked (e : Eff) (t : Nat) (v : V) : V := match e.poke with
  | some (u, w) => if u = t then w else v
  | none => v
theorem get_poke (e : Eff) (t : Nat) : get (pokeS σ e.poke).env t = poked e t (get σ.env t) := by
  unfold poked
  cases e.poke with
  | none => rfl
  | some y =>
    simp only [pokeS]
    split
    · rename_i h; subst h; exact get_cons_same _ _ _
    · rename_i h; exact get_cons_ne _ _ h

/-- Who of the ways an operation cuts. -/
def kills (d : Option Nat) (e : Eff) (x : V) : Bool := killedBy e.places x || memKills e.mem x || (match d with | some d => x.refsTo (.slot d) | none => false)
/-- A slot that it writes. -/
def told (d : Option Nat) (e : Eff) (t : Nat) : Option V := if d = some t then some e.val else lastAt t e.places

theorem lastAt_mem {t : Nat} : ∀ {ps : List (Place × V)} {v : V}, lastAt t ps = some v → (Place.slot t, v) ∈ ps
  | [], v, h => by simp [lastAt] at h
  | (p, u) :: ps, v, h => by
    simp only [lastAt] at h
    cases hl : lastAt t ps with
    | some x => simp only [hl] at h; injection h with h; subst h; exact List.mem_cons_of_mem _ (lastAt_mem hl)
    | none =>
      simp only [hl] at h
      split at h
      · rename_i hp; injection h with h; subst h; subst hp; simp
      · cases h

theorem memKills_nonway {m : HE} {v : V} (h : isWay v = false) : memKills m v = false := by
  cases m <;> cases v <;> first | rfl | (simp [isWay] at h)

theorem get_apply (d : Option Nat) (e : Eff) (he : ∀ x ∈ e.places, isWay x.2 = false) (t : Nat) :
    get (apply σ d e).env t = match told d e t with | some v => v | none => if kills d e (poked e t (get σ.env t)) then .undef else poked e t (get σ.env t) := by
  unfold apply told
  rw [get_put, get_setMem, get_setPlaces _ _ _ he, get_poke]
  generalize poked e t (get σ.env t) = gv
  by_cases hd : d = some t
  · simp [hd]
  · simp only [if_neg hd]
    cases hl : lastAt t e.places with
    | some v =>
      simp only
      have hv : isWay v = false := he (.slot t, v) (lastAt_mem hl)
      rw [memKills_nonway hv]
      cases d <;> simp [refsTo_nonway hv]
    | none =>
      simp only [kills]
      have hu : memKills e.mem .undef = false := memKills_nonway rfl
      by_cases h1 : killedBy e.places gv = true
      · simp only [h1, if_true, hu, Bool.false_eq_true, if_false, Bool.true_or]
        cases d <;> simp [V.refsTo]
      · by_cases h2 : memKills e.mem gv = true
        · simp only [h1, h2, Bool.false_eq_true, if_false, if_true, Bool.or_true, Bool.true_or]
          cases d <;> simp [V.refsTo]
        · simp only [h1, h2, Bool.false_eq_true, if_false, Bool.false_or]

theorem told_writes {d : Option Nat} {e : Eff} {t : Nat} {v : V} (h : told d e t = some v) : Res.slot t ∈ writes d e ∧ Res.body t ∈ writes d e := by
  unfold told at h
  unfold writes
  split at h
  · rename_i hd; subst hd; simp
  · have := lastAt_mem h
    simp only [List.mem_append, List.mem_flatMap]
    exact ⟨.inl (.inl (.inr ⟨_, this, by simp [plRes]⟩)), .inl (.inl (.inr ⟨_, this, by simp [bodyRes]⟩))⟩

theorem kills_writes {d : Option Nat} {e : Eff} (hm : ∀ H, e.mem ≠ .all H) {x : V} (h : kills d e x = true) : ∃ r ∈ refRes x, r ∈ writes d e := by
  unfold kills at h
  simp only [Bool.or_eq_true] at h
  unfold writes
  rcases h with (h | h) | h
  · simp only [killedBy, List.any_eq_true] at h
    obtain ⟨y, hy, hr⟩ := h
    refine ⟨_, refRes_of hr, ?_⟩
    simp only [List.mem_append, List.mem_flatMap]
    exact .inl (.inl (.inr ⟨y, hy, by simp⟩))
  · cases hmm : e.mem with
    | keep => simp [hmm, memKills] at h
    | init id cs => simp [hmm, memKills] at h
    | all H => exact absurd hmm (hm H)
    | put ks H =>
      rw [hmm] at h
      cases x <;> simp only [memKills] at h <;> try (cases h; done)
      · rename_i p i o
        cases p with
        | slot t => simp [memKills] at h
        | cell i' o' => exact ⟨.blk i', by simp [refRes, plRes], by simp [memKills] at h; simp [h]⟩
      · rename_i p
        cases p with
        | slot t => simp [memKills] at h
        | cell i' o' => exact ⟨.blk i', by simp [refRes, plRes], by simp [memKills] at h; simp [h]⟩
    | set id off cs =>
      rw [hmm] at h
      cases x <;> simp only [memKills] at h <;> try (cases h; done)
      · rename_i p i o
        cases p <;> simp [memKills] at h
        exact ⟨.blk id, by simp [refRes, plRes, h.1], by simp⟩
      · rename_i p
        cases p <;> simp [memKills] at h
        exact ⟨.blk id, by simp [refRes, plRes, h.1], by simp⟩
  · cases d with
    | none => simp at h
    | some d => exact ⟨.slot d, refRes_of (p := .slot d) h, by simp⟩

end
end Go.Vm
end

section
/- V28: two operations that do not touch each other's places. -/
namespace Go.Vm
open Go

section
variable {σ τ : St}

def memB (m : HE) (n id : Nat) (c : Option (List V)) : Option (List V) :=
  match m with
  | .set i off vs => if i = id then c.map (fun cs => setCells cs off vs) else c
  | .init i vs => if i = id ∧ i < n then some vs else c
  | .put ks H => if id < n ∧ ks.contains id = true then bcells H id else c
  | _ => c

theorem bcells_setB {H : Heap} (id : Nat) (cs : List V) (i : Nat) : bcells (H.set id (.cells cs)) i = if id = i ∧ id < H.length then some cs else bcells H i := by
  by_cases h : id < H.length
  · rw [bcells_set h]
    by_cases hi : i = id
    · subst hi; simp [h]
    · rw [if_neg hi, if_neg (by simp [Ne.symm hi])]
  · rw [List.set_eq_of_length_le (by omega), if_neg (by simp [h])]

theorem bcells_put1 (ks : List Nat) (H H' : Heap) (id : Nat) : bcells (putH ks H H') id = if id < H.length ∧ ks.contains id = true then bcells H' id else bcells H id := by
  unfold bcells putH
  rw [zipIdx_map_getElem?]
  rcases Nat.lt_or_ge id H.length with hlt | hge
  · rw [List.getElem?_eq_getElem hlt]
    cases hk : ks.contains id
    · simp only [Option.map_some, hk, Bool.false_eq_true, and_false, if_false]
    · simp only [Option.map_some, hk, if_true]
      rw [if_pos ⟨hlt, trivial⟩, List.getD_eq_getElem?_getD]
      cases H'[id]? <;> simp
  · rw [List.getElem?_eq_none hge, if_neg (fun hq => by omega)]; rfl

theorem bcells_apply (d : Option Nat) (e : Eff) (hm : ∀ H, e.mem ≠ .all H) (id : Nat) :
    bcells (apply σ d e).heap id = memB e.mem σ.heap.length id (placesB id e.places (bcells σ.heap id)) ∧ (apply σ d e).heap.length = σ.heap.length := by
  unfold apply
  rw [put_heap]
  obtain ⟨h1, h2⟩ := bcells_setPlaces e.places (pokeS σ e.poke) id
  have hp : (pokeS σ e.poke).heap = σ.heap := by cases e.poke <;> rfl
  rw [hp] at h1 h2
  cases hmm : e.mem with
  | keep => exact ⟨h1, h2⟩
  | all H => exact absurd hmm (hm H)
  | put ks H =>
    refine ⟨?_, by simp only [setMem, putH_length, h2]⟩
    simp only [setMem, memB]
    rw [bcells_put1, h1, h2]
  | init i vs =>
    refine ⟨?_, by simp [setMem, h2]⟩
    simp only [setMem, memB]
    rw [bcells_setB, h1, h2]
  | set i off vs =>
    simp only [setMem, memB]
    cases hc : bcells (setPlaces (pokeS σ e.poke) e.places).heap i with
    | none =>
      refine ⟨?_, h2⟩
      simp only
      rw [h1]
      by_cases hi : i = id
      · subst hi; rw [h1] at hc; rw [hc]; simp
      · rw [if_neg hi]
    | some ds =>
      refine ⟨?_, by simp [h2]⟩
      simp only
      rw [bcells_set (bcells_lt hc), h1]
      by_cases hi : i = id
      · subst hi; rw [h1] at hc; rw [hc]; simp
      · rw [if_neg (Ne.symm hi), if_neg hi]

theorem placesB_none {id : Nat} : ∀ {ps : List (Place × V)} {c : Option (List V)}, (∀ x ∈ ps, plRes x.1 ≠ .blk id) → placesB id ps c = c
  | [], c, _ => rfl
  | (.slot t, v) :: ps, c, h => by
    show placesB id ps c = c
    exact placesB_none (ps := ps) (fun x hx => h x (List.mem_cons_of_mem _ hx))
  | (.cell i off, v) :: ps, c, h => by
    have hne : i ≠ id := fun hi => h (.cell i off, v) (by simp) (by simp [plRes, hi])
    simp only [placesB, if_neg hne]
    exact placesB_none (ps := ps) (fun x hx => h x (List.mem_cons_of_mem _ hx))

theorem bcells_apply_none {d : Option Nat} {e : Eff} {id : Nat} (hw : Res.blk id ∉ writes d e) {n : Nat} (c : Option (List V)) : memB e.mem n id (placesB id e.places c) = c := by
  unfold writes at hw
  simp only [List.mem_append, List.mem_flatMap, List.mem_cons, not_or, not_exists, not_and] at hw
  rw [placesB_none (fun x hx he => (hw.1.1.2 x hx).1 he.symm)]
  cases hm : e.mem with
  | keep => rfl
  | all H => rfl
  | put ks H =>
    have : ks.contains id = false := by
      cases hk : ks.contains id with
      | false => rfl
      | true => exact absurd (by simp [hm]; simpa using hk) hw.2
    simp only [memB, this, Bool.false_eq_true, and_false, if_false]
  | init i vs =>
    have : i ≠ id := fun hi => hw.2 (by simp [hm, hi])
    simp [memB, this]
  | set i off vs =>
    have : i ≠ id := fun hi => hw.2 (by simp [hm, hi])
    simp [memB, this]

/-- What is asked of an operation's effect where the order is drawn. -/
structure Tame (e : Eff) : Prop where
  ways : ∀ x ∈ e.places, isWay x.2 = false
  poke : ∀ t v, e.poke = some (t, v) → isEx v = true
  all : ∀ H, e.mem ≠ .all H

theorem kills_undef {d : Option Nat} {e : Eff} : kills d e .undef = false := by
  unfold kills
  rw [memKills_nonway rfl]
  cases d <;> simp [killedBy, V.refsTo]

theorem told_safe {d1 d2 : Option Nat} {e1 e2 : Eff} (h1 : Tame e1) (h2 : Tame e2) (hv : ∀ r ∈ refRes e1.val, r ∉ writes d2 e2) {t : Nat} {v : V} (ht : told d1 e1 t = some v) : kills d2 e2 v = false := by
  cases hk : kills d2 e2 v with
  | false => rfl
  | true =>
    obtain ⟨r, hr1, hr2⟩ := kills_writes h2.all hk
    unfold told at ht
    split at ht
    · injection ht with ht; subst ht; exact absurd hr2 (hv r hr1)
    · have := h1.ways _ (lastAt_mem ht)
      simp only at this
      have hkk : kills d2 e2 v = false := by
        unfold kills
        rw [memKills_nonway this]
        cases d2 <;> simp [killedBy, refsTo_nonway this]
      rw [hkk] at hk; cases hk

theorem kills_ex {d : Option Nat} {e : Eff} {v : V} (h : isEx v = true) : kills d e v = false := by
  cases v <;> simp [isEx] at h
  unfold kills
  rw [memKills_nonway rfl]
  cases d <;> simp [killedBy, V.refsTo]
theorem poke_writes {d : Option Nat} {e : Eff} {t : Nat} {v : V} (h : e.poke = some (t, v)) : Res.body t ∈ writes d e := by
  unfold writes; rw [h]; simp
theorem poked_none {d : Option Nat} {e : Eff} {t : Nat} (h : Res.body t ∉ writes d e) (v : V) : poked e t v = v := by
  unfold poked
  cases hp : e.poke with
  | none => rfl
  | some y =>
    obtain ⟨u, w⟩ := y
    simp only
    rw [if_neg (fun (hu : u = t) => h (hu ▸ poke_writes hp))]
theorem poked_cases (e : Eff) (t : Nat) : (∃ w, e.poke = some (t, w) ∧ ∀ v, poked e t v = w) ∨ ∀ v, poked e t v = v := by
  unfold poked
  cases hp : e.poke with
  | none => exact .inr fun _ => rfl
  | some y =>
    obtain ⟨u, w⟩ := y
    by_cases hu : u = t
    · subst hu; exact .inl ⟨w, rfl, fun v => by simp⟩
    · exact .inr fun v => by simp [hu]

/-- **They may be exchanged.** -/
theorem comm {d1 d2 : Option Nat} {e1 e2 : Eff} (h1 : Tame e1) (h2 : Tame e2) (hw : ∀ r ∈ writes d1 e1, r ∉ writes d2 e2) (hv1 : ∀ r ∈ refRes e1.val, r ∉ writes d2 e2) (hv2 : ∀ r ∈ refRes e2.val, r ∉ writes d1 e1) :
    Eqv (Vm.apply (Vm.apply σ d1 e1) d2 e2) (Vm.apply (Vm.apply σ d2 e2) d1 e1) := by
  refine ⟨fun t => ?_, heap_ext ?_ fun id => ?_⟩
  · rw [get_apply d2 e2 h2.ways, get_apply d1 e1 h1.ways, get_apply d1 e1 h1.ways, get_apply d2 e2 h2.ways]
    cases ht1 : told d1 e1 t with
    | some v1 =>
      have hn : told d2 e2 t = none := by
        cases ht2 : told d2 e2 t with
        | none => rfl
        | some v2 => exact absurd (told_writes ht2).1 (hw _ (told_writes ht1).1)
      simp only [hn, poked_none (hw _ (told_writes ht1).2), told_safe h1 h2 hv1 ht1, Bool.false_eq_true, if_false]
    | none =>
      cases ht2 : told d2 e2 t with
      | some v2 =>
        have hb : Res.body t ∉ writes d1 e1 := fun hq => hw _ hq (told_writes ht2).2
        simp only [poked_none hb, told_safe h2 h1 hv2 ht2, Bool.false_eq_true, if_false]
      | none =>
        simp only
        rcases poked_cases e1 t with ⟨w1, p1, q1⟩ | q1
        · have k1 := kills_ex (d := d1) (e := e1) (h1.poke _ _ p1)
          have k2 := kills_ex (d := d2) (e := e2) (h1.poke _ _ p1)
          have q2 := poked_none (d := d2) (e := e2) (t := t) (hw _ (poke_writes p1))
          simp only [q1, q2, k1, k2, Bool.false_eq_true, if_false]
        rcases poked_cases e2 t with ⟨w2, p2, q2⟩ | q2
        · have k1 := kills_ex (d := d1) (e := e1) (h2.poke _ _ p2)
          have k2 := kills_ex (d := d2) (e := e2) (h2.poke _ _ p2)
          simp only [q1, q2, k1, k2, Bool.false_eq_true, if_false]
        simp only [q1, q2]
        by_cases k1 : kills d1 e1 (get σ.env t) = true <;> by_cases k2 : kills d2 e2 (get σ.env t) = true <;> simp [k1, k2, kills_undef]
  · rw [(bcells_apply d2 e2 h2.all 0).2, (bcells_apply d1 e1 h1.all 0).2, (bcells_apply d1 e1 h1.all 0).2, (bcells_apply d2 e2 h2.all 0).2]
  · rw [(bcells_apply d2 e2 h2.all id).1, (bcells_apply d1 e1 h1.all id).1, (bcells_apply d1 e1 h1.all id).1, (bcells_apply d2 e2 h2.all id).1, (bcells_apply d1 e1 h1.all 0).2, (bcells_apply d2 e2 h2.all 0).2]
    by_cases hm : Res.blk id ∈ writes d1 e1
    · have := hw _ hm
      rw [bcells_apply_none this, bcells_apply_none this]
    · rw [bcells_apply_none hm, bcells_apply_none hm]

end
end Go.Vm
end

section
/- V29: what an operation reads is left alone by one that does not write it. -/
namespace Go.Vm
open Go

/-- The same, or arrays of one shape. -/
def eqL (l : Bool) (v w : V) : Prop := v = w ∨ l = true ∧ ∃ sz n xs ys, v = .ex sz n xs ∧ w = .ex sz n ys ∧ xs.length = ys.length
theorem eqL.refl (l : Bool) (v : V) : eqL l v v := .inl rfl
theorem eqL.symm {l : Bool} {v w : V} (h : eqL l v w) : eqL l w v := by
  rcases h with rfl | ⟨hl, sz, n, xs, ys, rfl, rfl, he⟩
  · exact .inl rfl
  · exact .inr ⟨hl, sz, n, ys, xs, rfl, rfl, he.symm⟩
theorem eqL.full {v w : V} (h : eqL false v w) : v = w := by
  rcases h with h | ⟨hl, _⟩
  · exact h
  · cases hl
theorem eqL.of_not {l : Bool} {v w : V} (h : eqL l v w) (hv : isEx v = false) : v = w := by
  rcases h with h | ⟨_, sz, n, xs, ys, rfl, _⟩
  · exact h
  · simp [isEx] at hv
theorem eqL.isEx {l : Bool} {v w : V} (h : eqL l v w) : Vm.isEx w = Vm.isEx v := by
  rcases h with rfl | ⟨_, sz, n, xs, ys, rfl, rfl, _⟩ <;> rfl
theorem eqL.isUndef {l : Bool} {v w : V} (h : eqL l v w) : Vm.isUndef w = Vm.isUndef v := by
  rcases h with rfl | ⟨_, sz, n, xs, ys, rfl, rfl, _⟩ <;> rfl
theorem eqL.refRes {l : Bool} {v w : V} (h : eqL l v w) : Vm.refRes w = Vm.refRes v := by
  rcases h with rfl | ⟨_, sz, n, xs, ys, rfl, rfl, _⟩ <;> rfl
theorem eqL.refBodies {l : Bool} {v w : V} (h : eqL l v w) : Vm.refBodies w = Vm.refBodies v := by
  rcases h with rfl | ⟨_, sz, n, xs, ys, rfl, rfl, _⟩ <;> rfl

/-- Two states in which an operation sees the same. -/
structure Alike (b l : Bool) (σ τ : St) (x : Operand) : Prop where
  opd : eqL l (opd σ.env x) (opd τ.env x)
  look : ∀ p, (Vm.opd σ.env x).refsTo p = true → eqL l (look σ p) (look τ p)
  blk : b = true → ∀ id off, Vm.opd σ.env x = .ptr id off → bcells σ.heap id = bcells τ.heap id

/-- What is written into a slot's array has its shape. -/
def PokeOk (σ : St) (e : Eff) : Prop := ∀ t v, e.poke = some (t, v) → ∃ sz n xs ys, get σ.env t = .ex sz n xs ∧ v = .ex sz n ys ∧ xs.length = ys.length

section
variable {σ : St} {d : Option Nat} {e : Eff}

theorem told_none {t : Nat} (h : Res.slot t ∉ writes d e) : told d e t = none := by
  cases ht : told d e t with
  | none => rfl
  | some v => exact absurd (told_writes ht).1 h

theorem blk_left (he : Tame e) {id : Nat} (h : Res.blk id ∉ writes d e) : bcells (apply σ d e).heap id = bcells σ.heap id := by
  rw [(bcells_apply d e he.all id).1, bcells_apply_none h]

/-- A slot that is not told: what it holds behind. -/
theorem get_left (he : Tame e) (hp : PokeOk σ e) {l : Bool} {t : Nat} (h1 : Res.slot t ∉ writes d e) (h2 : l = false → Res.body t ∉ writes d e) (hk : kills d e (get σ.env t) = false) :
    eqL l (get σ.env t) (get (apply σ d e).env t) := by
  rw [get_apply d e he.ways, told_none h1]
  simp only
  rcases poked_cases e t with ⟨w, p1, p2⟩ | p2
  · obtain ⟨sz, n, xs, ys, q1, q2, q3⟩ := hp _ _ p1
    rw [p2, kills_ex (he.poke _ _ p1)]
    simp only [Bool.false_eq_true, if_false]
    cases l with
    | false => exact absurd (poke_writes p1) (h2 rfl)
    | true => exact .inr ⟨rfl, sz, n, xs, ys, q1, q2, q3⟩
  · rw [p2, hk]; simp only [Bool.false_eq_true, if_false]; exact .inl rfl

theorem reads_slot {b l : Bool} {env : Env} {t : Nat} : Res.slot t ∈ opReads b l env (.tmp t) ∧ (l = false → Res.body t ∈ opReads b l env (.tmp t)) := by
  unfold opReads; cases l <;> simp
theorem reads_ref {b l : Bool} {env : Env} {x : Operand} {r : Res} (h : r ∈ refRes (opd env x)) : r ∈ opReads b l env x := by unfold opReads; simp [h]
theorem reads_body {b l : Bool} {env : Env} {x : Operand} {u : Nat} (h : (opd env x).refsTo (.slot u) = true) (hl : l = false) : Res.body u ∈ opReads b l env x := by
  unfold opReads
  subst hl
  cases hv : opd env x <;> rw [hv] at h <;> simp [V.refsTo] at h <;> subst h <;> simp [refBodies, bodyRes]

/-- Forth. -/
theorem alike_forth {b l : Bool} (he : Tame e) (hpk : PokeOk σ e) {x : Operand} (hs : seen σ x = true) (hw : ∀ r ∈ opReads b l σ.env x, r ∉ writes d e) : Alike b l σ (apply σ d e) x := by
  have hk : kills d e (opd σ.env x) = false := by
    cases hk : kills d e (opd σ.env x) with
    | false => rfl
    | true =>
      obtain ⟨r, h1, h2⟩ := kills_writes he.all hk
      exact absurd h2 (hw r (reads_ref h1))
  have ho : eqL l (opd σ.env x) (opd (apply σ d e).env x) := by
    cases x with
    | tmp t => exact get_left he hpk (hw _ reads_slot.1) (fun hl => hw _ (reads_slot.2 hl)) hk
    | _ => exact .inl rfl
  refine ⟨ho, fun p hp => ?_, fun hb id off hp => ?_⟩
  · have hr : plRes p ∉ writes d e := hw _ (reads_ref (refRes_of hp))
    have hex : isEx (look σ p) = true := by
      unfold seen at hs
      simp only [Bool.and_eq_true] at hs
      cases hv : opd σ.env x <;> rw [hv] at hp hs <;> simp [V.refsTo] at hp <;> subst hp <;> exact hs.2
    cases p with
    | slot u =>
      simp only [look] at hex ⊢
      exact get_left he hpk hr (fun hl => hw _ (reads_body hp hl)) (kills_ex hex)
    | cell id off => simp only [look]; rw [blk_left he hr]; exact .inl rfl
  · subst hb; rw [blk_left he (hw _ (by unfold opReads; simp [hp]))]

theorem not_killed (he : Tame e) (hpk : PokeOk σ e) {t : Nat} (ht : Res.slot t ∉ writes d e) (hu : isUndef (get (apply σ d e).env t) = false) : kills d e (get σ.env t) = false := by
  rw [get_apply d e he.ways, told_none ht] at hu
  simp only at hu
  rcases poked_cases e t with ⟨w, p1, p2⟩ | p2
  · obtain ⟨sz, n, xs, ys, q1, q2, q3⟩ := hpk _ _ p1
    rw [q1]; exact kills_ex rfl
  · rw [p2] at hu
    cases hk : kills d e (get σ.env t) with
    | false => rfl
    | true => rw [hk] at hu; simp [isUndef] at hu

/-- Back. -/
theorem alike_back {b l : Bool} (he : Tame e) (hpk : PokeOk σ e) {x : Operand} (hs : seen (apply σ d e) x = true) (hw : ∀ r ∈ opReads b l (apply σ d e).env x, r ∉ writes d e) : Alike b l σ (apply σ d e) x := by
  unfold seen at hs
  simp only [Bool.and_eq_true, Bool.not_eq_true'] at hs
  obtain ⟨hs1, hs2⟩ := hs
  have hkill : ∀ t, Res.slot t ∉ writes d e → isUndef (get (apply σ d e).env t) = false → kills d e (get σ.env t) = false := fun t ht hu => not_killed he hpk ht hu
  have ho : eqL l (opd σ.env x) (opd (apply σ d e).env x) := by
    cases x with
    | tmp t => exact get_left he hpk (hw _ reads_slot.1) (fun hl => hw _ (reads_slot.2 hl)) (hkill t (hw _ reads_slot.1) hs1)
    | _ => exact .inl rfl
  refine ⟨ho, fun p hp => ?_, fun hb id off hp => ?_⟩
  · have hne : isEx (opd σ.env x) = false := by cases hv : opd σ.env x <;> rw [hv] at hp <;> simp [V.refsTo] at hp <;> rfl
    have ho' := ho.of_not hne
    rw [ho'] at hp
    have hr : plRes p ∉ writes d e := hw _ (reads_ref (refRes_of hp))
    have hex : isEx (look (apply σ d e) p) = true := by
      cases hv : opd (apply σ d e).env x <;> rw [hv] at hp hs2 <;> simp [V.refsTo] at hp <;> subst hp <;> exact hs2
    cases p with
    | slot u =>
      simp only [look] at hex ⊢
      refine get_left he hpk hr (fun hl => hw _ (reads_body hp hl)) (hkill u hr ?_)
      cases hv : get (apply σ d e).env u <;> rw [hv] at hex <;> simp [isEx] at hex <;> rfl
    | cell id off => simp only [look]; rw [blk_left he hr]; exact .inl rfl
  · subst hb
    have ho' := ho.of_not (by rw [hp]; rfl)
    rw [ho'] at hp
    rw [blk_left he (hw _ (by unfold opReads; simp [hp]))]

end
end Go.Vm
end

section
/- V30: two operations, the other way round. -/
namespace Go.Vm
open Go

section
variable {T : Types} {call : CallF} {cx : Cx} {ops : Array Oper} {σ τ : St} {o : Oper} {e : Eff} {fr : Nat}

theorem light_pick {c a b : Operand} (ho : o.op = .pick c a b) : light o = false := by unfold light; rw [ho]

theorem rd_same (h : ∀ x ∈ rd σ.env o, eqL (light o) (opd σ.env x) (opd τ.env x)) : rd τ.env o = rd σ.env o := by
  unfold rd at h ⊢
  cases ho : o.op <;> simp only [ho] at h ⊢
  rename_i c a b
  rw [light_pick ho] at h
  cases hc : opd σ.env c <;> simp only [hc] at h <;> rw [← (h c (by simp)).full, hc]

theorem opReads_same {b l : Bool} {x : Operand} (h : eqL l (opd σ.env x) (opd τ.env x)) : opReads b l τ.env x = opReads b l σ.env x := by
  rcases h with h | ⟨_, sz, n, xs, ys, h1, h2, _⟩
  · unfold opReads; rw [h]
  · unfold opReads; rw [h1, h2]; cases b <;> rfl

theorem seen_same {b l : Bool} {x : Operand} (h : Alike b l σ τ x) : seen τ x = seen σ x := by
  have h1 := h.opd
  have h2 := h.look
  unfold seen
  rw [h1.isUndef]
  rcases h1 with h1 | ⟨_, sz, n, xs, ys, e1, e2, _⟩
  · rw [← h1]
    cases hv : opd σ.env x <;> simp only
    · rw [(h2 _ (by rw [hv]; simp [V.refsTo])).isEx]
    · rw [(h2 _ (by rw [hv]; simp [V.refsTo])).isEx]
  · rw [e1, e2]

/-- An operation that looks at shapes alone. -/
theorem eff_light {call : CallF} (hl : light o = true) (he : eff T call cx fr o σ = some e) (h : ∀ x ∈ rd σ.env o, Alike (derefs o) (light o) σ τ x) : eff T call cx fr o τ = some e := by
  unfold light at hl
  unfold rd at h
  cases ho : o.op <;> simp only [ho] at hl h he ⊢ <;> try (cases hl; done)
  case move x =>
    have h1 := (h x (by simp [Op.operands])).opd
    simp only [eff, ho, moveAt] at he ⊢
    rcases h1 with h1 | ⟨_, sz, n, xs, ys, e1, e2, _⟩
    · rw [← h1]; exact he
    · rw [e1] at he; rw [e2]; exact he
  case indexAddr t x k =>
    have hx := h x (by simp [Op.operands])
    have hk := h k (by simp [Op.operands])
    simp only [eff, ho] at he ⊢
    cases hT : T t <;> simp only [hT] at he ⊢
    · cases he
    have hkk : opd τ.env k = opd σ.env k := by
      cases hv : opd σ.env k <;> rw [hv] at he <;> simp only at he <;> try (cases he; done)
      exact (hk.opd.of_not (by rw [hv]; rfl)).symm.trans hv
    rw [hkk]
    cases hv : opd σ.env k <;> simp only [hv] at he ⊢ <;> try (cases he; done)
    rw [← he]
    congr 1
    unfold indexAt
    have hxo := hx.opd
    rcases hxo with h1 | ⟨_, sz, n, xs, ys, e1, e2, e3⟩
    · rw [← h1]
      cases hvx : opd σ.env x <;> simp only
      rename_i p
      rcases hx.look p (by rw [hvx]; simp [V.refsTo]) with h2 | ⟨_, sz, n, xs, ys, e1, e2, e3⟩
      · rw [h2]
      · rw [e1, e2]; simp only [e3]
    · rw [e1, e2]; simp only [e3]
  case call c =>
    cases hc : c.callee with
    | value f => simp [hc] at hl
    | invoke x m => simp [hc] at hl
    | builtin b =>
      cases b <;> simp [hc] at hl
      simp only [eff, ho, hc, builtinAt] at he ⊢
      unfold lenAt at he ⊢
      cases ha : c.args.toList with
      | nil => simp [ha] at he
      | cons x rest =>
        cases rest with
        | cons _ _ => simp [ha] at he
        | nil =>
          have hx := h x (by simp [Op.operands, Call.operands, hc]; rw [← Array.mem_toList_iff, ha]; simp)
          cases ht : c.argTypes.toList with
          | nil => simp [ha, ht] at he
          | cons t rest =>
            cases rest with
            | cons _ _ => simp [ha, ht] at he
            | nil =>
              simp only [ha, ht] at he ⊢
              have hcont : (content τ (opd τ.env x)).map (fun y => y.2.length) = (content σ (opd σ.env x)).map (fun y => y.2.length) := by
                rcases hx.opd with h1 | ⟨_, sz, n, xs, ys, e1, e2, e3⟩
                · rw [← h1]
                  cases hvx : opd σ.env x <;> simp only [content]
                  rename_i p
                  rcases hx.look p (by rw [hvx]; simp [V.refsTo]) with h2 | ⟨_, sz, n, xs, ys, e1, e2, e3⟩
                  · rw [h2]
                  · rw [e1, e2]; simp [e3]
                · rw [e1, e2]; simp [content, e3]
              cases hk : kindOf T t with
              | none => simp [hk] at he
              | some kk =>
                cases kk <;> simp only [hk] at he ⊢ <;> try (cases he; done)
                · cases hv : opd σ.env x <;> rw [hv] at he <;> simp only at he <;> try (cases he; done)
                  rw [← hx.opd.of_not (by rw [hv]; rfl), hv]; exact he
                · rename_i el
                  cases h1 : content σ (opd σ.env x) with
                  | none => simp [h1] at he
                  | some y =>
                    cases h2 : content τ (opd τ.env x) with
                    | none => rw [h1, h2] at hcont; simp at hcont
                    | some z =>
                      obtain ⟨n1, l1⟩ := y
                      obtain ⟨n2, l2⟩ := z
                      rw [h1, h2] at hcont
                      simp only [Option.map_some, Option.some.injEq] at hcont
                      simp only [h1] at he
                      simp only [hcont]; exact he
                · exact he

theorem eff_rd (he : eff T call cx fr o σ = some e) (hc : calm o e = true ∨ Eqv σ τ) (h : ∀ x ∈ rd σ.env o, Alike (derefs o) (light o) σ τ x)
    (hput : ∀ ks H, e.mem = .put ks H → σ.heap.length = τ.heap.length ∧ ∀ id, ks.contains id = true → bcells σ.heap id = bcells τ.heap id)
    (hfr : isFresh o = true → σ.heap.length = τ.heap.length ∧ bcells σ.heap fr = bcells τ.heap fr) : eff T call cx fr o τ = some e := by
  cases hl : light o with
  | true => exact eff_light hl he h
  | false =>
  rw [hl] at h
  have viaAll : rd σ.env o = o.op.operands.toList → eff T call cx fr o τ = some e := fun hr => by
    rw [hr] at h
    exact eff_same he hc ⟨fun x hx => (h x hx).opd.full, fun x hx p hp => ((h x hx).look p hp).full, fun hb x hx => (h x hx).blk hb⟩ hput hfr
  cases ho : o.op
  case pick c a b =>
    simp only [eff, ho] at he ⊢
    unfold rd at h
    simp only [ho] at h
    cases hv : opd σ.env c <;> simp only [hv] at he h <;> try (cases he; done)
    rename_i t
    rw [← (h c (by simp)).opd.full, hv]
    have h2 := (h (if t then a else b) (by simp)).opd.full
    cases t
    · simp only [Bool.false_eq_true, if_false] at he h2 ⊢
      rw [← h2]; exact he
    · simp only [if_true] at he h2 ⊢
      rw [← h2]; exact he
  all_goals exact viaAll (by unfold rd; rw [ho])

def gsame (ops : Array Oper) (o : Oper) (σ τ : St) : Prop := ∀ t, guardSlot ops o = some t → get σ.env t = get τ.env t

theorem wants_same (h : gsame ops o σ τ) : wants ops τ.env o = wants ops σ.env o := by
  unfold gsame guardSlot at h
  unfold wants
  cases hg : o.guard with
  | none => rfl
  | some jw =>
    obtain ⟨j, want⟩ := jw
    simp only [hg] at h ⊢
    cases ht : (ops[j]?).bind (·.dst) with
    | none => rfl
    | some t => simp only; rw [h t ht]

theorem effG_rd (he : effG T call cx ops fr o σ = some e) (hc : calm o e = true ∨ Eqv σ τ) (hg : gsame ops o σ τ) (h : ∀ x ∈ rdG ops σ.env o, Alike (derefs o) (light o) σ τ x)
    (hput : ∀ ks H, e.mem = .put ks H → σ.heap.length = τ.heap.length ∧ ∀ id, ks.contains id = true → bcells σ.heap id = bcells τ.heap id)
    (hfr : isFresh o = true → σ.heap.length = τ.heap.length ∧ bcells σ.heap fr = bcells τ.heap fr) : effG T call cx ops fr o τ = some e := by
  unfold effG at he ⊢
  rw [wants_same hg]
  cases hw : wants ops σ.env o with
  | none => simp [hw] at he
  | some b =>
    cases b with
    | false => simpa [hw] using he
    | true =>
      simp only [hw] at he ⊢
      cases h1 : eff T call cx fr o σ with
      | none => simp [h1] at he
      | some e1 =>
        simp only [h1] at he
        have hee : e1 = e := by
          split at he
          · split at he
            · cases he
            · injection he
          · simpa using he
        subst hee
        rw [eff_rd h1 hc (by unfold rdG at h; simpa [hw] using h) hput hfr]
        exact he

theorem effG_guard (he : effG T call cx ops fr o σ = some e) {t : Nat} (ht : guardSlot ops o = some t) : isWay (get σ.env t) = false ∧ isUndef (get σ.env t) = false ∧ isEx (get σ.env t) = false := by
  unfold effG wants at he
  unfold guardSlot at ht
  cases hg : o.guard with
  | none => simp [hg] at ht
  | some jw =>
    obtain ⟨j, want⟩ := jw
    simp only [hg] at he ht
    rw [ht] at he
    cases hv : get σ.env t <;> simp only [hv] at he <;> first
      | (cases he; done)
      | exact ⟨rfl, rfl, rfl⟩

theorem rdG_same (hg : gsame ops o σ τ) (h : ∀ x ∈ rdG ops σ.env o, eqL (light o) (opd σ.env x) (opd τ.env x)) : rdG ops τ.env o = rdG ops σ.env o := by
  unfold rdG at h ⊢
  rw [wants_same hg]
  cases hw : wants ops σ.env o with
  | none => rw [hw] at h; exact rd_same h
  | some b => cases b with
    | false => rfl
    | true => rw [hw] at h; exact rd_same h

/-- What is written into a slot's array has its shape. -/
theorem eff_poke {call : CallF} (he : eff T call cx fr o σ = some e) : PokeOk σ e := by
  intro t v hp
  have no : e.poke = none → ∃ sz n xs ys, get σ.env t = .ex sz n xs ∧ v = .ex sz n ys ∧ xs.length = ys.length := fun h => by rw [h] at hp; cases hp
  cases ho : o.op <;> simp only [eff, ho] at he <;> try (cases he; done)
  case store t' p x =>
    split at he <;> try (cases he; done)
    rename_i i hT
    have hs : ∃ e0, storeAt i σ (opd σ.env p) x = some e0 ∧ e0 = e := by
      split at he
      · rename_i e0 h0
        refine ⟨e0, h0, ?_⟩
        split at he
        · split at he
          · injection he
          · cases he
        · injection he
      · cases he
    obtain ⟨e0, hs, rfl⟩ := hs
    unfold storeAt at hs
    split at hs
    · split at hs
      · split at hs
        · injection hs with hs; subst hs; cases hp
        · cases hs
      · cases hs
    · rename_i q k off hpv
      split at hs
      · rename_i v' sz n xs hv hl
        split at hs
        · split at hs
          · injection hs with hs; subst hs
            cases q with
            | cell qi qo => cases hp
            | slot u =>
              simp only [rewr] at hp
              injection hp with hp; injection hp with h1 h2; subst h1; subst h2
              exact ⟨sz, n, xs, _, hl, rfl, by simp⟩
          · cases hs
        · cases hs
      · cases hs
    · cases hs
  all_goals
    refine no ?_
    clear no hp
    try simp only [assignAt, moveAt, sliceAt, builtinAt, lenAt, appendAt, mmAt, deleteAt, callAt] at he
    (repeat' split at he) <;> first
      | (cases he; done)
      | (injection he with he; subst he; rfl)
      | (rw [Option.map_eq_some_iff] at he; obtain ⟨_, _, rfl⟩ := he; rfl)
theorem effG_poke {call : CallF} (he : effG T call cx ops fr o σ = some e) : PokeOk σ e := by
  unfold effG at he
  split at he
  · split at he
    · rename_i e1 h1
      have hee : e1 = e := by
        split at he
        · split at he
          · cases he
          · injection he
        · simpa using he
      subst hee; exact eff_poke h1
    · cases he
  · injection he with he; subst he; intro t v hp; cases hp
  · cases he

/-- An operation comes up, and is what the table says of it. -/
def Stp (T : Types) (call : CallF) (cx : Cx) (ops : Array Oper) (fr : Nat → Nat) (R W : Nat → List Res) (i : Nat) (σ σ' : St) : Prop :=
  (∃ o e, ops[i]? = some o ∧ effG T call cx ops (fr i) o σ = some e ∧ Tame e ∧ calm o e = true ∧ (rdG ops σ.env o).all (seen σ) = true ∧ reads ops (fr i) o σ.env e = R i ∧ writes o.dst e = W i ∧
    (∀ r ∈ refRes e.val, r ∈ R i) ∧ σ' = apply σ o.dst e) ∨
  ∃ o e, ops[i]? = some o ∧ effG T call cx ops (fr i) o σ = some e ∧ Res.top ∈ R i ∧ σ' = apply σ o.dst e

theorem Stp.op {fr : Nat → Nat} {R W : Nat → List Res} {i : Nat} {σ σ' : St} (h : Stp T call cx ops fr R W i σ σ') : ∃ o e, ops[i]? = some o ∧ effG T call cx ops (fr i) o σ = some e ∧ σ' = apply σ o.dst e := by
  rcases h with ⟨o, e, h1, h2, _, _, _, _, _, _, h3⟩ | ⟨o, e, h1, h2, _, h3⟩
  · exact ⟨o, e, h1, h2, h3⟩
  · exact ⟨o, e, h1, h2, h3⟩

/-- The same operation where it sees the same. -/
theorem stp_same {fr : Nat → Nat} {i : Nat} (ho : ops[i]? = some o) (he : effG T call cx ops (fr i) o σ = some e) (hc : calm o e = true) (hs : (rdG ops σ.env o).all (seen σ) = true)
    (hg : gsame ops o σ τ) (h : ∀ x ∈ rdG ops σ.env o, Alike (derefs o) (light o) σ τ x)
    (hput : ∀ ks H, e.mem = .put ks H → σ.heap.length = τ.heap.length ∧ ∀ id, ks.contains id = true → bcells σ.heap id = bcells τ.heap id)
    (hfr : isFresh o = true → σ.heap.length = τ.heap.length ∧ bcells σ.heap (fr i) = bcells τ.heap (fr i)) :
    effG T call cx ops (fr i) o τ = some e ∧ (rdG ops τ.env o).all (seen τ) = true ∧ reads ops (fr i) o τ.env e = reads ops (fr i) o σ.env e := by
  have hr := rdG_same (τ := τ) hg (fun x hx => (h x hx).opd)
  refine ⟨effG_rd he (.inl hc) hg h hput hfr, ?_, ?_⟩
  · rw [hr, List.all_eq_true] at *
    exact fun x hx => by rw [seen_same (h x hx)]; exact hs x hx
  · unfold reads
    rw [hr]
    have : (rdG ops σ.env o).flatMap (opReads (derefs o) (light o) τ.env) = (rdG ops σ.env o).flatMap (opReads (derefs o) (light o) σ.env) := by
      simp only [List.flatMap]
      congr 1
      exact List.map_congr_left fun x hx => opReads_same (h x hx).opd
    rw [this]

def apartR (R W R' W' : List Res) : Prop := (Res.top ∉ R ∧ Res.top ∉ R') ∧ (∀ r ∈ W, r ∉ R') ∧ (∀ r ∈ W', r ∉ R) ∧ (∀ r ∈ W, r ∉ W')

theorem reads_op {x : Operand} (hx : x ∈ rdG ops σ.env o) {r : Res} (hr : r ∈ opReads (derefs o) (light o) σ.env x) : r ∈ reads ops fr o σ.env e := by
  unfold reads
  simp only [List.mem_append, List.mem_flatMap]
  exact .inl (.inl (.inr ⟨x, hx, hr⟩))
theorem reads_guard {t : Nat} (h : guardSlot ops o = some t) : Res.slot t ∈ reads ops fr o σ.env e := by
  unfold reads; rw [h]; simp
theorem reads_fresh (h : isFresh o = true) : Res.blk fr ∈ reads ops fr o σ.env e := by
  unfold reads; rw [h]; simp

theorem reads_put {ks : List Nat} {H : Heap} (h : e.mem = .put ks H) {id : Nat} (hid : ks.contains id = true) : Res.blk id ∈ reads ops fr o σ.env e := by
  unfold reads memReads
  rw [h]
  simp only [List.mem_append, List.mem_map]
  exact .inl (.inl (.inl ⟨id, by simpa using hid, rfl⟩))

/-- **The other way round.** -/
theorem swap {fr : Nat → Nat} {R W : Nat → List Res} {i j : Nat} {σ1 σ2 : St} (hi : Stp T call cx ops fr R W i σ σ1) (hj : Stp T call cx ops fr R W j σ1 σ2) (ha : apartR (R i) (W i) (R j) (W j)) :
    ∃ τ τ2, Stp T call cx ops fr R W j σ τ ∧ Stp T call cx ops fr R W i τ τ2 ∧ Eqv σ2 τ2 := by
  obtain ⟨⟨a01, a02⟩, a1, a2, a3⟩ := ha
  rcases hi with ⟨oi, ei, i1, i2, i3, i4, i5, i6, i7, i8, rfl⟩ | ⟨_, _, _, _, ht, _⟩
  case inr => exact absurd ht a01
  rcases hj with ⟨oj, ej, j1, j2, j3, j4, j5, j6, j7, j8, rfl⟩ | ⟨_, _, _, _, ht, _⟩
  case inr => exact absurd ht a02
  rw [List.all_eq_true] at i5 j5
  have pi : PokeOk σ ei := effG_poke i2
  -- j first
  have alj : ∀ x ∈ rdG ops (apply σ oi.dst ei).env oj, Alike (derefs oj) (light oj) σ (apply σ oi.dst ei) x := fun x hx =>
    alike_back i3 pi (j5 x hx) (fun r hr hw => a1 r (i7 ▸ hw) (j6 ▸ reads_op hx hr))
  have alj' : ∀ x ∈ rdG ops (apply σ oi.dst ei).env oj, Alike (derefs oj) (light oj) (apply σ oi.dst ei) σ x := fun x hx => by
    obtain ⟨q1, q2, q3⟩ := alj x hx
    refine ⟨q1.symm, fun p hp => (q2 p ?_).symm, fun hb id off hp => (q3 hb id off ?_).symm⟩
    · have hne : isEx (opd (apply σ oi.dst ei).env x) = false := by cases hv : opd (apply σ oi.dst ei).env x <;> rw [hv] at hp <;> simp [V.refsTo] at hp <;> rfl
      rw [← q1.symm.of_not hne]; exact hp
    · rw [← q1.symm.of_not (by rw [hp]; rfl)]; exact hp
  have gj : gsame ops oj (apply σ oi.dst ei) σ := fun t ht => by
    obtain ⟨_, hb, hx⟩ := effG_guard j2 ht
    have hns : Res.slot t ∉ writes oi.dst ei := fun hw => a1 _ (i7 ▸ hw) (j6 ▸ reads_guard ht)
    exact (get_left (l := true) i3 pi hns (fun h => by cases h) (not_killed i3 pi hns hb)).symm.of_not hx
  obtain ⟨e1, e2, e3⟩ := stp_same (τ := σ) j1 j2 j4 (List.all_eq_true.2 j5) gj alj' (fun ks H hm => ⟨(bcells_apply _ _ i3.all 0).2, fun id hid => blk_left i3 (fun hw => a1 _ (i7 ▸ hw) (j6 ▸ reads_put hm hid))⟩) (fun hf => ⟨(bcells_apply _ _ i3.all 0).2, blk_left i3 (fun hw => a1 _ (i7 ▸ hw) (j6 ▸ reads_fresh hf))⟩)
  have pj : PokeOk σ ej := effG_poke e1
  -- i behind it
  have ali : ∀ x ∈ rdG ops σ.env oi, Alike (derefs oi) (light oi) σ (apply σ oj.dst ej) x := fun x hx => alike_forth j3 pj (i5 x hx) (fun r hr hw => a2 r (j7 ▸ hw) (i6 ▸ reads_op hx hr))
  have gi : gsame ops oi σ (apply σ oj.dst ej) := fun t ht => by
    obtain ⟨hb, _, hx⟩ := effG_guard i2 ht
    have hns : Res.slot t ∉ writes oj.dst ej := fun hw => a2 _ (j7 ▸ hw) (i6 ▸ reads_guard ht)
    have hk : kills oj.dst ej (get σ.env t) = false := by
      unfold kills
      rw [memKills_nonway hb]
      cases oj.dst <;> simp [killedBy, refsTo_nonway hb]
    exact (get_left (l := true) j3 pj hns (fun h => by cases h) hk).of_not hx
  obtain ⟨f1, f2, f3⟩ := stp_same (τ := apply σ oj.dst ej) i1 i2 i4 (List.all_eq_true.2 i5) gi ali (fun ks H hm => ⟨(bcells_apply _ _ j3.all 0).2.symm, fun id hid => (blk_left j3 (fun hw => a2 _ (j7 ▸ hw) (i6 ▸ reads_put hm hid))).symm⟩) (fun hf => ⟨(bcells_apply _ _ j3.all 0).2.symm, (blk_left j3 (fun hw => a2 _ (j7 ▸ hw) (i6 ▸ reads_fresh hf))).symm⟩)
  refine ⟨_, _, .inl ⟨oj, ej, j1, e1, j3, j4, e2, by rw [e3, j6], j7, j8, rfl⟩, .inl ⟨oi, ei, i1, f1, i3, i4, f2, by rw [f3, i6], i7, i8, rfl⟩, ?_⟩
  exact comm i3 j3 (fun r hr hw => a3 r (i7 ▸ hr) (j7 ▸ hw)) (fun r hr hw => a2 r (j7 ▸ hw) (i8 r hr)) (fun r hr hw => a1 r (i7 ▸ hw) (j8 r hr))

end
end Go.Vm
end

section
/- V31: all orders. -/
namespace Go.Vm
open Go

def Closed (ops : Array Oper) (L : Array Bool) : Prop := ∀ j o, ops[j]? = some o → L.getD j false = true → ∀ e ∈ o.after, Region.binds .any e = true → L.getD e.on false = true

theorem fold_bits (anc : List Nat) (i : Nat) : ∀ (l : List Edge) (b : Nat), (l.foldl (fun b e => if Region.binds .any e then b ||| 2 ^ e.on ||| anc.getD e.on 0 else b) b).testBit i = true →
    b.testBit i = true ∨ ∃ e ∈ l, Region.binds .any e = true ∧ (e.on = i ∨ (anc.getD e.on 0).testBit i = true)
  | [], b, h => .inl h
  | e :: l, b, h => by
    simp only [List.foldl_cons] at h
    rcases fold_bits anc i l _ h with h | ⟨x, hx, h⟩
    · split at h
      · rename_i hb
        simp only [Nat.testBit_or, Bool.or_eq_true, Nat.testBit_two_pow, decide_eq_true_eq] at h
        rcases h with (h | h) | h
        · exact .inl h
        · exact .inr ⟨e, by simp, hb, .inl h⟩
        · exact .inr ⟨e, by simp, hb, .inr h⟩
      · exact .inl h
    · exact .inr ⟨x, by simp [hx], h⟩

def AncOk (ops : Array Oper) (acc : List Nat) : Prop := ∀ (L : Array Bool), Closed ops L → ∀ j i o, ops[j]? = some o → (∀ e ∈ o.after, Region.binds .any e = true → L.getD e.on false = true) → (acc.getD j 0).testBit i = true → L.getD i false = true

theorem ancs_ok {ops : Array Oper} : ∀ (l : List Oper) (acc : List Nat), AncOk ops acc → (∀ j, l[j]? = ops[acc.length + j]?) → AncOk ops (ancs l acc)
  | [], acc, h, _ => h
  | o :: l, acc, h, hl => by
    refine ancs_ok l _ (fun L hc j i o' ho' hd hb => ?_) (fun j => by have := hl (j + 1); simpa [Nat.add_assoc, Nat.add_comm 1 j] using this)
    rcases Nat.lt_or_ge j acc.length with hlt | hge
    · rw [List.getD_eq_getElem?_getD, List.getElem?_append_left hlt, ← List.getD_eq_getElem?_getD] at hb
      exact h L hc j i o' ho' hd hb
    · by_cases hj : j = acc.length
      · subst hj
        have h0 : ops[acc.length]? = some o := by simpa using (hl 0).symm
        obtain rfl : o' = o := Option.some.inj (ho'.symm.trans h0)
        have hb' : (ancStep acc o').testBit i = true := by simpa using hb
        rcases fold_bits acc i _ 0 hb' with h1 | ⟨e, he, h1, h2⟩
        · simp at h1
        · have he' : e ∈ o'.after := by simpa using he
          rcases h2 with h2 | h2
          · rw [← h2]; exact hd e he' h1
          · cases hoe : ops[e.on]? with
            | none =>
              have hlt : e.on < acc.length := by
                rcases Nat.lt_or_ge e.on acc.length with h' | h'
                · exact h'
                · simp [List.getD_eq_getElem?_getD, List.getElem?_eq_none h'] at h2
              have h3 := (Array.getElem?_eq_some_iff.1 h0).1
              rw [Array.getElem?_eq_none_iff] at hoe; omega
            | some oe => exact h L hc e.on i oe hoe (hc e.on oe hoe (hd e he' h1)) h2
      · have : (acc ++ [ancStep acc o]).getD j 0 = 0 := by
          rw [List.getD_eq_getElem?_getD, List.getElem?_eq_none (by simp; omega)]; rfl
        rw [this] at hb; simp at hb

theorem dep_listed {ops : Array Oper} {L : Array Bool} (hc : Closed ops L) (j i : Nat) (o : Oper) (ho : ops[j]? = some o) (hd : ∀ e ∈ o.after, Region.binds .any e = true → L.getD e.on false = true)
    (h : depB ops j i = true) : L.getD i false = true :=
  ancs_ok ops.toList [] (fun _ _ _ _ _ _ _ h => by simp at h) (by simp) L hc j i o ho hd h

theorem Closed.set {ops : Array Oper} {L : Array Bool} (hc : Closed ops L) {i : Nat} (hi : i ∈ Region.ready .any ops L) : Closed ops (L.setIfInBounds i true) := by
  obtain ⟨_, oi, hoi, hall⟩ := mem_ready.1 hi
  intro j o hj hl e he hb
  by_cases hij : i = j
  · subst hij
    have : o = oi := Option.some.inj (hj.symm.trans hoi)
    subst this
    exact getD_set_true (hall e he hb)
  · rw [getD_set_ne false hij] at hl
    exact getD_set_true (hc j o hj hl e he hb)

section
variable {T : Types} {call : CallF} {cx : Cx} {ops : Array Oper} {fr : Nat → Nat} {R W : Nat → List Res} {Q : St → Prop}

theorem alike_eqv {b l : Bool} {σ τ : St} (h : Eqv σ τ) (x : Operand) : Alike b l σ τ x :=
  ⟨.inl (h.opd x), fun p _ => .inl (h.look p), fun _ id off _ => by rw [h.2]⟩

theorem stp_eqv {σ τ σ' : St} {i : Nat} (hs : Stp T call cx ops fr R W i σ σ') (h : Eqv σ τ) : ∃ τ', Stp T call cx ops fr R W i τ τ' ∧ Eqv σ' τ' := by
  rcases hs with ⟨o, e, i1, i2, i3, i4, i5, i6, i7, i8, rfl⟩ | ⟨o, e, i1, i2, i3, rfl⟩
  · obtain ⟨f1, f2, f3⟩ := stp_same (τ := τ) i1 i2 i4 i5 (fun t _ => h.1 t) (fun x _ => alike_eqv h x) (fun _ _ _ => ⟨by rw [h.2], fun _ _ => by rw [h.2]⟩) (fun _ => ⟨by rw [h.2], by rw [h.2]⟩)
    exact ⟨_, .inl ⟨o, e, i1, f1, i3, i4, f2, by rw [f3, i6], i7, i8, rfl⟩, h.apply _ _⟩
  · exact ⟨_, .inr ⟨o, e, i1, effG_rd i2 (.inr h) (fun t _ => h.1 t) (fun x _ => alike_eqv h x) (fun _ _ _ => ⟨by rw [h.2], fun _ _ => by rw [h.2]⟩) (fun _ => ⟨by rw [h.2], by rw [h.2]⟩), i3, rfl⟩, h.apply _ _⟩

def VAny (T : Types) (call : CallF) (cx : Cx) (ops : Array Oper) (fr : Nat → Nat) (R W : Nat → List Res) (Q : St → Prop) : Nat → Array Bool → St → Prop
  | 0, L, σ => Region.ready .any ops L = [] ∧ Q σ
  | f + 1, L, σ => (Region.ready .any ops L = [] → Q σ) ∧ ∀ i ∈ Region.ready .any ops L, ∃ σ', Stp T call cx ops fr R W i σ σ' ∧ VAny T call cx ops fr R W Q f (L.setIfInBounds i true) σ'

theorem vany_eqv (hQ : ∀ σ τ, Eqv σ τ → Q σ → Q τ) : ∀ (f : Nat) (L : Array Bool) (σ τ : St), VAny T call cx ops fr R W Q f L σ → Eqv σ τ → VAny T call cx ops fr R W Q f L τ
  | 0, L, σ, τ, h, he => ⟨h.1, hQ _ _ he h.2⟩
  | f + 1, L, σ, τ, h, he => by
    refine ⟨fun h0 => hQ _ _ he (h.1 h0), fun i hi => ?_⟩
    obtain ⟨σ', h1, h2⟩ := h.2 i hi
    obtain ⟨τ', g1, g2⟩ := stp_eqv h1 he
    exact ⟨τ', g1, vany_eqv hQ f _ σ' τ' h2 g2⟩

theorem getD_not {L : Array Bool} {i : Nat} (h : L.getD i true = false) : L.getD i false = false := by
  rcases Nat.lt_or_ge i L.size with h' | h'
  · simp [h'] at h ⊢; exact h
  · simp [Array.getElem?_eq_none h'] at h

theorem vany_first (hQ : ∀ σ τ, Eqv σ τ → Q σ → Q τ) {i : Nat} : ∀ (f : Nat) (L : Array Bool) (σ σ1 : St), Closed ops L →
    (∀ j, j < ops.size → j ≠ i → L.getD j true = false → depB ops j i = true ∨ apartR (R i) (W i) (R j) (W j)) → i ∈ Region.ready .any ops L → Stp T call cx ops fr R W i σ σ1 →
    VAny T call cx ops fr R W Q f (L.setIfInBounds i true) σ1 → VAny T call cx ops fr R W Q (f + 1) L σ
  | 0, L, σ, σ1, hc, hfree, hr, hs, H => by
    refine ⟨fun h => (by rw [h] at hr; cases hr), fun j hj => ?_⟩
    by_cases hji : j = i
    · subst hji; exact ⟨σ1, hs, H⟩
    · have := ready_mono hj hji
      rw [H.1] at this
      cases this
  | f + 1, L, σ, σ1, hc, hfree, hr, hs, H => by
    refine ⟨fun h => (by rw [h] at hr; cases hr), fun j hj => ?_⟩
    by_cases hji : j = i
    · subst hji; exact ⟨σ1, hs, H⟩
    · obtain ⟨σ2, h1, h2⟩ := H.2 j (ready_mono hj hji)
      obtain ⟨hjun, oj, hoj, hall⟩ := mem_ready.1 hj
      have hap : apartR (R i) (W i) (R j) (W j) := by
        rcases hfree j (Array.getElem?_eq_some_iff.1 hoj).1 hji hjun with hd | ha
        · have := dep_listed hc j i oj hoj hall hd
          rw [getD_not (mem_ready.1 hr).1] at this; cases this
        · exact ha
      obtain ⟨τ, τ2, g1, g2, g3⟩ := swap hs h1 hap
      refine ⟨τ, g1, vany_first hQ f _ τ τ2 (hc.set hj) (fun k hk hki hun => hfree k hk hki ?_) (ready_mono hr (Ne.symm hji)) g2 ?_⟩
      · by_cases hjk : j = k
        · subst hjk; exact hjun
        · rw [getD_set_ne true hjk] at hun; exact hun
      · rw [Array.setIfInBounds_comm _ _ hji]
        exact vany_eqv hQ f _ σ2 τ2 h2 g3

/-- The text's order. -/
def Lex (T : Types) (call : CallF) (cx : Cx) (ops : Array Oper) (fr : Nat → Nat) (R W : Nat → List Res) (Q : St → Prop) : Nat → Nat → St → Prop
  | 0, _, σ => Q σ
  | n + 1, k, σ => ∃ σ', Stp T call cx ops fr R W k σ σ' ∧ Lex T call cx ops fr R W Q n (k + 1) σ'
theorem getD_in_range {L : Array Bool} {i : Nat} (h : i < L.size) (b c : Bool) : L.getD i b = L.getD i c := by simp [h]

theorem vany_lex (hQ : ∀ σ τ, Eqv σ τ → Q σ → Q τ) (hback : ∀ k o, ops[k]? = some o → ∀ e ∈ o.after, Region.binds .any e = true → e.on < k)
    (hp : ∀ i j, i < j → j < ops.size → depB ops j i = true ∨ apartR (R i) (W i) (R j) (W j)) : ∀ (n k : Nat) (L : Array Bool) (σ : St),
    Closed ops L → (∀ j, j < ops.size → L.getD j true = decide (j < k)) → k + n = ops.size → L.size = ops.size → Lex T call cx ops fr R W Q n k σ → VAny T call cx ops fr R W Q n L σ
  | 0, k, L, σ, hc, hl, hn, hs, h => by
    refine ⟨?_, h⟩
    rw [List.eq_nil_iff_forall_not_mem]
    intro j hj
    obtain ⟨h1, o, ho, _⟩ := mem_ready.1 hj
    have hlt := (Array.getElem?_eq_some_iff.1 ho).1
    rw [hl j hlt] at h1
    simp at h1; omega
  | n + 1, k, L, σ, hc, hl, hn, hs, h => by
    have hk : k < ops.size := by omega
    have hr' : k ∈ Region.ready .any ops L := by
      refine mem_ready.2 ⟨by rw [hl k hk]; simp, ops[k], Array.getElem?_eq_getElem hk, fun e he hb => ?_⟩
      have hlt := hback k _ (Array.getElem?_eq_getElem hk) e he hb
      rw [getD_in_range (by omega) false true, hl e.on (by omega)]; simpa using hlt
    obtain ⟨σ1, h1, h2⟩ := h
    refine vany_first hQ n L σ σ1 hc (fun j hj hjk hun => hp k j ?_ hj) hr' h1 (vany_lex hQ hback hp n (k + 1) _ σ1 (hc.set hr') (fun j hj => ?_) (by omega) (by simpa using hs) h2)
    · rw [hl j hj] at hun; simp at hun; omega
    · by_cases hjk : k = j
      · subst hjk
        simp [hs, hj]
      · rw [getD_set_ne true hjk, hl j hj]
        rw [Bool.eq_iff_iff]; simp; omega

end
end Go.Vm
end

section
/- V32: a region that draws its order. -/
namespace Go.Vm
open Go

section
variable {P : Program} {T : Types} {call : CallF} {cx : Cx} {ops : Array Oper} {fr : Nat → Nat} {R W : Nat → List Res}

theorem wpAny_of_vany (hS : Sound P call) (hC : CxOk P cx) (hT : TOk P T) (Q : Exit → Act → World → Prop) (G : St → Prop) : ∀ (f : Nat) (L : Array Bool) (own : Own) (β : Nat → Nat) (w : World) (σ : St) (a : Act), SR own β w σ a.tmps →
    (∀ o ∈ ops.toList, ∀ d, o.dst = some d → d < a.tmps.size) → VAny T call cx ops fr R W G f L σ → (∀ own' β' w' a' σ', G σ' → Nxt own β w σ a own' β' w' σ' a' → Q .normal a' w') → wpAny P .any ops Q f L a w
  | 0, L, own, β, w, σ, a, h, hd, hv, hQ => ⟨hv.1, hQ _ _ _ _ _ hv.2 (Nxt.refl h)⟩
  | f + 1, L, own, β, w, σ, a, h, hd, hv, hQ => by
    refine ⟨fun h0 => hQ _ _ _ _ _ (hv.1 h0) (Nxt.refl h), fun i hi => ?_⟩
    obtain ⟨σ', hst, h2⟩ := hv.2 i hi
    obtain ⟨o, e, i1, i2, rfl⟩ := hst.op
    have ho : o ∈ ops.toList := by simpa using Array.mem_of_getElem? i1
    have hvop : vop T call cx ops (fr i) o σ = some (apply σ o.dst e) := by unfold vop; rw [i2]; rfl
    unfold wpOp
    simp only [i1]
    refine ok_vop hS hC ⟨h, hd o ho, hT⟩ hvop _ Q (fun own1 β1 w1 a1 hn => ?_)
    exact wpAny_of_vany hS hC hT Q G f _ own1 β1 w1 _ a1 hn.sr (fun o ho d hd' => by rw [hn.size]; exact hd o ho d hd') h2 (fun own' β' w' a' σ' hg hn' => hQ _ _ _ _ _ hg (hn.trans hn'))

/-- What is known of a state is known of one that looks the same. -/
theorem Nxt.eqv {own own' : Own} {β β' : Nat → Nat} {w w' : World} {σ σ1 σ2 : St} {a a' : Act} (h : Nxt own β w σ a own' β' w' σ1 a') (he : Eqv σ1 σ2) : Nxt own β w σ a own' β' w' σ2 a' :=
  ⟨h.sr.congr (fun t => (he.1 t).symm) he.2.symm, h.stay, by rw [← he.2]; exact h.bx, h.defers, h.size⟩

end
end Go.Vm
end

section
/- V33: regions. -/
namespace Go.Vm
open Go

section
variable {P : Program} {own : Own} {β : Nat → Nat} {w : World} {σ : St} {a : Act}
variable {T : Types} {call : CallF} {cx : Cx} {ops : Array Oper}

theorem tame_of {e : Eff} (h : tameB e = true) : Tame e := by
  unfold tameB at h
  simp only [Bool.and_eq_true, List.all_eq_true] at h
  refine ⟨fun x hx => ?_, fun t v hp => ?_, fun H hH => ?_⟩
  · have := h.1.1 x hx
    cases hv : x.2 <;> rw [hv] at this <;> first | rfl | (simp [isWayB] at this)
  · have := h.1.2
    rw [hp] at this; exact this
  · rw [hH] at h; simp at h

theorem apart_of {x y : List Res × List Res} (h : apartB x y = true) : apartR x.1 x.2 y.1 y.2 := by
  unfold apartB at h
  simp only [Bool.and_eq_true, List.all_eq_true, Bool.not_eq_true', List.contains_eq_mem, decide_eq_false_iff_not] at h
  exact ⟨⟨h.1.1.1.1, h.1.1.1.2⟩, h.1.1.2, h.1.2, h.2⟩

theorem lex_of_run {fr : Nat → Nat} {R W : Nat → List Res} {σ1 : St} (hfr : ∀ k o, ops[k]? = some o → fr (k + 1) = if isFresh o then fr k + 1 else fr k) : ∀ (l : List Oper) (k : Nat) (σ : St) (fpl : List (List Res × List Res)), (∀ j, l[j]? = ops[k + j]?) →
    drawRun T call cx ops (fr k) l σ = some (σ1, fpl) → (∀ j, j < l.length → R (k + j) = (fpAt fpl j).1 ∧ W (k + j) = (fpAt fpl j).2) → Lex T call cx ops fr R W (Eqv σ1) l.length k σ
  | [], k, σ, fpl, hl, hv, hf => by
    simp only [drawRun] at hv; injection hv with hv; injection hv with e1 e2; subst e1
    exact Eqv.refl _
  | o :: l, k, σ, fpl, hl, hv, hf => by
    simp only [drawRun] at hv
    have h0 : ops[k]? = some o := by simpa using (hl 0).symm
    cases he : effG T call cx ops (fr k) o σ with
    | none => simp [he] at hv
    | some e =>
      simp only [he] at hv
      split at hv
      · rename_i hc
        simp only [Bool.and_eq_true] at hc
        obtain ⟨⟨⟨c1, c2⟩, c3⟩, c4⟩ := hc
        rw [Option.map_eq_some_iff] at hv
        obtain ⟨⟨σ2, l2⟩, h1, h2⟩ := hv
        injection h2 with e1 e2; subst e1; subst e2
        obtain ⟨f1, f2⟩ := hf 0 (by simp)
        simp only [fpAt, List.getD_cons_zero, Nat.add_zero] at f1 f2
        rw [← hfr k o h0] at h1
        refine ⟨_, .inl ⟨o, e, h0, he, tame_of c1, c2, c3, f1.symm, f2.symm, fun r hr => ?_, rfl⟩, lex_of_run hfr l (k + 1) _ l2 (fun j => ?_) h1 (fun j hj => ?_)⟩
        · rw [f1]
          have := List.all_eq_true.1 c4 r hr
          simpa using this
        · have := hl (j + 1)
          simpa [Nat.add_assoc, Nat.add_comm 1 j] using this
        · have := hf (j + 1) (by simpa using hj)
          simpa [fpAt, Nat.add_assoc, Nat.add_comm 1 j] using this
      · split at hv
        · rw [Option.map_eq_some_iff] at hv
          obtain ⟨⟨σ2, l2⟩, h1, h2⟩ := hv
          injection h2 with e1 e2; subst e1; subst e2
          obtain ⟨f1, f2⟩ := hf 0 (by simp)
          simp only [fpAt, List.getD_cons_zero, Nat.add_zero] at f1 f2
          rw [← hfr k o h0] at h1
          refine ⟨_, .inr ⟨o, e, h0, he, by rw [f1]; simp, rfl⟩, lex_of_run hfr l (k + 1) _ l2 (fun j => ?_) h1 (fun j hj => ?_)⟩
          · have := hl (j + 1)
            simpa [Nat.add_assoc, Nat.add_comm 1 j] using this
          · have := hf (j + 1) (by simpa using hj)
            simpa [fpAt, Nat.add_assoc, Nat.add_comm 1 j] using this
        · cases hv

/-- Nobody waits for what comes later in the text. -/
def backB : Nat → List Oper → Bool
  | _, [] => true
  | k, o :: l => (o.after.all fun e => !Region.binds .any e || decide (e.on < k)) && backB (k + 1) l
theorem backB_get : ∀ (l : List Oper) (k : Nat), backB k l = true → ∀ j o, l[j]? = some o → ∀ e ∈ o.after, Region.binds .any e = true → e.on < k + j
  | [], _, _, j, o, h => by simp at h
  | o' :: l, k, hb, j, o, h => by
    simp only [backB, Bool.and_eq_true] at hb
    cases j with
    | zero =>
      simp at h; subst h
      intro e he hbi
      have := Array.all_eq_true_iff_forall_mem.1 hb.1 e he
      simpa [hbi] using this
    | succ j =>
      intro e he hbi
      have := backB_get l (k + 1) hb.2 j o (by simpa using h) e he hbi
      omega

/-- What is asked of a region that draws its order, whatever the state. -/
def drawB (ops : Array Oper) (pairs : List (Nat × Nat)) : Bool :=
  backB 0 ops.toList && (List.range ops.size).all fun j => (List.range j).all fun i => pairs.contains (i, j) || depB ops j i

theorem ok_region {id : Nat} {draw : Bool} (hS : Sound P call) (hC : CxOk P cx) (hT : TOk P T) (Q : Exit → Act → World → Prop) {σ' : St} (h : SR own β w σ a.tmps)
    (hd : ∀ o ∈ ops.toList, ∀ d, o.dst = some d → d < a.tmps.size) (hB : draw = true → drawB ops (cx.free id) = true) (hv : vregion T call cx id ops draw σ = some σ')
    (hQ : ∀ own' β' w' a', Nxt own β w σ a own' β' w' σ' a' → Q .normal a' w') : (Code.region id ops draw).wp P Q a w := by
  obtain ⟨hr, hb⟩ := h.reserve ops
  unfold vregion at hv
  cases draw with
  | true =>
    simp only at hv
    cases hrun : drawRun T call cx ops σ.heap.length ops.toList (reserve ops σ) with
    | none => simp [hrun] at hv
    | some x =>
      obtain ⟨σ1, fps⟩ := x
      simp only [hrun] at hv
      split at hv
      · rename_i hfree
        injection hv with hv; subst hv
        have hB := hB rfl
        simp only [drawB, Bool.and_eq_true, List.all_eq_true, List.mem_range] at hB
        obtain ⟨hlex, hpairs⟩ := hB
        let fr : Nat → Nat := fun k => σ.heap.length + ((ops.toList.take k).filter isFresh).length
        have hfr : ∀ k o, ops[k]? = some o → fr (k + 1) = if isFresh o then fr k + 1 else fr k := fun k o ho => by
          have ho' : ops.toList[k]? = some o := by simpa using ho
          simp only [fr, List.take_add_one, ho', Option.toList_some, List.filter_append, List.length_append]
          cases hf : isFresh o <;> simp [hf, Nat.add_assoc]
        have hl := lex_of_run (T := T) (call := call) (cx := cx) (ops := ops) (R := fun i => (fpAt fps i).1) (W := fun i => (fpAt fps i).2) (σ1 := σ1) hfr ops.toList 0 (reserve ops σ) fps (by simp) (by simpa [fr] using hrun) (fun j _ => by simp)
        have hva := vany_lex (T := T) (call := call) (cx := cx) (fr := fr) (R := fun i => (fpAt fps i).1) (W := fun i => (fpAt fps i).2) (Q := Eqv σ1) (fun τ υ h1 h2 => h2.trans h1) (fun k o ho => by have := backB_get _ 0 hlex k o (by simpa using ho); simpa using this) (fun i j hij hj => by
          have := hpairs j hj i hij
          simp only [Bool.or_eq_true, List.contains_eq_mem, decide_eq_true_eq] at this
          rcases this with hp | hp
          · exact .inr (apart_of (List.all_eq_true.1 hfree (i, j) hp))
          · exact .inl hp) ops.size 0 (Array.replicate ops.size false) (reserve ops σ) (fun j o hj hl => by
            have : (Array.replicate ops.size false).getD j false = false := by
              rcases Nat.lt_or_ge j ops.size with h' | h'
              · simp [h']
              · simp [h']
            rw [this] at hl; cases hl) (fun j hj => by simp [hj]) (by simp) (by simp) (by simpa using hl)
        have hw : SR own β { w with drawn := w.drawn + 1 } (reserve ops σ) a.tmps := hr.world (Nat.le_refl _) (fun _ _ _ => rfl)
        refine wp_region_any hT.mixed (wpAny_of_vany hS hC hT Q (Eqv σ1) _ _ own β _ _ a hw hd hva (fun own' β' w' a' σ2 he hn => hQ own' β' w' a' ?_))
        have hn' := hn.eqv he.symm
        refine ⟨hn'.sr.prune _, ⟨hn'.stay.im, hn'.stay.other, hn'.stay.size, hn'.stay.os, hn'.stay.tape, hn'.stay.output⟩, ?_, hn'.defers, hn'.size⟩
        have := hb.trans hn'.bx
        cases hk : cx.keep id <;> exact this
      · cases hv
  | false =>
    simp only [Option.map_eq_some_iff] at hv
    obtain ⟨σ1, h1, rfl⟩ := hv
    refine wp_region_list (ok_vops hS hC hT Q _ _ own β w _ a σ1 hr hd h1 (fun own' β' w' a' hn => hQ _ _ _ _ ⟨hn.sr.prune _, hn.stay, ?_, hn.defers, hn.size⟩))
    have := hb.trans hn.bx
    cases hk : cx.keep id <;> exact this

end
end Go.Vm
end

section
/- V21: back to so many variables; stretches of code. -/
namespace Go.Vm
open Go

section
variable {P : Program} {own own' : Own} {β : Nat → Nat} {w : World} {σ : St} {a : Act} {k : Nat}

theorem PR.cut (him : ∀ b, own b = .im → own' b = .im) (hb : ∀ id, id < k → own (β id) = .blk id → own' (β id) = .blk id) {v : V} {c : Value} (h : PR own β w v c)
    (ok : ∀ id off, v = .ptr id off → id < k) : PR own' β w v c := by
  cases v <;> simp only [PR] at h ⊢ <;> first
    | exact h.mono fun b hb => ⟨him b hb, rfl⟩
    | exact ⟨h.1, hb _ (ok _ _ rfl) h.2⟩

theorem CR.cut (him : ∀ b, own b = .im → own' b = .im) (hb : ∀ id, id < k → own (β id) = .blk id → own' (β id) = .blk id) {l : Loc} (hl : ∀ b, own b = l → own' b = l)
    {v : V} {c : Value} (h : CR own β w l v c) (ok : okBelow k v = true) : CR own' β w l v c := by
  cases v <;> simp only [CR] at h ⊢ <;> first
    | exact h.mono fun b hb => ⟨him b hb, rfl⟩
    | exact ⟨h.1, hb _ (by simpa [okBelow] using ok) h.2⟩
    | exact EXR.mono h (fun b hb => ⟨him b hb, rfl⟩) (fun b hb => ⟨hl b hb, rfl⟩)
    | (obtain ⟨ca, cb, h1, h2, h3, h4, h5⟩ := h
       simp only [okBelow, List.all_eq_true, List.mem_append] at ok
       refine ⟨ca, cb, h1, h2, h3, fun j v c hv hc => (h4 j v c hv hc).cut him hb fun id off he => ?_, fun j v c hv hc => (h5 j v c hv hc).cut him hb fun id off he => ?_⟩
       · have := ok v (.inl (List.mem_of_getElem? hv)); subst he; simpa using this
       · have := ok v (.inr (List.mem_of_getElem? hv)); subst he; simpa using this)

theorem VR.cut (him : ∀ b, own b = .im → own' b = .im) (hb : ∀ id, id < k → own (β id) = .blk id → own' (β id) = .blk id) {L : Nat → Loc} (hl : ∀ j b, own b = L j → own' b = L j)
    {v : V} {c : Value} (h : VR own β w L v c) (ok : v.cells.all (okBelow k) = true) : VR own' β w L v c := by
  cases v with
  | agg cs =>
    simp only [V.cells, List.all_eq_true] at ok
    obtain ⟨arr, h1, h2, h3⟩ := h
    exact ⟨arr, h1, h2, fun j v c hv hc => (h3 j v c hv hc).cut him hb (hl j) (ok v (List.mem_of_getElem? hv))⟩
  | undef => trivial
  | rptr cs off =>
    obtain ⟨b, o, h1, h2, h3⟩ := h
    refine ⟨b, o, h1, him b h2, fun j v hv => ?_⟩
    obtain ⟨c', h4, h5⟩ := h3 j v hv
    exact ⟨c', h4, h5.mono fun b hb => ⟨him b hb, rfl⟩⟩
  | _ =>
    rw [VR_one rfl] at h ⊢
    exact CR.cut him hb (hl 0) h (by simpa [V.cells] using ok)

theorem TR.cut (him : ∀ b, own b = .im → own' b = .im) (hb : ∀ id, id < k → own (β id) = .blk id → own' (β id) = .blk id) {L : Nat → Nat → Loc} (hl : ∀ i j b, own b = L i j → own' b = L i j)
    {v : V} {c : Value} (h : TR own β w L v c) (ok : okBelowV k v = true) : TR own' β w L v c := by
  cases v with
  | tup vs =>
    simp only [okBelowV, List.all_eq_true] at ok
    obtain ⟨arr, h1, h2, h3⟩ := h
    exact ⟨arr, h1, h2, fun j v c hv hc => (h3 j v c hv hc).cut him hb (hl j) (List.all_eq_true.2 (ok v (List.mem_of_getElem? hv)))⟩
  | _ =>
    rw [TR_one rfl] at h ⊢
    exact VR.cut him hb (hl 0) h ok

def below (n : Nat) (l : Loc) : Loc := match l with | .blk id => if id < n then .blk id else .other | l => l
theorem below_ne {n : Nat} {l : Loc} (h : ∀ id, l ≠ .blk id) : below n l = l := by cases l <;> first | rfl | exact absurd rfl (h _)
theorem below_blk {n id : Nat} {l : Loc} (h : below n l = .blk id) : l = .blk id ∧ id < n := by
  cases l <;> simp only [below] at h <;> try (cases h; done)
  split at h
  · rename_i hlt; injection h with h; subst h; exact ⟨rfl, hlt⟩
  · cases h
theorem below_other {n : Nat} : below n .other = .other := rfl

theorem bcells_take {H : Heap} {n id : Nat} (h : id < n) : bcells (H.take n) id = bcells H id := by
  unfold bcells; rw [List.getElem?_take_of_lt h]
theorem bcells_take_lt {H : Heap} {n id : Nat} {cs : List V} (h : bcells (H.take n) id = some cs) : id < n := by
  have := bcells_lt h; simp at this; omega

theorem HR.cut {H : Heap} (h : HR own β w H) (n : Nat) : HR (fun b => below n (own b)) β w (H.take n) := by
  refine ⟨fun id cs hi => ?_, fun b id hb => ?_, fun b hb => h.lt b fun hn => hb (by simp only [hn, below])⟩
  · have hlt := bcells_take_lt hi
    rw [bcells_take hlt] at hi
    obtain ⟨h1, h2, arr, T, h3, h4, h5⟩ := h.blk id cs hi
    refine ⟨by simp only [h1, below, if_pos hlt], h2, arr, T, h3, h4, fun j v c hv hc => ?_⟩
    exact (h5 j v c hv hc).cut (k := id + 1) (fun b hb => by simp only [hb, below]) (fun i hi hb => by simp only [hb, below]; rw [if_pos (by omega)]) (fun b hb => by simp only [hb, below]) (h2 v (List.mem_of_getElem? hv))
  · obtain ⟨e1, e2⟩ := below_blk hb
    obtain ⟨g1, cs, g2⟩ := h.inv b id e1
    exact ⟨g1, cs, by rw [bcells_take e2]; exact g2⟩

theorem Stay.below (own : Own) (w : World) (n : Nat) : Stay own w (fun b => below n (own b)) w :=
  ⟨fun b hb => ⟨by simp only [hb, Vm.below], rfl⟩, fun b _ hb => ⟨by simp only [hb, Vm.below], rfl⟩, Nat.le_refl _, rfl, rfl, rfl⟩

theorem get_cut (n t : Nat) : get (cut n σ).env t = if okBelowV n (get σ.env t) then get σ.env t else .undef :=
  get_map (fun v => if okBelowV n v then v else .undef) (by simp) t σ.env

theorem SR.cut (h : SR own β w σ a.tmps) (n : Nat) : SR (fun b => below n (own b)) β w (Vm.cut n σ) a.tmps := by
  refine ⟨fun t => ?_, h.heap.cut n⟩
  rw [get_cut]
  split
  · rename_i hok
    have ht := h.env t
    have lk : ∀ p sz m xs, okBelow n (.lent p) = true → look σ p = .ex sz m xs → look (Vm.cut n σ) p = .ex sz m xs := fun p sz m xs ho hl => by
      cases p with
      | slot x =>
        simp only [look] at hl ⊢
        rw [get_cut, hl]; simp [okBelowV, V.cells, okBelow]
      | cell id off =>
        have : id < n := by simpa [okBelow] using ho
        simp only [look, Vm.cut] at hl ⊢
        rw [bcells_take this]; exact hl
    cases hv : get σ.env t with
    | lent p =>
      rw [hv] at ht hok
      obtain ⟨sz, m, xs, q1, q2⟩ := ht
      exact ⟨sz, m, xs, lk p sz m xs (by simpa [okBelowV, V.cells] using hok) q1, q2⟩
    | xptr p i off =>
      rw [hv] at ht hok
      obtain ⟨sz, m, xs, b, len, cap, q1, q2, q3, q4⟩ := ht
      refine ⟨sz, m, xs, b, len, cap, lk p sz m xs ?_ q1, q2, ?_, q4⟩
      · cases p <;> simp [okBelowV, V.cells, okBelow] at hok ⊢; exact hok
      · simp only [q3]; cases p <;> rfl
    | _ =>
      have hw : isWay (get σ.env t) = false := by rw [hv]; rfl
      have := TR.cut (own' := fun b => below n (own b)) (k := n) (fun b hb => by simp only [hb, below]) (fun id hi hb => by simp only [hb, below]; rw [if_pos hi]) (fun i j b hb => by simp only [hb, below]) (ht.to_TR hw) hok
      rw [hv] at this
      exact ER.of_TR this rfl
  · exact ER.undef _ _ _ _ _ _ _

theorem Nxt.cut {o1 : Own} {β1 : Nat → Nat} {w1 : World} {σ1 : St} {a1 : Act} (h : Nxt own β w σ a o1 β1 w1 σ1 a1) (hd : Option (List Nat)) :
    ∃ o2, Nxt own β w σ a o2 β1 w1 (Vm.cut σ.heap.length (Vm.prune hd σ1)) a1 := by
  refine ⟨_, (h.sr.prune hd).cut _, h.stay.trans (Stay.below _ _ _), ?_, h.defers, h.size⟩
  have hh : (Vm.cut σ.heap.length (Vm.prune hd σ1)).heap = σ1.heap.take σ.heap.length := by cases hd <;> rfl
  rw [hh]
  have hlen := h.bx.1
  refine ⟨by simp; omega, fun id cs hi => ?_⟩
  have hlt := bcells_lt hi
  obtain ⟨e, cs', hc⟩ := h.bx.2 id cs hi
  exact ⟨e, cs', by rw [bcells_take hlt]; exact hc⟩

/-- The slots that a stretch of code writes are there. -/
def codeB (n : Nat) (cx : Cx) : Code → Bool
  | .region id ops draw => (ops.toList.all fun o => match o.dst with | some d => d < n | none => true) && (!draw || drawB ops (cx.free id))
  | .seq x y => codeB n cx x && codeB n cx y
  | .cond _ x y => codeB n cx x && codeB n cx y
  | .block _ x => codeB n cx x
  | .loop x => codeB n cx x
  | _ => true

def exitOf : Ex → Exit
  | .normal => .normal
  | .exit id => .exit id
  | .ret => .ret

theorem ok_code {T : Types} {call : CallF} {cx : Cx} (n : Nat) (hS : Sound P call) (hC : CxOk P cx) (hT : TOk P T) : ∀ (c : Code) (own : Own) (β : Nat → Nat) (w : World) (σ : St) (a : Act) (Q : Exit → Act → World → Prop) (ex : Ex) (σ' : St),
    SR own β w σ a.tmps → codeB a.tmps.size cx c = true → vcode T call (fun s => rounds s n) cx c σ = some (ex, σ') →
    (∀ own' β' w' a', Nxt own β w σ a own' β' w' σ' a' → Q (exitOf ex) a' w') → c.wp P Q a w
  | .skip, own, β, w, σ, a, Q, ex, σ', h, hB, hv, hQ => by
    simp only [vcode] at hv; injection hv with hv; injection hv with e1 e2; subst e1; subst e2
    exact wp_skip (hQ _ _ _ _ (Nxt.refl h))
  | .region id ops draw, own, β, w, σ, a, Q, ex, σ', h, hB, hv, hQ => by
    simp only [vcode, Option.map_eq_some_iff] at hv
    obtain ⟨σ1, h1, h2⟩ := hv
    injection h2 with e1 e2; subst e1; subst e2
    simp only [codeB, Bool.and_eq_true, List.all_eq_true, Bool.or_eq_true, Bool.not_eq_true'] at hB
    refine ok_region hS hC hT Q h (fun o ho d hd => ?_) (fun hdr => hB.2.resolve_left (by simp [hdr])) h1 hQ
    have := hB.1 o ho
    simpa [hd] using this
  | .seq x y, own, β, w, σ, a, Q, ex, σ', h, hB, hv, hQ => by
    simp only [codeB, Bool.and_eq_true] at hB
    simp only [vcode] at hv
    refine wp_seq ?_
    split at hv
    · rename_i σ1 h1
      refine ok_code n hS hC hT x own β w σ a _ .normal σ1 h hB.1 h1 (fun own1 β1 w1 a1 hn => ?_)
      exact ok_code n hS hC hT y own1 β1 w1 σ1 a1 Q ex σ' hn.sr (by rw [hn.size]; exact hB.2) hv (fun o2 β2 w2 a2 hn2 => hQ _ _ _ _ (hn.trans hn2))
    · rename_i hne
      refine ok_code n hS hC hT x own β w σ a _ ex σ' h hB.1 hv (fun own1 β1 w1 a1 hn => ?_)
      cases ex with
      | normal => exact absurd hv (hne σ')
      | exit i => exact hQ _ _ _ _ hn
      | ret => exact hQ _ _ _ _ hn
  | .cond c x y, own, β, w, σ, a, Q, ex, σ', h, hB, hv, hQ => by
    simp only [codeB, Bool.and_eq_true] at hB
    simp only [vcode] at hv
    cases hc : opd σ.env c <;> simp only [hc] at hv <;> try (cases hv; done)
    rename_i t
    refine wp_cond (opd_bool h hc) ?_
    cases t
    · exact ok_code n hS hC hT y own β w σ a Q ex σ' h hB.2 (by simpa using hv) hQ
    · exact ok_code n hS hC hT x own β w σ a Q ex σ' h hB.1 (by simpa using hv) hQ
  | .block id x, own, β, w, σ, a, Q, ex, σ', h, hB, hv, hQ => by
    simp only [codeB] at hB
    simp only [vcode] at hv
    refine wp_block ?_
    split at hv
    · rename_i i σ1 h1
      split at hv
      · rename_i hi
        injection hv with hv; injection hv with e1 e2; subst e1; subst e2
        refine ok_code n hS hC hT x own β w σ a _ (.exit i) σ1 h hB h1 (fun o1 β1 w1 a1 hn => ?_)
        simp only [exitOf, Exit.inBlock, hi, if_true]
        exact hQ _ _ _ _ hn
      · rename_i hi
        injection hv with hv; injection hv with e1 e2; subst e1; subst e2
        refine ok_code n hS hC hT x own β w σ a _ (.exit i) σ1 h hB h1 (fun o1 β1 w1 a1 hn => ?_)
        simp only [exitOf, Exit.inBlock, hi, if_false]
        exact hQ _ _ _ _ hn
    · rename_i hne
      refine ok_code n hS hC hT x own β w σ a _ ex σ' h hB hv (fun o1 β1 w1 a1 hn => ?_)
      cases ex with
      | normal => exact hQ _ _ _ _ hn
      | exit i => exact absurd hv (hne i σ')
      | ret => exact hQ _ _ _ _ hn
  | .exit id, own, β, w, σ, a, Q, ex, σ', h, hB, hv, hQ => by
    simp only [vcode] at hv; injection hv with hv; injection hv with e1 e2; subst e1; subst e2
    exact wp_exit (hQ _ _ _ _ (Nxt.refl h))
  | .ret, own, β, w, σ, a, Q, ex, σ', h, hB, hv, hQ => by
    simp only [vcode] at hv; injection hv with hv; injection hv with e1 e2; subst e1; subst e2
    exact wp_ret (hQ _ _ _ _ (Nxt.refl h))
  | .loop b, own, β, w, σ, a, Q, ex, σ', h, hB, hv, hQ => by
    simp only [codeB] at hB
    simp only [vcode] at hv
    have key : ∀ (m : Nat) (own : Own) (β : Nat → Nat) (w : World) (τ : St) (a : Act), SR own β w τ a.tmps → codeB a.tmps.size cx b = true → τ.heap.length = σ.heap.length →
        rounds (fun τ => match vcode T call (fun s => rounds s n) cx b τ with
          | some (.normal, τ') => some (.normal, Vm.cut σ.heap.length (Vm.prune (cx.head (firstRegion b)) τ'))
          | r => r) m τ = some (ex, σ') →
        (∀ own' β' w' a', Nxt own β w τ a own' β' w' σ' a' → Q (exitOf ex) a' w') → Code.rounds P b Q m a w := by
      intro m
      induction m with
      | zero => intro own β w τ a _ _ _ hr; simp [rounds] at hr
      | succ m ih =>
        intro own β w τ a hs hB hlen hr hQ
        rw [rounds_succ]
        simp only [rounds] at hr
        cases hb : vcode T call (fun s => rounds s n) cx b τ with
        | none => simp [hb] at hr
        | some r1 =>
          obtain ⟨ex1, τ1⟩ := r1
          cases ex1 with
          | normal =>
            simp only [hb] at hr
            refine ok_code n hS hC hT b own β w τ a _ .normal τ1 hs hB hb (fun o1 β1 w1 a1 hn => ?_)
            obtain ⟨o2, hn2⟩ := hn.cut (cx.head (firstRegion b))
            rw [hlen] at hn2
            refine ih o2 β1 w1 _ a1 hn2.sr (by rw [hn2.size]; exact hB) ?_ hr (fun o3 β3 w3 a3 hn3 => hQ _ _ _ _ (hn2.trans hn3))
            have : (Vm.prune (cx.head (firstRegion b)) τ1).heap = τ1.heap := by cases cx.head (firstRegion b) <;> rfl
            simp only [Vm.cut, this, List.length_take]
            have := hn.bx.1
            omega
          | exit i =>
            simp only [hb] at hr
            injection hr with hr; injection hr with e1 e2; subst e1; subst e2
            exact ok_code n hS hC hT b own β w τ a _ (.exit i) τ1 hs hB hb (fun o1 β1 w1 a1 hn => hQ _ _ _ _ hn)
          | ret =>
            simp only [hb] at hr
            injection hr with hr; injection hr with e1 e2; subst e1; subst e2
            exact ok_code n hS hC hT b own β w τ a _ .ret τ1 hs hB hb (fun o1 β1 w1 a1 hn => hQ _ _ _ _ hn)
    have hh : (Vm.prune (cx.head (firstRegion b)) σ).heap = σ.heap := by cases cx.head (firstRegion b) <;> rfl
    refine wp_loop_rounds n (key n own β w _ a (h.prune _) hB (by rw [hh]) hv (fun o1 β1 w1 a1 hn => hQ _ _ _ _ ⟨hn.sr, hn.stay, ?_, hn.defers, hn.size⟩))
    have := hn.bx
    rwa [hh] at this
  | .rangeFunc _ _ _ _, _, _, _, _, _, _, _, _, _, _, hv, _ => by simp [vcode] at hv
  | .scope _, _, _, _, _, _, _, _, _, _, _, hv, _ => by simp [vcode] at hv
  | .label _, _, _, _, _, _, _, _, _, _, _, hv, _ => by simp [vcode] at hv
  | .goto _, _, _, _, _, _, _, _, _, _, _, hv, _ => by simp [vcode] at hv
  | .refuse _, _, _, _, _, _, _, _, _, _, _, hv, _ => by simp [vcode] at hv

end
end Go.Vm
end

section
/- V22: functions. -/
namespace Go.Vm
open Go

section
variable {P : Program} {own : Own} {β : Nat → Nat} {w : World} {σ : St} {a : Act}

def slotTo (t i : Nat) (l : Loc) : Loc := match l with | .slot u _ j => if u = t then .res i j else l | l => l
theorem slotTo_reloc (t i : Nat) : Reloc (slotTo t i) := by
  refine ⟨rfl, rfl, fun _ => rfl, fun l id h => ?_, fun l h => ?_⟩
  · cases l <;> simp only [slotTo] at h <;> first | rfl | exact h | (split at h <;> cases h)
  · cases l <;> simp only [slotTo] at h <;> first | rfl | exact h | (split at h <;> cases h)

/-- One result. -/
theorem outAt_ok {T : Types} (hT : TOk P T) (h : SR own β w σ a.tmps) (i : Nat) {r : ResultVar} {v : V} {ps : List (Place × V)} (ho : outAt T σ r = some (v, ps)) :
    ∃ c ρ, Reloc ρ ∧ (∀ m j, ρ (.res m j) = .res m j) ∧ SR (fun b => ρ (own b)) β w (setPlaces σ ps) a.tmps ∧ VR (fun b => ρ (own b)) β w (fun j => .res i j) v c ∧
      BX β β σ.heap (setPlaces σ ps).heap ∧ ∀ g : ResultVar → Sem Value, (∀ t, g (.tmp t) = pure (a.tmps.getD t undef)) → (∀ x t, g (.cell x t) = (asAddr (a.tmps.getD x undef) >>= loadVar t)) → (g r).run P w = .ok c w := by
  cases r with
  | cell x t =>
    simp only [outAt] at ho
    cases hTt : T t <;> simp only [hTt] at ho
    · cases ho
    rename_i ti
    cases hx : get σ.env x <;> simp only [hx] at ho <;> try (cases ho; done)
    rename_i id off
    cases hb : bcells σ.heap id <;> simp only [hb] at ho
    · cases ho
    rename_i cs
    obtain ⟨rw'⟩ := Row.of hT hTt
    obtain ⟨q1, q2⟩ := opd_ptr (x := .tmp x) h (by simpa [opd] using hx)
    have q1' : a.tmps.getD x undef = .pointer (some ⟨β id, off, none⟩) := q1
    have hgo : ∀ c, (loadVar t ⟨β id, off, none⟩).run P w = .ok c w → ∀ g : ResultVar → Sem Value, (∀ t, g (.tmp t) = pure (a.tmps.getD t undef)) → (∀ x t, g (.cell x t) = (asAddr (a.tmps.getD x undef) >>= loadVar t)) → (g (.cell x t)).run P w = .ok c w := by
      intro c hc g _ hg
      rw [hg, q1']
      simpa [asAddr] using hc
    obtain ⟨b1, b2, arr, T0, b3, b4, b5⟩ := h.heap.blk id cs hb
    have hcell : ∀ (j : Nat) (d : V), cs[j]? = some d → ∃ c, w.cell? ⟨β id, j, none⟩ = some c ∧ CR own β w (.cell id j) d c := fun j d hd => by
      have hlt := (List.getElem?_eq_some_iff.1 hd).1
      have ha' : j < arr.size := by omega
      refine ⟨arr[j], ?_, b5 j d _ hd (Array.getElem?_eq_getElem ha')⟩
      rw [cell_of_row w _ _ arr T0 _ b3, Array.getElem?_eq_getElem ha']
    cases ha : asType ti ((cs.drop off).take ti.size) <;> simp only [ha] at ho
    · cases ho
    rename_i v0
    have hl := asType_cells ha
    have hplain : (((cs.drop off).take ti.size).all notEx = true) → v0 = v → ps = [] →
        ∃ c ρ, Reloc ρ ∧ (∀ m j, ρ (.res m j) = .res m j) ∧ SR (fun b => ρ (own b)) β w (setPlaces σ ps) a.tmps ∧ VR (fun b => ρ (own b)) β w (fun j => .res i j) v c ∧
        BX β β σ.heap (setPlaces σ ps).heap ∧ ∀ g : ResultVar → Sem Value, (∀ t, g (.tmp t) = pure (a.tmps.getD t undef)) → (∀ x t, g (.cell x t) = (asAddr (a.tmps.getD x undef) >>= loadVar t)) → (g (.cell x t)).run P w = .ok c w := by
      rintro hall rfl rfl
      have hget : ∀ (j : Nat) (u : Value), (readCells w (β id) off ti.size)[j]? = some u → ∃ d, ((cs.drop off).take ti.size)[j]? = some d ∧ w.cell? ⟨β id, off + j, none⟩ = some u ∧ CR own β w (.res i j) d u := by
        intro j u hu
        obtain ⟨hj, rfl⟩ := readCells_get hu
        have hd : ((cs.drop off).take ti.size)[j]? = some (((cs.drop off).take ti.size)[j]'(by omega)) := List.getElem?_eq_getElem _
        obtain ⟨_, hd'⟩ := take_drop_get hd
        obtain ⟨c, h1, h2⟩ := hcell _ _ hd'
        have hn := List.all_eq_true.1 hall _ (List.mem_of_getElem? hd)
        exact ⟨_, hd, by rw [h1]; rfl, by rw [h1]; exact h2.place (fun sz n xs he => by rw [he] at hn; simp [notEx] at hn)⟩
      have hrun := run_loadVar (P := P) rw' w (β id) off (readCells w (β id) off ti.size) (readCells_length _ _ _ _) (fun j u hu => let ⟨_, _, h1, _⟩ := hget j u hu; h1)
      have hvr := asType_VR (L := fun j => .res i j) rw' ha (readCells_length w (β id) off ti.size) (fun j d c hd hc => by
        obtain ⟨d', h1, h2, h3⟩ := hget j c hc
        rw [hd] at h1; injection h1 with h1; subst h1; exact h3)
      exact ⟨_, fun l => l, reloc_id, fun _ _ => rfl, h, hvr, BX.refl _ _, hgo _ hrun⟩
    have hplain' : ∀ u, v0 = u → (if ((cs.drop off).take ti.size).all notEx then some (v0, ([] : List (Place × V))) else none) = some (v, ps) → ((cs.drop off).take ti.size).all notEx = true ∧ v0 = v ∧ ps = [] := by
      intro u _ hu
      split at hu
      · rename_i hq
        injection hu with hu; injection hu with e1 e2
        exact ⟨hq, e1, e2.symm⟩
      · cases hu
    cases v0 <;> simp only at ho
    case ex sz n xs =>
      injection ho with ho; injection ho with e1 e2; subst e1; subst e2
      have hk : ti.kind.isAgg = false := by
        cases hk : ti.kind.isAgg
        · rfl
        · unfold asType at ha
          rw [if_pos hl, hk] at ha
          simp at ha
      have h1 := rw'.one hk
      have h3 : cs[off]? = some (.ex sz n xs) := by
        unfold asType at ha
        rw [if_pos hl, hk] at ha
        simp only [Bool.false_eq_true, if_false] at ha
        simpa using (take_drop_get ha).2
      have hlook : look σ (.cell id off) = .ex sz n xs := by
        simp only [look, hb]
        rw [List.getD_eq_getElem?_getD, h3]; rfl
      obtain ⟨o1, c, g1, g2, g3, _, rfl⟩ := h.give (.res i 0) (by simp) (by simp) hlook
      have hrun := run_loadVar (P := P) rw' w (β id) off [c] (by simp [h1]) (fun j u hu => by
        cases j with
        | zero => simp at hu; subst hu; exact g1
        | succ j => simp at hu)
      have hm : mkV ti [c] = c := by simp [mkV, hk]
      rw [hm] at hrun
      refine ⟨c, _, locOf_reloc (.cell id off) (by simp) (by simp), fun m j => moved_ne (by simp [locOf]), g3, g2, ?_, hgo _ hrun⟩
      simp only [setPlaces, setPlace, hb]
      refine ⟨by simp, fun i ds hi => ⟨rfl, ?_⟩⟩
      rw [bcells_set (bcells_lt hb)]
      split
      · exact ⟨_, rfl⟩
      · exact ⟨ds, hi⟩
    all_goals
      obtain ⟨k1, k2, k3⟩ := hplain' _ rfl ho
      exact hplain k1 k2 k3
  | tmp t =>
    have hgo : ∀ g : ResultVar → Sem Value, (∀ t, g (.tmp t) = pure (a.tmps.getD t undef)) → (∀ x t, g (.cell x t) = (asAddr (a.tmps.getD x undef) >>= loadVar t)) → (g (.tmp t)).run P w = .ok (a.tmps.getD t undef) w := by
      intro g hg _
      rw [hg]; simp
    simp only [outAt] at ho
    have slotCase : ∀ v', get σ.env t = v' → isWay v' = false → (∀ vs, v' ≠ .tup vs) → v = v' → ps = [(.slot t, .undef)] →
        ∃ ρ, Reloc ρ ∧ (∀ m j, ρ (.res m j) = .res m j) ∧ SR (fun b => ρ (own b)) β w (setPlaces σ ps) a.tmps ∧ VR (fun b => ρ (own b)) β w (fun j => .res i j) v (a.tmps.getD t undef) ∧ BX β β σ.heap (setPlaces σ ps).heap := by
      rintro v' hv hw ht rfl rfl
      have hr := slotTo_reloc t i
      refine ⟨slotTo t i, hr, fun _ _ => rfl, h.slot hr (fun u i j hu => by simp [slotTo, hu]) (fun _ _ => rfl) rfl (by simp only [TR, VR]), ?_, BX.refl _ _⟩
      have hE := h.env t
      rw [hv] at hE
      have hT := hE.to_TR hw
      have ho : oneT v = true := by cases v <;> first | rfl | exact absurd rfl (ht _)
      rw [TR_one ho] at hT
      have := hT.reloc hr
      simpa [slotTo] using this
    have slotCase' : ∀ v', get σ.env t = v' → isWay v' = false → (∀ vs, v' ≠ .tup vs) → v = v' → ps = [(.slot t, .undef)] →
        ∃ c ρ, Reloc ρ ∧ (∀ m j, ρ (.res m j) = .res m j) ∧ SR (fun b => ρ (own b)) β w (setPlaces σ ps) a.tmps ∧ VR (fun b => ρ (own b)) β w (fun j => .res i j) v c ∧ BX β β σ.heap (setPlaces σ ps).heap ∧
        ∀ g : ResultVar → Sem Value, (∀ t, g (.tmp t) = pure (a.tmps.getD t undef)) → (∀ x t, g (.cell x t) = (asAddr (a.tmps.getD x undef) >>= loadVar t)) → (g (.tmp t)).run P w = .ok c w := by
      intro v' h1 h2 h3 h4 h5
      obtain ⟨ρ, k1, k2, k3, k4, k5⟩ := slotCase v' h1 h2 h3 h4 h5
      exact ⟨_, ρ, k1, k2, k3, k4, k5, hgo⟩
    cases hv : get σ.env t <;> simp only [hv] at ho
    case lent p =>
      have hE := h.env t
      rw [hv] at hE
      obtain ⟨sz, n, xs, q1, q2⟩ := hE
      simp only [q1] at ho
      injection ho with ho; injection ho with e1 e2; subst e1; subst e2
      obtain ⟨o1, c, g1, g2, g3, _, rfl⟩ := h.give (.res i 0) (by simp) (by simp) q1
      rw [q2] at g1; injection g1 with g1; subst g1
      refine ⟨_, _, locOf_reloc p (by simp) (by simp), fun m j => moved_ne (by cases p <;> simp [locOf]), g3, g2, ?_, hgo⟩
      simp only [setPlaces]
      cases p with
      | slot t => exact BX.refl _ _
      | cell id off =>
        obtain ⟨cs, hc, _⟩ := Place.cases_look q1
        simp only [setPlace, hc]
        refine ⟨by simp, fun i ds hi => ⟨rfl, ?_⟩⟩
        rw [bcells_set (bcells_lt hc)]
        split
        · exact ⟨_, rfl⟩
        · exact ⟨ds, hi⟩
    case xptr => cases ho
    case tup => cases ho
    all_goals
      injection ho with ho; injection ho with e1 e2
      exact slotCase' _ hv rfl (fun _ => by simp) e1.symm e2.symm

/-- All of them. -/
theorem outs_ok {T : Types} (hT : TOk P T) : ∀ (rs : List ResultVar) (i : Nat) (own : Own) (σ : St) (vs : List V) (σ' : St), SR own β w σ a.tmps → outs T rs σ = some (vs, σ') →
    ∃ (cs : List Value) (ρ : Loc → Loc), Reloc ρ ∧ (∀ m j, ρ (.res m j) = .res m j) ∧ SR (fun b => ρ (own b)) β w σ' a.tmps ∧ BX β β σ.heap σ'.heap ∧ cs.length = vs.length ∧
      (∀ (j : Nat) (v : V) (c : Value), vs[j]? = some v → cs[j]? = some c → VR (fun b => ρ (own b)) β w (fun k => .res (i + j) k) v c) ∧
      ∀ (g : ResultVar → Sem Value), (∀ t, g (.tmp t) = pure (a.tmps.getD t undef)) → (∀ x t, g (.cell x t) = (asAddr (a.tmps.getD x undef) >>= loadVar t)) → (rs.mapM g).run P w = .ok cs w
  | [], i, own, σ, vs, σ', h, ho => by
    simp only [outs] at ho; injection ho with ho; injection ho with e1 e2; subst e1; subst e2
    exact ⟨[], id, reloc_id, fun _ _ => rfl, h, BX.refl _ _, rfl, by simp, fun _ _ _ => by simp⟩
  | r :: rs, i, own, σ, vs, σ', h, ho => by
    simp only [outs] at ho
    split at ho
    · rename_i v ps h1
      rw [Option.map_eq_some_iff] at ho
      obtain ⟨⟨us, σ2⟩, h2, h3⟩ := ho
      injection h3 with e1 e2; subst e1; subst e2
      obtain ⟨c0, ρ, hr, hres, g1, g2, g3, g4⟩ := outAt_ok hT h i h1
      obtain ⟨cs, ρ', hr', hres', k1, k2, k3, k4, k5⟩ := outs_ok hT rs (i + 1) _ _ _ _ g1 h2
      refine ⟨c0 :: cs, fun l => ρ' (ρ l), ⟨by rw [hr.im, hr'.im], by rw [hr.other, hr'.other], fun id => by rw [hr.blk, hr'.blk], fun l id hl => hr.noblk _ _ (hr'.noblk _ _ hl), fun l hl => hr.noother _ (hr'.noother _ hl)⟩,
        fun m j => by simp only [hres, hres'], k1, g3.trans k2, by simp [k3], fun j v c hv hc => ?_, fun g hg hg' => ?_⟩
      · cases j with
        | zero =>
          simp at hv hc
          subst hv; subst hc
          have := g2.reloc hr'
          simpa [hres'] using this
        | succ j =>
          have := k4 j v c (by simpa using hv) (by simpa using hc)
          simpa [Nat.add_assoc, Nat.add_comm 1 j] using this
      · simp only [List.mapM_cons, Sem.run_bind, g4 g hg hg', Result.andThen_ok, k5 g hg hg', Sem.run_pure]
    · cases ho

theorem get_zip : ∀ (vs : List V) (k t : Nat), get ((vs.zipIdx k).map fun x => (x.2, x.1)) t = if k ≤ t then (vs[t - k]?).getD .undef else .undef
  | [], k, t => by simp [get]
  | v :: vs, k, t => by
    simp only [List.zipIdx_cons, List.map_cons, get]
    by_cases h : k = t
    · subst h; simp
    · rw [if_neg h, get_zip vs (k + 1) t]
      by_cases hk : k ≤ t
      · rw [if_pos (by omega), if_pos hk, show t - k = (t - (k + 1)) + 1 by omega]; simp
      · rw [if_neg (by omega), if_neg hk]

theorem codeB_mono {n m : Nat} {cx : Cx} (h : n ≤ m) : ∀ (c : Code), codeB n cx c = true → codeB m cx c = true
  | .skip, _ => rfl
  | .region id ops draw, hc => by
    simp only [codeB, Bool.and_eq_true, List.all_eq_true] at hc ⊢
    refine ⟨fun o ho => ?_, hc.2⟩
    have := hc.1 o ho
    cases hd : o.dst with
    | none => rfl
    | some d =>
      simp only [hd, decide_eq_true_eq] at this ⊢
      exact Nat.lt_of_lt_of_le this h
  | .seq x y, hc => by simp only [codeB, Bool.and_eq_true] at hc ⊢; exact ⟨codeB_mono h x hc.1, codeB_mono h y hc.2⟩
  | .cond c x y, hc => by simp only [codeB, Bool.and_eq_true] at hc ⊢; exact ⟨codeB_mono h x hc.1, codeB_mono h y hc.2⟩
  | .block id x, hc => by simp only [codeB] at hc ⊢; exact codeB_mono h x hc
  | .loop x, hc => by simp only [codeB] at hc ⊢; exact codeB_mono h x hc
  | .rangeFunc _ _ _ _, _ => rfl
  | .exit _, _ => rfl
  | .scope _, _ => rfl
  | .label _, _ => rfl
  | .goto _, _ => rfl
  | .ret, _ => rfl
  | .refuse _, _ => rfl

/-- V's table of functions is the program's. -/
def FnsOk (P : Program) (F : Fns) : Prop := ∀ f fi, F f = some fi → ∃ fn, P.funcs[f]? = some fn ∧ fn.body = some fi.body ∧ fn.results.toList = fi.results ∧ fn.name ≠ "runtime.NumGoroutine" ∧ codeB fn.ntmps fi.cx fi.body = true ∧ CxOk P fi.cx

def dropSlots (l : Loc) : Loc := match l with | .slot _ _ _ => .other | l => l

theorem ok_leave {T : Types} (hT : TOk P T) {rs : List ResultVar} {fn : Func} (hrs : fn.results.toList = rs) {σ : St} {n : Nat} {r : V} {H' : Heap} (h : SR own β w σ a.tmps) (hn : n ≤ σ.heap.length) (hl : leave T rs n σ = some (r, H')) :
    ∃ c own', (results fn a.tmps).run P w = .ok c w ∧ TR own' β w (fun i j => .res i j) r c ∧ HR own' β w H' ∧ Stay own w own' w ∧ (∀ b i j k, own' b ≠ .slot i j k) ∧
      n ≤ H'.length ∧ ∀ id, id < n → (∃ cs, bcells σ.heap id = some cs) → ∃ cs, bcells H' id = some cs := by
  unfold leave at hl
  split at hl
  · rename_i vs σ' ho
    injection hl with hl; injection hl with e1 e2
    subst e1
    obtain ⟨cs, ρ, hr, hres, k1, k2, k3, k4, k5⟩ := outs_ok (P := P) (β := β) (w := w) hT rs 0 own σ vs σ' h ho
    have hrun : (results fn a.tmps).run P w = .ok (if h : cs.toArray.size = 1 then cs.toArray[0] else .tuple cs.toArray) w := by
      unfold results
      rw [Array.mapM_eq_mapM_toList, hrs]
      have hk := k5 (fun r => match r with | .tmp t => pure (a.tmps.getD t undef) | .cell x t => do loadVar t (← asAddr (a.tmps.getD x undef))) (fun t => rfl) (fun x t => rfl)
      simp only [Sem.run_bind, Sem.run_map]
      erw [hk]
      rfl
    have hTR : TR (fun b => ρ (own b)) β w (fun i j => .res i j) (asResult vs) (if h : cs.toArray.size = 1 then cs.toArray[0] else .tuple cs.toArray) := by
      match vs, cs, k3, k4 with
      | [v], [c], _, k4 =>
        simp only [asResult, List.size_toArray, List.length_cons, List.length_nil, Nat.zero_add, dite_true]
        exact (k4 0 v c rfl rfl).to_TR rfl
      | [], [], _, _ => exact ⟨#[], by simp, rfl, by simp⟩
      | v :: v' :: vs, c :: c' :: cs, k3, k4 =>
        refine ⟨(c :: c' :: cs).toArray, by simp, by simpa using k3, fun i v c hv hc => ?_⟩
        have := k4 i v c hv (by simpa using hc)
        simpa using this
    have k6 := k2.1
    -- what is behind is dropped
    have drop : ∀ (o1 : Own) (H1 : Heap), HR o1 β w H1 → TR o1 β w (fun i j => .res i j) (asResult vs) (if h : cs.toArray.size = 1 then cs.toArray[0] else .tuple cs.toArray) → Stay own w o1 w →
        HR (fun b => dropSlots (o1 b)) β w H1 ∧ TR (fun b => dropSlots (o1 b)) β w (fun i j => .res i j) (asResult vs) (if h : cs.toArray.size = 1 then cs.toArray[0] else .tuple cs.toArray) ∧
          Stay own w (fun b => dropSlots (o1 b)) w ∧ ∀ b i j k, (fun b => dropSlots (o1 b)) b ≠ .slot i j k := by
      intro o1 H1 g1 g2 g3
      refine ⟨⟨fun id cs hi => ?_, fun b id hb => ?_, fun b hb => g1.lt b fun hq => hb (by simp only [hq, dropSlots])⟩, ?_, ⟨fun b hb => ?_, fun b hlt hb => ?_, Nat.le_refl _, rfl, rfl, rfl⟩, fun b i j k hq => ?_⟩
      · exact (g1.blk id cs hi).mono (fun b hb => ⟨by simp only [hb, dropSlots], rfl⟩) (fun id hb => ⟨by simp only [hb, dropSlots], rfl⟩) (fun j b hb => ⟨by simp only [hb, dropSlots], rfl⟩) rfl
      · refine g1.inv b id ?_
        simp only [dropSlots] at hb
        split at hb
        · cases hb
        · exact hb
      · exact g2.mono (fun b hb => ⟨by simp only [hb, dropSlots], rfl⟩) (fun id hb => ⟨by simp only [hb, dropSlots], rfl⟩) (fun i j b hb => ⟨by simp only [hb, dropSlots], rfl⟩)
      · obtain ⟨q1, q2⟩ := g3.im b hb
        exact ⟨by simp only [q1, dropSlots], q2⟩
      · obtain ⟨q1, q2⟩ := g3.other b hlt hb
        exact ⟨by simp only [q1, dropSlots], q2⟩
      · simp only [dropSlots] at hq
        split at hq
        · cases hq
        · rename_i hne; exact hne i j k hq
    have hst := Stay.reloc (own := own) (w := w) hr
    by_cases hok : okBelowV n (asResult vs) = true
    · rw [if_pos hok] at e2; subst e2
      have t1 := TR.cut (own' := fun b => below n (ρ (own b))) (k := n) (fun b hb => by simp only [hb, below]) (fun id hi hb => by simp only [hb, below]; rw [if_pos hi]) (fun i j b hb => by simp only [hb, below]) hTR hok
      obtain ⟨d1, d2, d3, d4⟩ := drop _ _ (k1.heap.cut n) t1 (hst.trans (Stay.below _ _ _))
      refine ⟨_, _, hrun, d2, d1, d3, d4, by simp; omega, fun id hid hc => ?_⟩
      obtain ⟨cs0, hc⟩ := hc
      obtain ⟨_, cs', hc'⟩ := k2.2 id cs0 hc
      exact ⟨cs', by rw [bcells_take hid]; exact hc'⟩
    · rw [if_neg hok] at e2; subst e2
      obtain ⟨d1, d2, d3, d4⟩ := drop _ _ k1.heap hTR hst
      refine ⟨_, _, hrun, d2, d1, d3, d4, by omega, fun id hid hc => ?_⟩
      obtain ⟨cs0, hc⟩ := hc
      exact ⟨_, (k2.2 id cs0 hc).2.choose_spec⟩
  · cases hl

theorem ok_fun {T : Types} {F : Fns} {call : CallF} (n : Nat) (hS : Sound P call) (hT : TOk P T) (hF : FnsOk P F) : Sound P (vfun T F call (fun s => rounds s n)) := by
  intro f vs H r H' hv
  unfold vfun at hv
  cases hf : F f <;> simp only [hf] at hv
  · cases hv
  rename_i fi
  obtain ⟨fn, q1, q2, q3, q4, q5, q6⟩ := hF f fi hf
  refine ⟨⟨fn, q1, q4, by rw [q2]; rfl⟩, fun own β w cs hh ha hns => ?_⟩
  have hc : ∃ ex σ1, vcode T call (fun s => rounds s n) fi.cx fi.body (enter vs H) = some (ex, σ1) ∧ (ex = .normal ∨ ex = .ret) ∧ leave T fi.results H.length σ1 = some (r, H') := by
    cases hc : vcode T call (fun s => rounds s n) fi.cx fi.body (enter vs H) with
    | none => simp [hc] at hv
    | some x =>
      obtain ⟨ex, σ1⟩ := x
      cases ex with
      | exit i => simp [hc] at hv
      | normal => exact ⟨_, _, rfl, .inl rfl, by simpa [hc] using hv⟩
      | ret => exact ⟨_, _, rfl, .inr rfl, by simpa [hc] using hv⟩
  obtain ⟨ex, σ1, hc1, hex, hl⟩ := hc
  refine calls_of_wp q1 q2 ?_
  have hsr : SR own β w (enter vs H) (cs.toArray ++ Array.replicate (fn.ntmps - cs.toArray.size) undef) := by
    refine ⟨fun t => ?_, hh⟩
    have hg : get (enter vs H).env t = (vs[t]?).getD .undef := by
      have := get_zip vs 0 t
      simpa [enter] using this
    rw [hg]
    cases hvt : vs[t]? with
    | none => exact ER.undef _ _ _ _ _ _ _
    | some v =>
      have hlt : t < cs.length := by rw [ha.1]; exact (List.getElem?_eq_some_iff.1 hvt).1
      obtain ⟨g1, g2⟩ := ha.2 t v cs[t] hvt (List.getElem?_eq_getElem hlt)
      have he : (cs.toArray ++ Array.replicate (fn.ntmps - cs.toArray.size) undef).getD t undef = cs[t] := by
        rw [Array.getD_eq_getD_getElem?, Array.getElem?_append_left (by simpa using hlt)]
        simp [hlt]
      rw [he]
      exact ER.of_TR (TR_of_VR g1 g2) g1.notWay.1
  refine ok_code n hS q6 hT fi.body own β w (enter vs H) { tmps := cs.toArray ++ Array.replicate (fn.ntmps - cs.toArray.size) undef, defers := [] } _ ex σ1 hsr (codeB_mono (by simp; omega) _ q5) hc1 (fun o1 β1 w1 a1 hn => ?_)
  have hlen : H.length ≤ σ1.heap.length := hn.bx.1
  obtain ⟨c, o2, r1, r2, r3, r4, r5, r6, r7⟩ := ok_leave (P := P) hT q3 hn.sr hlen hl
  have hd : a1.defers = [] := hn.defers
  have hfin : a1.defers = [] ∧ ∃ v, (results fn a1.tmps).run P w1 = .ok v w1 ∧ Ret own β w H r H' (.returned v) w1 := by
    refine ⟨hd, c, r1, c, o2, β1, rfl, r2, r3, hn.stay.trans r4, ⟨r6, fun id cs hi => ?_⟩, r5⟩
    obtain ⟨e, hc⟩ := hn.bx.2 id cs hi
    exact ⟨e, r7 id (bcells_lt hi) hc⟩
  rcases hex with rfl | rfl <;> exact hfin

/-- **V is right**: to whatever depth and to however many rounds. -/
theorem sound {T : Types} {F : Fns} (hT : TOk P T) (hF : FnsOk P F) : ∀ n, Sound P (vcall T F n)
  | 0 => fun f vs H r H' h => by simp [vcall] at h
  | n + 1 => ok_fun n (sound hT hF n) hT hF

end
end Go.Vm
end

section
/- V23: the tables' checks; arguments as they are read. -/
namespace Go.Vm
open Go

theorem TOk.of_all {P : Program} {T : Types} (N : Nat) (h : ((List.range N).all fun t => match T t with | some i => rowB P t i | none => true) = true) (h2 : ∀ t, N ≤ t → T t = none) (hm : P.follows .mixedOrders = true) : TOk P T := by
  refine ⟨fun t i ht => ?_, hm⟩
  rcases Nat.lt_or_ge t N with hlt | hge
  · have := List.all_eq_true.1 h t (List.mem_range.2 hlt)
    simpa [ht] using this
  · rw [h2 t hge] at ht; cases ht

def FnOk (P : Program) (f : FuncId) (fi : FI) : Prop := ∃ fn, P.funcs[f]? = some fn ∧ fn.body = some fi.body ∧ fn.results.toList = fi.results ∧ (fn.name == "runtime.NumGoroutine") = false ∧ codeB fn.ntmps fi.cx fi.body = true ∧ CxOk P fi.cx
theorem CxOk.nil {P : Program} {cx : Cx} (h : cx.told = []) : CxOk P cx := fun x hx => by rw [h] at hx; cases hx
def FnOks (P : Program) : Nat → List (Option FI) → Prop
  | _, [] => True
  | k, x :: xs => (∀ fi, x = some fi → FnOk P k fi) ∧ FnOks P (k + 1) xs
def fnsOf (l : List (Option FI)) : Fns := fun f => match l[f]? with
  | some x => x
  | none => none
theorem FnOks.get {P : Program} : ∀ {l : List (Option FI)} {k : Nat}, FnOks P k l → ∀ f fi, l[f]? = some (some fi) → FnOk P (k + f) fi
  | [], _, _, f, fi, h => by simp at h
  | x :: xs, k, hl, f, fi, h => by
    cases f with
    | zero => simp at h; exact hl.1 fi h
    | succ f =>
      have := FnOks.get hl.2 f fi (by simpa using h)
      rw [show k + (f + 1) = k + 1 + f by omega]; exact this
theorem FnsOk.of_list {P : Program} {l : List (Option FI)} (h : FnOks P 0 l) : FnsOk P (fnsOf l) := by
  intro f fi hf
  unfold fnsOf at hf
  cases hl : l[f]? with
  | none => simp [hl] at hf
  | some x =>
    simp only [hl] at hf; subst hf
    obtain ⟨fn, h1, h2, h3, h4, h5, h6⟩ := FnOks.get h f fi hl
    rw [Nat.zero_add] at h1
    exact ⟨fn, h1, h2, h3, by simpa using h4, h5, h6⟩

end Go.Vm
end

section
/- V24: arguments as they are read are V's. -/
namespace Go.Vm
open Go

/-- Cells that a value of a type may have (data alone: no pointer, no interface, no map). -/
def HasC (T : Types) : Nat → TypeId → List V → Prop
  | 0, _, _ => False
  | m + 1, t, vs => match T t with
    | none => False
    | some i => match i.kind with
      | .bool => ∃ b, vs = [.bool b]
      | .int k => ∃ n, vs = [.int k n] ∧ (Lit.int k n).wf = true
      | .str => ∃ s : ByteArray, vs = [.str s] ∧ s.size ≤ maxLen
      | .slice e => ∃ b xs, vs = [.sl b xs] ∧ (b = true → xs = []) ∧ xs.length ≤ maxLen ∧ ∀ x ∈ xs, ∃ ei, T e = some ei ∧ asType ei x.cells = some x ∧ HasC T m e x.cells
      | .array n e => vs.length = i.size ∧ ∀ j, j < n → ∃ ei, T e = some ei ∧ HasC T m e ((vs.drop (j * ei.size)).take ei.size)
      | .struct fs => vs.length = i.size ∧ ∀ f ∈ fs, ∃ fi, T f.2 = some fi ∧ HasC T m f.2 ((vs.drop f.1).take fi.size)
      | _ => False

def HasV (T : Types) (m : Nat) (t : TypeId) (v : V) : Prop := ∃ i, T t = some i ∧ asType i v.cells = some v ∧ HasC T m t v.cells

/-- Fields that lie one behind the other and fill the struct. -/
def packed (T : Types) : Nat → List (Nat × Nat) → Option Nat
  | o, [] => some o
  | o, f :: fs => match T f.2 with
    | some i => if f.1 = o ∧ 0 < i.size then packed T (o + i.size) fs else none
    | none => none

/-- Types of data, and nothing else. -/
def pureT (T : Types) : Nat → TypeId → Bool
  | 0, _ => false
  | m + 1, t => match T t with
    | none => false
    | some i => match i.kind with
      | .bool => true
      | .int _ => true
      | .str => true
      | .slice e => (match T e with | some ei => decide (0 < ei.size) | none => false) && pureT T m e
      | .array n e => (match T e with | some ei => decide (0 < ei.size ∧ n * ei.size = i.size) | none => false) && pureT T m e
      | .struct fs => decide (packed T 0 fs = some i.size) && fs.all (fun f => pureT T m f.2)
      | _ => false

section
variable {P : Program} {T : Types} {own : Own} {w : World} {H : Type} {enc : TypeId × Value → H} {base : Nat} {spare : Nat → Bool} {held : Bool}

/-- Cells put together from parts. -/
def Parts (own : Own) (w : World) (cs : List Value) (vs : List V) : Prop := vs.length = cs.length ∧ ∀ (j : Nat) (v : V) (c : Value), vs[j]? = some v → cs[j]? = some c → FR own w v c

theorem Parts.append {cs cs' : List Value} {vs vs' : List V} (h : Parts own w cs vs) (h' : Parts own w cs' vs') : Parts own w (cs ++ cs') (vs ++ vs') := by
  refine ⟨by simp [h.1, h'.1], fun j v c hv hc => ?_⟩
  rw [List.getElem?_append] at hv hc
  rw [h.1] at hv
  split at hv
  · rename_i hlt; rw [if_pos hlt] at hc; exact h.2 _ _ _ hv hc
  · rename_i hlt; rw [if_neg hlt] at hc; exact h'.2 _ _ _ hv hc

theorem read_fields {m : Nat} (cs : List Value) (ih : ∀ (t : TypeId) (cs : List Value), (∃ k x, DataW.trod enc P w base spare held k t cs = some x) → pureT T m t = true → ∃ vs, Parts own w cs vs ∧ HasC T m t vs) (hT : TOk P T) :
    ∀ (fs : List (Nat × Nat)) (fds : List Field) (o : Nat) (n : Nat), fieldsB fds fs = true → packed T o fs = some n → n ≤ cs.length → fs.all (fun f => pureT T m f.2) = true →
      (∀ fd ∈ fds, ∃ k x, DataW.trod enc P w base spare held k fd.type ((cs.drop fd.offset).take (P.cellsOf fd.type)) = some x) →
      ∃ vs, Parts own w ((cs.drop o).take (n - o)) vs ∧ o ≤ n ∧ ∀ f ∈ fs, ∃ fi, T f.2 = some fi ∧ o ≤ f.1 ∧ f.1 + fi.size ≤ n ∧ HasC T m f.2 ((vs.drop (f.1 - o)).take fi.size)
  | [], fds, o, n, _, hp, hn, _, _ => by
    simp only [packed] at hp; injection hp with hp; subst hp
    exact ⟨[], ⟨by simp, by simp⟩, Nat.le_refl _, by simp⟩
  | f :: fs, [], o, n, hb, _, _, _, _ => by simp [fieldsB] at hb
  | (fo, ft) :: fs, fd :: fds, o, n, hb, hp, hn, hpure, hread => by
    simp only [fieldsB, Bool.and_eq_true, beq_iff_eq] at hb
    obtain ⟨⟨hb1, hb2⟩, hb3⟩ := hb
    simp only [packed] at hp
    cases hft : T ft with
    | none => simp [hft] at hp
    | some fi =>
      simp only [hft] at hp
      split at hp
      · rename_i hc
        obtain ⟨h1, h2⟩ := hc
        subst h1
        simp only [List.all_cons, Bool.and_eq_true] at hpure
        obtain ⟨vs', p1, p2, p3⟩ := read_fields cs ih hT fs fds (fo + fi.size) n hb3 hp hn hpure.2 (fun fd hfd => hread fd (by simp [hfd]))
        obtain ⟨r⟩ := Row.of hT hft
        have hsz : P.cellsOf fd.type = fi.size := by rw [hb2]; simp [Program.cellsOf, r.hinfo, r.hsize]
        have hrd := hread fd (by simp)
        rw [hsz, hb1, hb2] at hrd
        obtain ⟨vs1, q1, q2⟩ := ih ft _ hrd hpure.1
        have hlen : vs1.length = fi.size := by rw [q1.1]; simp; omega
        refine ⟨vs1 ++ vs', ?_, by omega, ?_⟩
        · have : (cs.drop fo).take (n - fo) = (cs.drop fo).take fi.size ++ (cs.drop (fo + fi.size)).take (n - (fo + fi.size)) := by
            rw [show n - fo = fi.size + (n - (fo + fi.size)) by omega, List.take_add, List.drop_drop]
          rw [this]
          exact q1.append p1
        · intro g hg
          rcases List.mem_cons.1 hg with rfl | hg
          · refine ⟨fi, hft, Nat.le_refl _, p2, ?_⟩
            simp only [Nat.sub_self, List.drop_zero]
            rw [List.take_append_of_le_length (by omega), List.take_of_length_le (by omega)]
            exact q2
          · obtain ⟨gi, g1, g2, g3, g4⟩ := p3 g hg
            refine ⟨gi, g1, by omega, g3, ?_⟩
            rw [List.drop_append, List.drop_eq_nil_of_le (by omega), List.nil_append, hlen, show g.1 - fo - fi.size = g.1 - (fo + fi.size) by omega]
            exact g4
      · cases hp

theorem read_elems {m : Nat} (cs : List Value) {e : TypeId} {sz : Nat}
    (ih : ∀ (cs : List Value), (∃ k x, DataW.trod enc P w base spare held k e cs = some x) → ∃ vs, Parts own w cs vs ∧ HasC T m e vs) :
    ∀ (n : Nat), n * sz ≤ cs.length → (∀ i, i < n → ∃ k x, DataW.trod enc P w base spare held k e ((cs.drop (i * sz)).take sz) = some x) →
      ∃ vs, Parts own w (cs.take (n * sz)) vs ∧ ∀ j, j < n → HasC T m e ((vs.drop (j * sz)).take sz)
  | 0, _, _ => ⟨[], ⟨by simp, by simp⟩, by simp⟩
  | n + 1, hn, hread => by
    rw [Nat.succ_mul] at hn
    obtain ⟨vs, p1, p2⟩ := read_elems cs ih n (by omega) (fun i hi => hread i (by omega))
    obtain ⟨vs1, q1, q2⟩ := ih _ (hread n (by omega))
    have hlen : vs.length = n * sz := by rw [p1.1]; simp; omega
    have hlen1 : vs1.length = sz := by rw [q1.1]; simp; omega
    refine ⟨vs ++ vs1, ?_, fun j hj => ?_⟩
    · rw [Nat.succ_mul, List.take_add]
      exact p1.append q1
    · by_cases hjn : j = n
      · subst hjn
        rw [List.drop_append, List.drop_eq_nil_of_le (by omega), List.nil_append, hlen, Nat.sub_self, List.drop_zero, List.take_of_length_le (by omega)]
        exact q2
      · have hle : (j + 1) * sz ≤ n * sz := Nat.mul_le_mul_right _ (by omega)
        rw [Nat.succ_mul] at hle
        rw [List.drop_append_of_le_length (by omega), List.take_append_of_le_length (by simp; omega)]
        exact p2 j (by omega)

theorem list_of {p : Nat → V → Prop} : ∀ (n : Nat), (∀ i, i < n → ∃ x, p i x) → ∃ xs : List V, xs.length = n ∧ ∀ (i : Nat) (x : V), xs[i]? = some x → p i x
  | 0, _ => ⟨[], rfl, by simp⟩
  | n + 1, h => by
    obtain ⟨xs, h1, h2⟩ := list_of n (fun i hi => h i (by omega))
    obtain ⟨x, hx⟩ := h n (by omega)
    refine ⟨xs ++ [x], by simp [h1], fun i y hy => ?_⟩
    rw [List.getElem?_append] at hy
    split at hy
    · exact h2 i y hy
    · have hi : i = n := by
        have := (List.getElem?_eq_some_iff.1 hy).1
        simp at this; omega
      subst hi
      rw [h1] at hy; simp at hy; subst hy; exact hx

theorem mapM_each {α β : Type} {f : α → Option β} : ∀ {l : List α} {r : List β}, l.mapM f = some r → ∀ x ∈ l, ∃ y, f x = some y := by
  intro l r h x hx
  obtain ⟨i, hi⟩ := List.getElem?_of_mem hx
  have h1 := mapM_some_get h i x hi
  have h2 := mapM_some_length h
  have h3 := (List.getElem?_eq_some_iff.1 hi).1
  exact ⟨r[i]'(by omega), by rw [h1, List.getElem?_eq_getElem]⟩

theorem Row.cellsOf {t : Nat} {i : TI} (r : Row P t i) : P.cellsOf t = i.size := by simp [Program.cellsOf, r.hinfo, r.hsize]

theorem one_cell {m : Nat} {t : TypeId} {i : TI} {y : V} (hi : T t = some i) (hk : i.kind.isAgg = false) (h : HasC T m t [y]) : y.cells = [y] := by
  cases m with
  | zero => exact h.elim
  | succ m =>
    simp only [HasC, hi] at h
    cases hkk : i.kind <;> simp only [hkk] at h <;> first
      | (obtain ⟨_, h⟩ := h; simp at h; first | (subst h; rfl) | (obtain ⟨rfl, _⟩ := h; rfl))
      | (obtain ⟨_, _, h, _⟩ := h; simp at h; subst h; rfl)
      | exact h.elim
      | (rw [hkk] at hk; simp [TK.isAgg] at hk)

theorem asType_of {m : Nat} {t : TypeId} {i : TI} {cs : List V} (r : Row P t i) (hi : T t = some i) (hl : cs.length = i.size) (h : HasC T m t cs) : ∃ x, asType i x.cells = some x ∧ x.cells = cs := by
  unfold asType
  cases hk : i.kind.isAgg
  · have := r.one hk
    match cs, hl, h with
    | [y], _, h =>
      have hc := one_cell hi hk h
      exact ⟨y, by rw [hc]; simp [this], hc⟩
    | [], hl, _ => simp at hl; omega
    | _ :: _ :: _, hl, _ => simp at hl; omega
  · exact ⟨.agg cs, by simp [V.cells, hl], rfl⟩

theorem Parts.one {v : V} {c : Value} (h : FR own w v c) : Parts own w [c] [v] :=
  ⟨rfl, fun j v' c' hv hc => by
    cases j with
    | zero => simp at hv hc; subst hv; subst hc; exact h
    | succ j => simp at hv⟩

theorem Addr.spot_none {a : Addr} {v : Value} (h : w.cell? a = some v) : a = ⟨a.block, a.off, none⟩ := by
  unfold World.cell? at h
  split at h
  · split at h
    · cases h
    · rename_i hs
      obtain ⟨b, o, s⟩ := a
      cases s with
      | none => rfl
      | some s => simp at hs
  · cases h

theorem read_ok (hT : TOk P T) (hown : ∀ b, b < w.heap.size → own b = .im) : ∀ (m : Nat) (t : TypeId) (cs : List Value), (∃ k x, DataW.trod enc P w base spare held k t cs = some x) → pureT T m t = true → ∃ vs, Parts own w cs vs ∧ HasC T m t vs
  | 0, _, _, _, hp => by simp [pureT] at hp
  | m + 1, t, cs, hr, hp => by
    obtain ⟨k, x, h⟩ := hr
    have ih := fun t cs hr hp => read_ok hT hown m t cs hr hp
    simp only [pureT] at hp
    cases hi : T t with
    | none => simp [hi] at hp
    | some i =>
      obtain ⟨r⟩ := Row.of hT hi
      simp only [hi] at hp
      simp only [HasC, hi]
      have hkk := r.hkind
      have hu := r.hd
      cases hk : i.kind <;> simp only [hk] at hp hkk ⊢ <;> try (cases hp; done)
      case bool =>
        have hd : r.d = .bool := by cases hd : r.d <;> simp [hd, kindB] at hkk ⊢
        rw [hd] at hu
        obtain ⟨b, rfl, _⟩ := DataW.trod_bool hu h
        exact ⟨[.bool b], .one (.bool b), b, rfl⟩
      case int kd =>
        have hd : r.d = .int kd := by cases hd : r.d <;> simp [hd, kindB] at hkk ⊢; rw [hkk]
        rw [hd] at hu
        obtain ⟨n, rfl, _, hwf⟩ := DataW.trod_int hu h
        exact ⟨[.int kd n], .one (.int kd n), n, rfl, hwf⟩
      case str =>
        have hd : r.d = .string := by cases hd : r.d <;> simp [hd, kindB] at hkk ⊢
        rw [hd] at hu
        obtain ⟨s, rfl, _, hs⟩ := DataW.trod_string hu h
        exact ⟨[.str s], .one (.str s), s, rfl, hs⟩
      case slice e =>
        have hus := kind_slice r hk
        simp only [Bool.and_eq_true] at hp
        cases he : T e with
        | none => simp [he] at hp
        | some ei =>
          obtain ⟨re⟩ := Row.of hT he
          simp only [he, decide_eq_true_eq] at hp
          obtain ⟨hpos, hpe⟩ := hp
          rcases DataW.trod_slice hus h with ⟨rfl, _⟩ | ⟨a, len, cap, elems, rest, n, rfl, rfl, _, hb, hlc, hcm, hel, hread, _, _⟩
          · exact ⟨[.sl true []], .one .nil, true, [], rfl, fun _ => rfl, by simp, by simp⟩
          · rw [re.cellsOf] at hread
            rcases Nat.eq_zero_or_pos len with rfl | hlen
            · exact ⟨[.sl false []], .one (.none a cap), false, [], rfl, by simp, by simp, by simp⟩
            · have each : ∀ i, i < len → ∃ cs, (w.cells? base (a.add (i * ei.size)) ei.size) = some cs ∧ ∃ x, DataW.trod enc P w base spare held n e cs = some x := by
                intro i hi
                have := hread i hi
                rw [List.getElem?_eq_getElem (by omega), Option.bind_eq_some_iff] at this
                obtain ⟨cs, h1, h2⟩ := this
                exact ⟨cs, h1, _, h2⟩
              obtain ⟨cs0, h0, _⟩ := each 0 hlen
              obtain ⟨_, h01, h02⟩ := World.cells?_some h0
              have hcell : w.cell? a = some (cs0[0]'(by omega)) := by
                have := h02 0 hpos
                rw [List.getElem?_eq_getElem (by omega)] at this
                simpa [Addr.add] using this
              have ha := Addr.spot_none hcell
              have hblk : a.block < w.heap.size := World.block_lt_of_cell? w a hcell
              have addr : ∀ i j, ((a.add (i * ei.size)).add j) = ⟨a.block, a.off + i * ei.size + j, none⟩ := by
                intro i j
                rw [ha, Addr.add_mid, Addr.add_mid]
              obtain ⟨xs, x1, x2⟩ := list_of (p := fun i x => asType ei x.cells = some x ∧ HasC T m e x.cells ∧ x.cells.length = ei.size ∧ ∃ cs, (∀ j, j < ei.size → w.cell? ⟨a.block, a.off + i * ei.size + j, none⟩ = cs[j]?) ∧ Parts own w cs x.cells) len (by
                intro i hi
                obtain ⟨cs, e1, x, e2⟩ := each i hi
                obtain ⟨_, e3, e4⟩ := World.cells?_some e1
                obtain ⟨vs, q1, q2⟩ := ih e cs ⟨n, x, e2⟩ hpe
                obtain ⟨y, y1, y2⟩ := asType_of re he (by rw [q1.1, e3]) q2
                exact ⟨y, y1, by rw [y2]; exact q2, by rw [y2, q1.1, e3], cs, fun j hj => by rw [← addr]; exact e4 j hj, by rw [y2]; exact q1⟩)
              refine ⟨[.sl false xs], .one ?_, false, xs, rfl, by simp, by omega, fun x hx => ?_⟩
              · have hf := FR.sl (own := own) (w := w) a.block a.off cap ei.size xs (fun i j => (w.cell? ⟨a.block, a.off + i * ei.size + j, none⟩).getD undef) (hown _ hblk) (by omega) (fun i x hx => by
                    obtain ⟨_, _, g3, cs, g4, g5⟩ := x2 i x hx
                    refine ⟨g3, fun j hj => ?_⟩
                    rw [g4 j hj, List.getElem?_eq_getElem (by rw [← g5.1, g3]; exact hj)]; rfl) (fun i x j y hx hy => by
                    obtain ⟨_, _, g3, cs, g4, g5⟩ := x2 i x hx
                    have hj : j < x.cells.length := (List.getElem?_eq_some_iff.1 hy).1
                    have hjc : j < cs.length := by rw [← g5.1]; exact hj
                    rw [g4 j (by omega), List.getElem?_eq_getElem hjc]
                    exact g5.2 j y _ hy (List.getElem?_eq_getElem hjc))
                rw [x1, ← ha] at hf
                exact hf
              · obtain ⟨i, hxi⟩ := List.getElem?_of_mem hx
                obtain ⟨g1, g2, _⟩ := x2 i x hxi
                exact ⟨ei, rfl, g1, g2⟩
      case array n e =>
        have hus := kind_array r hk
        simp only [Bool.and_eq_true] at hp
        cases he : T e with
        | none => simp [he] at hp
        | some ei =>
          obtain ⟨re⟩ := Row.of hT he
          simp only [he, decide_eq_true_eq] at hp
          obtain ⟨⟨hpos, hsz⟩, hpe⟩ := hp
          obtain ⟨xs, k', rfl, _, hl, hxl, hread⟩ := DataW.trod_array hus h
          rw [re.cellsOf] at hread
          rw [r.cellsOf] at hl
          obtain ⟨vs, p1, p2⟩ := read_elems (sz := ei.size) cs (fun cs hr => ih e cs hr hpe) n (by omega) (fun i hi => ⟨k', xs[i]'(by omega), by rw [hread i hi, List.getElem?_eq_getElem]⟩)
          rw [hsz, ← hl, List.take_length] at p1
          exact ⟨vs, p1, by rw [p1.1, hl], fun j hj => ⟨ei, rfl, p2 j hj⟩⟩
      case struct fs =>
        obtain ⟨fields, hus, hfb⟩ := kind_struct r hk
        simp only [Bool.and_eq_true, decide_eq_true_eq] at hp
        obtain ⟨xs, k', rfl, _, hl, hxl, hread⟩ := DataW.trod_struct hus h
        rw [r.cellsOf] at hl
        obtain ⟨vs, p1, _, p3⟩ := read_fields cs ih hT fs fields.toList 0 i.size hfb hp.1 (by omega) hp.2 (fun fd hfd => by
          obtain ⟨j, hj⟩ := List.getElem?_of_mem hfd
          have hj' : fields[j]? = some fd := by simpa using hj
          have hlt : j < xs.length := by rw [hxl]; exact (Array.getElem?_eq_some_iff.1 hj').1
          exact ⟨k', xs[j], by rw [hread j fd hj', List.getElem?_eq_getElem]⟩)
        rw [List.drop_zero, Nat.sub_zero, ← hl, List.take_length] at p1
        refine ⟨vs, p1, by rw [p1.1, hl], fun f hf => ?_⟩
        obtain ⟨fi, g1, _, _, g4⟩ := p3 f hf
        exact ⟨fi, g1, by simpa using g4⟩

end
end Go.Vm
end

section
/- V25: a law, from V's equation to the machine. -/
namespace Go.Vm
open Go Go.ChangeShapes Go.RowKit

/-- Arguments of these types, as V has them. -/
def AllV (T : Types) (m : Nat) : List TypeId → List V → Prop
  | [], [] => True
  | t :: ts, v :: vs => HasV T m t v ∧ AllV T m ts vs
  | _, _ => False

section
variable {P : Program} {T : Types} {own : Own} {β : Nat → Nat} {w : World} {H : Type} {enc : TypeId × Value → H} {base : Nat} {spare : Nat → Bool} {held : Bool}

theorem arg_ok (hT : TOk P T) (hown : ∀ b, b < w.heap.size → own b = .im) {m : Nat} {t : TypeId} {v : Value} {d : DataW H} {ps : List MemPlace} {bb : Nat} (hp : pureT T m t = true)
    (hval : Value.okWide P w .any bb t v) (h : DataW.Trod enc P w base spare held t v d ps) : ∃ x, HasV T m t x ∧ VR own β w (fun _ => .other) x v ∧ noEx x = true := by
  obtain ⟨k, hk⟩ := h
  obtain ⟨vs, p1, p2⟩ := read_ok hT hown m t _ ⟨k, _, hk⟩ hp
  cases m with
  | zero => simp [pureT] at hp
  | succ m =>
    cases hi : T t with
    | none => simp [pureT, hi] at hp
    | some i =>
      obtain ⟨r⟩ := Row.of hT hi
      have hu := r.hd
      have hkk := r.hkind
      cases hag : i.kind.isAgg
      · have hna : v.cells = #[v] ∧ r.z.cells.size = 1 := by
          refine ⟨?_, by rw [r.hzs, r.one hag]⟩
          simp only [pureT, hi] at hp
          unfold Value.okWide at hval
          rw [hu] at hval
          cases hk2 : i.kind <;> rw [hk2] at hag hkk <;> simp only [hk2] at hp <;> try (simp [TK.isAgg] at hag; done)
          all_goals try (cases hp; done)
          all_goals
            cases hd : r.d <;> simp only [hd, kindB] at hkk hval <;> try (cases hkk; done)
            cases v <;> first
              | rfl
              | (simp [Cell.okWide, hu, hd, Cell.ok] at hval; done)
        rw [hna.1] at p1
        have hlen : vs.length = 1 := by simpa using p1.1
        match vs, hlen, p1, p2 with
        | [y], _, p1, p2 =>
          have hc := one_cell hi hag p2
          have hf := p1.2 0 y v (by simp) (by simp)
          obtain ⟨g1, g2⟩ := VR_of_FR (β := β) (L := fun _ => .other) hf
          refine ⟨y, ⟨i, hi, ?_, by rw [hc]; exact p2⟩, g1, g2⟩
          unfold asType
          rw [hc, if_pos (by simp [r.one hag]), hag]
          rfl
      · have harr : ∃ arr, v = .agg arr ∧ arr.size = i.size := by
          unfold Value.okWide at hval
          rw [hu] at hval
          cases hk2 : i.kind <;> rw [hk2] at hag hkk <;> try (simp [TK.isAgg] at hag; done)
          all_goals
            cases hd : r.d <;> simp only [hd, kindB] at hkk hval <;> try (cases hkk; done)
            obtain ⟨cs, h1, h2, _⟩ := hval
            exact ⟨cs, h1, by rw [h2, r.cellsOf]⟩
        obtain ⟨arr, rfl, hs⟩ := harr
        simp only [Value.cells] at p1
        have hl : vs.length = i.size := by rw [p1.1]; simpa using hs
        have hdat : ∀ y ∈ vs, notEx y = true := fun y hy => by
          obtain ⟨j, hj⟩ := List.getElem?_of_mem hy
          have hjl := (List.getElem?_eq_some_iff.1 hj).1
          have := p1.2 j y (arr[j]'(by omega)) hj (by simp)
          generalize arr[j]'(by omega) = c at this
          cases this <;> rfl
        refine ⟨.agg vs, ⟨i, hi, by simp [asType, V.cells, hl, hag], p2⟩, ⟨arr, rfl, by omega, fun j u c hu' hc => ?_⟩, by simpa [noEx] using hdat⟩
        exact CR_of_FR (p1.2 j u c hu' (by simpa using hc))

theorem args_ok (hT : TOk P T) (hown : ∀ b, b < w.heap.size → own b = .im) {m : Nat} {bb : Nat} : ∀ (ts : List TypeId) (vs : List Value) (ds : List (DataW H)) (ps : List MemPlace), ts.all (pureT T m) = true →
    (∀ (j : Nat) t v, ts[j]? = some t → vs[j]? = some v → Value.okWide P w .any bb t v) → DataW.TrodAll enc P w base spare held ts vs ds ps → ∃ xs, AllV T m ts xs ∧ AR own β w xs vs
  | [], vs, ds, ps, _, _, h => by
    obtain ⟨rfl, _, _⟩ := trodAll_nil h
    exact ⟨[], trivial, rfl, by simp⟩
  | t :: ts, vs, ds, ps, hp, hval, h => by
    obtain ⟨v, vs', d, ds', p, q, rfl, rfl, rfl, h1, h2⟩ := trodAll_cons h
    simp only [List.all_cons, Bool.and_eq_true] at hp
    obtain ⟨x, x1, x2, x3⟩ := arg_ok (β := β) hT hown hp.1 (hval 0 t v rfl rfl) h1
    obtain ⟨xs, y1, y2⟩ := args_ok hT hown ts vs' ds' q hp.2 (fun j t v ht hv => hval (j + 1) t v (by simpa using ht) (by simpa using hv)) h2
    refine ⟨x :: xs, ⟨x1, y1⟩, by simp [y2.1], fun j u c hu hc => ?_⟩
    cases j with
    | zero => simp at hu hc; subst hu; subst hc; exact ⟨x2, x3⟩
    | succ j => exact y2.2 j u c (by simpa using hu) (by simpa using hc)

theorem trodAll_back (hl : laidOutB P = true) {W W' : World} (hb : Below W.heap.size W W') : ∀ (ts : List TypeId) (vs : List Value) (ds : List (DataW H)) (ps : List MemPlace), ts.all (fun t => P.readableRec t && decide (t < P.types.size)) = true →
    DataW.TrodAll enc P W 0 (fun _ => true) true ts vs ds ps → DataW.TrodAll enc P W' 0 (fun b => decide (b < W.heap.size)) true ts vs ds ps
  | [], vs, ds, ps, _, h => by
    obtain ⟨rfl, rfl, rfl⟩ := trodAll_nil h
    rfl
  | t :: ts, vs, ds, ps, hr, h => by
    have hlt := h.lt
    obtain ⟨v, vs', d, ds', p, q, rfl, rfl, rfl, h1, h2⟩ := trodAll_cons h
    simp only [List.all_cons, Bool.and_eq_true, decide_eq_true_eq] at hr
    exact trodAll_cons_mk (Below.trod hl hr.1.1 hr.1.2 h1 hb (fun x hx => hlt x (List.mem_append.2 (.inl hx)))) (trodAll_back hl hb ts vs' ds' q hr.2 h2)

/-- **A law that V finds true**, for whatever arguments of these types. -/
theorem vlaw {F : Fns} (hT : TOk P T) (hF : FnsOk P F) (hl : laidOutB P = true) {m : Nat} {ts : List TypeId} {f : FuncId} (hp : ts.all (pureT T m) = true) (hr : ts.all (fun t => P.readableRec t && decide (t < P.types.size)) = true)
    (law : ∀ xs, AllV T m ts xs → ∃ k, vcall T F k f xs [] = some (.bool true, [])) {W : World} {bb : Nat} {args : Array Value} {ds : List (DataW H)} {ps : List MemPlace}
    (hval : ∀ (j : Nat) t v, ts[j]? = some t → args[j]? = some v → Value.okWide P W .any bb t v) (hA : DataW.TrodAll enc P W 0 (fun _ => true) true ts args.toList ds ps) :
    Calls P f args W fun e W' => e = .returned (.bool true) ∧ Below W.heap.size W W' ∧ DataW.TrodAll enc P W' 0 (fun b => decide (b < W.heap.size)) true ts args.toList ds ps := by
  let own : Own := fun b => if b < W.heap.size then .im else .other
  have hown : ∀ b, b < W.heap.size → own b = .im := fun b hb => by simp only [own, if_pos hb]
  obtain ⟨xs, h1, h2⟩ := args_ok (β := fun _ => 0) hT hown ts args.toList ds ps hp (fun j t v ht hv => hval j t v ht (by simpa using hv)) hA
  obtain ⟨k, hk⟩ := law xs h1
  have hHR : HR own (fun _ => 0) W [] := by
    refine ⟨fun id cs hi => by simp [bcells] at hi, fun b id hb => ?_, fun b hb => ?_⟩
    · simp only [own] at hb; split at hb <;> cases hb
    · simp only [own] at hb
      split at hb
      · assumption
      · exact absurd rfl hb
  have hc := (sound hT hF k f xs [] _ _ hk).2 own (fun _ => 0) W args.toList hHR h2 (fun b i j k hq => by simp only [own] at hq; split at hq <;> cases hq)
  rw [Array.toArray_toList] at hc
  refine hc.mono ?_
  rintro e W' ⟨c, o', β', rfl, t1, t2, t3, t4, t5⟩
  have hc' : c = .bool true := FR.of_bool (own := o') (w := W') t1
  have hb : Below W.heap.size W W' := ⟨t3.os, t3.tape, t3.output, t3.size, fun b hb => (t3.im b (hown b hb)).2⟩
  exact ⟨by rw [hc'], hb, trodAll_back hl hb ts _ ds ps hr hA⟩

end
end Go.Vm
end

section
/- V34: V's evaluation as a tree of questions: where a number, a truth or a list is not known, both ways are told. -/
namespace Go.Vm
open Go

inductive Tr (α : Type) where
  | ret (a : α)
  | fail
  | ask (b : Bool) (yes no : Tr α)

namespace Tr
variable {α β : Type}
def bind : Tr α → (α → Tr β) → Tr β
  | .ret a, f => f a
  | .fail, _ => .fail
  | .ask b x y, f => .ask b (x.bind f) (y.bind f)
def run : Tr α → Option α
  | .ret a => some a
  | .fail => none
  | .ask b x y => match b with
    | true => x.run
    | false => y.run
def ofO : Option α → Tr α
  | some a => .ret a
  | none => .fail
def must (b : Bool) (x : Tr α) : Tr α := .ask b x .fail

theorem run_bind : ∀ (x : Tr α) (f : α → Tr β), (x.bind f).run = x.run.bind fun a => (f a).run
  | .ret a, f => rfl
  | .fail, f => rfl
  | .ask true x y, f => run_bind x f
  | .ask false x y, f => run_bind y f
theorem bind_some {x : Tr α} {f : α → Tr β} {r : β} (h : (x.bind f).run = some r) : ∃ a, x.run = some a ∧ (f a).run = some r := by
  rw [run_bind, Option.bind_eq_some_iff] at h; exact h
theorem run_ofO (o : Option α) : (ofO o).run = o := by cases o <;> rfl
theorem must_some {b : Bool} {x : Tr α} {r : α} (h : (must b x).run = some r) : b = true ∧ x.run = some r := by
  cases b
  · cases h
  · exact ⟨rfl, h⟩

/-- The way through a tree, by what is answered; what was asked on it. -/
def follow : List Bool → Tr α → Option (List (Bool × Bool) × Option α)
  | [], .ret a => some ([], some a)
  | [], .fail => some ([], none)
  | p :: ps, .ask b x y => (follow ps (match p with | true => x | false => y)).map fun r => ((b, p) :: r.1, r.2)
  | _, _ => none
theorem follow_run : ∀ {ps : List Bool} {t : Tr α} {cs : List (Bool × Bool)} {r : Option α}, follow ps t = some (cs, r) → (∀ c ∈ cs, c.1 = c.2) → t.run = r
  | [], .ret a, cs, r, h, _ => by simp only [follow, Option.some.injEq, Prod.mk.injEq] at h; exact h.2
  | [], .fail, cs, r, h, _ => by simp only [follow, Option.some.injEq, Prod.mk.injEq] at h; exact h.2
  | [], .ask _ _ _, cs, r, h, _ => by simp [follow] at h
  | p :: ps, .ret _, cs, r, h, _ => by simp [follow] at h
  | p :: ps, .fail, cs, r, h, _ => by simp [follow] at h
  | p :: ps, .ask b x y, cs, r, h, hc => by
    simp only [follow, Option.map_eq_some_iff] at h
    obtain ⟨⟨cs', r'⟩, h1, h2⟩ := h
    injection h2 with e1 e2; subst e1; subst e2
    have hb := hc (b, p) (by simp)
    simp only at hb; subst hb
    have := follow_run h1 (fun c hc' => hc c (by simp [hc']))
    cases b <;> exact this
end Tr

/-- What a value holds, if it is of a kind. -/
def intOf : V → Int
  | .int _ n => n
  | _ => 0
def boolOf : V → Bool
  | .bool b => b
  | _ => false
def strOf : V → ByteArray
  | .str s => s
  | _ => ByteArray.empty
def nilOf : V → Bool
  | .sl n _ => n
  | _ => false
def listOf : V → List V
  | .sl _ xs => xs
  | _ => []
def fld (j : Nat) (v : V) : V := v.cells.getD j .undef
def leafOf : TK → V → V
  | .int k, v => .int k (intOf v)
  | .bool, v => .bool (boolOf v)
  | .str, v => .str (strOf v)
  | .slice _, v => .sl (nilOf v) (listOf v)
  | _, v => v
def leafFits : TK → V → Bool
  | .int k, .int k' _ => decide (k' = k)
  | .bool, .bool _ => true
  | .str, .str _ => true
  | .slice _, .sl _ _ => true
  | _, _ => false
def canonP : List TK → Nat → V → List V
  | [], _, _ => []
  | k :: ks, off, v => leafOf k (fld off v) :: canonP ks (off + 1) v
def fitP : List TK → Nat → V → Bool
  | [], _, _ => true
  | k :: ks, off, v => leafFits k (fld off v) && fitP ks (off + 1) v

theorem leafOf_fits {k : TK} {v : V} (h : leafFits k v = true) : leafOf k v = v ∧ v ≠ .undef := by
  cases k <;> cases v <;> simp_all [leafFits, leafOf, intOf, boolOf, strOf, nilOf, listOf]
theorem canonP_eq : ∀ (ks : List TK) (off : Nat) (v : V), fitP ks off v = true → (v.cells.drop off).take ks.length = canonP ks off v
  | [], off, v, _ => by simp [canonP]
  | k :: ks, off, v, h => by
    simp only [fitP, Bool.and_eq_true] at h
    obtain ⟨h1, h2⟩ := leafOf_fits h.1
    have hlt : off < v.cells.length := by
      rcases Nat.lt_or_ge off v.cells.length with hq | hq
      · exact hq
      · exact absurd (by simp [fld, hq]) h2
    have hd : v.cells.drop off = fld off v :: v.cells.drop (off + 1) := by
      rw [List.drop_eq_getElem_cons hlt]; simp [fld, hlt]
    rw [hd]
    simp only [List.length_cons, List.take_succ_cons, canonP]
    rw [h1, canonP_eq ks (off + 1) v h.2]

abbrev Spec := FuncId → List V → Heap → Tr (V × Heap)
abbrev LSpec := Nat → St → Tr (Ex × St)

section
variable (T : Types) (sh : Nat → List TK) (S : Spec) (L : LSpec)

def callT (σ : St) (f : V) (args : List V) (ps : List (Place × V)) : Tr Eff :=
  match f with
  | .clo (.func f) first captured =>
    let vs := first ++ args ++ captured
    if vs.all noPtr then
      (S f vs []).bind fun x => match x.2 with
        | [] => match ps with
          | [] => .ret { val := x.1, places := [] }
          | ps => .ask (apart x.1) (.ret { val := x.1, places := [] }) (.ret { val := x.1, places := ps })
        | H1 =>
          let σ1 := setPlaces σ ps
          .ret { val := shift σ1.heap.length x.1, places := ps, mem := .all (σ1.heap ++ H1.map (shiftB σ1.heap.length)) }
    else
      let H := (setPlaces σ ps).heap
      let ks := reach H H.length (argIds vs)
      if closedK ks H && (argIds vs).all ks.contains then (S f vs (maskH ks H)).bind fun x =>
        if deadOut ks H.length x.2 then
          if x.2.length = H.length then .ret { val := x.1, places := ps, mem := .put ks x.2 } else .ret { val := x.1, places := ps, mem := .all (putH ks H x.2 ++ x.2.drop H.length) }
        else .fail
      else .fail
  | _ => .fail

def indexT (i : TI) (σ : St) (x : Operand) (k : Int) : Tr V :=
  match i.kind with
  | .slice e => match T e with
    | some ei => match opd σ.env x with
      | .sl _ xs => if (sh e).length = ei.size then
          .must (decide (0 ≤ k)) (.must (decide (k < xs.length)) (.must (((xs.getD k.toNat .undef).cells.length == ei.size) && fitP (sh e) 0 (xs.getD k.toNat .undef)) (.ret (.rptr (canonP (sh e) 0 (xs.getD k.toNat .undef)) 0)))) else .fail
      | .lent p => match look σ p with
        | .ex sz _ xs => if sz = ei.size then .must (decide (0 ≤ k)) (.must (decide (k < xs.length)) (.ret (.xptr p k.toNat 0))) else .fail
        | _ => .fail
      | .ex sz _ xs => match tmpOf x with
        | some t => if sz = ei.size then .must (decide (0 ≤ k)) (.must (decide (k < xs.length)) (.ret (.xptr (.slot t) k.toNat 0))) else .fail
        | none => .fail
      | _ => .fail
    | none => .fail
  | .array n e => match T e with
    | some ei => .must (decide (0 ≤ k)) (.must (decide (k < n)) (match opd σ.env x with
        | .ptr id off => .ret (.ptr id (off + k.toNat * ei.size))
        | .rptr cs off => .ret (.rptr cs (off + k.toNat * ei.size))
        | .xptr q j off => .ret (.xptr q j (off + k.toNat * ei.size))
        | _ => .fail))
    | none => .fail
  | _ => .fail

def loadT (t : Nat) (i : TI) (σ : St) (p : V) : Tr V :=
  match p with
  | .xptr q k off => match look σ q with
    | .ex _ _ xs => if (sh t).length = i.size then .must (decide (k < xs.length)) (.must (fitP (sh t) off (xs.getD k .undef)) (Tr.ofO (asType i (canonP (sh t) off (xs.getD k .undef))))) else .fail
    | _ => .fail
  | p => Tr.ofO (loadAt i σ p)

def storeT (i : TI) (σ : St) (p : V) (x : Operand) : Tr Eff :=
  match p with
  | .xptr q k off => match takeDat σ x, look σ q with
    | some (v, []), .ex sz n xs => if v.cells.length = i.size then .must (decide (k < xs.length)) (.must (decide (off + i.size ≤ (xs.getD k .undef).cells.length))
        (.ret (rewr q (.ex sz n (xs.set k (mkOf (xs.getD k .undef) (setCells (xs.getD k .undef).cells off v.cells))))))) else .fail
    | _, _ => .fail
  | p => Tr.ofO (storeAt i σ p x)

def appendT (σ : St) (c : Call) : Tr Eff :=
  match c.args.toList, c.argTypes.toList with
  | [s, x], [t, tx] => match kindOf T t, kindOf T tx, content σ (opd σ.env x) with
    | some (.slice e), some (.slice _), some (_, ys) => match T e with
      | some ei => match base ei.size σ s with
        | some (n, xs, ps) => if 0 < ei.size then .must (rooms (xs.length + ys.length) ei.bytes) (.must (decide (xs.length + ys.length < 2 ^ 62)) (.must (ys.all fun y => y.cells.length == ei.size)
          (.ret { val := .ex ei.size (n && ys.isEmpty) (xs ++ ys), places := ps }))) else .fail
        | none => .fail
      | none => .fail
    | _, _, _ => .fail
  | _, _ => .fail

def deleteT (sz : Nat) (σ : St) (args : List Operand) : Tr Eff :=
  match args with
  | [x, i, j] => match base sz σ x, opd σ.env i, opd σ.env j with
    | some (_, xs, ps), .int .i64 i, .int .i64 j => .must (decide (0 ≤ i)) (.must (decide (i ≤ j)) (.must (decide (j ≤ xs.length)) (.must (decide (0 < xs.length))
      (.ret { val := .ex sz false (xs.take i.toNat ++ xs.drop j.toNat), places := ps }))))
    | _, _, _ => .fail
  | _ => .fail

def sliceT (σ : St) (t : Nat) (x : Operand) (lo hi mx : Option Operand) : Tr Eff :=
  match kindOf T t with
  | some (.slice e) => match opd σ.env x with
    | .sl n xs => match T e, numOf σ lo 0, numOf σ hi xs.length with
      | some ei, some l, some h =>
        .must (decide (0 ≤ l)) (.must (decide (l ≤ h)) (.must (decide (h ≤ xs.length)) (.must (xs.all (fun x => x.cells.length == ei.size)) (
          match mx with
          | none => .ret { val := .sl n ((xs.drop l.toNat).take (h.toNat - l.toNat)) }
          | some m => .must (decide (hi.isSome ∧ numOf σ (some m) 0 = some l ∧ h = l)) (.ret { val := .ex ei.size n [] })))))
      | _, _, _ => .fail
    | _ => .fail
  | _ => .fail

def binT (op : BinOp) (i : TI) (one : Bool) (σ : St) (x y : V) : Tr V :=
  match x, y, op, i.kind.isAgg with
  | .int k a, .int k' b, .quo, false => if k = k' then .must (!decide (b = 0)) (.ret (.int k (k.wrap (a.tdiv b)))) else .fail
  | .int k a, .int k' b, .rem, false => if k = k' then .must (!decide (b = 0)) (.ret (.int k (a.tmod b))) else .fail
  | .int k a, .int _ b, .shl, false => .must (!decide (b < 0)) (.ret (.int k (k.wrap (a * 2 ^ (min b.toNat k.bits)))))
  | .int k a, .int _ b, .shr, false => .must (!decide (b < 0)) (.ret (.int k (a.fdiv (2 ^ (min b.toNat k.bits)))))
  | x, y, op, _ => Tr.ofO (vbinop op i one σ x y)

def makeT (t : Nat) (σ : St) (l c : Operand) : Tr Eff :=
  match kindOf T t, opd σ.env l, opd σ.env c with
  | some (.slice e), .int _ l, .int _ c => match T e with
    | some ei => if 0 < ei.size ∧ ei.zero.dat = true ∧ ei.zero.cells.length = ei.size then
        .must (decide (0 ≤ l)) (.must (decide (l ≤ c)) (.must (rooms c.toNat ei.bytes) (.must (decide (c < 2 ^ 62)) (.ret { val := .ex ei.size false (List.replicate l.toNat ei.zero) })))) else .fail
    | none => .fail
  | _, _, _ => .fail

/-- An operation's effect, and what it looks at. -/
def effT (cx : Cx) (fresh : Nat) (o : Oper) (σ : St) : Tr (Eff × List Operand) :=
  match o.op with
  | .pick c a b => match opd σ.env c with
    | .bool t => .ask t
        (match opd σ.env a with | .bool r => .ret ({ val := .bool r }, [c, a]) | .int k n => .ret ({ val := .int k n }, [c, a]) | _ => .fail)
        (match opd σ.env b with | .bool r => .ret ({ val := .bool r }, [c, b]) | .int k n => .ret ({ val := .int k n }, [c, b]) | _ => .fail)
    | _ => .fail
  | .load t p => match T t with
    | some i => (loadT sh t i σ (opd σ.env p)).bind fun v => .ret ({ val := v }, o.op.operands.toList)
    | none => .fail
  | .store t p x => match T t with
    | some i => (storeT i σ (opd σ.env p) x).bind fun e => match e.mem with
      | .set id _ cs => if cs.all (okBelow (id + 1)) then .ret (e, o.op.operands.toList) else .fail
      | _ => .ret (e, o.op.operands.toList)
    | none => .fail
  | .binOp op t x y _ => match T t with
    | some i => (binT op i (isConst x || isConst y) σ (opd σ.env x) (opd σ.env y)).bind fun v => .ret ({ val := v }, o.op.operands.toList)
    | none => .fail
  | .slice t x lo hi mx => (sliceT T σ t x lo hi mx).bind fun e => .ret (e, o.op.operands.toList)
  | .indexAddr t x k => match T t, opd σ.env k with
    | some i, .int _ k => (indexT T sh i σ x k).bind fun v => .ret ({ val := v }, o.op.operands.toList)
    | _, _ => .fail
  | .call c => match c.callee with
    | .builtin .append => (appendT T σ c).bind fun e => .ret (e, o.op.operands.toList)
    | .value f => match toldOf cx (opd σ.env f) with
      | some sz => (deleteT sz σ c.args.toList).bind fun e => .ret (e, o.op.operands.toList)
      | none => match views σ c.args.toList with
        | some (vs, ps) => (callT S σ (opd σ.env f) vs ps).bind fun e => .ret (e, o.op.operands.toList)
        | none => .fail
    | _ => (Tr.ofO (eff T (fun _ _ _ => none) cx fresh o σ)).bind fun e => .ret (e, o.op.operands.toList)
  | .makeSlice t l c => (makeT T t σ l c).bind fun e => .ret (e, o.op.operands.toList)
  | _ => (Tr.ofO (eff T (fun _ _ _ => none) cx fresh o σ)).bind fun e => .ret (e, o.op.operands.toList)

def effG1 (cx : Cx) (fresh : Nat) (o : Oper) (σ : St) : Tr (Eff × List Operand) :=
  (effT T sh S cx fresh o σ).bind fun x => if (match o.dst with | some d => x.1.val.refsTo (.slot d) | none => false) then .fail else .ret x

def effGT (cx : Cx) (ops : Array Oper) (fresh : Nat) (o : Oper) (σ : St) : Tr (Eff × List Operand) :=
  match o.guard with
  | none => effG1 T sh S cx fresh o σ
  | some (j, want) => match (ops[j]?).bind (·.dst) with
    | some t => match get σ.env t with
      | .bool b => match want with
        | true => .ask b (effG1 T sh S cx fresh o σ) (.ret ({ val := .tup [] }, []))
        | false => .ask b (.ret ({ val := .tup [] }, [])) (effG1 T sh S cx fresh o σ)
      | .tup [] => .ret ({ val := .tup [] }, [])
      | _ => .fail
    | none => .fail

def vopsT (cx : Cx) (ops : Array Oper) : Nat → List Oper → St → Tr St
  | _, [], σ => .ret σ
  | fresh, o :: rest, σ => (effGT T sh S cx ops fresh o σ).bind fun x => vopsT cx ops (if isFresh o then fresh + 1 else fresh) rest (apply σ o.dst x.1)

def readsL (ops : Array Oper) (fr : Nat) (o : Oper) (env : Env) (e : Eff) (l : List Operand) : List Res :=
  memReads e ++ l.flatMap (opReads (derefs o) (light o) env) ++ (match guardSlot ops o with | some t => [.slot t] | none => []) ++ (if isFresh o then [.blk fr] else [])

def drawRunT (cx : Cx) (ops : Array Oper) : Nat → List Oper → St → Tr (St × List (List Res × List Res))
  | _, [], σ => .ret (σ, [])
  | fr, o :: rest, σ => (effGT T sh S cx ops fr o σ).bind fun x =>
      if tameB x.1 && calm o x.1 && x.2.all (seen σ) && (refRes x.1.val).all (fun r => (readsL ops fr o σ.env x.1 x.2).contains r) then
        (drawRunT cx ops (if isFresh o then fr + 1 else fr) rest (apply σ o.dst x.1)).bind fun y => .ret (y.1, (readsL ops fr o σ.env x.1 x.2, writes o.dst x.1) :: y.2)
      else if wildOp o then
        (drawRunT cx ops (if isFresh o then fr + 1 else fr) rest (apply σ o.dst x.1)).bind fun y => .ret (y.1, ([.top], [.top]) :: y.2)
      else .fail

def regionT (cx : Cx) (id : Nat) (ops : Array Oper) (draw : Bool) (σ : St) : Tr St :=
  match draw with
  | false => (vopsT T sh S cx ops σ.heap.length ops.toList (reserve ops σ)).bind fun σ' => .ret (prune (cx.keep id) σ')
  | true => (drawRunT T sh S cx ops σ.heap.length ops.toList (reserve ops σ)).bind fun x =>
      if (cx.free id).all (fun y => apartB (fpAt x.2 y.1) (fpAt x.2 y.2)) then .ret (prune (cx.keep id) x.1) else .fail

def codeT (cx : Cx) : Code → St → Tr (Ex × St)
  | .skip, σ => .ret (.normal, σ)
  | .region id ops draw, σ => (regionT T sh S cx id ops draw σ).bind fun σ' => .ret (.normal, σ')
  | .seq a b, σ => (codeT cx a σ).bind fun x => match x.1 with
    | .normal => codeT cx b x.2
    | ex => .ret (ex, x.2)
  | .cond c a b, σ => match opd σ.env c with
    | .bool t => .ask t (codeT cx a σ) (codeT cx b σ)
    | _ => .fail
  | .block id b, σ => (codeT cx b σ).bind fun x => match x.1 with
    | .exit i => if i = id then .ret (.normal, x.2) else .ret (.exit i, x.2)
    | ex => .ret (ex, x.2)
  | .exit id, σ => .ret (.exit id, σ)
  | .ret, σ => .ret (.ret, σ)
  | .loop b, σ => L (firstRegion b) (prune (cx.head (firstRegion b)) σ)
  | _, _ => .fail

/-- One round of a loop, begun with so many blocks. -/
def roundT (cx : Cx) (n : Nat) (b : Code) (τ : St) : Tr (Ex × St) :=
  (codeT T sh S L cx b τ).bind fun x => match x.1 with
    | .normal => .ret (.normal, cut n (prune (cx.head (firstRegion b)) x.2))
    | ex => .ret (ex, x.2)

/-- So many rounds, one after the other. -/
def unrollT (cx : Cx) (b : Code) : Nat → Nat → St → Tr (Ex × St)
  | _, 0, _ => .fail
  | n, m + 1, τ => (roundT T sh S L cx n b τ).bind fun x => match x.1 with
    | .normal => unrollT cx b n m x.2
    | ex => .ret (ex, x.2)

def funT (fi : FI) (args : List V) (H : Heap) : Tr (V × Heap) :=
  (codeT T sh S L fi.cx fi.body (enter args H)).bind fun x => match x.1 with
    | .exit _ => .fail
    | _ => Tr.ofO (leave T fi.results H.length x.2)
end

def loopsOf : Code → List Code
  | .seq a b => loopsOf a ++ loopsOf b
  | .cond _ a b => loopsOf a ++ loopsOf b
  | .block _ b => loopsOf b
  | .loop b => b :: loopsOf b
  | _ => []
def lb (fi : FI) (i : Nat) : Code := (loopsOf fi.body).getD i .skip

end Go.Vm
end
