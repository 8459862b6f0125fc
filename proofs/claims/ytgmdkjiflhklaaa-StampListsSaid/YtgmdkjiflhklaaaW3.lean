/- W3: V, an evaluator that carries contents (V36, V37). No conditions. -/
import Derived.IntWalk
import Derived.Test.YtgmdkjiflhklaaaW2

section
/- V36: what the tree tells, V tells. -/
namespace Go.Vm
open Go

section
variable {T : Types} {sh : Nat → List TK} {S : Spec} {L : LSpec} {call : CallF} {cx : Cx} {ops : Array Oper} {fr : Nat} {o : Oper} {σ : St}

/-- What is told of calls is so. -/
def Good (call : CallF) (S : Spec) : Prop := ∀ f a H r, (S f a H).run = some r → call f a H = some r

theorem if_fail {α : Type} {c : Prop} [Decidable c] {x : Tr α} {r : α} (h : (if c then x else .fail).run = some r) : c ∧ x.run = some r := by
  split at h
  · rename_i hc; exact ⟨hc, h⟩
  · cases h

theorem eff_none {e : Eff} (h : eff T (fun _ _ _ => none) cx fr o σ = some e) : eff T call cx fr o σ = some e := by
  obtain ⟨k0, hk⟩ := ev_eff (calls := fun _ => call) (fun _ _ _ _ h => by cases h) h
  exact hk k0 (Nat.le_refl _)

theorem callT_ok (hS : Good call S) {f : V} {args : List V} {ps : List (Place × V)} {e : Eff} (h : (callT S σ f args ps).run = some e) : callAt call σ f args ps = some e := by
  unfold callT at h
  unfold callAt
  split at h <;> try (cases h; done)
  rename_i fid first captured
  simp only at h ⊢
  by_cases hp : (first ++ args ++ captured).all noPtr = true
  · rw [if_pos hp] at h ⊢
    obtain ⟨x, h1, h2⟩ := Tr.bind_some h
    rw [hS _ _ _ _ h1]
    obtain ⟨r, H1⟩ := x
    cases H1 with
    | nil =>
      simp only at h2 ⊢
      cases ps with
      | nil => simpa [Tr.run] using h2
      | cons p ps =>
        simp only [Tr.run] at h2
        cases ha : apart r <;> simpa [ha, Tr.run] using h2
    | cons b H1 => simpa [Tr.run] using h2
  · rw [if_neg hp] at h ⊢
    obtain ⟨hcl, h⟩ := if_fail h
    rw [if_pos hcl]
    obtain ⟨x, h1, h2⟩ := Tr.bind_some h
    rw [hS _ _ _ _ h1]
    obtain ⟨hd, h2⟩ := if_fail h2
    simp only
    rw [if_pos hd]
    split at h2
    · rename_i hl; rw [if_pos hl]; simpa [Tr.run] using h2
    · rename_i hl; rw [if_neg hl]; simpa [Tr.run] using h2

theorem indexT_ok {i : TI} {x : Operand} {k : Int} {v : V} (h : (indexT T sh i σ x k).run = some v) : indexAt T i σ x k = some v := by
  unfold indexT at h
  unfold indexAt
  cases hk : i.kind <;> simp only [hk] at h ⊢ <;> try (cases h; done)
  · rename_i e
    cases he : T e <;> simp only [he] at h ⊢
    · cases h
    rename_i ei
    cases hx : opd σ.env x <;> simp only [hx] at h ⊢ <;> try (cases h; done)
    · rename_i n xs
      obtain ⟨hs, h⟩ := if_fail h
      obtain ⟨h1, h⟩ := Tr.must_some h
      obtain ⟨h2, h⟩ := Tr.must_some h
      obtain ⟨h3, h⟩ := Tr.must_some h
      simp only [decide_eq_true_eq, Bool.and_eq_true, beq_iff_eq] at h1 h2 h3
      have hc := canonP_eq _ 0 _ h3.2
      rw [List.drop_zero, hs, ← h3.1, List.take_length] at hc
      rw [if_pos ⟨h1, h2, h3.1⟩, hc]
      simpa [Tr.run] using h
    · cases ht : tmpOf x <;> simp only [ht] at h ⊢
      · cases h
      obtain ⟨hs, h⟩ := if_fail h
      obtain ⟨h1, h⟩ := Tr.must_some h
      obtain ⟨h2, h⟩ := Tr.must_some h
      simp only [decide_eq_true_eq] at h1 h2
      rw [if_pos ⟨h1, h2, hs⟩]
      simpa [Tr.run] using h
    · rename_i p
      cases hl : look σ p <;> simp only [hl] at h ⊢ <;> try (cases h; done)
      obtain ⟨hs, h⟩ := if_fail h
      obtain ⟨h1, h⟩ := Tr.must_some h
      obtain ⟨h2, h⟩ := Tr.must_some h
      simp only [decide_eq_true_eq] at h1 h2
      rw [if_pos ⟨h1, h2, hs⟩]
      simpa [Tr.run] using h
  · rename_i n e
    cases he : T e <;> simp only [he] at h ⊢
    · cases h
    obtain ⟨h1, h⟩ := Tr.must_some h
    obtain ⟨h2, h⟩ := Tr.must_some h
    simp only [decide_eq_true_eq] at h1 h2
    rw [if_pos ⟨h1, h2⟩]
    cases hx : opd σ.env x <;> simp only [hx] at h ⊢ <;> first | (cases h; done) | simpa [Tr.run] using h

theorem getD_some {α : Type} {l : List α} {k : Nat} (h : k < l.length) (d : α) : l[k]? = some (l.getD k d) := by
  rw [List.getD_eq_getElem?_getD, List.getElem?_eq_getElem h]; rfl

theorem loadT_ok {t : Nat} {i : TI} {p v : V} (h : (loadT sh t i σ p).run = some v) : loadAt i σ p = some v := by
  unfold loadT at h
  split at h
  · rename_i q k off
    unfold loadAt
    cases hl : look σ q <;> simp only [hl] at h ⊢ <;> try (cases h; done)
    rename_i sz n xs
    obtain ⟨hs, h⟩ := if_fail h
    obtain ⟨h1, h⟩ := Tr.must_some h
    obtain ⟨h2, h⟩ := Tr.must_some h
    simp only [decide_eq_true_eq] at h1
    rw [getD_some h1 .undef]
    simp only
    rw [← hs, canonP_eq _ _ _ h2]
    rwa [Tr.run_ofO] at h
  · rwa [Tr.run_ofO] at h

theorem storeT_ok {i : TI} {p : V} {x : Operand} {e : Eff} (h : (storeT i σ p x).run = some e) : storeAt i σ p x = some e := by
  unfold storeT at h
  split at h
  · rename_i q k off
    unfold storeAt
    simp only
    split at h
    · rename_i v sz n xs h1 h2
      simp only [h1, h2]
      obtain ⟨hs, h⟩ := if_fail h
      obtain ⟨h3, h⟩ := Tr.must_some h
      obtain ⟨h4, h⟩ := Tr.must_some h
      simp only [decide_eq_true_eq] at h3 h4
      rw [getD_some h3 .undef]
      simp only
      rw [if_pos ⟨hs, h4⟩]
      simpa [Tr.run] using h
    · cases h
  · rwa [Tr.run_ofO] at h

theorem appendT_ok {c : Call} {e : Eff} (h : (appendT T σ c).run = some e) : appendAt T σ c = some e := by
  unfold appendT at h
  unfold appendAt
  split at h <;> try (cases h; done)
  rename_i s x t tx ha ht
  simp only [ha, ht]
  split at h <;> try (cases h; done)
  rename_i el el' m ys k1 k2 k3
  simp only [k1, k2, k3]
  cases hel : T el <;> simp only [hel] at h ⊢
  · cases h
  rename_i ei
  cases hb : base ei.size σ s <;> simp only [hb] at h ⊢
  · cases h
  obtain ⟨hs, h⟩ := if_fail h
  obtain ⟨h1, h⟩ := Tr.must_some h
  obtain ⟨h2, h⟩ := Tr.must_some h
  obtain ⟨h3, h⟩ := Tr.must_some h
  simp only [decide_eq_true_eq] at h2
  rw [if_pos ⟨h1, hs, h2, h3⟩]
  simpa [Tr.run] using h

theorem sliceT_ok {t : Nat} {x : Operand} {lo hi mx : Option Operand} {e : Eff} (h : (sliceT T σ t x lo hi mx).run = some e) : sliceAt T σ t x lo hi mx = some e := by
  unfold sliceT at h
  unfold sliceAt
  split at h <;> try (cases h; done)
  rename_i el k1
  simp only [k1]
  split at h <;> try (cases h; done)
  rename_i n xs k2
  simp only [k2]
  split at h <;> try (cases h; done)
  rename_i ei l u k3 k4 k5
  simp only [k3, k4, k5]
  obtain ⟨h1, h⟩ := Tr.must_some h
  obtain ⟨h2, h⟩ := Tr.must_some h
  obtain ⟨h3, h⟩ := Tr.must_some h
  obtain ⟨h4, h⟩ := Tr.must_some h
  simp only [decide_eq_true_eq] at h1 h2 h3
  rw [if_pos ⟨h1, h2, h3, h4⟩]
  cases mx with
  | none => simpa [Tr.run] using h
  | some m =>
    obtain ⟨h5, h⟩ := Tr.must_some h
    simp only [decide_eq_true_eq] at h5
    simp only
    rw [if_pos h5]
    simpa [Tr.run] using h

theorem makeT_ok {t : Nat} {l c : Operand} {e : Eff} (ho : o.op = .makeSlice t l c) (h : (makeT T t σ l c).run = some e) : eff T call cx fr o σ = some e := by
  unfold makeT at h
  simp only [eff, ho]
  split at h <;> try (cases h; done)
  rename_i el k l' k' c' k1 k2 k3
  simp only [k1, k2, k3]
  cases hel : T el <;> simp only [hel] at h ⊢
  · cases h
  obtain ⟨hs, h⟩ := if_fail h
  obtain ⟨h1, h⟩ := Tr.must_some h
  obtain ⟨h2, h⟩ := Tr.must_some h
  obtain ⟨h3, h⟩ := Tr.must_some h
  obtain ⟨h4, h⟩ := Tr.must_some h
  simp only [decide_eq_true_eq] at h1 h2 h4
  rw [if_pos ⟨h1, h2, h3, h4, hs⟩]
  simpa [Tr.run] using h

theorem binT_ok {op : BinOp} {i : TI} {one : Bool} {x y v : V} (h : (binT op i one σ x y).run = some v) : vbinop op i one σ x y = some v := by
  unfold binT at h
  split at h
  · rename_i k a k' b hk
    obtain ⟨hs, h⟩ := if_fail h
    obtain ⟨h1, h⟩ := Tr.must_some h
    simp only [Bool.not_eq_true', decide_eq_false_iff_not] at h1
    simp only [vbinop, hk, vbin, if_pos hs, if_neg h1]
    simpa [Tr.run] using h
  · rename_i k a k' b hk
    obtain ⟨hs, h⟩ := if_fail h
    obtain ⟨h1, h⟩ := Tr.must_some h
    simp only [Bool.not_eq_true', decide_eq_false_iff_not] at h1
    simp only [vbinop, hk, vbin, if_pos hs, if_neg h1]
    simpa [Tr.run] using h
  · rename_i k a k' b hk
    obtain ⟨h1, h⟩ := Tr.must_some h
    simp only [Bool.not_eq_true', decide_eq_false_iff_not] at h1
    simp only [vbinop, hk, vbin, if_neg h1]
    simpa [Tr.run] using h
  · rename_i k a k' b hk
    obtain ⟨h1, h⟩ := Tr.must_some h
    simp only [Bool.not_eq_true', decide_eq_false_iff_not] at h1
    simp only [vbinop, hk, vbin, if_neg h1]
    simpa [Tr.run] using h
  · rwa [Tr.run_ofO] at h

theorem ret_some {α : Type} {a r : α} (h : (Tr.ret a).run = some r) : a = r := by simpa [Tr.run] using h

theorem effT_ok (hS : Good call S) {e : Eff} {l : List Operand} (h : (effT T sh S cx fr o σ).run = some (e, l)) : eff T call cx fr o σ = some e ∧ rd σ.env o = l := by
  have dflt : rd σ.env o = o.op.operands.toList → ((Tr.ofO (eff T (fun _ _ _ => none) cx fr o σ)).bind fun e => Tr.ret (e, o.op.operands.toList)).run = some (e, l) → eff T call cx fr o σ = some e ∧ rd σ.env o = l := by
    intro hr h
    obtain ⟨e', h1, h2⟩ := Tr.bind_some h
    rw [Tr.run_ofO] at h1
    have h2 := ret_some h2
    injection h2 with e1 e2; subst e1; subst e2
    exact ⟨eff_none h1, hr⟩
  cases ho : o.op <;> simp only [effT, ho] at h
  case pick c a b =>
    cases hc : opd σ.env c <;> simp only [hc] at h <;> try (cases h; done)
    rename_i t
    simp only [eff, rd, ho, hc]
    cases t
    · simp only [Tr.run, Bool.false_eq_true, if_false] at h ⊢
      cases ha : opd σ.env b <;> simp only [ha] at h ⊢ <;> first | (cases h; done) | (have h := ret_some h; injection h with e1 e2; subst e1; subst e2; exact ⟨rfl, rfl⟩)
    · simp only [Tr.run, if_true] at h ⊢
      cases ha : opd σ.env a <;> simp only [ha] at h ⊢ <;> first | (cases h; done) | (have h := ret_some h; injection h with e1 e2; subst e1; subst e2; exact ⟨rfl, rfl⟩)
  case load t p =>
    cases hT : T t <;> simp only [hT] at h
    · cases h
    obtain ⟨v, h1, h2⟩ := Tr.bind_some h
    have h2 := ret_some h2
    injection h2 with e1 e2; subst e1; subst e2
    simp only [eff, rd, ho, hT]
    exact ⟨by rw [loadT_ok h1]; rfl, trivial⟩
  case store t p x =>
    cases hT : T t <;> simp only [hT] at h
    · cases h
    obtain ⟨e', h1, h2⟩ := Tr.bind_some h
    simp only [eff, rd, ho, hT]
    rw [storeT_ok h1]
    simp only
    cases hm : e'.mem <;> simp only [hm] at h2 ⊢
    case set id off cs =>
      obtain ⟨h3, h2⟩ := if_fail h2
      have h2 := ret_some h2
      injection h2 with e1 e2; subst e1; subst e2
      exact ⟨by rw [if_pos h3], rfl⟩
    all_goals
      have h2 := ret_some h2
      injection h2 with e1 e2; subst e1; subst e2
      exact ⟨rfl, rfl⟩
  case binOp op t x y g =>
    cases hT : T t <;> simp only [hT] at h
    · cases h
    obtain ⟨v, h1, h2⟩ := Tr.bind_some h
    have h2 := ret_some h2
    injection h2 with e1 e2; subst e1; subst e2
    simp only [eff, rd, ho, hT]
    exact ⟨by rw [binT_ok h1]; rfl, trivial⟩
  case slice t x lo hi mx =>
    obtain ⟨v, h1, h2⟩ := Tr.bind_some h
    have h2 := ret_some h2
    injection h2 with e1 e2; subst e1; subst e2
    simp only [eff, rd, ho]
    exact ⟨sliceT_ok h1, trivial⟩
  case indexAddr t x k =>
    split at h <;> try (cases h; done)
    rename_i i kk k' hT hk
    obtain ⟨v, h1, h2⟩ := Tr.bind_some h
    have h2 := ret_some h2
    injection h2 with e1 e2; subst e1; subst e2
    simp only [eff, rd, ho, hT, hk]
    exact ⟨by rw [indexT_ok h1]; rfl, trivial⟩
  case makeSlice t l c =>
    obtain ⟨v, h1, h2⟩ := Tr.bind_some h
    have h2 := ret_some h2
    injection h2 with e1 e2; subst e1; subst e2
    exact ⟨makeT_ok ho h1, by simp only [rd, ho]⟩
  case call c =>
    have hrd : rd σ.env o = o.op.operands.toList := by simp only [rd, ho]
    cases hcal : c.callee with
    | value f =>
      simp only [hcal] at h
      cases hv : views σ c.args.toList with
      | none => simp only [hv] at h; cases h
      | some vp =>
        obtain ⟨vs, ps⟩ := vp
        simp only [hv] at h
        obtain ⟨v, h1, h2⟩ := Tr.bind_some h
        have h2 := ret_some h2
        injection h2 with e1 e2; subst e1; subst e2
        refine ⟨?_, by simp only [rd, ho]⟩
        simp only [eff, ho, hcal, hv]
        exact callT_ok hS h1
    | builtin b =>
      simp only [hcal] at h
      cases b
      case append =>
        obtain ⟨v, h1, h2⟩ := Tr.bind_some h
        have h2 := ret_some h2
        injection h2 with e1 e2; subst e1; subst e2
        refine ⟨?_, by simp only [rd, ho]⟩
        simp only [eff, ho, hcal, builtinAt]
        exact appendT_ok h1
      all_goals exact dflt hrd (by rw [ho]; exact h)
    | invoke x m =>
      simp only [hcal] at h
      exact dflt hrd (by rw [ho]; exact h)
  all_goals exact dflt (by simp only [rd, ho]) (by rw [ho]; exact h)

theorem effG1_ok (hS : Good call S) {e : Eff} {l : List Operand} (h : (effG1 T sh S cx fr o σ).run = some (e, l)) : eff T call cx fr o σ = some e ∧ rd σ.env o = l ∧ (match o.dst with | some d => e.val.refsTo (.slot d) | none => false) = false := by
  unfold effG1 at h
  obtain ⟨⟨e', l'⟩, h1, h2⟩ := Tr.bind_some h
  cases hd : o.dst with
  | none =>
    simp only [hd, Bool.false_eq_true, if_false] at h2
    have h2 := ret_some h2
    injection h2 with e1 e2; subst e1; subst e2
    obtain ⟨q1, q2⟩ := effT_ok hS h1
    exact ⟨q1, q2, rfl⟩
  | some d =>
    simp only [hd] at h2
    cases hr : e'.val.refsTo (.slot d) <;> simp only [hr, Bool.false_eq_true, if_false, if_true] at h2
    · have h2 := ret_some h2
      injection h2 with e1 e2; subst e1; subst e2
      obtain ⟨q1, q2⟩ := effT_ok hS h1
      exact ⟨q1, q2, hr⟩
    · cases h2

theorem effGT_ok (hS : Good call S) {e : Eff} {l : List Operand} (h : (effGT T sh S cx ops fr o σ).run = some (e, l)) : effG T call cx ops fr o σ = some e ∧ rdG ops σ.env o = l := by
  have run : wants ops σ.env o = some true → (effG1 T sh S cx fr o σ).run = some (e, l) → effG T call cx ops fr o σ = some e ∧ rdG ops σ.env o = l := by
    intro hw h
    obtain ⟨h1, h2, h3⟩ := effG1_ok hS h
    unfold effG rdG
    simp only [hw, h1, h2, and_true]
    cases hd : o.dst with
    | none => simp
    | some d => simp only [hd] at h3; simp [h3]
  have skip : wants ops σ.env o = some false → (Tr.ret (({ val := .tup [] } : Eff), ([] : List Operand))).run = some (e, l) → effG T call cx ops fr o σ = some e ∧ rdG ops σ.env o = l := by
    intro hw h
    have h := ret_some h
    injection h with e1 e2; subst e1; subst e2
    unfold effG rdG
    simp only [hw, and_self]
  unfold effGT at h
  cases hg : o.guard with
  | none => simp only [hg] at h; exact run (by simp [wants, hg]) h
  | some jw =>
    obtain ⟨j, want⟩ := jw
    simp only [hg] at h
    cases ht : (ops[j]?).bind (·.dst) with
    | none => simp only [ht] at h; cases h
    | some t =>
      simp only [ht] at h
      cases hv : get σ.env t <;> simp only [hv] at h <;> try (cases h; done)
      case tup us =>
        cases us with
        | nil => exact skip (by simp [wants, hg, ht, hv]) h
        | cons u us => cases h
      rename_i b
      have hw : wants ops σ.env o = some (b == want) := by simp [wants, hg, ht, hv]
      cases want <;> cases b <;> simp only [Tr.run] at h
      · exact run hw h
      · exact skip hw h
      · exact skip hw h
      · exact run hw h

theorem vopsT_ok (hS : Good call S) : ∀ (l : List Oper) (fr : Nat) (σ τ : St), (vopsT T sh S cx ops fr l σ).run = some τ → vops T call cx ops fr l σ = some τ
  | [], fr, σ, τ, h => by simpa [vopsT, vops, Tr.run] using h
  | o :: l, fr, σ, τ, h => by
    simp only [vopsT] at h
    obtain ⟨⟨e, rl⟩, h1, h2⟩ := Tr.bind_some h
    simp only [vops, vop, (effGT_ok hS h1).1, Option.map_some, Option.bind_some]
    exact vopsT_ok hS l _ _ _ h2

theorem drawT_ok (hS : Good call S) : ∀ (l : List Oper) (fr : Nat) (σ : St) (r : St × List (List Res × List Res)), (drawRunT T sh S cx ops fr l σ).run = some r → drawRun T call cx ops fr l σ = some r
  | [], fr, σ, r, h => by simpa [drawRunT, drawRun, Tr.run] using h
  | o :: l, fr, σ, r, h => by
    simp only [drawRunT] at h
    obtain ⟨⟨e, rl⟩, h1, h2⟩ := Tr.bind_some h
    obtain ⟨g1, g2⟩ := effGT_ok hS h1
    have hrd : readsL ops fr o σ.env e rl = reads ops fr o σ.env e := by unfold readsL reads; rw [g2]; rfl
    simp only [drawRun, g1]
    simp only [hrd] at h2
    rw [g2]
    by_cases hb : (tameB e && calm o e && rl.all (seen σ) && (refRes e.val).all (fun r => (reads ops fr o σ.env e).contains r)) = true
    · rw [if_pos hb] at h2 ⊢
      obtain ⟨y, h3, h4⟩ := Tr.bind_some h2
      rw [drawT_ok hS l _ _ _ h3]
      have h4 := ret_some h4
      simp [← h4]
    · rw [if_neg hb] at h2 ⊢
      obtain ⟨hw, h2⟩ := if_fail h2
      rw [if_pos hw]
      obtain ⟨y, h3, h4⟩ := Tr.bind_some h2
      rw [drawT_ok hS l _ _ _ h3]
      have h4 := ret_some h4
      simp [← h4]

theorem regionT_ok (hS : Good call S) {id : Nat} {draw : Bool} {τ : St} (h : (regionT T sh S cx id ops draw σ).run = some τ) : vregion T call cx id ops draw σ = some τ := by
  unfold regionT at h
  unfold vregion
  cases draw with
  | false =>
    simp only at h ⊢
    obtain ⟨x, h1, h2⟩ := Tr.bind_some h
    rw [vopsT_ok hS _ _ _ _ h1]
    have h2 := ret_some h2
    simp [h2]
  | true =>
    simp only at h ⊢
    obtain ⟨x, h1, h2⟩ := Tr.bind_some h
    rw [drawT_ok hS _ _ _ _ h1]
    obtain ⟨h3, h2⟩ := if_fail h2
    have h2 := ret_some h2
    simp only [if_pos h3, h2]

/-- A loop's round, in V. -/
def vstep (T : Types) (call : CallF) (lp : Step → Step) (cx : Cx) (n : Nat) (b : Code) : Step := fun τ => match vcode T call lp cx b τ with
  | some (.normal, τ') => some (.normal, cut n (prune (cx.head (firstRegion b)) τ'))
  | r => r

/-- What is told of the loops in a code is so. -/
def LGood (T : Types) (call : CallF) (lp : Step → Step) (cx : Cx) (L : LSpec) (c : Code) : Prop := ∀ b ∈ loopsOf c, ∀ σ r, (L (firstRegion b) σ).run = some r → lp (vstep T call lp cx σ.heap.length b) σ = some r

theorem prune_heap (k : Option (List Nat)) (σ : St) : (prune k σ).heap = σ.heap := by cases k <;> rfl

theorem codeT_ok {lp : Step → Step} (hS : Good call S) : ∀ (c : Code) (σ : St) (r : Ex × St), LGood T call lp cx L c → (codeT T sh S L cx c σ).run = some r → vcode T call lp cx c σ = some r
  | .skip, σ, r, hL, h => by simpa [codeT, vcode, Tr.run] using h
  | .region id ops draw, σ, r, hL, h => by
    simp only [codeT] at h
    obtain ⟨x, h1, h2⟩ := Tr.bind_some h
    simp only [vcode, regionT_ok hS h1]
    simpa [Tr.run] using h2
  | .seq a b, σ, r, hL, h => by
    simp only [codeT] at h
    obtain ⟨⟨ex, σ1⟩, h1, h2⟩ := Tr.bind_some h
    have ha := codeT_ok hS a σ _ (fun b hb => hL b (by simp [loopsOf, hb])) h1
    simp only [vcode, ha]
    cases ex with
    | normal => exact codeT_ok hS b _ _ (fun b hb => hL b (by simp [loopsOf, hb])) h2
    | exit i => simpa [Tr.run] using h2
    | ret => simpa [Tr.run] using h2
  | .cond c a b, σ, r, hL, h => by
    simp only [codeT] at h
    simp only [vcode]
    cases hv : opd σ.env c <;> simp only [hv] at h ⊢ <;> try (cases h; done)
    rename_i t
    cases t
    · simp only [Tr.run, Bool.false_eq_true, if_false] at h ⊢
      exact codeT_ok hS b σ r (fun b hb => hL b (by simp [loopsOf, hb])) h
    · simp only [Tr.run, if_true] at h ⊢
      exact codeT_ok hS a σ r (fun b hb => hL b (by simp [loopsOf, hb])) h
  | .block id b, σ, r, hL, h => by
    simp only [codeT] at h
    obtain ⟨⟨ex, σ1⟩, h1, h2⟩ := Tr.bind_some h
    have ha := codeT_ok hS b σ _ (fun b hb => hL b (by simp [loopsOf, hb])) h1
    simp only [vcode, ha]
    cases ex with
    | normal => simpa [Tr.run] using h2
    | exit i =>
      simp only at h2 ⊢
      split at h2 <;> rename_i hi
      · rw [if_pos hi]; simpa [Tr.run] using h2
      · rw [if_neg hi]; simpa [Tr.run] using h2
    | ret => simpa [Tr.run] using h2
  | .exit id, σ, r, hL, h => by simpa [codeT, vcode, Tr.run] using h
  | .ret, σ, r, hL, h => by simpa [codeT, vcode, Tr.run] using h
  | .loop b, σ, r, hL, h => by
    simp only [codeT] at h
    have := hL b (by simp [loopsOf]) _ _ h
    rw [prune_heap] at this
    exact this
  | .rangeFunc _ _ _ _, σ, r, hL, h => by cases h
  | .scope _, σ, r, hL, h => by cases h
  | .label _, σ, r, hL, h => by cases h
  | .goto _, σ, r, hL, h => by cases h
  | .refuse _, σ, r, hL, h => by cases h

theorem roundT_ok {lp : Step → Step} (hS : Good call S) {n : Nat} {b : Code} {τ : St} {r : Ex × St} (hL : LGood T call lp cx L b) (h : (roundT T sh S L cx n b τ).run = some r) : vstep T call lp cx n b τ = some r := by
  unfold roundT at h
  obtain ⟨⟨ex, σ1⟩, h1, h2⟩ := Tr.bind_some h
  unfold vstep
  rw [codeT_ok hS b τ _ hL h1]
  cases ex <;> simpa [Tr.run] using h2

theorem LRuns.step {step : Step} {σ τ : St} {r : Ex × St} (h : step σ = some (.normal, τ)) (g : LRuns step τ r) : LRuns step σ r := by
  obtain ⟨n, hn⟩ := g
  exact ⟨n + 1, by simp only [rounds, h]; exact hn⟩
theorem LRuns.stop {step : Step} {σ τ : St} {ex : Ex} (h : step σ = some (ex, τ)) (hx : ex ≠ .normal) : LRuns step σ (ex, τ) :=
  ⟨1, by cases ex <;> simp_all [rounds]⟩

theorem unrollT_ok {lp : Step → Step} (hS : Good call S) {n : Nat} {b : Code} (hL : LGood T call lp cx L b) : ∀ (m : Nat) (τ : St) (r : Ex × St), (unrollT T sh S L cx b n m τ).run = some r → LRuns (vstep T call lp cx n b) τ r
  | 0, τ, r, h => by cases h
  | m + 1, τ, r, h => by
    simp only [unrollT] at h
    obtain ⟨⟨ex, σ1⟩, h1, h2⟩ := Tr.bind_some h
    have h3 := roundT_ok hS hL h1
    cases ex with
    | normal => exact LRuns.step h3 (unrollT_ok hS hL m _ _ h2)
    | exit i =>
      have h2 := ret_some h2; subst h2
      exact LRuns.stop h3 (by simp)
    | ret =>
      have h2 := ret_some h2; subst h2
      exact LRuns.stop h3 (by simp)

theorem funT_ok {F : Fns} {f : FuncId} {fi : FI} {a : List V} {H : Heap} {r : V × Heap} (hS : Good (vlim T F) S) (hf : F f = some fi) (hL : LGood T (vlim T F) lplim fi.cx L fi.body)
    (h : (funT T sh S L fi a H).run = some r) : Runs T F f a H r := by
  refine runs_of_lim ?_
  unfold funT at h
  obtain ⟨⟨ex, σ1⟩, h1, h2⟩ := Tr.bind_some h
  unfold vfun
  simp only [hf]
  rw [codeT_ok hS fi.body _ _ hL h1]
  cases ex with
  | normal => rwa [Tr.run_ofO] at h2
  | ret => rwa [Tr.run_ofO] at h2
  | exit i => cases h2

/-- Told of no call. -/
def noSpec : Spec := fun _ _ _ => .fail
theorem Good.no : Good call noSpec := fun _ _ _ _ h => by cases h
/-- Told of one function more. -/
def Spec.add (S : Spec) (f : FuncId) (g : List V → Heap → Tr (V × Heap)) : Spec := fun f' a H => match Nat.beq f' f with
  | true => g a H
  | false => S f' a H
theorem Good.add {F : Fns} (hS : Good (vlim T F) S) {f : FuncId} {g : List V → Heap → Tr (V × Heap)} (h : ∀ a H r, (g a H).run = some r → Runs T F f a H r) : Good (vlim T F) (S.add f g) := by
  intro f' a H r hr
  unfold Spec.add at hr
  cases hb : Nat.beq f' f <;> simp only [hb] at hr
  · exact hS _ _ _ _ hr
  · have := Nat.eq_of_beq_eq_true hb; subst this
    exact vlim_iff.2 (h _ _ _ hr)
theorem LGood.none {lp : Step → Step} {c : Code} (h : loopsOf c = []) : LGood T call lp cx L c := fun b hb => by rw [h] at hb; cases hb
theorem LGood.of_list {lp : Step → Step} {c : Code} {l : List Code} (h : loopsOf c = l) (hl : ∀ b ∈ l, ∀ σ r, (L (firstRegion b) σ).run = some r → lp (vstep T call lp cx σ.heap.length b) σ = some r) : LGood T call lp cx L c := fun b hb => hl b (h ▸ hb)

/-- Loops that are told by so many of their own rounds. -/
def unrolled (T : Types) (sh : Nat → List TK) (S : Spec) (cx : Cx) (m : Nat) (l : List Code) : Nat → LSpec
  | 0 => fun _ _ => .fail
  | d + 1 => fun id σ => match l.find? (fun b => Nat.beq (firstRegion b) id) with
    | some b => unrollT T sh S (unrolled T sh S cx m l d) cx b σ.heap.length m σ
    | none => .fail
theorem loopsOf_sub : ∀ (c : Code) {b : Code}, b ∈ loopsOf c → ∀ x ∈ loopsOf b, x ∈ loopsOf c
  | .seq p q, b, hb, x, hx => by
    simp only [loopsOf, List.mem_append] at hb ⊢
    rcases hb with hb | hb
    · exact .inl (loopsOf_sub p hb x hx)
    · exact .inr (loopsOf_sub q hb x hx)
  | .cond _ p q, b, hb, x, hx => by
    simp only [loopsOf, List.mem_append] at hb ⊢
    rcases hb with hb | hb
    · exact .inl (loopsOf_sub p hb x hx)
    · exact .inr (loopsOf_sub q hb x hx)
  | .block _ p, b, hb, x, hx => loopsOf_sub p (by simpa [loopsOf] using hb) x hx
  | .loop p, b, hb, x, hx => by
    simp only [loopsOf, List.mem_cons] at hb ⊢
    rcases hb with rfl | hb
    · exact .inr hx
    · exact .inr (loopsOf_sub p hb x hx)
  | .skip, b, hb, x, hx => by simp [loopsOf] at hb
  | .region _ _ _, b, hb, x, hx => by simp [loopsOf] at hb
  | .exit _, b, hb, x, hx => by simp [loopsOf] at hb
  | .ret, b, hb, x, hx => by simp [loopsOf] at hb
  | .rangeFunc _ _ _ _, b, hb, x, hx => by simp [loopsOf] at hb
  | .scope _, b, hb, x, hx => by simp [loopsOf] at hb
  | .label _, b, hb, x, hx => by simp [loopsOf] at hb
  | .goto _, b, hb, x, hx => by simp [loopsOf] at hb
  | .refuse _, b, hb, x, hx => by simp [loopsOf] at hb

/-- Loops of a code are told apart by their first regions. -/
def apartL : List Code → Bool
  | [] => true
  | b :: l => (l.all fun x => !Nat.beq (firstRegion x) (firstRegion b)) && apartL l
theorem apartL_find : ∀ {l : List Code}, apartL l = true → ∀ b ∈ l, l.find? (fun x => Nat.beq (firstRegion x) (firstRegion b)) = some b
  | [], _, b, hb => by cases hb
  | y :: l, h, b, hb => by
    simp only [apartL, Bool.and_eq_true, List.all_eq_true, Bool.not_eq_true'] at h
    rcases List.mem_cons.1 hb with rfl | hb
    · rw [List.find?_cons_of_pos (by simp)]
    · rw [List.find?_cons_of_neg, apartL_find h.2 b hb]
      intro hq
      have := h.1 b hb
      rw [Nat.eq_of_beq_eq_true hq] at this
      simp at this
theorem unrolled_ok {F : Fns} {cx : Cx} (hS : Good (vlim T F) S) {m : Nat} {c0 : Code} (ha : apartL (loopsOf c0) = true) : ∀ (d : Nat) (c : Code), (∀ b ∈ loopsOf c, b ∈ loopsOf c0) → LGood T (vlim T F) lplim cx (unrolled T sh S cx m (loopsOf c0) d) c
  | 0, c, _, b, hb, σ, r, h => by cases h
  | d + 1, c, hc, b, hb, σ, r, h => by
    simp only [unrolled, apartL_find ha b (hc b hb)] at h
    exact lplim_iff.2 (unrollT_ok hS (unrolled_ok hS ha d b (fun x hx => loopsOf_sub c0 (hc b hb) x hx)) m σ r h)

/-- A function as it is told by its text: calls by what is told of them, loops by so many rounds. -/
def inl (T : Types) (sh : Nat → List TK) (S : Spec) (m d : Nat) (fi : FI) : List V → Heap → Tr (V × Heap) :=
  funT T sh S (unrolled T sh S fi.cx m (loopsOf fi.body) d) fi
theorem inl_ok {F : Fns} (hS : Good (vlim T F) S) {f : FuncId} {fi : FI} (hf : F f = some fi) (m d : Nat) (ha : apartL (loopsOf fi.body) = true) : ∀ a H r, (inl T sh S m d fi a H).run = some r → Runs T F f a H r :=
  fun _ _ _ h => funT_ok hS hf (unrolled_ok hS ha d fi.body (fun _ hb => hb)) h
theorem Good.inl {F : Fns} (hS : Good (vlim T F) S) {f : FuncId} {fi : FI} (hf : F f = some fi) (m d : Nat) (ha : apartL (loopsOf fi.body) = true) : Good (vlim T F) (S.add f (Vm.inl T sh S m d fi)) :=
  hS.add (inl_ok hS hf m d ha)
end
end Go.Vm
end

section
/- V37: loops that are told at their states; small laws for what is told. -/
namespace Go.Vm
open Go

/-- Whether a state is the one that is meant. -/
noncomputable def is (σ σ0 : St) : Bool := @decide (σ = σ0) (Classical.propDecidable _)
theorem is_self (σ : St) : is σ σ = true := by unfold is; exact @decide_eq_true _ (Classical.propDecidable _) rfl
theorem is_eq {σ σ0 : St} (h : σ = σ0) : is σ σ0 = true := by rw [h]; exact is_self σ0
theorem of_is {σ σ0 : St} (h : is σ σ0 = true) : σ = σ0 := @of_decide_eq_true _ (Classical.propDecidable _) h

noncomputable def eqB {α : Type} (a b : α) : Bool := @decide (a = b) (Classical.propDecidable _)
theorem eqB_self {α : Type} (a : α) : eqB a a = true := by unfold eqB; exact @decide_eq_true _ (Classical.propDecidable _) rfl
theorem eqB_eq {α : Type} {a b : α} (h : a = b) : eqB a b = true := by rw [h]; exact eqB_self b
theorem of_eqB {α : Type} {a b : α} (h : eqB a b = true) : a = b := @of_decide_eq_true _ (Classical.propDecidable _) h

noncomputable def loopsIs : List (Nat × St × (Ex × St)) → LSpec
  | [], _, _ => .fail
  | x :: l, id, σ => match Nat.beq id x.1 with
    | true => .must (is σ x.2.1) (.ret x.2.2)
    | false => loopsIs l id σ

section
variable {T : Types} {sh : Nat → List TK} {S : Spec} {L : LSpec} {F : Fns} {cx : Cx} {c : Code}

theorem LGood.is : ∀ {l : List (Nat × St × (Ex × St))}, (∀ b ∈ loopsOf c, ∀ x ∈ l, firstRegion b = x.1 → LRuns (vstep T (vlim T F) lplim cx x.2.1.heap.length b) x.2.1 x.2.2) → LGood T (vlim T F) lplim cx (loopsIs l) c
  | [], _, b, hb, σ, r, h => by cases h
  | x :: l, hl, b, hb, σ, r, h => by
    unfold loopsIs at h
    cases hbq : Nat.beq (firstRegion b) x.1 <;> simp only [hbq] at h
    · exact LGood.is (l := l) (fun b hb y hy => hl b hb y (by simp [hy])) b hb σ r h
    · obtain ⟨h1, h2⟩ := Tr.must_some h
      have := of_is h1; subst this
      have h2 := ret_some h2; subst h2
      exact lplim_iff.2 (hl b hb x (by simp) (Nat.eq_of_beq_eq_true hbq))
theorem LGood.one {b : Code} {k : Nat} {σ0 : St} {r : Ex × St} (h : loopsOf c = [b]) (hr : LRuns (vstep T (vlim T F) lplim cx σ0.heap.length b) σ0 r) : LGood T (vlim T F) lplim cx (loopsIs [(k, σ0, r)]) c := by
  refine LGood.is fun b' hb x hx _ => ?_
  rw [h] at hb; simp at hb hx; subst hb; subst hx; exact hr
theorem LGood.two {b0 b1 : Code} {k0 k1 : Nat} {σ0 σ1 : St} {r0 r1 : Ex × St} (h : loopsOf c = [b0, b1]) (e0 : Nat.beq (firstRegion b0) k1 = false) (e1 : Nat.beq (firstRegion b1) k0 = false)
    (h0 : LRuns (vstep T (vlim T F) lplim cx σ0.heap.length b0) σ0 r0) (h1 : LRuns (vstep T (vlim T F) lplim cx σ1.heap.length b1) σ1 r1) : LGood T (vlim T F) lplim cx (loopsIs [(k0, σ0, r0), (k1, σ1, r1)]) c := by
  refine LGood.is fun b' hb x hx hf => ?_
  rw [h] at hb; simp at hb hx
  rcases hb with rfl | rfl <;> rcases hx with rfl | rfl
  · exact h0
  · simp only at hf; rw [hf] at e0; simp at e0
  · simp only at hf; rw [hf] at e1; simp at e1
  · exact h1

/-- Answers: 0 yes, 1 no, then those that are told. -/
def spread (cs : List (Bool × Bool)) : List Nat → List (Bool × Bool)
  | [] => []
  | 0 :: l => (true, true) :: spread cs l
  | 1 :: l => (false, false) :: spread cs l
  | (j + 2) :: l => cs.getD j (true, true) :: spread cs l
def AllOk : List (Bool × Bool) → Prop
  | [] => True
  | c :: l => c.1 = c.2 ∧ AllOk l
theorem AllOk.get : ∀ {cs : List (Bool × Bool)}, AllOk cs → ∀ j, (cs.getD j (true, true)).1 = (cs.getD j (true, true)).2
  | [], _, j => by simp
  | c :: l, h, 0 => h.1
  | c :: l, h, j + 1 => by simpa using AllOk.get (cs := l) h.2 j
theorem spread_ok {cs : List (Bool × Bool)} (h : AllOk cs) : ∀ (l : List Nat), ∀ c ∈ spread cs l, c.1 = c.2
  | [], c, hc => by cases hc
  | 0 :: l, c, hc => by
    rcases List.mem_cons.1 hc with rfl | hc
    · rfl
    · exact spread_ok h l c hc
  | 1 :: l, c, hc => by
    rcases List.mem_cons.1 hc with rfl | hc
    · rfl
    · exact spread_ok h l c hc
  | (j + 2) :: l, c, hc => by
    rcases List.mem_cons.1 hc with rfl | hc
    · exact h.get j
    · exact spread_ok h l c hc
def answers (cs : List (Bool × Bool)) (l : List Nat) : List Bool := (spread cs l).map (·.2)

/-- A round by the way that it goes. -/
theorem LRuns.next (hS : Good (vlim T F) S) {n : Nat} {b : Code} {τ τ' : St} {r : Ex × St} (hL : LGood T (vlim T F) lplim cx L b) (cs : List (Bool × Bool)) (l : List Nat)
    (h : (roundT T sh S L cx n b τ).follow (answers cs l) = some (spread cs l, some (.normal, τ'))) (hc : AllOk cs) (hr : LRuns (vstep T (vlim T F) lplim cx n b) τ' r) : LRuns (vstep T (vlim T F) lplim cx n b) τ r :=
  LRuns.step (roundT_ok hS hL (Tr.follow_run h (spread_ok hc l))) hr
theorem LRuns.last (hS : Good (vlim T F) S) {n : Nat} {b : Code} {τ : St} {r : Ex × St} (hL : LGood T (vlim T F) lplim cx L b) (cs : List (Bool × Bool)) (l : List Nat)
    (h : (roundT T sh S L cx n b τ).follow (answers cs l) = some (spread cs l, some r)) (hx : r.1 ≠ .normal) (hc : AllOk cs) : LRuns (vstep T (vlim T F) lplim cx n b) τ r :=
  LRuns.stop (roundT_ok hS hL (Tr.follow_run h (spread_ok hc l))) hx
/-- A function by the way that it goes. -/
theorem Runs.way (hS : Good (vlim T F) S) {f : FuncId} {fi : FI} (hf : F f = some fi) (hL : LGood T (vlim T F) lplim fi.cx L fi.body) (cs : List (Bool × Bool)) (l : List Nat) {a : List V} {H : Heap} {r : V × Heap}
    (h : (funT T sh S L fi a H).follow (answers cs l) = some (spread cs l, some r)) (hc : AllOk cs) : Runs T F f a H r := funT_ok hS hf hL (Tr.follow_run h (spread_ok hc l))
/-- A call by the way that it goes. -/
theorem Good.way {call : CallF} (hS : Good call S) {f : FuncId} (cs : List (Bool × Bool)) (l : List Nat) {a : List V} {H : Heap} {r : V × Heap}
    (h : (S f a H).follow (answers cs l) = some (spread cs l, some r)) (hc : AllOk cs) : call f a H = some r := hS _ _ _ _ (Tr.follow_run h (spread_ok hc l))
end

theorem i64in {n : Int} (h1 : -9223372036854775808 ≤ n) (h2 : n ≤ 9223372036854775807) : IntKind.i64.wrap n = n := Go.IntWalk.i64_in n ⟨h1, h2⟩
@[simp] theorem getD_map {α : Type} (f : α → V) (l : List α) (i : Nat) (h : i < l.length) : (l.map f).getD i .undef = f l[i] := by
  rw [List.getD_eq_getElem?_getD]; simp [h]
@[simp] theorem fld_agg (j : Nat) (cs : List V) : fld j (.agg cs) = cs.getD j .undef := rfl
@[simp] theorem intOf_int (k : IntKind) (n : Int) : intOf (.int k n) = n := rfl
@[simp] theorem boolOf_bool (b : Bool) : boolOf (.bool b) = b := rfl
@[simp] theorem cells_agg (cs : List V) : (V.agg cs).cells = cs := rfl
@[simp] theorem fld_int (k : IntKind) (n : Int) : fld 0 (.int k n) = .int k n := rfl
@[simp] theorem fld_bool (b : Bool) : fld 0 (.bool b) = .bool b := rfl

end Go.Vm
end
