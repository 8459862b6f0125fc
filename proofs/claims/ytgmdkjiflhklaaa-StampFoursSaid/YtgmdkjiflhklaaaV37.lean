/- V37: loops that are told at their states; small laws for what is told. -/
import Derived.Test.YtgmdkjiflhklaaaV36
import Derived.IntWalk
namespace Go.Vm
open Go

/-- Whether a state is the one that is meant. -/
noncomputable def is (σ σ0 : St) : Bool := @decide (σ = σ0) (Classical.propDecidable _)
theorem is_self (σ : St) : is σ σ = true := by unfold is; exact @decide_eq_true _ (Classical.propDecidable _) rfl
theorem is_eq {σ σ0 : St} (h : σ = σ0) : is σ σ0 = true := by rw [h]; exact is_self σ0
theorem of_is {σ σ0 : St} (h : is σ σ0 = true) : σ = σ0 := @of_decide_eq_true _ (Classical.propDecidable _) h

noncomputable def eqB {α : Type} (a b : α) : Bool := @decide (a = b) (Classical.propDecidable _)
theorem eqB_self {α : Type} (a : α) : eqB a a = true := by unfold eqB; exact @decide_eq_true _ (Classical.propDecidable _) rfl
theorem eqB_eq {α : Type} {a b : α} (h : a = b) : eqB a b = true := by rw [h]; exact eqB_self b
theorem of_eqB {α : Type} {a b : α} (h : eqB a b = true) : a = b := @of_decide_eq_true _ (Classical.propDecidable _) h

noncomputable def loopsIs : List (Nat × St × (Ex × St)) → LSpec
  | [], _, _ => .fail
  | x :: l, id, σ => match Nat.beq id x.1 with
    | true => .must (is σ x.2.1) (.ret x.2.2)
    | false => loopsIs l id σ

section
variable {T : Types} {sh : Nat → List TK} {S : Spec} {L : LSpec} {F : Fns} {cx : Cx} {c : Code}

theorem LGood.is : ∀ {l : List (Nat × St × (Ex × St))}, (∀ b ∈ loopsOf c, ∀ x ∈ l, firstRegion b = x.1 → LRuns (vstep T (vlim T F) lplim cx x.2.1.heap.length b) x.2.1 x.2.2) → LGood T (vlim T F) lplim cx (loopsIs l) c
  | [], _, b, hb, σ, r, h => by cases h
  | x :: l, hl, b, hb, σ, r, h => by
    unfold loopsIs at h
    cases hbq : Nat.beq (firstRegion b) x.1 <;> simp only [hbq] at h
    · exact LGood.is (l := l) (fun b hb y hy => hl b hb y (by simp [hy])) b hb σ r h
    · obtain ⟨h1, h2⟩ := Tr.must_some h
      have := of_is h1; subst this
      have h2 := ret_some h2; subst h2
      exact lplim_iff.2 (hl b hb x (by simp) (Nat.eq_of_beq_eq_true hbq))
theorem LGood.one {b : Code} {k : Nat} {σ0 : St} {r : Ex × St} (h : loopsOf c = [b]) (hr : LRuns (vstep T (vlim T F) lplim cx σ0.heap.length b) σ0 r) : LGood T (vlim T F) lplim cx (loopsIs [(k, σ0, r)]) c := by
  refine LGood.is fun b' hb x hx _ => ?_
  rw [h] at hb; simp at hb hx; subst hb; subst hx; exact hr
theorem LGood.two {b0 b1 : Code} {k0 k1 : Nat} {σ0 σ1 : St} {r0 r1 : Ex × St} (h : loopsOf c = [b0, b1]) (e0 : Nat.beq (firstRegion b0) k1 = false) (e1 : Nat.beq (firstRegion b1) k0 = false)
    (h0 : LRuns (vstep T (vlim T F) lplim cx σ0.heap.length b0) σ0 r0) (h1 : LRuns (vstep T (vlim T F) lplim cx σ1.heap.length b1) σ1 r1) : LGood T (vlim T F) lplim cx (loopsIs [(k0, σ0, r0), (k1, σ1, r1)]) c := by
  refine LGood.is fun b' hb x hx hf => ?_
  rw [h] at hb; simp at hb hx
  rcases hb with rfl | rfl <;> rcases hx with rfl | rfl
  · exact h0
  · simp only at hf; rw [hf] at e0; simp at e0
  · simp only at hf; rw [hf] at e1; simp at e1
  · exact h1

/-- Answers: 0 yes, 1 no, then those that are told. -/
def spread (cs : List (Bool × Bool)) : List Nat → List (Bool × Bool)
  | [] => []
  | 0 :: l => (true, true) :: spread cs l
  | 1 :: l => (false, false) :: spread cs l
  | (j + 2) :: l => cs.getD j (true, true) :: spread cs l
def AllOk : List (Bool × Bool) → Prop
  | [] => True
  | c :: l => c.1 = c.2 ∧ AllOk l
theorem AllOk.get : ∀ {cs : List (Bool × Bool)}, AllOk cs → ∀ j, (cs.getD j (true, true)).1 = (cs.getD j (true, true)).2
  | [], _, j => by simp
  | c :: l, h, 0 => h.1
  | c :: l, h, j + 1 => by simpa using AllOk.get (cs := l) h.2 j
theorem spread_ok {cs : List (Bool × Bool)} (h : AllOk cs) : ∀ (l : List Nat), ∀ c ∈ spread cs l, c.1 = c.2
  | [], c, hc => by cases hc
  | 0 :: l, c, hc => by
    rcases List.mem_cons.1 hc with rfl | hc
    · rfl
    · exact spread_ok h l c hc
  | 1 :: l, c, hc => by
    rcases List.mem_cons.1 hc with rfl | hc
    · rfl
    · exact spread_ok h l c hc
  | (j + 2) :: l, c, hc => by
    rcases List.mem_cons.1 hc with rfl | hc
    · exact h.get j
    · exact spread_ok h l c hc
def answers (cs : List (Bool × Bool)) (l : List Nat) : List Bool := (spread cs l).map (·.2)

/-- A round by the way that it goes. -/
theorem LRuns.next (hS : Good (vlim T F) S) {n : Nat} {b : Code} {τ τ' : St} {r : Ex × St} (hL : LGood T (vlim T F) lplim cx L b) (cs : List (Bool × Bool)) (l : List Nat)
    (h : (roundT T sh S L cx n b τ).follow (answers cs l) = some (spread cs l, some (.normal, τ'))) (hc : AllOk cs) (hr : LRuns (vstep T (vlim T F) lplim cx n b) τ' r) : LRuns (vstep T (vlim T F) lplim cx n b) τ r :=
  LRuns.step (roundT_ok hS hL (Tr.follow_run h (spread_ok hc l))) hr
theorem LRuns.last (hS : Good (vlim T F) S) {n : Nat} {b : Code} {τ : St} {r : Ex × St} (hL : LGood T (vlim T F) lplim cx L b) (cs : List (Bool × Bool)) (l : List Nat)
    (h : (roundT T sh S L cx n b τ).follow (answers cs l) = some (spread cs l, some r)) (hx : r.1 ≠ .normal) (hc : AllOk cs) : LRuns (vstep T (vlim T F) lplim cx n b) τ r :=
  LRuns.stop (roundT_ok hS hL (Tr.follow_run h (spread_ok hc l))) hx
/-- A function by the way that it goes. -/
theorem Runs.way (hS : Good (vlim T F) S) {f : FuncId} {fi : FI} (hf : F f = some fi) (hL : LGood T (vlim T F) lplim fi.cx L fi.body) (cs : List (Bool × Bool)) (l : List Nat) {a : List V} {H : Heap} {r : V × Heap}
    (h : (funT T sh S L fi a H).follow (answers cs l) = some (spread cs l, some r)) (hc : AllOk cs) : Runs T F f a H r := funT_ok hS hf hL (Tr.follow_run h (spread_ok hc l))
/-- A call by the way that it goes. -/
theorem Good.way {call : CallF} (hS : Good call S) {f : FuncId} (cs : List (Bool × Bool)) (l : List Nat) {a : List V} {H : Heap} {r : V × Heap}
    (h : (S f a H).follow (answers cs l) = some (spread cs l, some r)) (hc : AllOk cs) : call f a H = some r := hS _ _ _ _ (Tr.follow_run h (spread_ok hc l))
end

theorem i64in {n : Int} (h1 : -9223372036854775808 ≤ n) (h2 : n ≤ 9223372036854775807) : IntKind.i64.wrap n = n := Go.IntWalk.i64_in n ⟨h1, h2⟩
@[simp] theorem getD_map {α : Type} (f : α → V) (l : List α) (i : Nat) (h : i < l.length) : (l.map f).getD i .undef = f l[i] := by
  rw [List.getD_eq_getElem?_getD]; simp [h]
@[simp] theorem fld_agg (j : Nat) (cs : List V) : fld j (.agg cs) = cs.getD j .undef := rfl
@[simp] theorem intOf_int (k : IntKind) (n : Int) : intOf (.int k n) = n := rfl
@[simp] theorem boolOf_bool (b : Bool) : boolOf (.bool b) = b := rfl
@[simp] theorem cells_agg (cs : List V) : (V.agg cs).cells = cs := rfl
@[simp] theorem fld_int (k : IntKind) (n : Int) : fld 0 (.int k n) = .int k n := rfl
@[simp] theorem fld_bool (b : Bool) : fld 0 (.bool b) = .bool b := rfl

end Go.Vm
