/- V23: the tables' checks; arguments as they are read. -/
import Derived.Test.YtgmdkjiflhklaaaV22
namespace Go.Vm
open Go

theorem TOk.of_all {P : Program} {T : Types} (N : Nat) (h : ((List.range N).all fun t => match T t with | some i => rowB P t i | none => true) = true) (h2 : ∀ t, N ≤ t → T t = none) (hm : P.follows .mixedOrders = true) : TOk P T := by
  refine ⟨fun t i ht => ?_, hm⟩
  rcases Nat.lt_or_ge t N with hlt | hge
  · have := List.all_eq_true.1 h t (List.mem_range.2 hlt)
    simpa [ht] using this
  · rw [h2 t hge] at ht; cases ht

def FnOk (P : Program) (f : FuncId) (fi : FI) : Prop := ∃ fn, P.funcs[f]? = some fn ∧ fn.body = some fi.body ∧ fn.results.toList = fi.results ∧ (fn.name == "runtime.NumGoroutine") = false ∧ codeB fn.ntmps fi.cx fi.body = true
def FnOks (P : Program) : Nat → List (Option FI) → Prop
  | _, [] => True
  | k, x :: xs => (∀ fi, x = some fi → FnOk P k fi) ∧ FnOks P (k + 1) xs
def fnsOf (l : List (Option FI)) : Fns := fun f => match l[f]? with
  | some x => x
  | none => none
theorem FnOks.get {P : Program} : ∀ {l : List (Option FI)} {k : Nat}, FnOks P k l → ∀ f fi, l[f]? = some (some fi) → FnOk P (k + f) fi
  | [], _, _, f, fi, h => by simp at h
  | x :: xs, k, hl, f, fi, h => by
    cases f with
    | zero => simp at h; exact hl.1 fi h
    | succ f =>
      have := FnOks.get hl.2 f fi (by simpa using h)
      rw [show k + (f + 1) = k + 1 + f by omega]; exact this
theorem FnsOk.of_list {P : Program} {l : List (Option FI)} (h : FnOks P 0 l) : FnsOk P (fnsOf l) := by
  intro f fi hf
  unfold fnsOf at hf
  cases hl : l[f]? with
  | none => simp [hl] at hf
  | some x =>
    simp only [hl] at hf; subst hf
    obtain ⟨fn, h1, h2, h3, h4, h5⟩ := FnOks.get h f fi hl
    rw [Nat.zero_add] at h1
    exact ⟨fn, h1, h2, h3, by simpa using h4, h5⟩

end Go.Vm
