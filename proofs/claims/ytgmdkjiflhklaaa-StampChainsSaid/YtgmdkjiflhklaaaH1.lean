/- H1: bytes, the examples, arguments. -/
import Derived.Test.YtgmdkjiflhklaaaA1
namespace Go.Proofs.Ytgmdkjiflhklaaa
open Go Go.Vm

def encB (n : Int) : V := .int .u8 n
def Fd.by (l : List Int) (i : Int) : Int := intOf (fld 0 ((l.map encB).getD i.toNat V.undef))
theorem by_at (bs : List Int) (k : Nat) (h : k < bs.length) : Fd.by bs k = bs[k] := by simp [Fd.by, encB, h]
def awakeS : List V → Heap → Tr (V × Heap) := fun a H => match a, H with
  | [], [] => .ret (.bool true, [])
  | _, _ => .fail
/-- Arguments of numbers and of lists of numbers. -/
theorem hasV_int {m t : Nat} {v : V} {i : TI} {k : IntKind} (hi : T t = some i) (hk : i.kind = .int k) (h : HasV T (m + 1) t v) : ∃ n, v = .int k n ∧ (Lit.int k n).wf = true := by
  obtain ⟨i', hi', ha, hc⟩ := h
  rw [hi] at hi'; injection hi' with hi'; subst hi'
  simp only [HasC, hi, hk] at hc
  obtain ⟨n, hv, hw⟩ := hc
  refine ⟨n, ?_, hw⟩
  unfold asType at ha
  rw [hv] at ha
  split at ha
  · rw [hk] at ha
    simp [TK.isAgg] at ha
    exact ha.symm
  · cases ha
theorem hasV_ints {m t e : Nat} {v : V} {i j : TI} {k : IntKind} (hi : T t = some i) (hk : i.kind = .slice e) (hj : T e = some j) (hjk : j.kind = .int k) (h : HasV T (m + 2) t v) :
    ∃ b, ∃ ns : List Int, v = .sl b (ns.map (.int k)) ∧ (∀ n ∈ ns, (Lit.int k n).wf = true) ∧ ns.length ≤ maxLen ∧ (b = true → ns = []) := by
  obtain ⟨i', hi', ha, hc⟩ := h
  rw [hi] at hi'; injection hi' with hi'; subst hi'
  simp only [HasC, hi, hk] at hc
  obtain ⟨b, xs, hv, hb, hl, hx⟩ := hc
  have hv' : v = .sl b xs := by
    unfold asType at ha
    rw [hv] at ha
    split at ha
    · rw [hk] at ha
      simp [TK.isAgg] at ha
      exact ha.symm
    · cases ha
  have key : ∀ (xs : List V), (∀ x ∈ xs, ∃ n, x = .int k n ∧ (Lit.int k n).wf = true) → ∃ ns : List Int, xs = ns.map (.int k) ∧ ∀ n ∈ ns, (Lit.int k n).wf = true := by
    intro xs
    induction xs with
    | nil => intro _; exact ⟨[], rfl, by simp⟩
    | cons x xs ih =>
      intro hx
      obtain ⟨n, hn, hw⟩ := hx x (by simp)
      obtain ⟨ns, hns, hws⟩ := ih (fun y hy => hx y (by simp [hy]))
      refine ⟨n :: ns, by rw [hn, hns]; rfl, fun z hz => ?_⟩
      rcases List.mem_cons.1 hz with rfl | hz
      · exact hw
      · exact hws z hz
  obtain ⟨ns, hns, hws⟩ := key xs fun x hx' => by
    obtain ⟨ei, h1, h2, h3⟩ := hx x hx'
    exact hasV_int hj hjk ⟨ei, h1, h2, h3⟩
  subst hns
  exact ⟨b, ns, hv', hws, by simpa using hl, fun h => by simpa using hb h⟩

end Go.Proofs.Ytgmdkjiflhklaaa
