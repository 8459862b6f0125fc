/-
  No cell of these rows narrows 'for every input' (looked for: loops, veiled, ifaces, maps, wideKeys, modest, calm, conditions, laid).
  DERIVED. THE GIVEN ROWS OF THIS SEAT. 6 by the template 'for every input the law returns true; each argument reads behind the call as it read before'; 0 by the template 'total and deterministic' (their statements: YtnijkhcmjpfjeaaTotals.lean).
  GIVEN WITH THE SEED: the statements are not yours to turn. If you find one false, say at which input.
  Laid BY PROGRAM, IN A SANDBOX (cutbox-rows.mjs): the forced cells as the released guide's own fill.sh prints them over the translation f3caf023de5f13bd… (all of the seat's roots in one cut). By AI agents, Wed Nov 11 2026. No macro, syntax, notation, axiom, sorry.
-/
import Derived.Test.YtnijkhcmjpfjeaaChecked
import GoSem.Claim
import GoSem.ClaimJoined
import GoSem.ClaimMapViews
import Derived.JoinedTies
import Derived.KernelRfl
namespace Go.Proofs.Ytnijkhcmjpfjeaa
/- THE CELL 'sum', in the pinned program and in every row, IS THE sha256 OF THE DUMP (.gsa) THAT YtnijkhcmjpfjeaaProg.lean LOADS. Nothing in Lean hashes anything: it is a label: what it is worth is what the hold of that sum in a sandbox is worth. -/
noncomputable def Try.pinned : Pinned := { name := "ytnijkhcmjpfjeaa", sum := "f3caf023de5f13bd209e8ef678170977a8e31a7ad7c5ce1764952c0b4758410d", checked := Try.checked }
namespace Rows
def none {H : Type} : Left H := { results := [], args := [] }

/-- 'meridianlaw04.ScaleShares': WHATEVER THE INPUT: true; the input reads as it did. -/
def scaleSharesSpec : ChangeSpec := { name := "scaleShares", fn := fun _ => fun
  | [d1, d2, d3, d4] => { results := [.lit (.bool true)], args := [d1, d2, d3, d4] }
  | _ => none }
def scaleSharesRow : OpenClaim := { program := "ytnijkhcmjpfjeaa", sum := "f3caf023de5f13bd209e8ef678170977a8e31a7ad7c5ce1764952c0b4758410d", func := "meridian/meridianlaw04.ScaleShares", spec := "scaleShares", unfollowed := true, recurses := true, apart := false }
def ScaleSharesSaid : Prop := scaleSharesRow.holds Try.pinned (OpenSpec.ofChange scaleSharesSpec)

/-- ITS FALSE NEIGHBOUR: 'it returns false'. Refute it at one input. -/
def scaleSharesWrong : ChangeSpec := { name := "scaleShares", fn := fun _ => fun
  | [d1, d2, d3, d4] => { results := [.lit (.bool false)], args := [d1, d2, d3, d4] }
  | _ => none }
def ScaleSharesWrongFalsely : Prop := scaleSharesRow.holds Try.pinned (OpenSpec.ofChange scaleSharesWrong)

/-- 'meridianlaw04.ScaleMaster': WHATEVER THE INPUT: true; the input reads as it did. -/
def scaleMasterSpec : ChangeSpec := { name := "scaleMaster", fn := fun _ => fun
  | [d1, d2, d3, d4, d5] => { results := [.lit (.bool true)], args := [d1, d2, d3, d4, d5] }
  | _ => none }
def scaleMasterRow : OpenClaim := { program := "ytnijkhcmjpfjeaa", sum := "f3caf023de5f13bd209e8ef678170977a8e31a7ad7c5ce1764952c0b4758410d", func := "meridian/meridianlaw04.ScaleMaster", spec := "scaleMaster", unfollowed := true, recurses := true, apart := false }
def ScaleMasterSaid : Prop := scaleMasterRow.holds Try.pinned (OpenSpec.ofChange scaleMasterSpec)

/-- ITS FALSE NEIGHBOUR: 'it returns false'. Refute it at one input. -/
def scaleMasterWrong : ChangeSpec := { name := "scaleMaster", fn := fun _ => fun
  | [d1, d2, d3, d4, d5] => { results := [.lit (.bool false)], args := [d1, d2, d3, d4, d5] }
  | _ => none }
def ScaleMasterWrongFalsely : Prop := scaleMasterRow.holds Try.pinned (OpenSpec.ofChange scaleMasterWrong)

/-- 'meridianlaw04.ScaleSmooth': WHATEVER THE INPUT: true; the input reads as it did. -/
def scaleSmoothSpec : ChangeSpec := { name := "scaleSmooth", fn := fun _ => fun
  | [d1, d2, d3, d4, d5, d6] => { results := [.lit (.bool true)], args := [d1, d2, d3, d4, d5, d6] }
  | _ => none }
def scaleSmoothRow : OpenClaim := { program := "ytnijkhcmjpfjeaa", sum := "f3caf023de5f13bd209e8ef678170977a8e31a7ad7c5ce1764952c0b4758410d", func := "meridian/meridianlaw04.ScaleSmooth", spec := "scaleSmooth", unfollowed := true, recurses := true, apart := false }
def ScaleSmoothSaid : Prop := scaleSmoothRow.holds Try.pinned (OpenSpec.ofChange scaleSmoothSpec)

/-- ITS FALSE NEIGHBOUR: 'it returns false'. Refute it at one input. -/
def scaleSmoothWrong : ChangeSpec := { name := "scaleSmooth", fn := fun _ => fun
  | [d1, d2, d3, d4, d5, d6] => { results := [.lit (.bool false)], args := [d1, d2, d3, d4, d5, d6] }
  | _ => none }
def ScaleSmoothWrongFalsely : Prop := scaleSmoothRow.holds Try.pinned (OpenSpec.ofChange scaleSmoothWrong)

/-- 'meridianlaw04.ScaleWeighs': WHATEVER THE INPUT: true; the input reads as it did. -/
def scaleWeighsSpec : ChangeSpec := { name := "scaleWeighs", fn := fun _ => fun
  | [d1, d2, d3, d4] => { results := [.lit (.bool true)], args := [d1, d2, d3, d4] }
  | _ => none }
def scaleWeighsRow : OpenClaim := { program := "ytnijkhcmjpfjeaa", sum := "f3caf023de5f13bd209e8ef678170977a8e31a7ad7c5ce1764952c0b4758410d", func := "meridian/meridianlaw04.ScaleWeighs", spec := "scaleWeighs", unfollowed := true, recurses := true, apart := false }
def ScaleWeighsSaid : Prop := scaleWeighsRow.holds Try.pinned (OpenSpec.ofChange scaleWeighsSpec)

/-- ITS FALSE NEIGHBOUR: 'it returns false'. Refute it at one input. -/
def scaleWeighsWrong : ChangeSpec := { name := "scaleWeighs", fn := fun _ => fun
  | [d1, d2, d3, d4] => { results := [.lit (.bool false)], args := [d1, d2, d3, d4] }
  | _ => none }
def ScaleWeighsWrongFalsely : Prop := scaleWeighsRow.holds Try.pinned (OpenSpec.ofChange scaleWeighsWrong)

/-- 'meridianlaw04.ScaleRuns': WHATEVER THE INPUT: true; the input reads as it did. -/
def scaleRunsSpec : ChangeSpec := { name := "scaleRuns", fn := fun _ => fun
  | [d1, d2, d3] => { results := [.lit (.bool true)], args := [d1, d2, d3] }
  | _ => none }
def scaleRunsRow : OpenClaim := { program := "ytnijkhcmjpfjeaa", sum := "f3caf023de5f13bd209e8ef678170977a8e31a7ad7c5ce1764952c0b4758410d", func := "meridian/meridianlaw04.ScaleRuns", spec := "scaleRuns", unfollowed := true, recurses := true, apart := false }
def ScaleRunsSaid : Prop := scaleRunsRow.holds Try.pinned (OpenSpec.ofChange scaleRunsSpec)

/-- ITS FALSE NEIGHBOUR: 'it returns false'. Refute it at one input. -/
def scaleRunsWrong : ChangeSpec := { name := "scaleRuns", fn := fun _ => fun
  | [d1, d2, d3] => { results := [.lit (.bool false)], args := [d1, d2, d3] }
  | _ => none }
def ScaleRunsWrongFalsely : Prop := scaleRunsRow.holds Try.pinned (OpenSpec.ofChange scaleRunsWrong)

/-- 'meridianlaw04.ScaleSmall': WHATEVER THE INPUT: true; the input reads as it did. -/
def scaleSmallSpec : ChangeSpec := { name := "scaleSmall", fn := fun _ => fun
  | [] => { results := [.lit (.bool true)], args := [] }
  | _ => none }
def scaleSmallRow : OpenClaim := { program := "ytnijkhcmjpfjeaa", sum := "f3caf023de5f13bd209e8ef678170977a8e31a7ad7c5ce1764952c0b4758410d", func := "meridian/meridianlaw04.ScaleSmall", spec := "scaleSmall", unfollowed := true, recurses := true, apart := false }
def ScaleSmallSaid : Prop := scaleSmallRow.holds Try.pinned (OpenSpec.ofChange scaleSmallSpec)

/-- ITS FALSE NEIGHBOUR: 'it returns false'. Refute it at one input. -/
def scaleSmallWrong : ChangeSpec := { name := "scaleSmall", fn := fun _ => fun
  | [] => { results := [.lit (.bool false)], args := [] }
  | _ => none }
def ScaleSmallWrongFalsely : Prop := scaleSmallRow.holds Try.pinned (OpenSpec.ofChange scaleSmallWrong)

/- THE SECOND FORM. 'bulk': how many values and letters a reading holds, each counted each time it is reached (what is shared counts as often as it is met; a slice's spare places count too). A statement '..UptoSaid' is the law's where the arguments, and the package variables that the reading takes, are together of bulk at most 1048576: NARROWER than '..Said'. Prove '..Said' where nothing that the law and all that it calls make is longer than what came in: it says more and counts as full. Else prove '..UptoSaid'. A law counts once. -/
mutual
def uptoBulk {H : Type} : DataW H → Nat
  | .lit (.string bytes) => bytes.length + 1
  | .lit _ => 1
  | .nil => 1
  | .ptr d => uptoBulk d + 1
  | .slice elems spare => uptoBulkAll elems + uptoBulkAll spare + 1
  | .agg parts => uptoBulkAll parts + 1
  | .iface _ d => uptoBulk d + 1
  | .map entries => uptoBulkEntries entries + 1
  | .held _ => 1
def uptoBulkAll {H : Type} : List (DataW H) → Nat
  | [] => 0
  | d :: r => uptoBulk d + uptoBulkAll r
def uptoBulkEntries {H : Type} : List (Lit × DataW H) → Nat
  | [] => 0
  | x :: r => uptoBulkEntry x + uptoBulkEntries r
def uptoBulkEntry {H : Type} : Lit × DataW H → Nat
  | (.string bytes, d) => bytes.length + uptoBulk d + 1
  | (_, d) => uptoBulk d + 1
 end
def uptoSmall : (H : Type) → List (DataW H) → Bool := fun _ ds => decide (uptoBulkAll ds ≤ 1048576)
def OpenSpec.upto (s : _root_.Go.ChangeSpec) : _root_.Go.OpenSpec := { _root_.Go.OpenSpec.ofChange s with cond := some uptoSmall }

/-- 'meridianlaw04.ScaleShares', WHERE WHAT IT READS IS OF BULK AT MOST 1048576: true; the input reads as it did. -/
def scaleSharesUptoRow : OpenClaim := { program := "ytnijkhcmjpfjeaa", sum := "f3caf023de5f13bd209e8ef678170977a8e31a7ad7c5ce1764952c0b4758410d", func := "meridian/meridianlaw04.ScaleShares", spec := "scaleShares", unfollowed := true, recurses := true, apart := false, narrowed := true }
def ScaleSharesUptoSaid : Prop := scaleSharesUptoRow.holds Try.pinned (OpenSpec.upto scaleSharesSpec)

/-- 'meridianlaw04.ScaleMaster', WHERE WHAT IT READS IS OF BULK AT MOST 1048576: true; the input reads as it did. -/
def scaleMasterUptoRow : OpenClaim := { program := "ytnijkhcmjpfjeaa", sum := "f3caf023de5f13bd209e8ef678170977a8e31a7ad7c5ce1764952c0b4758410d", func := "meridian/meridianlaw04.ScaleMaster", spec := "scaleMaster", unfollowed := true, recurses := true, apart := false, narrowed := true }
def ScaleMasterUptoSaid : Prop := scaleMasterUptoRow.holds Try.pinned (OpenSpec.upto scaleMasterSpec)

/-- 'meridianlaw04.ScaleSmooth', WHERE WHAT IT READS IS OF BULK AT MOST 1048576: true; the input reads as it did. -/
def scaleSmoothUptoRow : OpenClaim := { program := "ytnijkhcmjpfjeaa", sum := "f3caf023de5f13bd209e8ef678170977a8e31a7ad7c5ce1764952c0b4758410d", func := "meridian/meridianlaw04.ScaleSmooth", spec := "scaleSmooth", unfollowed := true, recurses := true, apart := false, narrowed := true }
def ScaleSmoothUptoSaid : Prop := scaleSmoothUptoRow.holds Try.pinned (OpenSpec.upto scaleSmoothSpec)

/-- 'meridianlaw04.ScaleWeighs', WHERE WHAT IT READS IS OF BULK AT MOST 1048576: true; the input reads as it did. -/
def scaleWeighsUptoRow : OpenClaim := { program := "ytnijkhcmjpfjeaa", sum := "f3caf023de5f13bd209e8ef678170977a8e31a7ad7c5ce1764952c0b4758410d", func := "meridian/meridianlaw04.ScaleWeighs", spec := "scaleWeighs", unfollowed := true, recurses := true, apart := false, narrowed := true }
def ScaleWeighsUptoSaid : Prop := scaleWeighsUptoRow.holds Try.pinned (OpenSpec.upto scaleWeighsSpec)

/-- 'meridianlaw04.ScaleRuns', WHERE WHAT IT READS IS OF BULK AT MOST 1048576: true; the input reads as it did. -/
def scaleRunsUptoRow : OpenClaim := { program := "ytnijkhcmjpfjeaa", sum := "f3caf023de5f13bd209e8ef678170977a8e31a7ad7c5ce1764952c0b4758410d", func := "meridian/meridianlaw04.ScaleRuns", spec := "scaleRuns", unfollowed := true, recurses := true, apart := false, narrowed := true }
def ScaleRunsUptoSaid : Prop := scaleRunsUptoRow.holds Try.pinned (OpenSpec.upto scaleRunsSpec)

/-- 'meridianlaw04.ScaleSmall', WHERE WHAT IT READS IS OF BULK AT MOST 1048576: true; the input reads as it did. -/
def scaleSmallUptoRow : OpenClaim := { program := "ytnijkhcmjpfjeaa", sum := "f3caf023de5f13bd209e8ef678170977a8e31a7ad7c5ce1764952c0b4758410d", func := "meridian/meridianlaw04.ScaleSmall", spec := "scaleSmall", unfollowed := true, recurses := true, apart := false, narrowed := true }
def ScaleSmallUptoSaid : Prop := scaleSmallUptoRow.holds Try.pinned (OpenSpec.upto scaleSmallSpec)

end Rows
end Go.Proofs.Ytnijkhcmjpfjeaa
