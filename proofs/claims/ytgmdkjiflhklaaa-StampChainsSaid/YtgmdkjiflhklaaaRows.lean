/-
  No cell of these rows narrows 'for every input' (looked for: loops, veiled, ifaces, maps, wideKeys, modest, calm, conditions, laid).
  DERIVED. THE GIVEN ROWS OF THIS SEAT. 9 by the template 'for every input the law returns true; each argument reads behind the call as it read before'; 0 by the template 'total and deterministic' (their statements: YtgmdkjiflhklaaaTotals.lean).
  GIVEN WITH THE SEED: the statements are not yours to turn. If you find one false, say at which input.
  Laid BY PROGRAM, IN A SANDBOX (cutbox-rows.mjs): the forced cells as the released guide's own fill.sh prints them over the translation f333d38c9df39a8a… (all of the seat's roots in one cut). By AI agents, Wed Nov 11 2026. No macro, syntax, notation, axiom, sorry.
-/
import Derived.Test.YtgmdkjiflhklaaaChecked
import GoSem.Claim
import GoSem.ClaimJoined
import GoSem.ClaimMapViews
import Derived.JoinedTies
import Derived.KernelRfl
namespace Go.Proofs.Ytgmdkjiflhklaaa
/- THE CELL 'sum', in the pinned program and in every row, IS THE sha256 OF THE DUMP (.gsa) THAT YtgmdkjiflhklaaaProg.lean LOADS. Nothing in Lean hashes anything: it is a label: what it is worth is what the hold of that sum in a sandbox is worth. -/
noncomputable def Try.pinned : Pinned := { name := "ytgmdkjiflhklaaa", sum := "f333d38c9df39a8a81b499132e50b6f7a59c5660c64b4f62a0ab4ec03d68844c", checked := Try.checked }
namespace Rows
def none {H : Type} : Left H := { results := [], args := [] }

/-- 'meridianlaw11.StampFours': WHATEVER THE INPUT: true; the input reads as it did. -/
def stampFoursSpec : ChangeSpec := { name := "stampFours", fn := fun _ => fun
  | [d] => { results := [.lit (.bool true)], args := [d] }
  | _ => none }
def stampFoursRow : OpenClaim := { program := "ytgmdkjiflhklaaa", sum := "f333d38c9df39a8a81b499132e50b6f7a59c5660c64b4f62a0ab4ec03d68844c", func := "meridian/meridianlaw11.StampFours", spec := "stampFours", unfollowed := true, recurses := true, apart := false }
def StampFoursSaid : Prop := stampFoursRow.holds Try.pinned (OpenSpec.ofChange stampFoursSpec)

/-- ITS FALSE NEIGHBOUR: 'it returns false'. Refute it at one input. -/
def stampFoursWrong : ChangeSpec := { name := "stampFours", fn := fun _ => fun
  | [d] => { results := [.lit (.bool false)], args := [d] }
  | _ => none }
def StampFoursWrongFalsely : Prop := stampFoursRow.holds Try.pinned (OpenSpec.ofChange stampFoursWrong)

/-- 'meridianlaw11.StampOrdered': WHATEVER THE INPUT: true; the input reads as it did. -/
def stampOrderedSpec : ChangeSpec := { name := "stampOrdered", fn := fun _ => fun
  | [d1, d2] => { results := [.lit (.bool true)], args := [d1, d2] }
  | _ => none }
def stampOrderedRow : OpenClaim := { program := "ytgmdkjiflhklaaa", sum := "f333d38c9df39a8a81b499132e50b6f7a59c5660c64b4f62a0ab4ec03d68844c", func := "meridian/meridianlaw11.StampOrdered", spec := "stampOrdered", unfollowed := true, recurses := true, apart := false }
def StampOrderedSaid : Prop := stampOrderedRow.holds Try.pinned (OpenSpec.ofChange stampOrderedSpec)

/-- ITS FALSE NEIGHBOUR: 'it returns false'. Refute it at one input. -/
def stampOrderedWrong : ChangeSpec := { name := "stampOrdered", fn := fun _ => fun
  | [d1, d2] => { results := [.lit (.bool false)], args := [d1, d2] }
  | _ => none }
def StampOrderedWrongFalsely : Prop := stampOrderedRow.holds Try.pinned (OpenSpec.ofChange stampOrderedWrong)

/-- 'meridianlaw11.StampPolled': WHATEVER THE INPUT: true; the input reads as it did. -/
def stampPolledSpec : ChangeSpec := { name := "stampPolled", fn := fun _ => fun
  | [d1, d2, d3] => { results := [.lit (.bool true)], args := [d1, d2, d3] }
  | _ => none }
def stampPolledRow : OpenClaim := { program := "ytgmdkjiflhklaaa", sum := "f333d38c9df39a8a81b499132e50b6f7a59c5660c64b4f62a0ab4ec03d68844c", func := "meridian/meridianlaw11.StampPolled", spec := "stampPolled", unfollowed := true, recurses := true, apart := false }
def StampPolledSaid : Prop := stampPolledRow.holds Try.pinned (OpenSpec.ofChange stampPolledSpec)

/-- ITS FALSE NEIGHBOUR: 'it returns false'. Refute it at one input. -/
def stampPolledWrong : ChangeSpec := { name := "stampPolled", fn := fun _ => fun
  | [d1, d2, d3] => { results := [.lit (.bool false)], args := [d1, d2, d3] }
  | _ => none }
def StampPolledWrongFalsely : Prop := stampPolledRow.holds Try.pinned (OpenSpec.ofChange stampPolledWrong)

/-- 'meridianlaw11.StampFound': WHATEVER THE INPUT: true; the input reads as it did. -/
def stampFoundSpec : ChangeSpec := { name := "stampFound", fn := fun _ => fun
  | [d1, d2, d3, d4, d5] => { results := [.lit (.bool true)], args := [d1, d2, d3, d4, d5] }
  | _ => none }
def stampFoundRow : OpenClaim := { program := "ytgmdkjiflhklaaa", sum := "f333d38c9df39a8a81b499132e50b6f7a59c5660c64b4f62a0ab4ec03d68844c", func := "meridian/meridianlaw11.StampFound", spec := "stampFound", unfollowed := true, recurses := true, apart := false }
def StampFoundSaid : Prop := stampFoundRow.holds Try.pinned (OpenSpec.ofChange stampFoundSpec)

/-- ITS FALSE NEIGHBOUR: 'it returns false'. Refute it at one input. -/
def stampFoundWrong : ChangeSpec := { name := "stampFound", fn := fun _ => fun
  | [d1, d2, d3, d4, d5] => { results := [.lit (.bool false)], args := [d1, d2, d3, d4, d5] }
  | _ => none }
def StampFoundWrongFalsely : Prop := stampFoundRow.holds Try.pinned (OpenSpec.ofChange stampFoundWrong)

/-- 'meridianlaw11.StampAudits': WHATEVER THE INPUT: true; the input reads as it did. -/
def stampAuditsSpec : ChangeSpec := { name := "stampAudits", fn := fun _ => fun
  | [d1, d2, d3, d4] => { results := [.lit (.bool true)], args := [d1, d2, d3, d4] }
  | _ => none }
def stampAuditsRow : OpenClaim := { program := "ytgmdkjiflhklaaa", sum := "f333d38c9df39a8a81b499132e50b6f7a59c5660c64b4f62a0ab4ec03d68844c", func := "meridian/meridianlaw11.StampAudits", spec := "stampAudits", unfollowed := true, recurses := true, apart := false }
def StampAuditsSaid : Prop := stampAuditsRow.holds Try.pinned (OpenSpec.ofChange stampAuditsSpec)

/-- ITS FALSE NEIGHBOUR: 'it returns false'. Refute it at one input. -/
def stampAuditsWrong : ChangeSpec := { name := "stampAudits", fn := fun _ => fun
  | [d1, d2, d3, d4] => { results := [.lit (.bool false)], args := [d1, d2, d3, d4] }
  | _ => none }
def StampAuditsWrongFalsely : Prop := stampAuditsRow.holds Try.pinned (OpenSpec.ofChange stampAuditsWrong)

/-- 'meridianlaw11.StampClock': WHATEVER THE INPUT: true; the input reads as it did. -/
def stampClockSpec : ChangeSpec := { name := "stampClock", fn := fun _ => fun
  | [d1, d2, d3, d4, d5] => { results := [.lit (.bool true)], args := [d1, d2, d3, d4, d5] }
  | _ => none }
def stampClockRow : OpenClaim := { program := "ytgmdkjiflhklaaa", sum := "f333d38c9df39a8a81b499132e50b6f7a59c5660c64b4f62a0ab4ec03d68844c", func := "meridian/meridianlaw11.StampClock", spec := "stampClock", unfollowed := true, recurses := true, apart := false }
def StampClockSaid : Prop := stampClockRow.holds Try.pinned (OpenSpec.ofChange stampClockSpec)

/-- ITS FALSE NEIGHBOUR: 'it returns false'. Refute it at one input. -/
def stampClockWrong : ChangeSpec := { name := "stampClock", fn := fun _ => fun
  | [d1, d2, d3, d4, d5] => { results := [.lit (.bool false)], args := [d1, d2, d3, d4, d5] }
  | _ => none }
def StampClockWrongFalsely : Prop := stampClockRow.holds Try.pinned (OpenSpec.ofChange stampClockWrong)

/-- 'meridianlaw11.StampLists': WHATEVER THE INPUT: true; the input reads as it did. -/
def stampListsSpec : ChangeSpec := { name := "stampLists", fn := fun _ => fun
  | [d1, d2, d3, d4] => { results := [.lit (.bool true)], args := [d1, d2, d3, d4] }
  | _ => none }
def stampListsRow : OpenClaim := { program := "ytgmdkjiflhklaaa", sum := "f333d38c9df39a8a81b499132e50b6f7a59c5660c64b4f62a0ab4ec03d68844c", func := "meridian/meridianlaw11.StampLists", spec := "stampLists", unfollowed := true, recurses := true, apart := false }
def StampListsSaid : Prop := stampListsRow.holds Try.pinned (OpenSpec.ofChange stampListsSpec)

/-- ITS FALSE NEIGHBOUR: 'it returns false'. Refute it at one input. -/
def stampListsWrong : ChangeSpec := { name := "stampLists", fn := fun _ => fun
  | [d1, d2, d3, d4] => { results := [.lit (.bool false)], args := [d1, d2, d3, d4] }
  | _ => none }
def StampListsWrongFalsely : Prop := stampListsRow.holds Try.pinned (OpenSpec.ofChange stampListsWrong)

/-- 'meridianlaw11.StampChains': WHATEVER THE INPUT: true; the input reads as it did. -/
def stampChainsSpec : ChangeSpec := { name := "stampChains", fn := fun _ => fun
  | [d1, d2, d3] => { results := [.lit (.bool true)], args := [d1, d2, d3] }
  | _ => none }
def stampChainsRow : OpenClaim := { program := "ytgmdkjiflhklaaa", sum := "f333d38c9df39a8a81b499132e50b6f7a59c5660c64b4f62a0ab4ec03d68844c", func := "meridian/meridianlaw11.StampChains", spec := "stampChains", unfollowed := true, recurses := true, apart := false }
def StampChainsSaid : Prop := stampChainsRow.holds Try.pinned (OpenSpec.ofChange stampChainsSpec)

/-- ITS FALSE NEIGHBOUR: 'it returns false'. Refute it at one input. -/
def stampChainsWrong : ChangeSpec := { name := "stampChains", fn := fun _ => fun
  | [d1, d2, d3] => { results := [.lit (.bool false)], args := [d1, d2, d3] }
  | _ => none }
def StampChainsWrongFalsely : Prop := stampChainsRow.holds Try.pinned (OpenSpec.ofChange stampChainsWrong)

/-- 'meridianlaw11.StampRoots': WHATEVER THE INPUT: true; the input reads as it did. -/
def stampRootsSpec : ChangeSpec := { name := "stampRoots", fn := fun _ => fun
  | [d1, d2, d3, d4] => { results := [.lit (.bool true)], args := [d1, d2, d3, d4] }
  | _ => none }
def stampRootsRow : OpenClaim := { program := "ytgmdkjiflhklaaa", sum := "f333d38c9df39a8a81b499132e50b6f7a59c5660c64b4f62a0ab4ec03d68844c", func := "meridian/meridianlaw11.StampRoots", spec := "stampRoots", unfollowed := true, recurses := true, apart := false }
def StampRootsSaid : Prop := stampRootsRow.holds Try.pinned (OpenSpec.ofChange stampRootsSpec)

/-- ITS FALSE NEIGHBOUR: 'it returns false'. Refute it at one input. -/
def stampRootsWrong : ChangeSpec := { name := "stampRoots", fn := fun _ => fun
  | [d1, d2, d3, d4] => { results := [.lit (.bool false)], args := [d1, d2, d3, d4] }
  | _ => none }
def StampRootsWrongFalsely : Prop := stampRootsRow.holds Try.pinned (OpenSpec.ofChange stampRootsWrong)

/- THE SECOND FORM. 'bulk': how many values and letters a reading holds, each counted each time it is reached (what is shared counts as often as it is met; a slice's spare places count too). A statement '..UptoSaid' is the law's where the arguments, and the package variables that the reading takes, are together of bulk at most 1048576: NARROWER than '..Said'. Prove '..Said' where nothing that the law and all that it calls make is longer than what came in: it says more and counts as full. Else prove '..UptoSaid'. A law counts once. -/
mutual
def uptoBulk {H : Type} : DataW H → Nat
  | .lit (.string bytes) => bytes.length + 1
  | .lit _ => 1
  | .nil => 1
  | .ptr d => uptoBulk d + 1
  | .slice elems spare => uptoBulkAll elems + uptoBulkAll spare + 1
  | .agg parts => uptoBulkAll parts + 1
  | .iface _ d => uptoBulk d + 1
  | .map entries => uptoBulkEntries entries + 1
  | .held _ => 1
def uptoBulkAll {H : Type} : List (DataW H) → Nat
  | [] => 0
  | d :: r => uptoBulk d + uptoBulkAll r
def uptoBulkEntries {H : Type} : List (Lit × DataW H) → Nat
  | [] => 0
  | x :: r => uptoBulkEntry x + uptoBulkEntries r
def uptoBulkEntry {H : Type} : Lit × DataW H → Nat
  | (.string bytes, d) => bytes.length + uptoBulk d + 1
  | (_, d) => uptoBulk d + 1
 end
def uptoSmall : (H : Type) → List (DataW H) → Bool := fun _ ds => decide (uptoBulkAll ds ≤ 1048576)
def OpenSpec.upto (s : _root_.Go.ChangeSpec) : _root_.Go.OpenSpec := { _root_.Go.OpenSpec.ofChange s with cond := some uptoSmall }

/-- 'meridianlaw11.StampFours', WHERE WHAT IT READS IS OF BULK AT MOST 1048576: true; the input reads as it did. -/
def stampFoursUptoRow : OpenClaim := { program := "ytgmdkjiflhklaaa", sum := "f333d38c9df39a8a81b499132e50b6f7a59c5660c64b4f62a0ab4ec03d68844c", func := "meridian/meridianlaw11.StampFours", spec := "stampFours", unfollowed := true, recurses := true, apart := false, narrowed := true }
def StampFoursUptoSaid : Prop := stampFoursUptoRow.holds Try.pinned (OpenSpec.upto stampFoursSpec)

/-- 'meridianlaw11.StampOrdered', WHERE WHAT IT READS IS OF BULK AT MOST 1048576: true; the input reads as it did. -/
def stampOrderedUptoRow : OpenClaim := { program := "ytgmdkjiflhklaaa", sum := "f333d38c9df39a8a81b499132e50b6f7a59c5660c64b4f62a0ab4ec03d68844c", func := "meridian/meridianlaw11.StampOrdered", spec := "stampOrdered", unfollowed := true, recurses := true, apart := false, narrowed := true }
def StampOrderedUptoSaid : Prop := stampOrderedUptoRow.holds Try.pinned (OpenSpec.upto stampOrderedSpec)

/-- 'meridianlaw11.StampPolled', WHERE WHAT IT READS IS OF BULK AT MOST 1048576: true; the input reads as it did. -/
def stampPolledUptoRow : OpenClaim := { program := "ytgmdkjiflhklaaa", sum := "f333d38c9df39a8a81b499132e50b6f7a59c5660c64b4f62a0ab4ec03d68844c", func := "meridian/meridianlaw11.StampPolled", spec := "stampPolled", unfollowed := true, recurses := true, apart := false, narrowed := true }
def StampPolledUptoSaid : Prop := stampPolledUptoRow.holds Try.pinned (OpenSpec.upto stampPolledSpec)

/-- 'meridianlaw11.StampFound', WHERE WHAT IT READS IS OF BULK AT MOST 1048576: true; the input reads as it did. -/
def stampFoundUptoRow : OpenClaim := { program := "ytgmdkjiflhklaaa", sum := "f333d38c9df39a8a81b499132e50b6f7a59c5660c64b4f62a0ab4ec03d68844c", func := "meridian/meridianlaw11.StampFound", spec := "stampFound", unfollowed := true, recurses := true, apart := false, narrowed := true }
def StampFoundUptoSaid : Prop := stampFoundUptoRow.holds Try.pinned (OpenSpec.upto stampFoundSpec)

/-- 'meridianlaw11.StampAudits', WHERE WHAT IT READS IS OF BULK AT MOST 1048576: true; the input reads as it did. -/
def stampAuditsUptoRow : OpenClaim := { program := "ytgmdkjiflhklaaa", sum := "f333d38c9df39a8a81b499132e50b6f7a59c5660c64b4f62a0ab4ec03d68844c", func := "meridian/meridianlaw11.StampAudits", spec := "stampAudits", unfollowed := true, recurses := true, apart := false, narrowed := true }
def StampAuditsUptoSaid : Prop := stampAuditsUptoRow.holds Try.pinned (OpenSpec.upto stampAuditsSpec)

/-- 'meridianlaw11.StampClock', WHERE WHAT IT READS IS OF BULK AT MOST 1048576: true; the input reads as it did. -/
def stampClockUptoRow : OpenClaim := { program := "ytgmdkjiflhklaaa", sum := "f333d38c9df39a8a81b499132e50b6f7a59c5660c64b4f62a0ab4ec03d68844c", func := "meridian/meridianlaw11.StampClock", spec := "stampClock", unfollowed := true, recurses := true, apart := false, narrowed := true }
def StampClockUptoSaid : Prop := stampClockUptoRow.holds Try.pinned (OpenSpec.upto stampClockSpec)

/-- 'meridianlaw11.StampLists', WHERE WHAT IT READS IS OF BULK AT MOST 1048576: true; the input reads as it did. -/
def stampListsUptoRow : OpenClaim := { program := "ytgmdkjiflhklaaa", sum := "f333d38c9df39a8a81b499132e50b6f7a59c5660c64b4f62a0ab4ec03d68844c", func := "meridian/meridianlaw11.StampLists", spec := "stampLists", unfollowed := true, recurses := true, apart := false, narrowed := true }
def StampListsUptoSaid : Prop := stampListsUptoRow.holds Try.pinned (OpenSpec.upto stampListsSpec)

/-- 'meridianlaw11.StampChains', WHERE WHAT IT READS IS OF BULK AT MOST 1048576: true; the input reads as it did. -/
def stampChainsUptoRow : OpenClaim := { program := "ytgmdkjiflhklaaa", sum := "f333d38c9df39a8a81b499132e50b6f7a59c5660c64b4f62a0ab4ec03d68844c", func := "meridian/meridianlaw11.StampChains", spec := "stampChains", unfollowed := true, recurses := true, apart := false, narrowed := true }
def StampChainsUptoSaid : Prop := stampChainsUptoRow.holds Try.pinned (OpenSpec.upto stampChainsSpec)

/-- 'meridianlaw11.StampRoots', WHERE WHAT IT READS IS OF BULK AT MOST 1048576: true; the input reads as it did. -/
def stampRootsUptoRow : OpenClaim := { program := "ytgmdkjiflhklaaa", sum := "f333d38c9df39a8a81b499132e50b6f7a59c5660c64b4f62a0ab4ec03d68844c", func := "meridian/meridianlaw11.StampRoots", spec := "stampRoots", unfollowed := true, recurses := true, apart := false, narrowed := true }
def StampRootsUptoSaid : Prop := stampRootsUptoRow.holds Try.pinned (OpenSpec.upto stampRootsSpec)

end Rows
end Go.Proofs.Ytgmdkjiflhklaaa
