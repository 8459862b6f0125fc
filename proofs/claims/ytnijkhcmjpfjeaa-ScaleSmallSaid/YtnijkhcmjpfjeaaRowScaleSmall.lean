/- The row of the law ScaleSmall: it returns true whatever the input, and the input reads as it did. No conditions. -/
import Derived.Test.YtnijkhcmjpfjeaaRows
import Derived.Test.YtnijkhcmjpfjeaaSY
import Derived.WalkKit
import Derived.ProofKit
import Derived.OpenShut
import Derived.ChangeOld
import Derived.Below
import Derived.SizedLaws
namespace Go.Proofs.Ytnijkhcmjpfjeaa
namespace scaleSmall
open Go.ChangeShapes Go.WideShapes Go.ChangeAt Go.RowKit Go.Vm
theorem own : ownKnob Try.prog.godebug = none := by kernel_rfl
theorem laidOut : laidOutB Try.prog = true := by kernel_rfl
set_option maxRecDepth 100000 in
theorem lifted (os : Os) (started : os.Started) (H : Type) (enc : TypeId × Value → H) :
    ReturnsInHanded {} Try.checked os 8 .any (Rows.scaleSmallSpec.pre6 enc Try.prog Try.f8 Rows.scaleSmallRow.domain false) (Rows.scaleSmallSpec.post enc Try.prog Try.f8 false true false false) := by
  refine returnsInHanded_of_change (C := Try.checked) own started (by kernel_rfl) Try.func8
    (ChangeSpec.witness6 (enc := enc) (C := Try.checked) false ⟨#[], #[], []⟩ 8 (by kernel_rfl) (by kernel_rfl) (by kernel_rfl) (by kernel_rfl)) ?_
  intro W base args ds gs before hval0 hW hcnd _
  have hval : ∀ (j : Nat) t v, Try.f8.params[j]? = some t → args[j]? = some v → Value.okWide Try.prog W .any base t v := hval0
  have hW' := hW
  obtain ⟨p, q, hA0, hV, rfl, hfz, hnd⟩ := hW
  have hA : DataW.TrodAll enc Try.prog W 0 (fun _ => true) true Try.f8.params.toList args.toList ds p := hA0
  rw [Try.params8] at hA hval
  obtain ⟨rfl, rfl⟩ := trodVars_none hV
  have hcalls := vlaw (bb := base) (F := F) (m := 8) T_ok F_ok laidOut (by kernel_rfl) (by kernel_rfl) lawScaleSmall (fun j t v ht hv => by first | (simp at ht; done) | exact hval j t v (by simpa using ht) hv) hA
  refine hcalls.mono fun e W' ⟨he, bel, back⟩ => ?_
  subst he
  have hds : ds = [] := by
    exact (trodAll_nil hA).2.1
  obtain rfl := hds
  exact ⟨_, rfl, _, _, _, [], _, [], hW', trodAll_mk1 (shut_bool Try.underlying4 _), back, rfl, bel.frame _, fun h => by cases h⟩
theorem over : Rows.scaleSmallRow.holds Try.pinned (OpenSpec.ofChange Rows.scaleSmallSpec) :=
  OpenClaim.holds_of_wide 8 Try.f8 rfl rfl rfl rfl rfl rfl rfl ⟨rfl, rfl, rfl, rfl, rfl⟩ rfl rfl rfl rfl rfl (by kernel_rfl) Try.func8 (by kernel_rfl)
    (of_decide_eq_true (by kernel_rfl)) (by unfold Func.isWrapper; first | (rw [if_pos (by decide +kernel)]; kernel_rfl) | (rw [if_neg (by decide +kernel)]; exact ⟨rfl, rfl⟩))
    (fun os started H enc _ => lifted os started H enc)
end scaleSmall
/-- The row, under a short name, for the claim. -/
theorem scaleSmall_holds : Rows.ScaleSmallSaid := scaleSmall.over
end Go.Proofs.Ytnijkhcmjpfjeaa
