/- A6: the chapter's examples, as V tells them. -/
import Derived.Test.YtgmdkjiflhklaaaVT
namespace Go.Proofs.Ytgmdkjiflhklaaa
open Go Go.Vm
theorem awake_v : vcall T F 60 12 [] [] = some (.bool true, []) := by kernel_rfl
end Go.Proofs.Ytgmdkjiflhklaaa
