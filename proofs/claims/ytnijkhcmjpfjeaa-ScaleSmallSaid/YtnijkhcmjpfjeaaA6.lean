/- A6: the chapter's examples,as V tells them. -/
import Derived.Test.YtnijkhcmjpfjeaaVT
namespace Go.Proofs.Ytnijkhcmjpfjeaa
open Go Go.Vm
theorem awake_v:vcall T F 60 9 [] []=some (.bool true,[]):=by kernel_rfl
end Go.Proofs.Ytnijkhcmjpfjeaa
