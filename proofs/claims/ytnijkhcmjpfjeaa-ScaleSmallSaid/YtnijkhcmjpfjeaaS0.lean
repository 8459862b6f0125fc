/- S0: the scale: numbers;what is told of the small functions. -/
import Derived.Test.YtnijkhcmjpfjeaaW4
import Derived.Test.YtnijkhcmjpfjeaaVT
namespace Go.Proofs.Ytnijkhcmjpfjeaa
open Go Go.Vm
def encI (n:Int):V:=.int .i64 n
noncomputable def Z39:Vm.Spec:=noSpec.add 39 (inl T Sh noSpec 0 0 fi39)
theorem Z39_ok:Vm.Good (vlim T F) Z39:=Vm.Good.no.inl (by kernel_rfl) 0 0 (by kernel_rfl)
noncomputable def Z38:Vm.Spec:=Z39.add 38 (inl T Sh Z39 0 0 fi38)
theorem Z38_ok:Vm.Good (vlim T F) Z38:=Z39_ok.inl (by kernel_rfl) 0 0 (by kernel_rfl)
noncomputable def Z41:Vm.Spec:=Z38.add 41 (inl T Sh Z38 0 0 fi41)
theorem Z41_ok:Vm.Good (vlim T F) Z41:=Z38_ok.inl (by kernel_rfl) 0 0 (by kernel_rfl)
noncomputable def Z42:Vm.Spec:=Z41.add 42 (inl T Sh Z41 0 0 fi42)
theorem Z42_ok:Vm.Good (vlim T F) Z42:=Z41_ok.inl (by kernel_rfl) 0 0 (by kernel_rfl)
noncomputable def Z14:Vm.Spec:=Z42.add 14 (inl T Sh Z42 0 0 fi14)
theorem Z14_ok:Vm.Good (vlim T F) Z14:=Z42_ok.inl (by kernel_rfl) 0 0 (by kernel_rfl)
noncomputable def Z15:Vm.Spec:=Z14.add 15 (inl T Sh Z14 0 0 fi15)
theorem Z15_ok:Vm.Good (vlim T F) Z15:=Z14_ok.inl (by kernel_rfl) 0 0 (by kernel_rfl)
end Go.Proofs.Ytnijkhcmjpfjeaa
