/- A1: stamps: what is told of the small functions. -/
import Derived.Test.YtgmdkjiflhklaaaW3
import Derived.Test.YtgmdkjiflhklaaaVT
namespace Go.Proofs.Ytgmdkjiflhklaaa
open Go Go.Vm

theorem hF (n : Nat) (fi : FI) (h : (fnsOf Fl n) = some fi) : F n = some fi := h

/-- The greater and the lesser one, as they are told. -/
def Fd.imax (a b : Int) : Int := if (if true = true then b > a else b < a) then b else a
def Fd.imin (a b : Int) : Int := if (if false = true then b > a else b < a) then b else a
theorem imax_eq (a b : Int) : Fd.imax a b = max a b := by unfold Fd.imax; simp; omega
theorem imin_eq (a b : Int) : Fd.imin a b = min a b := by unfold Fd.imin; simp; omega

/-- A stamp, a span. -/
structure Stp where
  ser : Int
  doc : Int
  lo : Int
  hi : Int
  sgn : Int
def encS (s : Stp) : V := .agg [.int .i64 s.ser, .int .u64 s.doc, .int .i64 s.lo, .int .i64 s.hi, .int .u64 s.sgn]
def encP (p : Int × Int) : V := .agg [.int .i64 p.1, .int .i64 p.2]
def encI (n : Int) : V := .int .i64 n

namespace P
/-- The mix of two numbers. -/
def mix (a b : Int) : Int :=
  let x := IntKind.u64.wrap (IntKind.u64.wrap ((BitVec.ofInt IntKind.u64.bits a ^^^ BitVec.ofInt IntKind.u64.bits b).toNat) * 15074714826142052245)
  let y := IntKind.u64.wrap (IntKind.u64.wrap ((BitVec.ofInt IntKind.u64.bits x ^^^ BitVec.ofInt IntKind.u64.bits (x.fdiv (2 ^ min (Int.toNat 32) IntKind.u64.bits))).toNat) * 12605985483714917081)
  IntKind.u64.wrap ((BitVec.ofInt IntKind.u64.bits y ^^^ BitVec.ofInt IntKind.u64.bits (y.fdiv (2 ^ min (Int.toNat 29) IntKind.u64.bits))).toNat)
end P
/-- The sign of a stamp. -/
def Fd.sgn (key la s d lo hi : Int) : Int := P.mix (P.mix (P.mix (P.mix (P.mix la (IntKind.u64.wrap s)) d) (IntKind.u64.wrap lo)) (IntKind.u64.wrap hi)) key

def mixS : List V → Heap → Tr (V × Heap)
  | [.int .u64 a, .int .u64 b], [] => .ret (.int .u64 (P.mix a b), [])
  | _, _ => .fail
theorem mixS_ok : ∀ a H r, (mixS a H).run = some r → Runs T F 60 a H r := by
  intro a H r h
  unfold mixS at h
  split at h
  · have := ret_some h; subst this
    exact funT_ok (sh := Sh) (S := noSpec) (L := fun _ _ => .fail) Vm.Good.no (fi := fi60) (by kernel_rfl) (LGood.none (by kernel_rfl)) (by kernel_rfl)
  · cases h

/-- The specs, one on the other. -/
noncomputable def S60 : Vm.Spec := noSpec.add 60 mixS
theorem S60_ok : Vm.Good (vlim T F) S60 := Vm.Good.no.add mixS_ok
noncomputable def S47 : Vm.Spec := S60.add 47 (inl T Sh S60 0 0 fi47)
theorem S47_ok : Vm.Good (vlim T F) S47 := S60_ok.inl (by kernel_rfl) 0 0 (by kernel_rfl)
noncomputable def S43 : Vm.Spec := S47.add 43 (inl T Sh S47 0 0 fi43)
theorem S43_ok : Vm.Good (vlim T F) S43 := S47_ok.inl (by kernel_rfl) 0 0 (by kernel_rfl)
noncomputable def S82 : Vm.Spec := S43.add 82 (inl T Sh S43 0 0 fi82)
theorem S82_ok : Vm.Good (vlim T F) S82 := S43_ok.inl (by kernel_rfl) 0 0 (by kernel_rfl)
noncomputable def S104 : Vm.Spec := S82.add 104 (inl T Sh S82 4 1 fi104)
theorem S104_ok : Vm.Good (vlim T F) S104 := S82_ok.inl (by kernel_rfl) 4 1 (by kernel_rfl)
noncomputable def S81 : Vm.Spec := S104.add 81 (inl T Sh S104 0 0 fi81)
theorem S81_ok : Vm.Good (vlim T F) S81 := S104_ok.inl (by kernel_rfl) 0 0 (by kernel_rfl)
noncomputable def S44 : Vm.Spec := S81.add 44 (inl T Sh S81 0 0 fi44)
theorem S44_ok : Vm.Good (vlim T F) S44 := S81_ok.inl (by kernel_rfl) 0 0 (by kernel_rfl)
noncomputable def S48 : Vm.Spec := S44.add 48 (inl T Sh S44 7 1 fi48)
theorem S48_ok : Vm.Good (vlim T F) S48 := S44_ok.inl (by kernel_rfl) 7 1 (by kernel_rfl)
noncomputable def S35 : Vm.Spec := S48.add 35 (inl T Sh S48 0 0 fi35)
theorem S35_ok : Vm.Good (vlim T F) S35 := S48_ok.inl (by kernel_rfl) 0 0 (by kernel_rfl)
noncomputable def S32 : Vm.Spec := S35.add 32 (inl T Sh S35 0 0 fi32)
theorem S32_ok : Vm.Good (vlim T F) S32 := S35_ok.inl (by kernel_rfl) 0 0 (by kernel_rfl)
noncomputable def S20 : Vm.Spec := S32.add 20 (inl T Sh S32 0 0 fi20)
theorem S20_ok : Vm.Good (vlim T F) S20 := S32_ok.inl (by kernel_rfl) 0 0 (by kernel_rfl)
noncomputable def S15 : Vm.Spec := S20.add 15 (inl T Sh S20 0 0 fi15)
theorem S15_ok : Vm.Good (vlim T F) S15 := S20_ok.inl (by kernel_rfl) 0 0 (by kernel_rfl)
noncomputable def S46 : Vm.Spec := S15.add 46 (inl T Sh S15 0 0 fi46)
theorem S46_ok : Vm.Good (vlim T F) S46 := S15_ok.inl (by kernel_rfl) 0 0 (by kernel_rfl)

end Go.Proofs.Ytgmdkjiflhklaaa
