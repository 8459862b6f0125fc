/- L1: the mix of two numbers is one to one in each of them. -/
import Derived.Test.YtgmdkjiflhklaaaA1
namespace Go.Proofs.Ytgmdkjiflhklaaa
open Go Go.Vm

/-- The mix over words. -/
def mixB (a b : BitVec 64) : BitVec 64 :=
  let x := (a ^^^ b) * 15074714826142052245#64
  let y := (x ^^^ (x >>> 32)) * 12605985483714917081#64
  y ^^^ (y >>> 29)
theorem wrap_u64' (n : Int) : IntKind.u64.wrap n = n % 18446744073709551616 := by
  simp [IntKind.wrap, IntKind.signed, IntKind.bits]
theorem u64w (n : Int) : IntKind.u64.wrap n = ((BitVec.ofInt 64 n).toNat : Int) := by
  rw [wrap_u64', BitVec.toNat_ofInt]
  omega
theorem ofw (z : BitVec 64) : BitVec.ofInt 64 (z.toNat : Int) = z := by
  apply BitVec.eq_of_toNat_eq
  rw [BitVec.toNat_ofInt]
  have := z.isLt
  omega
theorem mulw (z c : BitVec 64) : IntKind.u64.wrap ((z.toNat : Int) * (c.toNat : Int)) = ((z * c).toNat : Int) := by
  rw [wrap_u64', BitVec.toNat_mul]
  omega
theorem natw (z : BitVec 64) : IntKind.u64.wrap (z.toNat : Int) = (z.toNat : Int) := by rw [u64w, ofw]
theorem shw (z : BitVec 64) (k : Nat) : (z.toNat : Int).fdiv (2 ^ k) = ((z >>> k).toNat : Int) := by
  rw [BitVec.toNat_ushiftRight, Nat.shiftRight_eq_div_pow, Int.fdiv_eq_ediv_of_nonneg _ (by exact_mod_cast Nat.zero_le _)]
  norm_cast
theorem mix_B (a b : Int) : P.mix a b = ((mixB (BitVec.ofInt 64 a) (BitVec.ofInt 64 b)).toNat : Int) := by
  have h32 : (2 : Int) ^ min (Int.toNat 32) IntKind.u64.bits = 2 ^ 32 := rfl
  have h29 : (2 : Int) ^ min (Int.toNat 29) IntKind.u64.bits = 2 ^ 29 := rfl
  unfold P.mix mixB
  simp only [h32, h29]
  change IntKind.u64.wrap ((BitVec.ofInt 64 _ ^^^ BitVec.ofInt 64 _).toNat : Int) = _
  have e1 : IntKind.u64.wrap (IntKind.u64.wrap ((BitVec.ofInt IntKind.u64.bits a ^^^ BitVec.ofInt IntKind.u64.bits b).toNat : Int) * 15074714826142052245) = (((BitVec.ofInt 64 a ^^^ BitVec.ofInt 64 b) * 15074714826142052245#64).toNat : Int) := by
    rw [show IntKind.u64.bits = 64 from rfl, natw]
    exact mulw _ 15074714826142052245#64
  rw [e1]
  generalize (BitVec.ofInt 64 a ^^^ BitVec.ofInt 64 b) * 15074714826142052245#64 = x
  have e2 : IntKind.u64.wrap (IntKind.u64.wrap ((BitVec.ofInt IntKind.u64.bits (x.toNat : Int) ^^^ BitVec.ofInt IntKind.u64.bits ((x.toNat : Int).fdiv (2 ^ 32))).toNat : Int) * 12605985483714917081) = (((x ^^^ (x >>> 32)) * 12605985483714917081#64).toNat : Int) := by
    rw [show IntKind.u64.bits = 64 from rfl, shw, ofw, ofw, natw]
    exact mulw _ 12605985483714917081#64
  rw [e2]
  generalize (x ^^^ (x >>> 32)) * 12605985483714917081#64 = y
  rw [shw, ofw, ofw, natw]
theorem sh_inj (k : Nat) (hk : 22 ≤ k) {x y : BitVec 64} (h : x ^^^ (x >>> k) = y ^^^ (y >>> k)) : x = y := by
  have g : ∀ z : BitVec 64, (z ^^^ (z >>> k)) ^^^ ((z ^^^ (z >>> k)) >>> k) ^^^ ((z ^^^ (z >>> k)) >>> (k + k)) = z := by
    intro z
    ext i hi
    simp only [BitVec.getElem_xor, BitVec.getElem_ushiftRight, BitVec.getLsbD_xor, BitVec.getLsbD_ushiftRight]
    have : z.getLsbD (k + (k + k + i)) = false := BitVec.getLsbD_of_ge _ _ (by omega)
    rw [this, show k + k + i = k + (k + i) by omega]
    skip
    generalize z.getLsbD (k + i) = p
    generalize z.getLsbD (k + (k + i)) = q
    generalize z[i] = r
    cases p <;> cases q <;> cases r <;> rfl
  rw [← g x, ← g y, h]
theorem mul_inj (c d : BitVec 64) (hc : c * d = 1#64) {x y : BitVec 64} (h : x * c = y * c) : x = y := by
  have : x * c * d = y * c * d := by rw [h]
  rwa [BitVec.mul_assoc, BitVec.mul_assoc, hc, BitVec.mul_one, BitVec.mul_one] at this
theorem xor_inj {x y z : BitVec 64} (h : x ^^^ z = y ^^^ z) : x = y := by
  have : x ^^^ z ^^^ z = y ^^^ z ^^^ z := by rw [h]
  rwa [BitVec.xor_assoc, BitVec.xor_assoc, BitVec.xor_self, BitVec.xor_zero, BitVec.xor_zero] at this
theorem mixB_inj {x y z : BitVec 64} (h : mixB x z = mixB y z) : x = y := by
  unfold mixB at h
  simp only at h
  have h1 := sh_inj 29 (by omega) h
  have h2 := mul_inj _ 15009553638781119849#64 (by decide) h1
  have h3 := sh_inj 32 (by omega) h2
  have h4 := mul_inj _ 6281218453581128637#64 (by decide) h3
  exact xor_inj h4
theorem mixB_comm (x y : BitVec 64) : mixB x y = mixB y x := by unfold mixB; rw [BitVec.xor_comm x y]
/-- A number of 64 bits. -/
def inU (n : Int) : Prop := 0 ≤ n ∧ n < 18446744073709551616
theorem ofInt_inj {a b : Int} (ha : inU a) (hb : inU b) (h : BitVec.ofInt 64 a = BitVec.ofInt 64 b) : a = b := by
  have := congrArg BitVec.toNat h
  rw [BitVec.toNat_ofInt, BitVec.toNat_ofInt] at this
  unfold inU at ha hb
  omega
theorem mix_in (a b : Int) : inU (P.mix a b) := by
  rw [mix_B]
  have := (mixB (BitVec.ofInt 64 a) (BitVec.ofInt 64 b)).isLt
  unfold inU; omega
theorem mix_left {a b c : Int} (ha : inU a) (hb : inU b) (h : P.mix a c = P.mix b c) : a = b := by
  rw [mix_B, mix_B] at h
  have h' : mixB (BitVec.ofInt 64 a) (BitVec.ofInt 64 c) = mixB (BitVec.ofInt 64 b) (BitVec.ofInt 64 c) := BitVec.eq_of_toNat_eq (by omega)
  exact ofInt_inj ha hb (mixB_inj h')
theorem mix_right {a b c : Int} (ha : inU a) (hb : inU b) (h : P.mix c a = P.mix c b) : a = b := by
  rw [mix_B, mix_B] at h
  have h' : mixB (BitVec.ofInt 64 c) (BitVec.ofInt 64 a) = mixB (BitVec.ofInt 64 c) (BitVec.ofInt 64 b) := BitVec.eq_of_toNat_eq (by omega)
  rw [mixB_comm, mixB_comm (BitVec.ofInt 64 c)] at h'
  exact ofInt_inj ha hb (mixB_inj h')
namespace P
/-- The hash of two hashes. -/
def pair (a b : Int) : Int := mix (mix a b) 5
end P
theorem pair_in (a b : Int) : inU (P.pair a b) := mix_in _ _
theorem pair_left {a b c : Int} (ha : inU a) (hb : inU b) (h : P.pair a c = P.pair b c) : a = b := mix_left ha hb (mix_left (mix_in _ _) (mix_in _ _) h)
theorem pair_right {a b c : Int} (ha : inU a) (hb : inU b) (h : P.pair c a = P.pair c b) : a = b := mix_right ha hb (mix_left (mix_in _ _) (mix_in _ _) h)
end Go.Proofs.Ytgmdkjiflhklaaa
