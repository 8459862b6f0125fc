/- B11: the law StampFours over V. -/
import Derived.Test.YtgmdkjiflhklaaaB10
namespace Go.Proofs.Ytgmdkjiflhklaaa
open Go Go.Vm

noncomputable def S3 : Vm.Spec := SAu.add 12 awakeS
theorem S3_ok : Vm.Good (vlim T F) S3 := by
  refine SAu_ok.add fun a H r h => ?_
  unfold awakeS at h
  split at h
  · have := ret_some h; subst this
    exact ⟨60, awake_v⟩
  · cases h
theorem pow_wrap {k : Nat} (hk : k ≤ 8) : IntKind.i64.wrap (1 * 2 ^ min ((k : Int)).toNat IntKind.i64.bits) = ((2 ^ k : Nat) : Int) := by
  have h1 : min ((k : Int)).toNat IntKind.i64.bits = k := by
    rw [Int.toNat_natCast]
    show min k 64 = k
    omega
  have h2 : 2 ^ k ≤ 256 := Nat.pow_le_pow_right (by omega) hk
  rw [h1, Int.one_mul, show (2 : Int) ^ k = ((2 ^ k : Nat) : Int) by simp]
  generalize 2 ^ k = p at h2 ⊢
  exact i64in (by omega) (by omega)
def avs (l : List Chk) : List V := [.int .i64 (P.av l 0), .int .i64 (P.av l 1), .int .i64 (P.av l 2), .int .i64 (P.av l 3), .int .i64 (P.av l 4), .int .i64 (P.av l 5), .int .i64 (P.av l 6), .int .i64 (P.av l 7)]

theorem lawStampFours : ∀ xs, AllV T 8 [22] xs → ∃ k, vcall T F k 3 xs [] = some (.bool true, []) := by
  intro xs hxs
  match xs, hxs with
  | [y], ⟨hy, _⟩ =>
    obtain ⟨n, bs, rfl, hb, hbl, _⟩ := hasV_ints (i := { kind := .slice 5, size := 1, bytes := 24, zero := .sl true [], leaves := [] }) (j := { kind := .int .u8, size := 1, bytes := 1, zero := .int .u8 0, leaves := [] }) (by kernel_rfl) rfl (by kernel_rfl) rfl hy
    have hb' : ∀ x ∈ bs, 0 ≤ x ∧ x ≤ 255 := fun x hx => by
      have := hb x hx
      simp [Lit.wf, IntKind.min, IntKind.max, IntKind.signed, IntKind.bits] at this
      exact this
    show Runs T F 3 [.sl n (bs.map encB)] [] (.bool true, [])
    obtain ⟨l, a, i, b, hl, hg, hr⟩ := build_loop n bs hb' 8 0 [] 0 rfl rfl .nil
    have e0 : loopsOf fi3.body = [lb fi3 0, lb fi3 1, lb fi3 2] := by kernel_rfl
    have f0 : firstRegion (lb fi3 0) = 4 := by kernel_rfl
    have f1 : firstRegion (lb fi3 1) = 14 := by kernel_rfl
    have f2 : firstRegion (lb fi3 2) = 18 := by kernel_rfl
    by_cases h2 : l.length < 2
    · refine Runs.way (F := F) (sh := Sh) (S := S3) (L := loopsIs [(4, bst n bs [] 0 0, (.exit 0, ⟨(bst n bs l a i).env ++ [(24, .bool b)], []⟩))]) S3_ok (fi := fi3) (by kernel_rfl) (LGood.is fun c hc x hx hf => ?_)
        [(is (bst n bs [] 0 0) (bst n bs [] 0 0), true), (decide ((↑(List.map encC l).length : Int) < 2), true)] [2, 3] (by kernel_rfl) ⟨is_self _, by simp; omega, trivial⟩
      simp only [List.mem_singleton] at hx
      subst hx
      rw [e0] at hc
      simp only [List.mem_cons, List.not_mem_nil, or_false] at hc
      rcases hc with rfl | rfl | rfl
      · exact hr
      · simp only at hf; omega
      · simp only at hf; omega
    · have hae : P.audE (List.map decC (List.map encC l)) = audE l := by rw [dec_enc]; rfl
      have hN : IntKind.i64.wrap (1 * 2 ^ min ((↑(List.map encC l).length : Int)).toNat IntKind.i64.bits) = ((2 ^ l.length : Nat) : Int) := by rw [List.length_map]; exact pow_wrap hl
      have hs := sets_loop l.isEmpty l a hg hl (by omega) _ hae (2 ^ l.length) rfl _ hN (avs (List.map decC (List.map encC l))) (2 ^ l.length) 0 (by omega)
      have hk : keptB l (2 ^ l.length) = (P.audE (List.map decC (List.map encC l)) == 0) := by
        rw [hae]
        by_cases hz : audE l = 0
        · rw [hz]
          refine (keptB_iff l _).2 fun s _ h3 h4 => mono_zero hg sub_sub (sub_found hg h3) hz
        · obtain ⟨s, q1, q2, q3, q4⟩ := four_fail hg (by omega) hz
          have : ¬ keptB l (2 ^ l.length) = true := fun hq => q4 ((keptB_iff l _).1 hq s q1 q2 q3)
          have h1 : keptB l (2 ^ l.length) = false := by simpa using this
          rw [h1]; simp [hz]
      have hall : ((List.map decC (List.map encC l)).all okCb) = true := by
        rw [dec_enc]
        exact List.all_eq_true.2 fun c hc => okCb_iff.2 (hg.ok hl c hc)
      have hL : LGood T (vlim T F) lplim fi3.cx (loopsIs [(4, bst n bs [] 0 0, (.exit 0, ⟨(bst n bs l a i).env ++ [(24, .bool b)], []⟩)),
          (14, oSt l.isEmpty (keptB l 0) l (P.audE (List.map decC (List.map encC l))) (IntKind.i64.wrap (1 * 2 ^ min ((↑(List.map encC l).length : Int)).toNat IntKind.i64.bits)) ((0 : Nat) : Int) (avs (List.map decC (List.map encC l))),
            (.exit 2, ⟨(oSt l.isEmpty (keptB l (2 ^ l.length)) l (P.audE (List.map decC (List.map encC l))) (IntKind.i64.wrap (1 * 2 ^ min ((↑(List.map encC l).length : Int)).toNat IntKind.i64.bits)) ((2 ^ l.length : Nat) : Int) (avs (List.map decC (List.map encC l)))).env ++ [(72, .bool false)], [.cells (avs (List.map decC (List.map encC l)))]⟩))]) fi3.body := by
        refine LGood.is fun c hc x hx hf => ?_
        rw [e0] at hc
        simp only [List.mem_cons, List.not_mem_nil, or_false] at hc hx
        rcases hx with rfl | rfl <;> rcases hc with rfl | rfl | rfl
        · exact hr
        · simp only at hf; omega
        · simp only at hf; omega
        · simp only at hf; omega
        · exact hs
        · simp only at hf; omega
      by_cases hz : audE l = 0
      · exact Runs.way (F := F) (sh := Sh) (S := S3) S3_ok (fi := fi3) (by kernel_rfl) hL
          [(is (bst n bs [] 0 0) (bst n bs [] 0 0), true), (decide ((↑(List.map encC l).length : Int) < 2), false), (eqB (List.map encC l) (List.map encC (List.map decC (List.map encC l))), true), ((List.map decC (List.map encC l)).all okCb, true), (decide ((List.map encC l).length ≤ 40), true),
           (is (oSt l.isEmpty (keptB l 0) l (P.audE (List.map decC (List.map encC l))) (IntKind.i64.wrap (1 * 2 ^ min ((↑(List.map encC l).length : Int)).toNat IntKind.i64.bits)) ((0 : Nat) : Int) (avs (List.map decC (List.map encC l)))) (oSt l.isEmpty (keptB l 0) l (P.audE (List.map decC (List.map encC l))) (IntKind.i64.wrap (1 * 2 ^ min ((↑(List.map encC l).length : Int)).toNat IntKind.i64.bits)) ((0 : Nat) : Int) (avs (List.map decC (List.map encC l)))), true),
           (keptB l (2 ^ l.length) == (P.audE (List.map decC (List.map encC l)) == 0), true), (P.audE (List.map decC (List.map encC l)) == 0, true)]
          [2, 3, 4, 5, 6, 0, 0, 7, 8, 8, 8, 9, 9, 8, 9, 8, 0, 0] (by kernel_rfl)
          ⟨is_self _, by simp; omega, eqB_eq (by rw [dec_enc]), hall, by simp; omega, is_self _, by rw [hk]; simp, by rw [hae]; simp [hz], trivial⟩
      · have h12 : audE l = 12 := by
          rcases audE_cases l ⟨l[0], l[1], ⟨List.getElem_mem _, List.getElem_mem _⟩, hg.lt.2 0 1 (by omega) (by omega) (by omega)⟩ with h | h
          · exact absurd h hz
          · exact h
        exact Runs.way (F := F) (sh := Sh) (S := S3) S3_ok (fi := fi3) (by kernel_rfl) hL
          [(is (bst n bs [] 0 0) (bst n bs [] 0 0), true), (decide ((↑(List.map encC l).length : Int) < 2), false), (eqB (List.map encC l) (List.map encC (List.map decC (List.map encC l))), true), ((List.map decC (List.map encC l)).all okCb, true), (decide ((List.map encC l).length ≤ 40), true),
           (is (oSt l.isEmpty (keptB l 0) l (P.audE (List.map decC (List.map encC l))) (IntKind.i64.wrap (1 * 2 ^ min ((↑(List.map encC l).length : Int)).toNat IntKind.i64.bits)) ((0 : Nat) : Int) (avs (List.map decC (List.map encC l)))) (oSt l.isEmpty (keptB l 0) l (P.audE (List.map decC (List.map encC l))) (IntKind.i64.wrap (1 * 2 ^ min ((↑(List.map encC l).length : Int)).toNat IntKind.i64.bits)) ((0 : Nat) : Int) (avs (List.map decC (List.map encC l)))), true),
           (keptB l (2 ^ l.length) == (P.audE (List.map decC (List.map encC l)) == 0), true), (P.audE (List.map decC (List.map encC l)) == 0, false), (P.audE (List.map decC (List.map encC l)) == 12, true)]
          [2, 3, 4, 5, 6, 0, 0, 7, 8, 8, 8, 9, 9, 8, 9, 8, 10, 10] (by kernel_rfl)
          ⟨is_self _, by simp; omega, eqB_eq (by rw [dec_enc]), hall, by simp; omega, is_self _, by rw [hk]; simp, by rw [hae]; simp [hz], by rw [hae]; simp [h12], trivial⟩
end Go.Proofs.Ytgmdkjiflhklaaa
