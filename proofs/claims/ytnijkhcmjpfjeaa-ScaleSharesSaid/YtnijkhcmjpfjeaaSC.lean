/- SC: the law of the shares, over V. -/
import Derived.Test.YtnijkhcmjpfjeaaSA
import Derived.Test.YtnijkhcmjpfjeaaH
import Derived.Test.YtnijkhcmjpfjeaaA6
namespace Go.Proofs.Ytnijkhcmjpfjeaa
open Go Go.Vm
def awakeS : List V → Heap → Tr (V × Heap) := fun a H => match a, H with
  | [], [] => .ret (.bool true, [])
  | _, _ => .fail
theorem awakeS_ok : ∀ a H r, (awakeS a H).run = some r → Runs T F 9 a H r := by
  intro a H r h
  unfold awakeS at h
  split at h
  · have hr := ret_some h; clear h; subst hr; exact ⟨60, awake_v⟩
  · cases h
noncomputable def Y9 : Vm.Spec := Y12.add 9 awakeS
theorem Y9_ok : Vm.Good (vlim T F) Y9 := Y12_ok.add awakeS_ok
theorem hnd_length (m : Int) : ∀ (d : List Shr) (o : List Int) (e : Int), (P.hnd m d o e).1.length = o.length
  | [], o, e => rfl
  | x :: d, o, e => by
    unfold P.hnd
    split
    · rw [hnd_length]; simp
    · exact hnd_length m d o e
theorem outs_length (l : List Int) (t m : Int) : (P.outs l t m).length ≤ 16 := by
  unfold P.outs
  by_cases h : P.bad l t m = 0
  · rw [if_pos h]
    unfold P.app
    dsimp only
    rw [hnd_length, ous_len2 (by rw [its_length]; simp)]
    exact (bad_ok h).1
  · rw [if_neg h]; simp
theorem lawScaleShares : ∀ xs, AllV T 8 [22, 3, 3, 24] xs → ∃ k, vcall T F k 3 xs [] = some (.bool true, []) := by
  intro xs hxs
  obtain ⟨v, xs, rfl, hv, hxs⟩ := allV_cons hxs
  obtain ⟨vt, xs, rfl, hvt, hxs⟩ := allV_cons hxs
  obtain ⟨vm, xs, rfl, hvm, hxs⟩ := allV_cons hxs
  obtain ⟨vs, xs, rfl, hvs, hxs⟩ := allV_cons hxs
  obtain rfl := allV_nil hxs
  obtain ⟨n, l, rfl, _, hll, _⟩ := hasV_ints (i := { kind := .slice 3, size := 1, bytes := 24, zero := .sl true [], leaves := [] }) (j := { kind := .int .i64, size := 1, bytes := 8, zero := .int .i64 0, leaves := [] }) (by kernel_rfl) rfl (by kernel_rfl) rfl hv
  obtain ⟨t, rfl, _⟩ := hasV_int (i := { kind := .int .i64, size := 1, bytes := 8, zero := .int .i64 0, leaves := [] }) (by kernel_rfl) rfl hvt
  obtain ⟨m, rfl, _⟩ := hasV_int (i := { kind := .int .i64, size := 1, bytes := 8, zero := .int .i64 0, leaves := [] }) (by kernel_rfl) rfl hvm
  obtain ⟨cs, rfl, hcl, hc⟩ := hasV_struct (fs := [(0, 3), (1, 3), (2, 3), (3, 3)]) (i := (T 24).get (by kernel_rfl)) (by kernel_rfl) (by kernel_rfl) hvs
  have hcl : cs.length = 4 := hcl
  match cs, hcl with
  | [x0, x1, x2, x3], _ =>
    obtain ⟨f0, e0, c0⟩ := hc (0, 3) (by simp)
    obtain ⟨f1, e1, c1⟩ := hc (1, 3) (by simp)
    obtain ⟨f2, e2, c2⟩ := hc (2, 3) (by simp)
    obtain ⟨f3, e3, c3⟩ := hc (3, 3) (by simp)
    have ht3 : T 3 = some { kind := .int .i64, size := 1, bytes := 8, zero := .int .i64 0, leaves := [] } := by kernel_rfl
    rw [show T (3 : Nat) = _ from ht3] at e0 e1 e2 e3
    injection e0 with e0; injection e1 with e1; injection e2 with e2; injection e3 with e3
    subst e0; subst e1; subst e2; subst e3
    obtain ⟨a, rfl, _⟩ := hasC_int ht3 rfl c0
    obtain ⟨b, rfl, _⟩ := hasC_int ht3 rfl c1
    obtain ⟨c, rfl, _⟩ := hasC_int ht3 rfl c2
    obtain ⟨d, rfl, _⟩ := hasC_int ht3 rfl c3
    show Runs T F 3 [.sl n (l.map encI), .int .i64 t, .int .i64 m, .agg [.int .i64 a, .int .i64 b, .int .i64 c, .int .i64 d]] [] (.bool true, [])
    by_cases h : 30 < l.length
    · refine wayE Y9_ok (fi := fi3) (by kernel_rfl) noL [(decide ((↑(List.map encI l).length : Int) > 30), true)] [2] (V.bool true, []) (by kernel_rfl) ?_ rfl
      exact ⟨by simp; omega, trivial⟩
    · refine wayE Y9_ok (fi := fi3) (by kernel_rfl) noL [(decide ((↑(List.map encI l).length : Int) > 30), false),
    ((List.map encI l).all isI, true),
    (decide ((List.map encI l).length < 1099511627776), true),
    (decide ((List.map encI l).length < 4611686018427387904), true),
    (P.bad (List.map intOf (List.map encI l)) t m == P.bad (List.map intOf (List.map encI l)) t m, true),
    ((List.map encI (P.outs (List.map intOf (List.map encI l)) t m)).all isI, true),
    (decide ((List.map encI (P.outs (List.map intOf (List.map encI l)) t m)).length < 4611686018427387904), true),
    (P.sm (List.map intOf (List.map encI (P.outs (List.map intOf (List.map encI l)) t m))) (List.map intOf (List.map encI (P.outs (List.map intOf (List.map encI l)) t m))), true),
    (P.sm (List.map intOf (List.map encI l)) (List.map intOf (List.map encI l)), true),
    (P.st a b c d == P.st a b c d, true)] [2, 3, 4, 3, 5, 3, 5, 6, 6, 6, 7, 7, 8, 6, 9, 9, 9, 3, 3, 5, 9, 10, 10, 10, 10, 10, 10, 11, 11] (V.bool true, []) (by kernel_rfl) ?_ rfl
      have hol := outs_length (List.map intOf (List.map encI l)) t m
      refine ⟨?_, ?_, ?_, ?_, ?_, ?_, ?_, ?_, ?_, ?_, trivial⟩
      all_goals first
        | exact isI_enc _
        | exact decide_eq_true rfl
        | (simp; done)
        | (simp; omega)
        | (rw [List.length_map]; exact decide_eq_true (by omega))
        | done
end Go.Proofs.Ytnijkhcmjpfjeaa
