/- B8: StampFours: a set of the checks. -/
import Derived.Test.YtgmdkjiflhklaaaB7
namespace Go.Proofs.Ytgmdkjiflhklaaa
open Go Go.Vm

def Fd.bit (s i : Int) : Int := IntKind.i64.wrap ((BitVec.ofInt IntKind.i64.bits (s.fdiv (2 ^ min i.toNat IntKind.i64.bits)) &&& BitVec.ofInt IntKind.i64.bits 1).toNat)
theorem bit_all : ∀ (s : Fin 256) (i : Fin 8), Fd.bit (s : Nat) (i : Nat) = if (s : Nat).testBit i then 1 else 0 := by decide +kernel
theorem bit_eq {s i : Nat} (hs : s < 256) (hi : i < 8) : Fd.bit s i = if s.testBit i then 1 else 0 := bit_all ⟨s, hs⟩ ⟨i, hi⟩
/-- The checks of a set, among the first ones. -/
def subF (s : Nat) (l : List Chk) : Nat → List Chk
  | 0 => []
  | k + 1 => subF s l k ++ (if s.testBit k then [chk l k] else [])
theorem subF_length (s : Nat) (l : List Chk) : ∀ k, (subF s l k).length ≤ k
  | 0 => Nat.le_refl _
  | k + 1 => by
    have := subF_length s l k
    unfold subF
    split <;> simp <;> omega
theorem subF_mem (s : Nat) (l : List Chk) : ∀ k, k ≤ l.length → ∀ c ∈ subF s l k, ∃ (j : Nat) (h : j < l.length), j < k ∧ s.testBit j = true ∧ c = l[j]
  | 0, _, c, hc => by cases hc
  | k + 1, hk, c, hc => by
    unfold subF at hc
    rcases List.mem_append.1 hc with hc | hc
    · obtain ⟨j, h, h1, h2, h3⟩ := subF_mem s l k (by omega) c hc
      exact ⟨j, h, by omega, h2, h3⟩
    · split at hc
      · rename_i hb
        simp only [List.mem_singleton] at hc
        exact ⟨k, by omega, by omega, hb, by rw [hc, chk_at l k (by omega)]⟩
      · cases hc
theorem subF_in (s : Nat) (l : List Chk) : ∀ k, k ≤ l.length → ∀ (j : Nat) (h : j < l.length), j < k → s.testBit j = true → l[j] ∈ subF s l k
  | 0, _, j, _, h, _ => by omega
  | k + 1, hk, j, hj, h, hb => by
    unfold subF
    by_cases hjk : j = k
    · subst hjk
      rw [if_pos hb, chk_at l j hj]; simp
    · exact List.mem_append.2 (.inl (subF_in s l k (by omega) j hj (by omega) hb))
def iSt (m k : Bool) (l o : List Chk) (e N s i : Int) (x : List V) : St :=
  ⟨[(3, V.ex 3 m (List.map encC l)), (8, V.int IntKind.i64 e), (9, V.bool k), (10, V.int IntKind.i64 s), (11, V.ex 3 o.isEmpty (o.map encC)), (70, V.int IntKind.i64 N), (71, V.int IntKind.i64 s), (74, V.lent (Place.slot 3)),
    (75, V.int IntKind.i64 ↑(List.map encC l).length), (76, V.int IntKind.i64 i), (3, V.ex 3 m (List.map encC l))], [.cells x]⟩
def iEnd (m k : Bool) (l o : List Chk) (e N s i : Int) (x : List V) (b : Bool) : St :=
  ⟨[(3, V.ex 3 m (List.map encC l)), (8, V.int IntKind.i64 e), (9, V.bool k), (10, V.int IntKind.i64 s), (11, V.ex 3 o.isEmpty (o.map encC)), (70, V.int IntKind.i64 N), (71, V.int IntKind.i64 s), (74, V.lent (Place.slot 3)),
    (75, V.int IntKind.i64 ↑(List.map encC l).length), (76, V.int IntKind.i64 i), (77, .bool b), (3, V.ex 3 m (List.map encC l))], [.cells x]⟩
theorem sub_loop (m k : Bool) (l : List Chk) (e N : Int) (s : Nat) (x : List V) (hl : l.length ≤ 8) (hs256 : s < 256) : ∀ d i, i + d = l.length →
    LRuns (vstep T (vlim T F) lplim fi3.cx 1 (lb fi3 2)) (iSt m k l (subF s l i) e N s i x) (.exit 4, iEnd m k l (subF s l l.length) e N s l.length x false)
  | 0, i, hd => by
    have hi : i = l.length := by omega
    subst hi
    have := LRuns.last (F := F) SAu_ok (sh := Sh) (L := fun _ _ => .fail) (n := 1) (b := lb fi3 2) (cx := fi3.cx) (τ := iSt m k l (subF s l l.length) e N s l.length x) (LGood.none (by kernel_rfl)) [(decide ((l.length : Int) < ↑(List.map encC l).length), false)] [2]
      (r := (.exit 4, iEnd m k l (subF s l l.length) e N s l.length x (decide ((l.length : Int) < ↑(List.map encC l).length)))) (by kernel_rfl) (by simp) ⟨by simp, trivial⟩
    simpa using this
  | d + 1, i, hd => by
    have hi : i < l.length := by omega
    have ih := sub_loop m k l e N s x hl hs256 d (i + 1) (by omega)
    have hbit := bit_eq hs256 (show i < 8 by omega)
    have hsl := subF_length s l i
    have hw : IntKind.i64.wrap ((i : Int) + 1) = ((i + 1 : Nat) : Int) := by rw [i64in (by omega) (by omega)]; rfl
    by_cases hs : s.testBit i = true
    · have e1 : subF s l (i + 1) = subF s l i ++ [chk l i] := by simp only [subF, hs, if_true]
      have e2 : V.agg [V.int IntKind.i64 (Fd.cat l i), V.int IntKind.i64 (Fd.clo l i), V.int IntKind.i64 (Fd.chi l i)] = encC (chk l i) := by rw [cat_at l i hi, clo_at l i hi, chi_at l i hi, chk_at l i hi]; rfl
      have e3 : ((subF s l i).isEmpty && false) = (subF s l (i + 1)).isEmpty := by rw [e1]; cases subF s l i <;> rfl
      refine LRuns.next (F := F) SAu_ok (sh := Sh) (L := fun _ _ => .fail) (LGood.none (by kernel_rfl)) [(decide ((i : Int) < ↑(List.map encC l).length), true),
        (decide (0 ≤ (i : Int)), true),
        (decide ((i : Int).toNat < (List.map encC l).length), true),
        (fitP [TK.int IntKind.i64, TK.int IntKind.i64, TK.int IntKind.i64] 0 ((List.map encC l).getD (i : Int).toNat V.undef), true),
        (!decide ((i : Int) < 0), true),
        (Fd.bit s i == 1, true),
        (rooms ((List.map encC (subF s l i)).length + 1) 24, true),
        (decide ((List.map encC (subF s l i)).length + 1 < 4611686018427387904), true)]
        [2, 3, 2, 4, 5, 6, 7, 8, 9, 0]
        (τ' := ⟨[(3, V.ex 3 m (List.map encC l)), (8, V.int IntKind.i64 e), (9, V.bool k), (10, V.int IntKind.i64 s), (11, V.ex 3 ((subF s l i).isEmpty && false) (List.map encC (subF s l i) ++ [V.agg [V.int IntKind.i64 (Fd.cat l i), V.int IntKind.i64 (Fd.clo l i), V.int IntKind.i64 (Fd.chi l i)]])),
          (70, V.int IntKind.i64 N), (71, V.int IntKind.i64 s), (74, V.lent (Place.slot 3)), (75, V.int IntKind.i64 ↑(List.map encC l).length), (76, V.int IntKind.i64 (IntKind.i64.wrap ((i : Int) + 1))), (3, V.ex 3 m (List.map encC l))], [.cells x]⟩) (by kernel_rfl) ?_ ?_
      · refine ⟨?_, ?_, ?_, ?_, ?_, ?_, ?_, ?_, trivial⟩
        all_goals first
          | (simp [encC, fitP, fld, leafFits, hi]; done)
          | (simp [hbit, hs]; done)
          | (simp; omega)
          | (simp [rooms, maxRoom]; omega)
      · rw [e2, e3, hw, show List.map encC (subF s l i) ++ [encC (chk l i)] = List.map encC (subF s l (i + 1)) by rw [e1, List.map_append]; rfl]
        exact ih
    · have hs' : s.testBit i = false := by simpa using hs
      have e1 : subF s l (i + 1) = subF s l i := by simp only [subF, hs', Bool.false_eq_true, if_false, List.append_nil]
      rw [e1] at ih
      refine LRuns.next (F := F) SAu_ok (sh := Sh) (L := fun _ _ => .fail) (LGood.none (by kernel_rfl)) [(decide ((i : Int) < ↑(List.map encC l).length), true),
        (decide (0 ≤ (i : Int)), true),
        (decide ((i : Int).toNat < (List.map encC l).length), true),
        (fitP [TK.int IntKind.i64, TK.int IntKind.i64, TK.int IntKind.i64] 0 ((List.map encC l).getD (i : Int).toNat V.undef), true),
        (!decide ((i : Int) < 0), true),
        (Fd.bit s i == 1, false)]
        [2, 3, 2, 4, 5, 6, 7] (τ' := iSt m k l (subF s l i) e N s (IntKind.i64.wrap ((i : Int) + 1)) x) (by kernel_rfl) ?_ ?_
      · refine ⟨?_, ?_, ?_, ?_, ?_, ?_, trivial⟩
        all_goals first
          | (simp [encC, fitP, fld, leafFits, hi]; done)
          | (simp [hbit, hs']; done)
          | (simp; omega)
          | (simp [rooms, maxRoom]; omega)
      · rw [hw]; exact ih
end Go.Proofs.Ytgmdkjiflhklaaa
