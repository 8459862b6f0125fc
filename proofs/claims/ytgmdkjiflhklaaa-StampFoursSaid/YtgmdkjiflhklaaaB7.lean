/- B7: StampFours: the checks are made. -/
import Derived.Test.YtgmdkjiflhklaaaB6
import Derived.Test.YtgmdkjiflhklaaaH1
namespace Go.Proofs.Ytgmdkjiflhklaaa
open Go Go.Vm

/-- Checks at seconds that grow. -/
inductive Grow : List Chk → Int → Prop where
  | nil : Grow [] 0
  | snoc {l : List Chk} {a : Int} (c : Chk) (h : Grow l a) (h1 : a < c.at_) (h2 : c.at_ ≤ a + 9) (h3 : -30 ≤ c.lo) (h4 : c.lo ≤ c.hi) (h5 : c.hi ≤ 100) : Grow (l ++ [c]) c.at_
theorem Grow.bound {l : List Chk} {a : Int} (h : Grow l a) : 0 ≤ a ∧ a ≤ 9 * l.length := by
  induction h with
  | nil => simp
  | snoc c h h1 h2 _ _ _ ih => simp; omega
def bst (n : Bool) (bs : List Int) (l : List Chk) (a i : Int) : St := ⟨[(0, V.sl n (List.map encB bs)), (3, V.ex 3 l.isEmpty (l.map encC)), (4, V.int IntKind.i64 a), (5, V.int IntKind.i64 i)], []⟩
theorem build_end (n : Bool) (bs : List Int) (l : List Chk) (a : Int) (i : Nat) (h : ¬ (IntKind.i64.wrap ((i : Int) + 2) < bs.length ∧ (i : Int) < 24)) : ∃ b,
    LRuns (vstep T (vlim T F) lplim fi3.cx 0 (lb fi3 0)) (bst n bs l a i) (.exit 0, ⟨(bst n bs l a i).env ++ [(24, .bool b)], []⟩) := by
  by_cases h1 : IntKind.i64.wrap ((i : Int) + 2) < bs.length
  · have h2 : ¬ (i : Int) < 24 := fun h2 => h ⟨h1, h2⟩
    refine ⟨_, LRuns.last (F := F) SAu_ok (sh := Sh) (L := fun _ _ => .fail) (LGood.none (by kernel_rfl)) [(decide (IntKind.i64.wrap ((i : Int) + 2) < ↑(List.map encB bs).length), true), (decide ((i : Int) < 24), false)] [2, 2, 2, 3]
      (r := (.exit 0, ⟨(bst n bs l a i).env ++ [(24, .bool (decide ((i : Int) < 24)))], []⟩)) (by kernel_rfl) (by simp) ⟨by simpa using h1, by simpa using h2, trivial⟩⟩
  · exact ⟨_, LRuns.last (F := F) SAu_ok (sh := Sh) (L := fun _ _ => .fail) (LGood.none (by kernel_rfl)) [(decide (IntKind.i64.wrap ((i : Int) + 2) < ↑(List.map encB bs).length), false)] [2, 2, 2, 1]
      (r := (.exit 0, ⟨(bst n bs l a i).env ++ [(24, .bool false)], []⟩)) (by kernel_rfl) (by simp) ⟨by simpa using h1, trivial⟩⟩
theorem build_loop (n : Bool) (bs : List Int) (hb : ∀ x ∈ bs, 0 ≤ x ∧ x ≤ 255) : ∀ (d i : Nat) (l : List Chk) (a : Int), l.length + d = 8 → i = 3 * l.length → Grow l a →
    ∃ l' a' i' b, l'.length ≤ 8 ∧ Grow l' a' ∧ LRuns (vstep T (vlim T F) lplim fi3.cx 0 (lb fi3 0)) (bst n bs l a i) (.exit 0, ⟨(bst n bs l' a' i').env ++ [(24, .bool b)], []⟩)
  | d, i, l, a, hd, hi, hg => by
    by_cases hgo : IntKind.i64.wrap ((i : Int) + 2) < bs.length ∧ (i : Int) < 24
    case neg =>
      obtain ⟨b, hb⟩ := build_end n bs l a i hgo
      exact ⟨l, a, i, b, by omega, hg, hb⟩
    obtain ⟨hg1, hg2⟩ := hgo
    match d, hd with
    | 0, hd => omega
    | d + 1, hd =>
    have hw1 : IntKind.i64.wrap ((i : Int) + 1) = ((i + 1 : Nat) : Int) := by rw [i64in (by omega) (by omega)]; rfl
    have hw2 : IntKind.i64.wrap ((i : Int) + 2) = ((i + 2 : Nat) : Int) := by rw [i64in (by omega) (by omega)]; rfl
    have hw3 : IntKind.i64.wrap ((i : Int) + 3) = ((i + 3 : Nat) : Int) := by rw [i64in (by omega) (by omega)]; rfl
    rw [hw2] at hg1
    have k0 : i < bs.length := by omega
    have k1 : i + 1 < bs.length := by omega
    have k2 : i + 2 < bs.length := by omega
    have e0 : Fd.by bs (i : Int) = bs[i] := by_at bs i k0
    have e1 : Fd.by bs (IntKind.i64.wrap ((i : Int) + 1)) = bs[i + 1] := by rw [hw1]; exact by_at bs (i + 1) k1
    have e2 : Fd.by bs (IntKind.i64.wrap ((i : Int) + 2)) = bs[i + 2] := by rw [hw2]; exact by_at bs (i + 2) k2
    obtain ⟨p0, q0⟩ := hb bs[i] (List.getElem_mem _)
    obtain ⟨p1, q1⟩ := hb bs[i + 1] (List.getElem_mem _)
    obtain ⟨p2, q2⟩ := hb bs[i + 2] (List.getElem_mem _)
    obtain ⟨b0, b1⟩ := hg.bound
    have f0 : IntKind.i64.wrap (a + IntKind.i64.wrap (1 + IntKind.i64.wrap (bs[i].tmod 9))) = a + (1 + bs[i] % 9) := by
      rw [Int.tmod_eq_emod_of_nonneg p0, i64in (n := bs[i] % 9) (by omega) (by omega), i64in (n := 1 + bs[i] % 9) (by omega) (by omega), i64in (by omega) (by omega)]
    have f1 : IntKind.i64.wrap (IntKind.i64.wrap (bs[i + 1].tmod 60) - 30) = bs[i + 1] % 60 - 30 := by
      rw [Int.tmod_eq_emod_of_nonneg p1, i64in (n := bs[i + 1] % 60) (by omega) (by omega), i64in (by omega) (by omega)]
    have f2 : IntKind.i64.wrap (bs[i + 1] % 60 - 30 + IntKind.i64.wrap (bs[i + 2].tmod 40)) = bs[i + 1] % 60 - 30 + bs[i + 2] % 40 := by
      rw [Int.tmod_eq_emod_of_nonneg p2, i64in (n := bs[i + 2] % 40) (by omega) (by omega), i64in (by omega) (by omega)]
    obtain ⟨l', a', i', b, g1, g2, g3⟩ := build_loop n bs hb d (i + 3) (l ++ [⟨a + (1 + bs[i] % 9), bs[i + 1] % 60 - 30, bs[i + 1] % 60 - 30 + bs[i + 2] % 40⟩]) (a + (1 + bs[i] % 9)) (by simp; omega) (by simp; omega)
      (.snoc _ hg (by simp only; omega) (by simp only; omega) (by simp only; omega) (by simp only; omega) (by simp only; omega))
    refine ⟨l', a', i', b, g1, g2, ?_⟩
    refine LRuns.next (F := F) SAu_ok (sh := Sh) (L := fun _ _ => .fail) (LGood.none (by kernel_rfl)) [(decide (IntKind.i64.wrap ((i : Int) + 2) < ↑(List.map encB bs).length), true),
      (decide ((i : Int) < 24), true),
      (decide (0 ≤ (i : Int)), true),
      (decide ((i : Int) < ↑(List.map encB bs).length), true),
      (((List.map encB bs).getD ((i : Int)).toNat V.undef).cells.length == 1 && fitP [TK.int IntKind.u8] 0 ((List.map encB bs).getD ((i : Int)).toNat V.undef), true),
      (decide (0 ≤ IntKind.i64.wrap ((i : Int) + 1)), true),
      (decide (IntKind.i64.wrap ((i : Int) + 1) < ↑(List.map encB bs).length), true),
      (((List.map encB bs).getD (IntKind.i64.wrap ((i : Int) + 1)).toNat V.undef).cells.length == 1 && fitP [TK.int IntKind.u8] 0 ((List.map encB bs).getD (IntKind.i64.wrap ((i : Int) + 1)).toNat V.undef), true),
      (decide (0 ≤ IntKind.i64.wrap ((i : Int) + 2)), true),
      (((List.map encB bs).getD (IntKind.i64.wrap ((i : Int) + 2)).toNat V.undef).cells.length == 1 && fitP [TK.int IntKind.u8] 0 ((List.map encB bs).getD (IntKind.i64.wrap ((i : Int) + 2)).toNat V.undef), true),
      (rooms ((List.map encC l).length + 1) 24, true),
      (decide ((List.map encC l).length + 1 < 4611686018427387904), true)]
      [2, 2, 2, 3, 4, 5, 6, 0, 7, 8, 9, 0, 10, 2, 11, 0, 12, 13, 0]
      (τ' := ⟨[(0, V.sl n (List.map encB bs)), (3, V.ex 3 (l.isEmpty && false) (List.map encC l ++ [V.agg [V.int IntKind.i64 (IntKind.i64.wrap (a + IntKind.i64.wrap (1 + IntKind.i64.wrap ((Fd.by bs (i : Int)).tmod 9)))), V.int IntKind.i64 (IntKind.i64.wrap (IntKind.i64.wrap ((Fd.by bs (IntKind.i64.wrap ((i : Int) + 1))).tmod 60) - 30)), V.int IntKind.i64 (IntKind.i64.wrap (IntKind.i64.wrap (IntKind.i64.wrap ((Fd.by bs (IntKind.i64.wrap ((i : Int) + 1))).tmod 60) - 30) + IntKind.i64.wrap ((Fd.by bs (IntKind.i64.wrap ((i : Int) + 2))).tmod 40)))]])), (4, V.int IntKind.i64 (IntKind.i64.wrap (a + IntKind.i64.wrap (1 + IntKind.i64.wrap ((Fd.by bs (i : Int)).tmod 9))))), (5, V.int IntKind.i64 (IntKind.i64.wrap ((i : Int) + 3)))], []⟩) (by kernel_rfl) ?_ ?_
    · refine ⟨?_, ?_, ?_, ?_, ?_, ?_, ?_, ?_, ?_, ?_, ?_, ?_, trivial⟩
      all_goals first
        | (simp only [hw1, hw2, Int.toNat_natCast]; simp [encB, fitP, fld, leafFits, V.cells, k0, k1, k2]; done)
        | (simp only [hw1, hw2, List.length_map, decide_eq_true_eq]; omega)
        | (simp [rooms, maxRoom]; omega)
    · rw [e0, e1, e2, hw3, f0, f1, f2]
      have ee : ∀ x, (l ++ [x]).isEmpty = false := by intro x; cases l <;> rfl
      simpa [bst, encC, ee] using g3
end Go.Proofs.Ytgmdkjiflhklaaa
