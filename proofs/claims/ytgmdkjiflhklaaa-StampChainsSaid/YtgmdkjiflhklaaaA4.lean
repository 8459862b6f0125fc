/- A4: what Verify tells of stamps. -/
import Derived.Test.YtgmdkjiflhklaaaA3
namespace Go.Proofs.Ytgmdkjiflhklaaa
open Go Go.Vm

def Fd.ser (l : List Stp) (i : Int) : Int := intOf (fld 0 ((l.map encS).getD i.toNat V.undef))
def Fd.doc (l : List Stp) (i : Int) : Int := intOf (fld 1 ((l.map encS).getD i.toNat V.undef))
def Fd.sg (l : List Stp) (i : Int) : Int := intOf (fld 4 ((l.map encS).getD i.toNat V.undef))
theorem ser_at (l : List Stp) (k : Nat) (h : k < l.length) : Fd.ser l k = l[k].ser := by simp [Fd.ser, encS, h]
theorem doc_at (l : List Stp) (k : Nat) (h : k < l.length) : Fd.doc l k = l[k].doc := by simp [Fd.doc, encS, h]
theorem sg_at (l : List Stp) (k : Nat) (h : k < l.length) : Fd.sg l k = l[k].sgn := by simp [Fd.sg, encS, h]

/-- A stamp that is one of a chain but for its sign. -/
structure Pass (l : List Stp) (k : Nat) : Prop where
  h : k < l.length
  ser : l[k].ser = k
  lo0 : 0 ≤ l[k].lo
  loM : l[k].lo ≤ 1000000000000000
  hi0 : 0 ≤ l[k].hi
  hiM : l[k].hi ≤ 1000000000000000
  le : l[k].lo ≤ l[k].hi
  mono : ∀ (h' : 0 < k), (l[k - 1]'(by omega)).lo ≤ l[k].lo

def vst (key : Int) (n : Bool) (l : List Stp) (k : Nat) (la : Int) : St :=
  ⟨[(1, V.sl n (l.map encS)), (6, V.ptr 0 0), (14, V.sl n (l.map encS)), (15, V.int IntKind.i64 l.length), (16, V.int IntKind.i64 k)], [B.cells [V.int IntKind.u64 key, V.int IntKind.u64 la, V.bool true]]⟩
/-- What lies in memory when it stops. -/
def vjunk (key : Int) (l : List Stp) (k : Nat) (la : Int) : Heap :=
  [B.cells [V.int IntKind.u64 key, V.int IntKind.u64 la, V.bool true],
   B.cells [V.int IntKind.i64 (Fd.ser l k), V.int IntKind.u64 (Fd.doc l k), V.int IntKind.i64 (Fd.lo l k), V.int IntKind.i64 (Fd.hi l k), V.int IntKind.u64 (Fd.sg l k)]]

theorem verify_ok {key la : Int} {n : Bool} {l : List Stp} {k : Nat} (hk : k < l.length) (hl : l.length ≤ 1000) (p : Pass l k) (hsig : l[k].sgn = Fd.sgn key la l[k].ser l[k].doc l[k].lo l[k].hi) {r : Ex × St} (hr : LRuns (vstep T (vlim T F) lplim fi17.cx 1 (lb fi17 0)) (vst key n l (k + 1) l[k].sgn) r) :
    LRuns (vstep T (vlim T F) lplim fi17.cx 1 (lb fi17 0)) (vst key n l k la) r := by
  have hlo := lo_at l k hk
  have hhi := hi_at l k hk
  have hsr := ser_at l k hk
  have hser : Fd.ser l k = k := by rw [hsr]; exact p.ser
  have hdoc := doc_at l k hk
  have hsg := sg_at l k hk
  have r1 := p.lo0
  have r2 := p.loM
  have r3 := p.hi0
  have r4 := p.hiM
  have r5 := p.le
  have hw : IntKind.i64.wrap ((k : Int) + 1) = ((k + 1 : Nat) : Int) := by rw [i64in (by omega) (by omega)]; rfl
  by_cases hk0 : k = 0
  · refine LRuns.next (F := F) S46_ok (sh := Sh) (L := fun _ _ => .fail) (LGood.none (by kernel_rfl)) [(decide ((k : Int) < ↑l.length), true),
      (decide (0 ≤ (k : Int)), true),
      (decide ((k : Int) < ↑(List.map encS l).length), true),
      (((List.map encS l).getD (k : Int).toNat V.undef).cells.length == 5 && fitP [TK.int IntKind.i64, TK.int IntKind.u64, TK.int IntKind.i64, TK.int IntKind.i64, TK.int IntKind.u64] 0 ((List.map encS l).getD (k : Int).toNat V.undef), true),
      (Fd.ser l k != (k : Int), false),
      (decide (Fd.lo l k < 0), false),
      (decide (Fd.lo l k > 1000000000000000), false),
      (decide (Fd.hi l k < 0), false),
      (decide (Fd.hi l k > 1000000000000000), false),
      (decide (Fd.lo l k > Fd.hi l k), false),
      (decide ((k : Int) > 0), false),
      (Fd.sg l k != Fd.sgn key la (Fd.ser l k) (Fd.doc l k) (Fd.lo l k) (Fd.hi l k), false)]
      [2, 3, 4, 5, 6, 0, 0, 0, 0, 7, 7, 7, 7, 8, 0, 0, 0, 0, 9, 9, 9, 9, 10, 1, 0, 1, 11, 12, 12, 12, 12, 12, 12, 12, 12, 12, 12, 1, 0, 0, 0, 0, 0, 1, 13]
      (τ' := ⟨[(1, V.sl n (List.map encS l)), (6, V.ptr 0 0), (14, V.sl n (List.map encS l)), (15, V.int IntKind.i64 ↑l.length), (16, V.int IntKind.i64 (IntKind.i64.wrap ((k : Int) + 1)))], [B.cells [V.int IntKind.u64 key, V.int IntKind.u64 (Fd.sgn key la (Fd.ser l k) (Fd.doc l k) (Fd.lo l k) (Fd.hi l k)), V.bool true]]⟩) (by kernel_rfl) ?_ ?_
    · refine ⟨?_, ?_, ?_, ?_, ?_, ?_, ?_, ?_, ?_, ?_, ?_, ?_, trivial⟩
      all_goals first
        | (simp [encS, fitP, fld, leafFits, hk]; done)
        | (simp only [hser, hlo, hhi, decide_eq_true_eq, decide_eq_false_iff_not, bne_self_eq_false]; omega)
        | (simp [hk]; omega)
        | (rw [hsg, hsr, hdoc, hlo, hhi]; simpa using hsig)
    · have e : (⟨[(1, V.sl n (List.map encS l)), (6, V.ptr 0 0), (14, V.sl n (List.map encS l)), (15, V.int IntKind.i64 ↑l.length), (16, V.int IntKind.i64 (IntKind.i64.wrap ((k : Int) + 1)))], [B.cells [V.int IntKind.u64 key, V.int IntKind.u64 (Fd.sgn key la (Fd.ser l k) (Fd.doc l k) (Fd.lo l k) (Fd.hi l k)), V.bool true]]⟩ : St) = vst key n l (k + 1) l[k].sgn := by
        rw [hw, hsr, hdoc, hlo, hhi, ← hsig]; rfl
      rw [e]; exact hr
  · have hw1 : IntKind.i64.wrap ((k : Int) - 1) = (k : Int) - 1 := by rw [i64in (by omega) (by omega)]
    have hw2 : (IntKind.i64.wrap ((k : Int) - 1)).toNat = k - 1 := by rw [hw1]; omega
    have hg : (l.map encS).getD (k - 1) V.undef = encS (l[k - 1]'(by omega)) := getD_map _ _ _ (by omega)
    have hlp : Fd.lo l (IntKind.i64.wrap ((k : Int) - 1)) = (l[k - 1]'(by omega)).lo := by
      rw [hw1, show (k : Int) - 1 = ((k - 1 : Nat) : Int) by omega]; exact lo_at l (k - 1) (by omega)
    have hm := p.mono (by omega)
    refine LRuns.next (F := F) S46_ok (sh := Sh) (L := fun _ _ => .fail) (LGood.none (by kernel_rfl)) [(decide ((k : Int) < ↑l.length), true),
      (decide (0 ≤ (k : Int)), true),
      (decide ((k : Int) < ↑(List.map encS l).length), true),
      (((List.map encS l).getD (k : Int).toNat V.undef).cells.length == 5 && fitP [TK.int IntKind.i64, TK.int IntKind.u64, TK.int IntKind.i64, TK.int IntKind.i64, TK.int IntKind.u64] 0 ((List.map encS l).getD (k : Int).toNat V.undef), true),
      (Fd.ser l k != (k : Int), false),
      (decide (Fd.lo l k < 0), false),
      (decide (Fd.lo l k > 1000000000000000), false),
      (decide (Fd.hi l k < 0), false),
      (decide (Fd.hi l k > 1000000000000000), false),
      (decide (Fd.lo l k > Fd.hi l k), false),
      (decide ((k : Int) > 0), true),
      (decide (0 ≤ IntKind.i64.wrap ((k : Int) - 1)), true),
      (decide (IntKind.i64.wrap ((k : Int) - 1) < ↑(List.map encS l).length), true),
      (((List.map encS l).getD (IntKind.i64.wrap ((k : Int) - 1)).toNat V.undef).cells.length == 5 && fitP [TK.int IntKind.i64, TK.int IntKind.u64, TK.int IntKind.i64, TK.int IntKind.i64, TK.int IntKind.u64] 0 ((List.map encS l).getD (IntKind.i64.wrap ((k : Int) - 1)).toNat V.undef), true),
      (decide (Fd.lo l k < Fd.lo l (IntKind.i64.wrap ((k : Int) - 1))), false),
      (Fd.sg l k != Fd.sgn key la (Fd.ser l k) (Fd.doc l k) (Fd.lo l k) (Fd.hi l k), false)]
      [2, 3, 4, 5, 6, 0, 0, 0, 0, 7, 7, 7, 7, 8, 0, 0, 0, 0, 9, 9, 9, 9, 10, 1, 0, 1, 11, 12, 12, 12, 12, 12, 12, 13, 14, 15, 12, 12, 12, 12, 16, 0, 0, 0, 0, 0, 1, 17]
      (τ' := ⟨[(1, V.sl n (List.map encS l)), (6, V.ptr 0 0), (14, V.sl n (List.map encS l)), (15, V.int IntKind.i64 ↑l.length), (16, V.int IntKind.i64 (IntKind.i64.wrap ((k : Int) + 1)))], [B.cells [V.int IntKind.u64 key, V.int IntKind.u64 (Fd.sgn key la (Fd.ser l k) (Fd.doc l k) (Fd.lo l k) (Fd.hi l k)), V.bool true]]⟩) (by kernel_rfl) ?_ ?_
    · refine ⟨?_, ?_, ?_, ?_, ?_, ?_, ?_, ?_, ?_, ?_, ?_, ?_, ?_, ?_, ?_, ?_, trivial⟩
      all_goals first
        | (simp [encS, fitP, fld, leafFits, hk]; done)
        | (simp only [hser, hlo, hhi, decide_eq_true_eq, decide_eq_false_iff_not, bne_self_eq_false]; omega)
        | (simp [hk]; omega)
        | (rw [hsg, hsr, hdoc, hlo, hhi]; simpa using hsig)
        | (simp only [hw1, List.length_map, decide_eq_true_eq]; omega)
        | (simp only [hw2, hg]; simp [encS, fitP, fld, leafFits]; done)
        | (rw [hlp, hlo]; simp only [decide_eq_false_iff_not]; omega)
    · have e : (⟨[(1, V.sl n (List.map encS l)), (6, V.ptr 0 0), (14, V.sl n (List.map encS l)), (15, V.int IntKind.i64 ↑l.length), (16, V.int IntKind.i64 (IntKind.i64.wrap ((k : Int) + 1)))], [B.cells [V.int IntKind.u64 key, V.int IntKind.u64 (Fd.sgn key la (Fd.ser l k) (Fd.doc l k) (Fd.lo l k) (Fd.hi l k)), V.bool true]]⟩ : St) = vst key n l (k + 1) l[k].sgn := by
        rw [hw, hsr, hdoc, hlo, hhi, ← hsig]; rfl
      rw [e]; exact hr

theorem verify_sgn {key la : Int} {n : Bool} {l : List Stp} {k : Nat} (hk : k < l.length) (hl : l.length ≤ 1000) (p : Pass l k) (hsig : l[k].sgn ≠ Fd.sgn key la l[k].ser l[k].doc l[k].lo l[k].hi) :
    LRuns (vstep T (vlim T F) lplim fi17.cx 1 (lb fi17 0)) (vst key n l k la) (.ret, ⟨[(4, V.int IntKind.i64 k), (5, V.int IntKind.i64 7)], vjunk key l k (Fd.sgn key la (Fd.ser l k) (Fd.doc l k) (Fd.lo l k) (Fd.hi l k))⟩) := by
  have hlo := lo_at l k hk
  have hhi := hi_at l k hk
  have hsr := ser_at l k hk
  have hser : Fd.ser l k = k := by rw [hsr]; exact p.ser
  have hdoc := doc_at l k hk
  have hsg := sg_at l k hk
  have r1 := p.lo0
  have r2 := p.loM
  have r3 := p.hi0
  have r4 := p.hiM
  have r5 := p.le
  have hw : IntKind.i64.wrap ((k : Int) + 1) = ((k + 1 : Nat) : Int) := by rw [i64in (by omega) (by omega)]; rfl
  by_cases hk0 : k = 0
  · refine LRuns.last (F := F) S46_ok (sh := Sh) (L := fun _ _ => .fail) (LGood.none (by kernel_rfl)) [(decide ((k : Int) < ↑l.length), true),
      (decide (0 ≤ (k : Int)), true),
      (decide ((k : Int) < ↑(List.map encS l).length), true),
      (((List.map encS l).getD (k : Int).toNat V.undef).cells.length == 5 && fitP [TK.int IntKind.i64, TK.int IntKind.u64, TK.int IntKind.i64, TK.int IntKind.i64, TK.int IntKind.u64] 0 ((List.map encS l).getD (k : Int).toNat V.undef), true),
      (Fd.ser l k != (k : Int), false),
      (decide (Fd.lo l k < 0), false),
      (decide (Fd.lo l k > 1000000000000000), false),
      (decide (Fd.hi l k < 0), false),
      (decide (Fd.hi l k > 1000000000000000), false),
      (decide (Fd.lo l k > Fd.hi l k), false),
      (decide ((k : Int) > 0), false),
      (Fd.sg l k != Fd.sgn key la (Fd.ser l k) (Fd.doc l k) (Fd.lo l k) (Fd.hi l k), true)]
      [2, 3, 4, 5, 6, 0, 0, 0, 0, 7, 7, 7, 7, 8, 0, 0, 0, 0, 9, 9, 9, 9, 10, 1, 0, 1, 11, 12, 12, 12, 12, 12, 12, 12, 12, 12, 12, 1, 0, 0, 0, 0, 0, 1, 13]
      (r := (.ret, ⟨[(4, V.int IntKind.i64 k), (5, V.int IntKind.i64 7)], vjunk key l k (Fd.sgn key la (Fd.ser l k) (Fd.doc l k) (Fd.lo l k) (Fd.hi l k))⟩)) (by kernel_rfl) (by simp) ?_
    · refine ⟨?_, ?_, ?_, ?_, ?_, ?_, ?_, ?_, ?_, ?_, ?_, ?_, trivial⟩
      all_goals first
        | (simp [encS, fitP, fld, leafFits, hk]; done)
        | (simp only [hser, hlo, hhi, decide_eq_true_eq, decide_eq_false_iff_not, bne_self_eq_false]; omega)
        | (simp [hk]; omega)
        | (rw [hsg, hsr, hdoc, hlo, hhi]; simpa using hsig)
  · have hw1 : IntKind.i64.wrap ((k : Int) - 1) = (k : Int) - 1 := by rw [i64in (by omega) (by omega)]
    have hw2 : (IntKind.i64.wrap ((k : Int) - 1)).toNat = k - 1 := by rw [hw1]; omega
    have hg : (l.map encS).getD (k - 1) V.undef = encS (l[k - 1]'(by omega)) := getD_map _ _ _ (by omega)
    have hlp : Fd.lo l (IntKind.i64.wrap ((k : Int) - 1)) = (l[k - 1]'(by omega)).lo := by
      rw [hw1, show (k : Int) - 1 = ((k - 1 : Nat) : Int) by omega]; exact lo_at l (k - 1) (by omega)
    have hm := p.mono (by omega)
    refine LRuns.last (F := F) S46_ok (sh := Sh) (L := fun _ _ => .fail) (LGood.none (by kernel_rfl)) [(decide ((k : Int) < ↑l.length), true),
      (decide (0 ≤ (k : Int)), true),
      (decide ((k : Int) < ↑(List.map encS l).length), true),
      (((List.map encS l).getD (k : Int).toNat V.undef).cells.length == 5 && fitP [TK.int IntKind.i64, TK.int IntKind.u64, TK.int IntKind.i64, TK.int IntKind.i64, TK.int IntKind.u64] 0 ((List.map encS l).getD (k : Int).toNat V.undef), true),
      (Fd.ser l k != (k : Int), false),
      (decide (Fd.lo l k < 0), false),
      (decide (Fd.lo l k > 1000000000000000), false),
      (decide (Fd.hi l k < 0), false),
      (decide (Fd.hi l k > 1000000000000000), false),
      (decide (Fd.lo l k > Fd.hi l k), false),
      (decide ((k : Int) > 0), true),
      (decide (0 ≤ IntKind.i64.wrap ((k : Int) - 1)), true),
      (decide (IntKind.i64.wrap ((k : Int) - 1) < ↑(List.map encS l).length), true),
      (((List.map encS l).getD (IntKind.i64.wrap ((k : Int) - 1)).toNat V.undef).cells.length == 5 && fitP [TK.int IntKind.i64, TK.int IntKind.u64, TK.int IntKind.i64, TK.int IntKind.i64, TK.int IntKind.u64] 0 ((List.map encS l).getD (IntKind.i64.wrap ((k : Int) - 1)).toNat V.undef), true),
      (decide (Fd.lo l k < Fd.lo l (IntKind.i64.wrap ((k : Int) - 1))), false),
      (Fd.sg l k != Fd.sgn key la (Fd.ser l k) (Fd.doc l k) (Fd.lo l k) (Fd.hi l k), true)]
      [2, 3, 4, 5, 6, 0, 0, 0, 0, 7, 7, 7, 7, 8, 0, 0, 0, 0, 9, 9, 9, 9, 10, 1, 0, 1, 11, 12, 12, 12, 12, 12, 12, 13, 14, 15, 12, 12, 12, 12, 16, 0, 0, 0, 0, 0, 1, 17]
      (r := (.ret, ⟨[(4, V.int IntKind.i64 k), (5, V.int IntKind.i64 7)], vjunk key l k (Fd.sgn key la (Fd.ser l k) (Fd.doc l k) (Fd.lo l k) (Fd.hi l k))⟩)) (by kernel_rfl) (by simp) ?_
    · refine ⟨?_, ?_, ?_, ?_, ?_, ?_, ?_, ?_, ?_, ?_, ?_, ?_, ?_, ?_, ?_, ?_, trivial⟩
      all_goals first
        | (simp [encS, fitP, fld, leafFits, hk]; done)
        | (simp only [hser, hlo, hhi, decide_eq_true_eq, decide_eq_false_iff_not, bne_self_eq_false]; omega)
        | (simp [hk]; omega)
        | (rw [hsg, hsr, hdoc, hlo, hhi]; simpa using hsig)
        | (simp only [hw1, List.length_map, decide_eq_true_eq]; omega)
        | (simp only [hw2, hg]; simp [encS, fitP, fld, leafFits]; done)
        | (rw [hlp, hlo]; simp only [decide_eq_false_iff_not]; omega)

theorem verify_ser {key la : Int} {n : Bool} {l : List Stp} {k : Nat} (hk : k < l.length) (hs : l[k].ser ≠ k) :
    LRuns (vstep T (vlim T F) lplim fi17.cx 1 (lb fi17 0)) (vst key n l k la) (.ret, ⟨[(4, V.int IntKind.i64 k), (5, V.int IntKind.i64 110)], vjunk key l k la⟩) := by
  have hsr := ser_at l k hk
  refine LRuns.last (F := F) S46_ok (sh := Sh) (L := fun _ _ => .fail) (LGood.none (by kernel_rfl)) [(decide ((k : Int) < ↑l.length), true),
    (decide (0 ≤ (k : Int)), true),
    (decide ((k : Int) < ↑(List.map encS l).length), true),
    (((List.map encS l).getD (k : Int).toNat V.undef).cells.length == 5 && fitP [TK.int IntKind.i64, TK.int IntKind.u64, TK.int IntKind.i64, TK.int IntKind.i64, TK.int IntKind.u64] 0 ((List.map encS l).getD (k : Int).toNat V.undef), true),
    (Fd.ser l k != (k : Int), true)]
    [2, 3, 4, 5, 6] (r := (.ret, ⟨[(4, V.int IntKind.i64 k), (5, V.int IntKind.i64 110)], vjunk key l k la⟩)) (by kernel_rfl) (by simp) ⟨?_, ?_, ?_, ?_, ?_, trivial⟩
  all_goals first
    | (simp [encS, fitP, fld, leafFits, hk]; done)
    | (rw [hsr]; simpa using hs)

theorem verify_end {key la : Int} {n : Bool} {l : List Stp} : LRuns (vstep T (vlim T F) lplim fi17.cx 1 (lb fi17 0)) (vst key n l l.length la)
    (.exit 0, ⟨[(1, V.sl n (l.map encS)), (6, V.ptr 0 0), (14, V.sl n (l.map encS)), (15, V.int IntKind.i64 l.length), (16, V.int IntKind.i64 l.length), (17, .bool false)], [B.cells [V.int IntKind.u64 key, V.int IntKind.u64 la, V.bool true]]⟩) := by
  have := LRuns.last (F := F) S46_ok (sh := Sh) (L := fun _ _ => .fail) (n := 1) (b := lb fi17 0) (cx := fi17.cx) (τ := vst key n l l.length la) (LGood.none (by kernel_rfl)) [(decide ((l.length : Int) < l.length), false)] [2]
    (r := (.exit 0, ⟨[(1, V.sl n (l.map encS)), (6, V.ptr 0 0), (14, V.sl n (l.map encS)), (15, V.int IntKind.i64 l.length), (16, V.int IntKind.i64 l.length), (17, .bool (decide ((l.length : Int) < l.length)))], [B.cells [V.int IntKind.u64 key, V.int IntKind.u64 la, V.bool true]]⟩)) (by kernel_rfl) (by simp) ⟨by simp, trivial⟩
  simpa using this


/-- Signs from here on: each is that of its stamp behind the one before. -/
def Signed (key la : Int) (l : List Stp) (k m : Nat) : Prop := ∀ j (h : j < l.length), k ≤ j → j < m → Pass l j ∧ l[j].sgn = Fd.sgn key (if j = k then la else (l[j - 1]'(by omega)).sgn) l[j].ser l[j].doc l[j].lo l[j].hi

theorem verify_upto {key : Int} {n : Bool} {l : List Stp} (hl : l.length ≤ 1000) {m : Nat} (hm : m ≤ l.length) {r : Ex × St} : ∀ (d k : Nat) (la : Int), k + d = m → Signed key la l k m →
    (∀ la', (la' = if h : k < m then (l[m - 1]'(by omega)).sgn else la) → LRuns (vstep T (vlim T F) lplim fi17.cx 1 (lb fi17 0)) (vst key n l m la') r) → LRuns (vstep T (vlim T F) lplim fi17.cx 1 (lb fi17 0)) (vst key n l k la) r
  | 0, k, la, hd, hs, hr => by
    have : k = m := by omega
    subst this
    exact hr la (by rw [dif_neg (by omega)])
  | d + 1, k, la, hd, hs, hr => by
    have hk : k < l.length := by omega
    obtain ⟨p, hsig⟩ := hs k hk (Nat.le_refl _) (by omega)
    rw [if_pos rfl] at hsig
    refine verify_ok hk hl p hsig (verify_upto hl hm d (k + 1) _ (by omega) (fun j hj hkj hjm => ?_) (fun la' hla => hr la' ?_))
    · obtain ⟨q, hq⟩ := hs j hj (by omega) hjm
      refine ⟨q, ?_⟩
      rw [if_neg (by omega)] at hq
      rw [hq]
      congr 1
      by_cases hjk : j = k + 1
      · subst hjk; rw [if_pos rfl]; rfl
      · rw [if_neg hjk]
    · rw [hla, dif_pos (show k < m by omega)]
      by_cases hkm : k + 1 < m
      · rw [dif_pos hkm]
      · rw [dif_neg hkm]
        congr 1
        have : m - 1 = k := by omega
        simp only [this]

theorem verify_run {key : Int} {n : Bool} {l : List Stp} (hl : l.length ≤ 1000) {a b : Int} {H : Heap}
    (hr : LRuns (vstep T (vlim T F) lplim fi17.cx 1 (lb fi17 0)) (vst key n l 0 (P.mix key 3)) (.ret, ⟨[(4, V.int IntKind.i64 a), (5, V.int IntKind.i64 b)], H⟩)) :
    Runs T F 17 [.int .u64 key, .sl n (l.map encS)] [] (.tup [.int .i64 a, .int .i64 b], []) :=
  Runs.way (sh := Sh) (S := S46) (L := loopsIs [(5, vst key n l 0 (P.mix key 3), (.ret, ⟨[(4, V.int IntKind.i64 a), (5, V.int IntKind.i64 b)], H⟩))]) S46_ok (fi := fi17) (by kernel_rfl) (LGood.one (b := lb fi17 0) (by kernel_rfl) hr)
    [(decide (↑(List.map encS l).length > (1000 : Int)), false),
     (is ⟨[(1, V.sl n (List.map encS l)), (6, V.ptr 0 0), (14, V.sl n (List.map encS l)), (15, V.int IntKind.i64 ↑(List.map encS l).length), (16, V.int IntKind.i64 0)], [B.cells [V.int IntKind.u64 key, V.int IntKind.u64 (P.mix key 3), V.bool true]]⟩ (vst key n l 0 (P.mix key 3)), true)]
    [2, 3] (by kernel_rfl) ⟨by simp; omega, is_eq (by simp [vst]), trivial⟩

/-- A chain is right. -/
theorem verify_right {key : Int} {n : Bool} {l : List Stp} (hl : l.length ≤ 1000) (hs : Signed key (P.mix key 3) l 0 l.length) :
    Runs T F 17 [.int .u64 key, .sl n (l.map encS)] [] (.tup [.int .i64 l.length, .int .i64 0], []) := by
  generalize hla : (if h : 0 < l.length then (l[l.length - 1]'(by omega)).sgn else P.mix key 3) = la
  have hr := verify_upto (n := n) hl (Nat.le_refl _) (r := (.exit 0, ⟨[(1, V.sl n (l.map encS)), (6, V.ptr 0 0), (14, V.sl n (l.map encS)), (15, V.int IntKind.i64 l.length), (16, V.int IntKind.i64 l.length), (17, .bool false)], [B.cells [V.int IntKind.u64 key, V.int IntKind.u64 la, V.bool true]]⟩))
    l.length 0 (P.mix key 3) (by omega) hs (fun la' h => by rw [h, hla]; exact verify_end)
  have := Runs.way (F := F) (sh := Sh) (S := S46) (L := loopsIs [(5, vst key n l 0 (P.mix key 3), _)]) S46_ok (f := 17) (fi := fi17) (by kernel_rfl) (LGood.one (b := lb fi17 0) (by kernel_rfl) hr)
    [(decide (↑(List.map encS l).length > (1000 : Int)), false),
     (is ⟨[(1, V.sl n (List.map encS l)), (6, V.ptr 0 0), (14, V.sl n (List.map encS l)), (15, V.int IntKind.i64 ↑(List.map encS l).length), (16, V.int IntKind.i64 0)], [B.cells [V.int IntKind.u64 key, V.int IntKind.u64 (P.mix key 3), V.bool true]]⟩ (vst key n l 0 (P.mix key 3)), true)]
    [2, 3] (a := [.int .u64 key, .sl n (l.map encS)]) (H := []) (r := (.tup [.int .i64 ↑(List.map encS l).length, .int .i64 0], [])) (by kernel_rfl) ⟨by simp; omega, is_eq (by simp [vst]), trivial⟩
  simpa using this
end Go.Proofs.Ytgmdkjiflhklaaa
