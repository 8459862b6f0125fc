/- A3: tight intervals of stamps that are a chain. -/
import Derived.Test.YtgmdkjiflhklaaaA1
namespace Go.Proofs.Ytgmdkjiflhklaaa
open Go Go.Vm

def Fd.lo (l : List Stp) (i : Int) : Int := intOf (fld 2 ((l.map encS).getD i.toNat V.undef))
def Fd.hi (l : List Stp) (i : Int) : Int := intOf (fld 3 ((l.map encS).getD i.toNat V.undef))
theorem lo_at (l : List Stp) (k : Nat) (h : k < l.length) : Fd.lo l k = l[k].lo := by simp [Fd.lo, encS, h]
theorem hi_at (l : List Stp) (k : Nat) (h : k < l.length) : Fd.hi l k = l[k].hi := by simp [Fd.hi, encS, h]

/-- What is asked of stamps here. -/
structure OkL (l : List Stp) : Prop where
  len : l.length ≤ 1000
  rng : ∀ k (h : k < l.length), 0 ≤ l[k].lo ∧ l[k].lo ≤ 1000000000000000 ∧ 0 ≤ l[k].hi ∧ l[k].hi ≤ 1000000000000000
  mono : ∀ k (h : k + 1 < l.length), l[k].lo ≤ l[k + 1].lo

def tp (l : List Stp) : List (Int × Int) := l.map fun s => (s.lo, s.hi)
def t1 (n : Bool) (l : List Stp) (k : Nat) : St := ⟨[(4, V.ex 2 (k == 0) ((tp (l.take k)).map encP)), (11, V.sl n (l.map encS)), (12, V.int IntKind.i64 l.length), (13, V.int IntKind.i64 k)], []⟩
def t1r (n : Bool) (l : List Stp) : Ex × St := (.exit 0, ⟨[(4, V.ex 2 (l.length == 0) ((tp l).map encP)), (11, V.sl n (l.map encS)), (12, V.int IntKind.i64 l.length), (13, V.int IntKind.i64 l.length), (14, .bool false)], []⟩)

theorem take_succ' {α : Type} (l : List α) (k : Nat) (h : k < l.length) : l.take (k + 1) = l.take k ++ [l[k]] := by rw [List.take_add_one, List.getElem?_eq_getElem h]; rfl

def Fd.X (l : List Stp) (k : Nat) : List V := List.map encP (tp (l.take k)) ++ [V.agg [V.int IntKind.i64 (Fd.lo l k), V.int IntKind.i64 (Fd.hi l k)]]
theorem X_eq (l : List Stp) (k : Nat) (h : k < l.length) : Fd.X l k = List.map encP (tp (l.take (k + 1))) := by
  unfold Fd.X
  rw [lo_at l k h, hi_at l k h, take_succ' l k h]
  unfold tp
  rw [List.map_append, List.map_append]; rfl

theorem tight1 (n : Bool) (l : List Stp) (ok : OkL l) : ∀ j k, k + j = l.length → LRuns (vstep T (vlim T F) lplim fi16.cx 0 (lb fi16 0)) (t1 n l k) (t1r n l)
  | 0, k, h => by
    have hk : k = l.length := by omega
    subst hk
    have := LRuns.last (F := F) S46_ok (sh := Sh) (L := fun _ _ => .fail) (n := 0) (b := lb fi16 0) (cx := fi16.cx) (τ := t1 n l l.length) (LGood.none (by kernel_rfl)) [(decide ((l.length : Int) < l.length), false)] [2]
      (r := (.exit 0, ⟨[(4, V.ex 2 (l.length == 0) ((tp (l.take l.length)).map encP)), (11, V.sl n (l.map encS)), (12, V.int IntKind.i64 l.length), (13, V.int IntKind.i64 l.length), (14, .bool (decide ((l.length : Int) < l.length)))], []⟩)) (by kernel_rfl) (by simp) ⟨by simp, trivial⟩
    simpa [t1r] using this
  | j + 1, k, h => by
    have hk : k < l.length := by omega
    obtain ⟨r1, r2, r3, r4⟩ := ok.rng k hk
    have hlen := ok.len
    have hlo := lo_at l k hk
    have hhi := hi_at l k hk
    have hw : IntKind.i64.wrap ((k : Int) + 1) = ((k + 1 : Nat) : Int) := by rw [i64in (by omega) (by omega)]; rfl
    have hlt : (tp (l.take k)).length = k := by simp [tp]; omega
    have ih := tight1 n l ok j (k + 1) (by omega)
    have hX := X_eq l k hk
    have hXl : (Fd.X l k).length = k + 1 := by rw [hX]; simp [tp]; omega
    by_cases hk0 : k = 0
    · refine LRuns.next (F := F) S46_ok (sh := Sh) (L := fun _ _ => .fail) (LGood.none (by kernel_rfl)) [
        (decide ((k : Int) < ↑l.length), true), (decide (0 ≤ (k : Int)), true), (decide ((k : Int) < ↑(List.map encS l).length), true),
        (((List.map encS l).getD (k : Int).toNat V.undef).cells.length == 5 && fitP [TK.int IntKind.i64, TK.int IntKind.u64, TK.int IntKind.i64, TK.int IntKind.i64, TK.int IntKind.u64] 0 ((List.map encS l).getD (k : Int).toNat V.undef), true),
        (decide (Fd.lo l k < 0), false), (decide (Fd.lo l k > 1000000000000000), false), (decide (Fd.hi l k < 0), false), (decide (Fd.hi l k > 1000000000000000), false),
        (rooms ((List.map encP (tp (l.take k))).length + 1) 16, true), (decide ((List.map encP (tp (l.take k))).length + 1 < 4611686018427387904), true), (decide ((k : Int) > 0), false)]
        [2, 3, 4, 5, 0, 0, 0, 0, 6, 6, 6, 6, 7, 0, 0, 0, 0, 8, 8, 8, 8, 9, 1, 0, 1, 10, 11, 0, 12]
        (τ' := ⟨[(4, V.ex 2 ((k == 0) && false) (Fd.X l k)), (11, V.sl n (List.map encS l)), (12, V.int IntKind.i64 ↑l.length), (13, V.int IntKind.i64 (IntKind.i64.wrap ((k : Int) + 1)))], []⟩)
        (by kernel_rfl) ?_ ?_
      · refine ⟨?_, ?_, ?_, ?_, ?_, ?_, ?_, ?_, ?_, ?_, ?_, trivial⟩
        all_goals first
          | (simp [encS, fitP, fld, leafFits, rooms, maxRoom, tp, hk, hk0]; done)
          | (simp only [hlo, hhi, decide_eq_true_eq, decide_eq_false_iff_not]; omega)
          | (simp [encS, fitP, fld, leafFits, rooms, maxRoom, tp, hk] <;> omega)
      · rw [hw, hX, show ((k == 0) && false) = (k + 1 == 0) by simp]; exact ih
    · have hw' : (IntKind.i64.wrap ((k : Int) - 1)).toNat = k - 1 := by rw [i64in (by omega) (by omega)]; omega
      have hw1 : IntKind.i64.wrap ((k : Int) - 1) = (k : Int) - 1 := by rw [i64in (by omega) (by omega)]
      have hm := ok.mono (k - 1) (by omega)
      have hkk : l[k - 1 + 1]'(by omega) = l[k] := by congr 1; omega
      rw [hkk] at hm
      have g1 : (Fd.X l k).getD k V.undef = encP (l[k].lo, l[k].hi) := by rw [hX, getD_map _ _ _ (by simp [tp]; omega)]; simp [tp]
      have g2 : (Fd.X l k).getD (k - 1) V.undef = encP ((l[k - 1]'(by omega)).lo, (l[k - 1]'(by omega)).hi) := by rw [hX, getD_map _ _ _ (by simp [tp]; omega)]; simp [tp]
      refine LRuns.next (F := F) S46_ok (sh := Sh) (L := fun _ _ => .fail) (LGood.none (by kernel_rfl)) [
        (decide ((k : Int) < ↑l.length), true), (decide (0 ≤ (k : Int)), true), (decide ((k : Int) < ↑(List.map encS l).length), true),
        (((List.map encS l).getD (k : Int).toNat V.undef).cells.length == 5 && fitP [TK.int IntKind.i64, TK.int IntKind.u64, TK.int IntKind.i64, TK.int IntKind.i64, TK.int IntKind.u64] 0 ((List.map encS l).getD (k : Int).toNat V.undef), true),
        (decide (Fd.lo l k < 0), false), (decide (Fd.lo l k > 1000000000000000), false), (decide (Fd.hi l k < 0), false), (decide (Fd.hi l k > 1000000000000000), false),
        (rooms ((List.map encP (tp (l.take k))).length + 1) 16, true), (decide ((List.map encP (tp (l.take k))).length + 1 < 4611686018427387904), true), (decide ((k : Int) > 0), true),
        (decide (0 ≤ IntKind.i64.wrap ((k : Int) - 1)), true), (decide (IntKind.i64.wrap ((k : Int) - 1) < ↑(Fd.X l k).length), true), (decide ((IntKind.i64.wrap ((k : Int) - 1)).toNat < (Fd.X l k).length), true),
        (fitP [TK.int IntKind.i64] 0 ((Fd.X l k).getD (IntKind.i64.wrap ((k : Int) - 1)).toNat V.undef), true),
        (decide ((k : Int) < ↑(Fd.X l k).length), true), (decide ((k : Int).toNat < (Fd.X l k).length), true), (decide (1 ≤ ((Fd.X l k).getD (k : Int).toNat V.undef).cells.length), true)]
        [2, 3, 4, 5, 0, 0, 0, 0, 6, 6, 6, 6, 7, 0, 0, 0, 0, 8, 8, 8, 8, 9, 1, 0, 1, 10, 11, 0, 12, 13, 14, 15, 16, 3, 17, 18, 19]
        (τ' := ⟨[(4, V.ex 2 ((k == 0) && false) ((Fd.X l k).set (k : Int).toNat (mkOf ((Fd.X l k).getD (k : Int).toNat V.undef) (setCells ((Fd.X l k).getD (k : Int).toNat V.undef).cells 0 [V.int IntKind.i64 (Fd.imax (Fd.lo l k) (intOf (fld 0 ((Fd.X l k).getD (IntKind.i64.wrap ((k : Int) - 1)).toNat V.undef))))])))), (11, V.sl n (List.map encS l)), (12, V.int IntKind.i64 ↑l.length), (13, V.int IntKind.i64 (IntKind.i64.wrap ((k : Int) + 1)))], []⟩)
        (by kernel_rfl) ?_ ?_
      · refine ⟨?_, ?_, ?_, ?_, ?_, ?_, ?_, ?_, ?_, ?_, ?_, ?_, ?_, ?_, ?_, ?_, ?_, ?_, trivial⟩
        all_goals first
          | (simp [encS, fitP, fld, leafFits, rooms, maxRoom, tp, hk, hk0]; done)
          | (simp only [hlo, hhi, decide_eq_true_eq, decide_eq_false_iff_not, hw1, hXl]; omega)
          | (simp [encS, fitP, fld, leafFits, rooms, maxRoom, tp, hk] <;> omega)
          | (simp only [hw', g2]; simp [encP, fitP, fld, leafFits]; done)
          | (simp only [Int.toNat_natCast, g1]; simp [encP]; done)
      · have e : (Fd.X l k).set (k : Int).toNat (mkOf ((Fd.X l k).getD (k : Int).toNat V.undef) (setCells ((Fd.X l k).getD (k : Int).toNat V.undef).cells 0 [V.int IntKind.i64 (Fd.imax (Fd.lo l k) (intOf (fld 0 ((Fd.X l k).getD (IntKind.i64.wrap ((k : Int) - 1)).toNat V.undef))))])) = (tp (l.take (k + 1))).map encP := by
          rw [hw', g2, Int.toNat_natCast, g1, hlo, imax_eq]
          have : max l[k].lo (intOf (fld 0 (encP ((l[k - 1]'(by omega)).lo, (l[k - 1]'(by omega)).hi)))) = l[k].lo := by simp [encP]; omega
          rw [this, ← hX]
          have e2 : mkOf (encP (l[k].lo, l[k].hi)) (setCells (encP (l[k].lo, l[k].hi)).cells 0 [V.int IntKind.i64 l[k].lo]) = encP (l[k].lo, l[k].hi) := by simp [encP, mkOf, setCells]
          rw [e2, ← g1]
          apply List.ext_getElem (by simp)
          intro i h1 h2
          simp only [List.getElem_set]
          split
          · rename_i hi; subst hi; rw [List.getD_eq_getElem?_getD, List.getElem?_eq_getElem h2]; rfl
          · rfl
        rw [e, hw, show ((k == 0) && false) = (k + 1 == 0) by simp]; exact ih

/-- The least end from here on. -/
def sm : List (Int × Int) → List (Int × Int)
  | [] => []
  | p :: l => match sm l with
    | [] => [p]
    | q :: r => (p.1, min p.2 q.2) :: q :: r
theorem sm_ne {p : Int × Int} {l : List (Int × Int)} : ∃ q r, sm (p :: l) = q :: r := by
  unfold sm
  cases sm l with
  | nil => exact ⟨_, _, rfl⟩
  | cons q r => exact ⟨_, _, rfl⟩
theorem sm_length : ∀ l : List (Int × Int), (sm l).length = l.length
  | [] => rfl
  | p :: l => by
    have := sm_length l
    unfold sm
    cases hs : sm l with
    | nil => rw [hs] at this; simp at this ⊢; exact List.length_eq_zero_iff.1 this.symm
    | cons q r => rw [hs] at this; simp at this ⊢; omega
theorem sm_spec : ∀ (l : List (Int × Int)) (i : Nat) (h : i < l.length), ((sm l)[i]'(by rw [sm_length]; exact h)).1 = l[i].1 ∧ ((sm l)[i]'(by rw [sm_length]; exact h)).2 ≤ l[i].2 ∧
    (∀ h' : i + 1 < l.length, ((sm l)[i]'(by rw [sm_length]; exact h)).2 ≤ ((sm l)[i + 1]'(by rw [sm_length]; exact h')).2) ∧ (∀ c, (∀ j (hj : j < l.length), i ≤ j → c ≤ l[j].2) → c ≤ ((sm l)[i]'(by rw [sm_length]; exact h)).2)
  | p :: l, i, h => by
    have hl := sm_length l
    cases hs : sm l with
    | nil =>
      rw [hs] at hl
      have hl0 : l = [] := by cases l <;> simp_all
      subst hl0
      have hi : i = 0 := by simp at h; omega
      subst hi
      refine ⟨by simp [sm], by simp [sm], fun h' => by simp at h', fun c hc => by simpa [sm] using hc 0 (by simp) (Nat.le_refl _)⟩
    | cons q r =>
      have e : sm (p :: l) = (p.1, min p.2 q.2) :: q :: r := by simp only [sm, hs]
      have hl1 : 0 < l.length := by rw [← hl, hs]; simp
      have ih0 := sm_spec l 0 hl1
      simp only [hs, List.getElem_cons_zero] at ih0
      cases i with
      | zero =>
        simp only [e, List.getElem_cons_zero, List.getElem_cons_succ]
        refine ⟨trivial, by omega, fun _ => by omega, fun c hc => ?_⟩
        have h1 := hc 0 (by simp) (Nat.le_refl _)
        simp only [List.getElem_cons_zero] at h1
        have h2 := ih0.2.2.2 c (fun j hj _ => by
          have := hc (j + 1) (by simpa using hj) (by omega)
          simpa using this)
        omega
      | succ i =>
        have hi : i < l.length := by simpa using h
        have ih := sm_spec l i hi
        simp only [hs] at ih
        simp only [e, List.getElem_cons_succ]
        refine ⟨ih.1, ih.2.1, fun h' => ih.2.2.1 (by simpa using h'), fun c hc => ih.2.2.2 c (fun j hj hij => ?_)⟩
        have := hc (j + 1) (by simpa using hj) (by omega)
        simpa using this

def t2 (m : Bool) (o : List (Int × Int)) (i : Int) : St := ⟨[(4, V.ex 2 m (o.map encP)), (7, V.int IntKind.i64 i)], []⟩
def t2r (m : Bool) (o : List (Int × Int)) (i : Int) : Ex × St := (.exit 2, ⟨[(4, V.ex 2 m (o.map encP)), (7, V.int IntKind.i64 i), (53, .bool false)], []⟩)

theorem tight2_end (m : Bool) (o : List (Int × Int)) (i : Int) (hi : i < 0) : LRuns (vstep T (vlim T F) lplim fi16.cx 0 (lb fi16 1)) (t2 m o i) (t2r m o i) := by
  have := LRuns.last (F := F) S46_ok (sh := Sh) (L := fun _ _ => .fail) (n := 0) (b := lb fi16 1) (cx := fi16.cx) (τ := t2 m o i) (LGood.none (by kernel_rfl)) [(decide (i ≥ 0), false)] [2]
    (r := (.exit 2, ⟨[(4, V.ex 2 m (o.map encP)), (7, V.int IntKind.i64 i), (53, .bool (decide (i ≥ 0)))], []⟩)) (by kernel_rfl) (by simp) ⟨by simp; omega, trivial⟩
  have e : decide (i ≥ 0) = false := by simp; omega
  rw [e] at this; exact this

theorem tight2 (m : Bool) (l : List (Int × Int)) (hl : l.length ≤ 1000) : ∀ k, k < l.length → LRuns (vstep T (vlim T F) lplim fi16.cx 0 (lb fi16 1)) (t2 m (l.take k ++ sm (l.drop k)) ((k : Int) - 1)) (t2r m (sm l) (-1))
  | 0, h => by simpa using tight2_end m (sm l) (-1) (by omega)
  | k + 1, h => by
    have ih := tight2 m l hl k (by omega)
    have hd : l.drop (k + 1) = l[k + 1] :: l.drop (k + 2) := List.drop_eq_getElem_cons h
    obtain ⟨q, r, hq⟩ := sm_ne (p := l[k + 1]) (l := l.drop (k + 2))
    have hsm : sm (l.drop (k + 1)) = q :: r := by rw [hd]; exact hq
    have hk : k < l.length := by omega
    have ho : l.take (k + 1) ++ sm (l.drop (k + 1)) = l.take k ++ l[k] :: q :: r := by rw [take_succ' l k hk, hsm, List.append_assoc]; rfl
    have ho' : l.take k ++ sm (l.drop k) = l.take k ++ (l[k].1, min l[k].2 q.2) :: q :: r := by
      rw [List.drop_eq_getElem_cons hk]
      simp only [sm, hsm]
    rw [ho]; rw [ho'] at ih
    generalize hO : l.take k ++ l[k] :: q :: r = O
    have hOl : O.length = l.length := by
      rw [← hO, ← ho, List.length_append, sm_length, List.length_take, List.length_drop]; omega
    have htl : (l.take k).length = k := by simp; omega
    have g1 : (O.map encP).getD k V.undef = encP l[k] := by
      rw [getD_map _ _ _ (by omega)]
      congr 1
      simp only [← hO]
      rw [List.getElem_append_right (by omega)]; simp [htl]
    have g2 : (O.map encP).getD (k + 1) V.undef = encP q := by
      rw [getD_map _ _ _ (by omega)]
      congr 1
      simp only [← hO]
      rw [List.getElem_append_right (by omega)]; simp [htl]
    have hi : ((k + 1 : Nat) : Int) - 1 = (k : Int) := by omega
    rw [hi]
    have hw : IntKind.i64.wrap ((k : Int) + 1) = (k : Int) + 1 := by rw [i64in (by omega) (by omega)]
    have hw1 : (IntKind.i64.wrap ((k : Int) + 1)).toNat = k + 1 := by rw [hw]; omega
    have hw2 : IntKind.i64.wrap ((k : Int) - 1) = (k : Int) - 1 := by rw [i64in (by omega) (by omega)]
    refine LRuns.next (F := F) S46_ok (sh := Sh) (L := fun _ _ => .fail) (LGood.none (by kernel_rfl)) [
      (decide ((k : Int) ≥ 0), true), (decide (0 ≤ (k : Int)), true), (decide ((k : Int) < ↑(List.map encP O).length), true), (decide ((k : Int).toNat < (List.map encP O).length), true), (fitP [TK.int IntKind.i64] 1 ((List.map encP O).getD (k : Int).toNat V.undef), true),
      (decide (0 ≤ IntKind.i64.wrap ((k : Int) + 1)), true), (decide (IntKind.i64.wrap ((k : Int) + 1) < ↑(List.map encP O).length), true), (decide ((IntKind.i64.wrap ((k : Int) + 1)).toNat < (List.map encP O).length), true),
      (fitP [TK.int IntKind.i64] 1 ((List.map encP O).getD (IntKind.i64.wrap ((k : Int) + 1)).toNat V.undef), true), (decide (2 ≤ ((List.map encP O).getD (k : Int).toNat V.undef).cells.length), true)]
      [2, 3, 4, 5, 6, 7, 8, 9, 10, 3, 4, 5, 11]
      (τ' := ⟨[(4, V.ex 2 m ((List.map encP O).set (k : Int).toNat (mkOf ((List.map encP O).getD (k : Int).toNat V.undef) (setCells ((List.map encP O).getD (k : Int).toNat V.undef).cells 1
        [V.int IntKind.i64 (Fd.imin (intOf (fld 1 ((List.map encP O).getD (k : Int).toNat V.undef))) (intOf (fld 1 ((List.map encP O).getD (IntKind.i64.wrap ((k : Int) + 1)).toNat V.undef))))])))),
        (7, V.int IntKind.i64 (IntKind.i64.wrap ((k : Int) - 1)))], []⟩)
      (by kernel_rfl) ?_ ?_
    · refine ⟨?_, ?_, ?_, ?_, ?_, ?_, ?_, ?_, ?_, ?_, trivial⟩
      all_goals first
        | (simp only [hw1, Int.toNat_natCast, g1, g2]; simp [encP, fitP, fld, leafFits]; done)
        | (simp only [hw, Int.toNat_natCast, List.length_map, hOl, decide_eq_true_eq]; omega)
        | (simp only [hw1, List.length_map, hOl, decide_eq_true_eq]; omega)
    · rw [hw1, hw2, Int.toNat_natCast, g1, g2, imin_eq]
      have e : (List.map encP O).set k (mkOf (encP l[k]) (setCells (encP l[k]).cells 1 [V.int IntKind.i64 (min (intOf (fld 1 (encP l[k]))) (intOf (fld 1 (encP q))))])) = (l.take k ++ (l[k].1, min l[k].2 q.2) :: q :: r).map encP := by
        have e1 : mkOf (encP l[k]) (setCells (encP l[k]).cells 1 [V.int IntKind.i64 (min (intOf (fld 1 (encP l[k]))) (intOf (fld 1 (encP q))))]) = encP (l[k].1, min l[k].2 q.2) := by simp [encP, mkOf, setCells]
        rw [e1, ← List.map_set, ← hO, List.set_append_right _ _ (by omega), htl]
        simp
      rw [e]; exact ih

/-- The first span that is none: told only where there is none. -/
def ix (m : Bool) (xs : List V) (i : Int) : St := ⟨[(0, V.sl m xs), (1, V.clo (Fn.func 46) [] []), (7, V.int IntKind.i64 xs.length), (8, V.int IntKind.i64 i)], []⟩
theorem index83 (m : Bool) (o : List (Int × Int)) (hl : o.length ≤ 1000) (hok : ∀ k (h : k < o.length), o[k].1 ≤ o[k].2) : ∀ j k, k + j = o.length →
    LRuns (vstep T (vlim T F) lplim fi83.cx 0 (lb fi83 0)) (ix m (o.map encP) k) (.exit 0, ⟨[(0, V.sl m (o.map encP)), (1, V.clo (Fn.func 46) [] []), (7, V.int IntKind.i64 o.length), (8, V.int IntKind.i64 o.length), (9, .bool false)], []⟩)
  | 0, k, h => by
    have hk : k = o.length := by omega
    subst hk
    have := LRuns.last (F := F) S46_ok (sh := Sh) (L := fun _ _ => .fail) (n := 0) (b := lb fi83 0) (cx := fi83.cx) (τ := ix m (o.map encP) o.length) (LGood.none (by kernel_rfl)) [(decide ((o.length : Int) < (o.map encP).length), false)] [2]
      (r := (.exit 0, ⟨[(0, V.sl m (o.map encP)), (1, V.clo (Fn.func 46) [] []), (7, V.int IntKind.i64 (o.map encP).length), (8, V.int IntKind.i64 o.length), (9, .bool (decide ((o.length : Int) < (o.map encP).length)))], []⟩)) (by kernel_rfl) (by simp) ⟨by simp, trivial⟩
    simpa using this
  | j + 1, k, h => by
    have hk : k < o.length := by omega
    have ih := index83 m o hl hok j (k + 1) (by omega)
    have h1 := hok k hk
    have g1 : (o.map encP).getD k V.undef = encP o[k] := getD_map _ _ _ hk
    have hw : IntKind.i64.wrap ((k : Int) + 1) = ((k + 1 : Nat) : Int) := by rw [i64in (by omega) (by omega)]; rfl
    refine LRuns.next (F := F) S46_ok (sh := Sh) (L := fun _ _ => .fail) (LGood.none (by kernel_rfl)) [
      (decide ((k : Int) < ↑(List.map encP o).length), true), (decide (0 ≤ (k : Int)), true), (((List.map encP o).getD (k : Int).toNat V.undef).cells.length == 2 && fitP [TK.int IntKind.i64, TK.int IntKind.i64] 0 ((List.map encP o).getD (k : Int).toNat V.undef), true),
      (decide (intOf (fld 0 ((List.map encP o).getD (k : Int).toNat V.undef)) > intOf (fld 1 ((List.map encP o).getD (k : Int).toNat V.undef))), false)]
      [2, 3, 2, 4, 5]
      (τ' := ⟨[(0, V.sl m (List.map encP o)), (1, V.clo (Fn.func 46) [] []), (7, V.int IntKind.i64 ↑(List.map encP o).length), (8, V.int IntKind.i64 (IntKind.i64.wrap ((k : Int) + 1)))], []⟩)
      (by kernel_rfl) ?_ ?_
    · refine ⟨?_, ?_, ?_, ?_, trivial⟩
      all_goals first
        | (simp only [Int.toNat_natCast, g1]; simp [encP, fitP, fld, leafFits]; done)
        | (simp only [Int.toNat_natCast, g1]; simp [encP]; omega)
        | (simp; omega)
    · rw [hw]; exact ih

def ixr (m : Bool) (o : List (Int × Int)) : Ex × St := (.exit 0, ⟨[(0, V.sl m (o.map encP)), (1, V.clo (Fn.func 46) [] []), (7, V.int IntKind.i64 o.length), (8, V.int IntKind.i64 o.length), (9, .bool false)], []⟩)
noncomputable def S83 (o : List (Int × Int)) : Vm.Spec := S46.add 83 (fun a H => match a, H with
  | [.sl _ xs, .clo (.func 46) [] []], [] => .must (eqB xs (o.map encP)) (.ret (.int .i64 (-1), []))
  | _, _ => .fail)
theorem S83_ok (o : List (Int × Int)) (hl : o.length ≤ 1000) (hok : ∀ k (h : k < o.length), o[k].1 ≤ o[k].2) : Vm.Good (vlim T F) (S83 o) := by
  refine S46_ok.add fun a H r h => ?_
  split at h
  · rename_i m xs
    obtain ⟨h1, h2⟩ := Tr.must_some h
    have := of_eqB h1; subst this
    have := ret_some h2; subst this
    refine Runs.way (sh := Sh) (S := S46) (L := loopsIs [(2, ix m (o.map encP) 0, ixr m o)]) S46_ok (fi := fi83) (by kernel_rfl) (LGood.one (b := lb fi83 0) (by kernel_rfl) ?_)
      [(is ⟨[(0, V.sl m (List.map encP o)), (1, V.clo (Fn.func 46) [] []), (7, V.int IntKind.i64 ↑(List.map encP o).length), (8, V.int IntKind.i64 0)], []⟩ (ix m (o.map encP) 0), true)] [2] (by kernel_rfl) ⟨is_eq rfl, trivial⟩
    exact index83 m o hl hok o.length 0 (by omega)
  · cases h
noncomputable def S45 (o : List (Int × Int)) : Vm.Spec := (S83 o).add 45 (inl T Sh (S83 o) 0 0 fi45)
theorem S45_ok (o : List (Int × Int)) (hl : o.length ≤ 1000) (hok : ∀ k (h : k < o.length), o[k].1 ≤ o[k].2) : Vm.Good (vlim T F) (S45 o) := (S83_ok o hl hok).inl (by kernel_rfl) 0 0 (by kernel_rfl)

noncomputable def tl2 (n : Bool) (l : List Stp) : LSpec := loopsIs [(5, t1 n l 0, t1r n l), (14, t2 (l.length == 0) (tp l) ((l.length : Int) - 2), t2r (l.length == 0) (sm (tp l)) (if l.length = 0 then -2 else -1))]

/-- **Tight**, of stamps in order. -/
theorem tight_runs (n : Bool) (l : List Stp) (ok : OkL l) (hle : ∀ k (h : k < (sm (tp l)).length), (sm (tp l))[k].1 ≤ (sm (tp l))[k].2) :
    Runs T F 16 [.sl n (l.map encS)] [] (.tup [.ex 2 (l.length == 0) ((sm (tp l)).map encP), .int .i64 0], []) := by
  have hlen := ok.len
  have htl : (tp l).length = l.length := by simp [tp]
  have hsl : (sm (tp l)).length ≤ 1000 := by rw [sm_length, htl]; exact hlen
  refine Runs.way (sh := Sh) (S := S45 (sm (tp l))) (L := tl2 n l) (S45_ok _ hsl hle) (fi := fi16) (by kernel_rfl) (LGood.two (b0 := lb fi16 0) (b1 := lb fi16 1) (by kernel_rfl) (by kernel_rfl) (by kernel_rfl) ?_ ?_)
    [(decide (↑(List.map encS l).length > (1000 : Int)), false),
     (is ⟨[(4, V.ex 2 true []), (11, V.sl n (List.map encS l)), (12, V.int IntKind.i64 ↑(List.map encS l).length), (13, V.int IntKind.i64 0)], []⟩ (t1 n l 0), true),
     (is ⟨[(4, V.ex 2 (l.length == 0) (List.map encP (tp l))), (7, V.int IntKind.i64 (IntKind.i64.wrap (↑(List.map encP (tp l)).length - 2)))], []⟩ (t2 (l.length == 0) (tp l) ((l.length : Int) - 2)), true),
     (eqB (List.map encP (sm (tp l))) (List.map encP (sm (tp l))), true)]
    [2, 3, 4, 5, 0, 1] (by kernel_rfl) ⟨?_, ?_, ?_, eqB_eq rfl, trivial⟩
  · exact tight1 n l ok l.length 0 (by omega)
  · by_cases h0 : l.length = 0
    · have : l = [] := List.length_eq_zero_iff.1 h0
      subst this
      exact tight2_end _ _ _ (by simp)
    · rw [if_neg h0]
      have := tight2 (l.length == 0) (tp l) (by omega) (l.length - 1) (by omega)
      have e1 : (tp l).drop (l.length - 1) = [(tp l)[l.length - 1]'(by omega)] := by
        rw [List.drop_eq_getElem_cons (by omega), List.drop_eq_nil_of_le (by omega)]
      have e2 : (tp l).take (l.length - 1) ++ sm ((tp l).drop (l.length - 1)) = tp l := by
        rw [e1]
        show (tp l).take (l.length - 1) ++ [(tp l)[l.length - 1]'(by omega)] = tp l
        rw [← take_succ' (tp l) (l.length - 1) (by omega), List.take_of_length_le (by omega)]
      rw [e2] at this
      have e3 : ((l.length - 1 : Nat) : Int) - 1 = (l.length : Int) - 2 := by omega
      rw [e3] at this
      exact this
  · simp; omega
  · exact is_eq (by simp [t1, tp])
  · refine is_eq ?_
    unfold t2
    rw [List.length_map, htl, i64in (by omega) (by omega)]
end Go.Proofs.Ytgmdkjiflhklaaa
