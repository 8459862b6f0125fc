/- L3: the sides of a stamp. -/
import Derived.Test.YtgmdkjiflhklaaaL2
import Derived.Test.YtgmdkjiflhklaaaA2
namespace Go.Proofs.Ytgmdkjiflhklaaa
open Go Go.Vm
def encD (p : Int × Bool) : V := .agg [.int .u64 p.1, .bool p.2]
def decD (v : V) : Int × Bool := (intOf (fld 0 v), boolOf (fld 1 v))
theorem decD_enc (o : List (Int × Bool)) : (o.map encD).map decD = o := by
  rw [List.map_map]
  conv => rhs; rw [← List.map_id o]
  exact List.map_congr_left fun c _ => by simp [decD, encD]
def cloV : B := .cells [.clo (.func 75) [] [.ptr 1 0, .ptr 2 0]]
def Fd.ot (k : Nat) : Int := IntKind.i64.wrap ((BitVec.ofInt IntKind.i64.bits (k : Int) ^^^ BitVec.ofInt IntKind.i64.bits 1).toNat : Int)
/-- The other one of a pair. -/
def oth (k : Nat) : Nat := if k % 2 = 1 then k - 1 else k + 1
theorem xor_one (k : Nat) : k ^^^ 1 = oth k := by
  unfold oth
  apply Nat.eq_of_testBit_eq
  intro i
  rw [Nat.testBit_xor]
  cases i with
  | zero =>
    rw [Nat.testBit_zero, Nat.testBit_zero, Nat.testBit_zero]
    rcases Nat.mod_two_eq_zero_or_one k with h | h
    · rw [if_neg (by omega)]
      have h' : (k + 1) % 2 = 1 := by omega
      simp [h, h']
    · rw [if_pos h]
      have h' : (k - 1) % 2 = 0 := by omega
      simp [h, h']
  | succ i =>
    have : (1 : Nat).testBit (i + 1) = false := by rw [Nat.testBit_succ]; simp
    rw [this, Bool.xor_false, Nat.testBit_succ, Nat.testBit_succ]
    congr 1
    split <;> omega
theorem ot_eq {k : Nat} (hk : k < 1000000) : Fd.ot k = (oth k : Int) := by
  unfold Fd.ot
  have h : (BitVec.ofInt IntKind.i64.bits (k : Int) ^^^ BitVec.ofInt IntKind.i64.bits 1).toNat = k ^^^ 1 := by
    rw [show IntKind.i64.bits = 64 from rfl, BitVec.toNat_xor]
    have h1 : (BitVec.ofInt 64 (k : Int)).toNat = k := by rw [BitVec.toNat_ofInt]; omega
    have h2 : (BitVec.ofInt 64 1).toNat = 1 := by decide
    rw [h1, h2]
  rw [h, xor_one]
  have : oth k ≤ k + 1 := by unfold oth; split <;> omega
  rw [i64in (by omega) (by omega)]
/-- The sides of the k-th one of a row. -/
def P.sidesN : Nat → List Int → Nat → List (Int × Bool)
  | 0, _, _ => []
  | n + 1, l, k => if l.length ≤ 1 then [] else (if oth k < l.length then [(l.getD (oth k) 0, decide (oth k < k))] else []) ++ P.sidesN n (P.up l) (k / 2)
def P.outV (o : List (Int × Bool)) : V := match o with
  | [] => .sl true []
  | p :: o => .ex 2 false (encD p :: o.map encD)
theorem outV_ne {o : List (Int × Bool)} (h : o ≠ []) : P.outV o = .ex 2 false (o.map encD) := by
  cases o with
  | nil => exact absurd rfl h
  | cons p o => rfl
def P.decO (v : V) : List (Int × Bool) := match v with
  | .ex _ _ xs => xs.map decD
  | _ => []
theorem decO_out (o : List (Int × Bool)) : P.decO (P.outV o) = o := by
  cases o with
  | nil => rfl
  | cons p o => exact decD_enc (p :: o)
noncomputable def climbS (m : Nat) : List V → Heap → Tr (V × Heap) := fun a H => match a, H with
  | [.sl false xs, .int .i64 k, .ptr 1 0, .ptr 2 0], [.dead, .cells [ov], .cells [.clo (.func 75) [] [.ptr 1 0, .ptr 2 0]]] =>
    .must (xs.all isU) (.must (decide (xs.length ≤ m)) (.must (decide (xs.length ≤ 1000)) (.must (decide (0 ≤ k)) (.must (decide (k < xs.length)) (.must (eqB ov (P.outV (P.decO ov))) (.must (decide ((P.decO ov).length + m ≤ 2000))
      (.ret (.tup [], [.dead, .cells [P.outV (P.decO ov ++ P.sidesN m (xs.map intOf) k.toNat)], cloV]))))))))
  | _, _ => .fail
noncomputable def T75 (m : Nat) : Vm.Spec := Q76.add 75 (climbS m)
theorem tdiv_two {k : Nat} (hk : k < 1000000) : (IntKind.i64.wrap ((k : Int).tdiv 2)).toNat = k / 2 ∧ IntKind.i64.wrap ((k : Int).tdiv 2) = ((k / 2 : Nat) : Int) := by
  have : (k : Int).tdiv 2 = ((k / 2 : Nat) : Int) := by rw [Int.tdiv_eq_ediv_of_nonneg (by omega)]; omega
  rw [this, i64in (by omega) (by omega)]
  exact ⟨by omega, rfl⟩
theorem outq {o : List (Int × Bool)} (h : o ≠ []) : eqB (V.ex 2 false (o.map encD)) (P.outV (P.decO (V.ex 2 false (o.map encD)))) = true := by
  refine eqB_eq ?_
  have e : P.decO (V.ex 2 false (o.map encD)) = o := decD_enc o
  rw [e, outV_ne h]
theorem outq_snoc (o : List (Int × Bool)) (x : Int) (y : Bool) : eqB (V.ex 2 false (o.map encD ++ [V.agg [V.int .u64 x, V.bool y]])) (P.outV (P.decO (V.ex 2 false (o.map encD ++ [V.agg [V.int .u64 x, V.bool y]])))) = true := by
  have e : o.map encD ++ [V.agg [V.int .u64 x, V.bool y]] = (o ++ [(x, y)]).map encD := by simp [encD]
  rw [e]; exact outq (by simp)
theorem climb_runs : ∀ (m : Nat) (l : List Int) (k : Nat) (o : List (Int × Bool)), l.length ≤ m → l.length ≤ 1000 → k < l.length → o.length + m ≤ 2000 →
    Runs T F 75 [.sl false (l.map encU), .int .i64 k, .ptr 1 0, .ptr 2 0] [.dead, .cells [P.outV o], cloV] (.tup [], [.dead, .cells [P.outV (o ++ P.sidesN m l k)], cloV])
  | 0, l, k, o, hm, _, hk, _ => by omega
  | m + 1, l, k, o, hm, hl, hk, hom => by
    have hS : Vm.Good (vlim T F) (T75 m) := by
      refine Q76_ok.add fun a H r h => ?_
      unfold climbS at h
      split at h
      · rename_i xs k ov
        obtain ⟨h0, h⟩ := Tr.must_some h
        obtain ⟨h1, h⟩ := Tr.must_some h
        obtain ⟨h2, h⟩ := Tr.must_some h
        obtain ⟨h3, h⟩ := Tr.must_some h
        obtain ⟨h4, h⟩ := Tr.must_some h
        obtain ⟨h5, h⟩ := Tr.must_some h
        obtain ⟨h6, h⟩ := Tr.must_some h
        have hr := ret_some h; clear h; subst hr
        have hx := isU_all h0
        have h5 := of_eqB h5
        simp only [decide_eq_true_eq] at h1 h2 h3 h4 h6
        rw [← List.length_map (f := intOf)] at h1 h2
        have h4 : k < ((xs.map intOf).length : Int) := by rw [List.length_map]; exact h4
        generalize xs.map intOf = l at *
        generalize P.decO ov = o at *
        subst hx
        subst h5
        obtain ⟨k, rfl⟩ := Int.eq_ofNat_of_zero_le h3
        exact climb_runs m l k o h1 h2 (by omega) h6
      · cases h
    have hu := up_len l
    by_cases h1 : l.length = 1
    · have e : P.sidesN (m + 1) l k = [] := by simp only [P.sidesN]; rw [if_pos (by omega)]
      rw [e, List.append_nil]
      by_cases hne : o = []
      · subst hne
        exact Runs.way (F := F) (sh := Sh) (S := T75 m) hS (L := fun _ _ => .fail) (fi := fi75) (by kernel_rfl) (fun _ _ _ _ h => by cases h) [((↑(List.map encU l).length : Int) == 1, true)] [2] (by kernel_rfl) ⟨by simp [h1], trivial⟩
      · rw [outV_ne hne]
        exact Runs.way (F := F) (sh := Sh) (S := T75 m) hS (L := fun _ _ => .fail) (fi := fi75) (by kernel_rfl) (fun _ _ _ _ h => by cases h) [((↑(List.map encU l).length : Int) == 1, true)] [2] (by kernel_rfl) ⟨by simp [h1], trivial⟩
    · by_cases ho : oth k < l.length
      · have e : P.sidesN (m + 1) l k = (l.getD (oth k) 0, decide (oth k < k)) :: P.sidesN m (P.up l) (k / 2) := by
          simp only [P.sidesN]; rw [if_neg (by omega), if_pos ho]; rfl
        have hg := hu_at l (oth k) ho
        have hgd : l.getD (oth k) 0 = l[oth k] := by rw [List.getD_eq_getElem?_getD, List.getElem?_eq_getElem ho]; rfl
        by_cases hne : o = []
        · subst hne
          have e2 : V.tup [] = V.tup [] := rfl
          have e3 : P.outV ([] ++ P.sidesN (m + 1) l k) = P.outV (P.decO (V.ex 2 false [V.agg [V.int IntKind.u64 (Fd.hu l (Fd.ot k).toNat), V.bool (decide (Fd.ot k < (k : Int)))]]) ++ P.sidesN m (List.map intOf (List.map encU (P.up (List.map intOf (List.map encU l))))) (IntKind.i64.wrap ((k : Int).tdiv 2)).toNat) := by
            rw [e, int_encU, int_encU, (tdiv_two (show k < 1000000 by omega)).1, ot_eq (show k < 1000000 by omega), Int.toNat_natCast, hg, hgd]
            simp [P.decO, decD]
          rw [e3]
          refine Runs.way (F := F) (sh := Sh) (S := T75 m) hS (L := fun _ _ => .fail) (fi := fi75) (by kernel_rfl) (fun _ _ _ _ h => by cases h) [((↑(List.map encU l).length : Int) == 1, false),
    (decide (Fd.ot k < (↑(List.map encU l).length : Int)), true),
    (decide (0 ≤ Fd.ot k), true),
    (((List.map encU l).getD (Fd.ot k).toNat V.undef).cells.length == 1 && fitP [TK.int IntKind.u64] 0 ((List.map encU l).getD (Fd.ot k).toNat V.undef), true),
    ((List.map encU l).all isU, true),
    (decide (0 < (List.map encU l).length), true),
    (decide ((List.map encU l).length ≤ 1000), true),
    ((List.map encU (P.up (List.map intOf (List.map encU l)))).all isU, true),
    (decide ((List.map encU (P.up (List.map intOf (List.map encU l)))).length ≤ m), true),
    (decide ((List.map encU (P.up (List.map intOf (List.map encU l)))).length ≤ 1000), true),
    (decide (0 ≤ IntKind.i64.wrap ((↑k : Int).tdiv 2)), true),
    (decide (IntKind.i64.wrap ((↑k : Int).tdiv 2) < (↑(List.map encU (P.up (List.map intOf (List.map encU l)))).length : Int)), true),
    (eqB (V.ex 2 false [V.agg [V.int IntKind.u64 (Fd.hu l (Fd.ot k).toNat), V.bool (decide (Fd.ot k < (↑k : Int)))]]) (V.ex 2 false [V.agg [V.int IntKind.u64 (Fd.hu l (Fd.ot k).toNat), V.bool (decide (Fd.ot k < (↑k : Int)))]]), true),
    (decide (1 + m ≤ 2000), true)] [2, 3, 4, 3, 5, 0, 0, 0, 0, 6, 7, 8, 0, 9, 10, 11, 12, 13, 14, 15] (by kernel_rfl) ?_
          refine ⟨?_, ?_, ?_, ?_, ?_, ?_, ?_, ?_, ?_, ?_, ?_, ?_, ?_, ?_, trivial⟩
          all_goals (try simp only [int_encU, ot_eq (show k < 1000000 by omega), (tdiv_two (show k < 1000000 by omega)).2]); all_goals first
          | exact all_isU _
          | (simp [h1]; done)
          | (simp; omega)
          | (simp [encU, fitP, fld, leafFits, V.cells, ho]; done)
          | (simp [rooms, maxRoom]; omega)
          | exact eqB_eq rfl
          | exact outq hne
          | exact outq_snoc o _ _
          | exact outq_snoc [] _ _
          | (simp [P.decO]; omega)
        · have e3 : P.outV (o ++ P.sidesN (m + 1) l k) = P.outV (P.decO (V.ex 2 false (List.map encD o ++ [V.agg [V.int IntKind.u64 (Fd.hu l (Fd.ot k).toNat), V.bool (decide (Fd.ot k < (k : Int)))]])) ++ P.sidesN m (List.map intOf (List.map encU (P.up (List.map intOf (List.map encU l))))) (IntKind.i64.wrap ((k : Int).tdiv 2)).toNat) := by
            rw [e, int_encU, int_encU, (tdiv_two (show k < 1000000 by omega)).1, ot_eq (show k < 1000000 by omega), Int.toNat_natCast, hg, hgd]
            simp only [P.decO, List.map_append, decD_enc]
            simp [decD]
          rw [e3, outV_ne hne]
          refine Runs.way (F := F) (sh := Sh) (S := T75 m) hS (L := fun _ _ => .fail) (fi := fi75) (by kernel_rfl) (fun _ _ _ _ h => by cases h) [((↑(List.map encU l).length : Int) == 1, false),
    (decide (Fd.ot k < (↑(List.map encU l).length : Int)), true),
    (decide (0 ≤ Fd.ot k), true),
    (((List.map encU l).getD (Fd.ot k).toNat V.undef).cells.length == 1 && fitP [TK.int IntKind.u64] 0 ((List.map encU l).getD (Fd.ot k).toNat V.undef), true),
    (rooms ((List.map encD o).length + 1) 16, true),
    (decide ((List.map encD o).length + 1 < 4611686018427387904), true),
    ((List.map encU l).all isU, true),
    (decide (0 < (List.map encU l).length), true),
    (decide ((List.map encU l).length ≤ 1000), true),
    ((List.map encU (P.up (List.map intOf (List.map encU l)))).all isU, true),
    (decide ((List.map encU (P.up (List.map intOf (List.map encU l)))).length ≤ m), true),
    (decide ((List.map encU (P.up (List.map intOf (List.map encU l)))).length ≤ 1000), true),
    (decide (0 ≤ IntKind.i64.wrap ((↑k : Int).tdiv 2)), true),
    (decide (IntKind.i64.wrap ((↑k : Int).tdiv 2) < (↑(List.map encU (P.up (List.map intOf (List.map encU l)))).length : Int)), true),
    (eqB (V.ex 2 false (List.map encD o ++ [V.agg [V.int IntKind.u64 (Fd.hu l (Fd.ot k).toNat), V.bool (decide (Fd.ot k < (↑k : Int)))]])) (P.outV (P.decO (V.ex 2 false (List.map encD o ++ [V.agg [V.int IntKind.u64 (Fd.hu l (Fd.ot k).toNat), V.bool (decide (Fd.ot k < (↑k : Int)))]])))), true),
    (decide ((P.decO (V.ex 2 false (List.map encD o ++ [V.agg [V.int IntKind.u64 (Fd.hu l (Fd.ot k).toNat), V.bool (decide (Fd.ot k < (↑k : Int)))]]))).length + m ≤ 2000), true)] [2, 3, 4, 3, 5, 6, 7, 0, 0, 8, 9, 10, 0, 11, 12, 13, 14, 15, 16, 17] (by kernel_rfl) ?_
          refine ⟨?_, ?_, ?_, ?_, ?_, ?_, ?_, ?_, ?_, ?_, ?_, ?_, ?_, ?_, ?_, ?_, trivial⟩
          all_goals (try simp only [int_encU, ot_eq (show k < 1000000 by omega), (tdiv_two (show k < 1000000 by omega)).2]); all_goals first
          | exact all_isU _
          | (simp [h1]; done)
          | (simp; omega)
          | (simp [encU, fitP, fld, leafFits, V.cells, ho]; done)
          | (simp [rooms, maxRoom]; omega)
          | exact eqB_eq rfl
          | exact outq hne
          | exact outq_snoc o _ _
          | exact outq_snoc [] _ _
          | (simp [P.decO]; omega)
      · have e : P.sidesN (m + 1) l k = P.sidesN m (P.up l) (k / 2) := by
          simp only [P.sidesN]; rw [if_neg (by omega), if_neg ho]; rfl
        by_cases hne : o = []
        · subst hne
          have e3 : P.outV ([] ++ P.sidesN (m + 1) l k) = P.outV (P.decO (V.sl true []) ++ P.sidesN m (List.map intOf (List.map encU (P.up (List.map intOf (List.map encU l))))) (IntKind.i64.wrap ((k : Int).tdiv 2)).toNat) := by
            rw [e, int_encU, int_encU, (tdiv_two (show k < 1000000 by omega)).1]; rfl
          rw [e3]
          refine Runs.way (F := F) (sh := Sh) (S := T75 m) hS (L := fun _ _ => .fail) (fi := fi75) (by kernel_rfl) (fun _ _ _ _ h => by cases h) [((↑(List.map encU l).length : Int) == 1, false),
    (decide (Fd.ot k < (↑(List.map encU l).length : Int)), false),
    ((List.map encU l).all isU, true),
    (decide (0 < (List.map encU l).length), true),
    (decide ((List.map encU l).length ≤ 1000), true),
    ((List.map encU (P.up (List.map intOf (List.map encU l)))).all isU, true),
    (decide ((List.map encU (P.up (List.map intOf (List.map encU l)))).length ≤ m), true),
    (decide ((List.map encU (P.up (List.map intOf (List.map encU l)))).length ≤ 1000), true),
    (decide (0 ≤ IntKind.i64.wrap ((↑k : Int).tdiv 2)), true),
    (decide (IntKind.i64.wrap ((↑k : Int).tdiv 2) < (↑(List.map encU (P.up (List.map intOf (List.map encU l)))).length : Int)), true),
    (eqB (V.sl true []) (V.sl true []), true),
    (decide (0 + m ≤ 2000), true)] [2, 3, 0, 4, 5, 6, 0, 7, 8, 9, 10, 11, 12, 13] (by kernel_rfl) ?_
          refine ⟨?_, ?_, ?_, ?_, ?_, ?_, ?_, ?_, ?_, ?_, ?_, ?_, trivial⟩
          all_goals (try simp only [int_encU, ot_eq (show k < 1000000 by omega), (tdiv_two (show k < 1000000 by omega)).2]); all_goals first
          | exact all_isU _
          | (simp [h1]; done)
          | (simp; omega)
          | (simp [encU, fitP, fld, leafFits, V.cells, ho]; done)
          | (simp [rooms, maxRoom]; omega)
          | exact eqB_eq rfl
          | exact outq hne
          | exact outq_snoc o _ _
          | exact outq_snoc [] _ _
          | (simp [P.decO]; omega)
        · have e3 : P.outV (o ++ P.sidesN (m + 1) l k) = P.outV (P.decO (V.ex 2 false (List.map encD o)) ++ P.sidesN m (List.map intOf (List.map encU (P.up (List.map intOf (List.map encU l))))) (IntKind.i64.wrap ((k : Int).tdiv 2)).toNat) := by
            rw [e, int_encU, int_encU, (tdiv_two (show k < 1000000 by omega)).1]
            simp only [P.decO, decD_enc]
          rw [e3, outV_ne hne]
          refine Runs.way (F := F) (sh := Sh) (S := T75 m) hS (L := fun _ _ => .fail) (fi := fi75) (by kernel_rfl) (fun _ _ _ _ h => by cases h) [((↑(List.map encU l).length : Int) == 1, false),
    (decide (Fd.ot k < (↑(List.map encU l).length : Int)), false),
    ((List.map encU l).all isU, true),
    (decide (0 < (List.map encU l).length), true),
    (decide ((List.map encU l).length ≤ 1000), true),
    ((List.map encU (P.up (List.map intOf (List.map encU l)))).all isU, true),
    (decide ((List.map encU (P.up (List.map intOf (List.map encU l)))).length ≤ m), true),
    (decide ((List.map encU (P.up (List.map intOf (List.map encU l)))).length ≤ 1000), true),
    (decide (0 ≤ IntKind.i64.wrap ((↑k : Int).tdiv 2)), true),
    (decide (IntKind.i64.wrap ((↑k : Int).tdiv 2) < (↑(List.map encU (P.up (List.map intOf (List.map encU l)))).length : Int)), true),
    (eqB (V.ex 2 false (List.map encD o)) (P.outV (P.decO (V.ex 2 false (List.map encD o)))), true),
    (decide ((P.decO (V.ex 2 false (List.map encD o))).length + m ≤ 2000), true)] [2, 3, 0, 4, 5, 6, 0, 7, 8, 9, 10, 11, 12, 13] (by kernel_rfl) ?_
          refine ⟨?_, ?_, ?_, ?_, ?_, ?_, ?_, ?_, ?_, ?_, ?_, ?_, trivial⟩
          all_goals (try simp only [int_encU, ot_eq (show k < 1000000 by omega), (tdiv_two (show k < 1000000 by omega)).2]); all_goals first
          | exact all_isU _
          | (simp [h1]; done)
          | (simp; omega)
          | (simp [encU, fitP, fld, leafFits, V.cells, ho]; done)
          | (simp [rooms, maxRoom]; omega)
          | exact eqB_eq rfl
          | exact outq hne
          | exact outq_snoc o _ _
          | exact outq_snoc [] _ _
          | (simp [P.decO]; omega)
noncomputable def cl75 (l : List Int) (k : Nat) (ov : V) : List V → Heap → Tr (V × Heap) := fun a H => match a, H with
  | [.sl n xs, .int .i64 k', .ptr 1 0, .ptr 2 0], [.dead, .cells [.sl true []], .cells [.clo (.func 75) [] [.ptr 1 0, .ptr 2 0]]] =>
    .must (!n) (.must (eqB xs (l.map encU)) (.must (decide (k' = k)) (.ret (.tup [], [.dead, .cells [ov], cloV]))))
  | _, _ => .fail
theorem cl75_ok {l : List Int} {k : Nat} {ov : V} (h : Runs T F 75 [.sl false (l.map encU), .int .i64 k, .ptr 1 0, .ptr 2 0] [.dead, .cells [.sl true []], cloV] (.tup [], [.dead, .cells [ov], cloV])) : ∀ a H r, (cl75 l k ov a H).run = some r → Runs T F 75 a H r := by
  intro a H r hr
  unfold cl75 at hr
  split at hr
  · obtain ⟨h0, hr⟩ := Tr.must_some hr
    obtain ⟨h1, hr⟩ := Tr.must_some hr
    obtain ⟨h2, hr⟩ := Tr.must_some hr
    have hq := ret_some hr; clear hr; subst hq
    have h1 := of_eqB h1
    simp only [decide_eq_true_eq, Bool.not_eq_true'] at h0 h2
    subst h0; subst h1; subst h2
    exact h
  · cases hr
def bgS (s : Stp) (n : Bool) (p : List (Int × Bool)) (r h k : Int) : St := ⟨[(2, .int .u64 r), (7, .int .u64 h), (12, V.sl n (p.map encD)), (13, .int .i64 p.length), (14, .int .i64 k)], [.cells (encS s).cells]⟩
def Fd.dh (p : List (Int × Bool)) (i : Nat) : Int := intOf (fld 0 ((p.map encD).getD i V.undef))
def Fd.db (p : List (Int × Bool)) (i : Nat) : Bool := boolOf (fld 1 ((p.map encD).getD i V.undef))
theorem apart_u (b : Bool) (l : List Int) : apart (V.ex 1 b (l.map encU)) = true := by
  simp only [apart, V.cells, List.all_cons, List.all_nil, Bool.and_true, apartC]
  rw [List.all_eq_true]; intro x hx; obtain ⟨c, _, rfl⟩ := List.mem_map.1 hx; rfl
/-- **Show** tells the sides. -/
theorem show_runs (key la : Int) (l : List Stp) (k : Nat) (hl : l.length ≤ 1000) (hk : k < l.length) :
    Runs T F 33 [.ptr 0 0, .int .i64 k] [.cells [.int .u64 key, .int .u64 la, .bool true, .ex 5 false (l.map encS)]]
      (.tup [.ex 2 (P.sidesN l.length (sgns l) k).isEmpty ((P.sidesN l.length (sgns l) k).map encD), .int .i64 0], [.cells [.int .u64 key, .int .u64 la, .bool true, .ex 5 false (l.map encS)]]) := by
  have hs : (sgns l).length = l.length := by simp [sgns]
  have hc := climb_runs l.length (sgns l) k [] (by omega) (by omega) (by omega) (by simp; omega)
  rw [List.nil_append] at hc
  have hne : (sgns l).isEmpty = false := by cases l with
    | nil => simp at hk
    | cons x l => rfl
  have hwr : IntKind.i64.wrap ((l.length : Int) - 1) = (l.length : Int) - 1 := i64in (by omega) (by omega)
  have ap := apart_u (sgns l).isEmpty (sgns l)
  generalize P.sidesN l.length (sgns l) k = p at *
  by_cases hp : p = []
  · subst hp
    refine Runs.way (F := F) (sh := Sh) (S := Q74.add 75 (cl75 (sgns l) k (.sl true []))) (Q74_ok.add (cl75_ok hc)) (L := fun _ _ => .fail) (fi := fi33) (by kernel_rfl) (fun _ _ _ _ h => by cases h) [(decide ((↑k : Int) > IntKind.i64.wrap ((↑(List.map encS l).length : Int) - 1)), false),
    (eqB (List.map encS l) (List.map encS (List.map decS (List.map encS l))), true),
    (decide ((List.map encS l).length ≤ 1000), true),
    (apart (V.ex 1 ((sgns (List.map decS (List.map encS l))).isEmpty) (List.map encU (List.map (fun s => s.5) (List.map decS (List.map encS l))))), true),
    (!(sgns (List.map decS (List.map encS l))).isEmpty, true),
    (eqB (List.map encU (List.map (fun s => s.5) (List.map decS (List.map encS l)))) (List.map encU (List.map (fun s => s.5) l)), true),
    (decide ((↑k : Int) = (↑k : Int)), true)] [1, 1, 1, 1, 1, 1, 1, 1, 0, 0, 0, 0, 1, 1, 1, 1, 2, 1, 0, 1, 3, 4, 5, 6, 7, 8] (by kernel_rfl) ?_
    rw [decS_enc]
    exact ⟨by rw [List.length_map, hwr]; simp; omega, eqB_eq rfl, by simp; omega, ap, by rw [hne]; rfl, eqB_eq rfl, by simp, trivial⟩
  · rw [outV_ne hp] at hc
    have e : p.isEmpty = false := by cases p with
      | nil => exact absurd rfl hp
      | cons x l => rfl
    rw [e]
    refine Runs.way (F := F) (sh := Sh) (S := Q74.add 75 (cl75 (sgns l) k (.ex 2 false (p.map encD)))) (Q74_ok.add (cl75_ok hc)) (L := fun _ _ => .fail) (fi := fi33) (by kernel_rfl) (fun _ _ _ _ h => by cases h) [(decide ((↑k : Int) > IntKind.i64.wrap ((↑(List.map encS l).length : Int) - 1)), false),
    (eqB (List.map encS l) (List.map encS (List.map decS (List.map encS l))), true),
    (decide ((List.map encS l).length ≤ 1000), true),
    (apart (V.ex 1 ((sgns (List.map decS (List.map encS l))).isEmpty) (List.map encU (List.map (fun s => s.5) (List.map decS (List.map encS l))))), true),
    (!(sgns (List.map decS (List.map encS l))).isEmpty, true),
    (eqB (List.map encU (List.map (fun s => s.5) (List.map decS (List.map encS l)))) (List.map encU (List.map (fun s => s.5) l)), true),
    (decide ((↑k : Int) = (↑k : Int)), true)] [1, 1, 1, 1, 1, 1, 1, 1, 0, 0, 0, 0, 1, 1, 1, 1, 2, 1, 0, 1, 3, 4, 5, 6, 7, 8] (by kernel_rfl) ?_
    rw [decS_enc]
    exact ⟨by rw [List.length_map, hwr]; simp; omega, eqB_eq rfl, by simp; omega, ap, by rw [hne]; rfl, eqB_eq rfl, by simp, trivial⟩
/-- What sides make of a hash. -/
def P.fold : Int → List (Int × Bool) → Int
  | h, [] => h
  | h, p :: l => P.fold (if p.2 then P.pair p.1 h else P.pair h p.1) l
theorem fold_cons (h : Int) (p : Int × Bool) (l : List (Int × Bool)) : P.fold h (p :: l) = P.fold (if p.2 then P.pair p.1 h else P.pair h p.1) l := rfl
theorem dh_at (p : List (Int × Bool)) (k : Nat) (h : k < p.length) : Fd.dh p k = p[k].1 := by simp [Fd.dh, encD, h]
theorem db_at (p : List (Int × Bool)) (k : Nat) (h : k < p.length) : Fd.db p k = p[k].2 := by simp [Fd.db, encD, h]
theorem bg_loop (s : Stp) (n : Bool) (p : List (Int × Bool)) (r : Int) (hp : p.length ≤ 2000) : ∀ (m k : Nat) (h : Int), k + m = p.length →
    LRuns (vstep T (vlim T F) lplim fi34.cx 1 (lb fi34 0)) (bgS s n p r h k) (.exit 0, ⟨(bgS s n p r (P.fold h (p.drop k)) p.length).env ++ [(15, .bool false)], [.cells (encS s).cells]⟩)
  | 0, k, h, hd => by
    have hk : k = p.length := by omega
    subst hk
    rw [List.drop_length]
    have := LRuns.last (F := F) Q78_ok (sh := Sh) (L := fun _ _ => .fail) (n := 1) (b := lb fi34 0) (cx := fi34.cx) (τ := bgS s n p r h p.length) (LGood.none (by kernel_rfl)) [(decide ((p.length : Int) < (p.length : Int)), false)] [2]
      (r := (.exit 0, ⟨(bgS s n p r h p.length).env ++ [(15, .bool (decide ((p.length : Int) < (p.length : Int))))], [.cells (encS s).cells]⟩)) (by kernel_rfl) (by simp) ⟨by simp, trivial⟩
    simpa [P.fold] using this
  | m + 1, k, h, hd => by
    have hk : k < p.length := by omega
    have ga := dh_at p k hk
    have gb := db_at p k hk
    rw [List.drop_eq_getElem_cons hk, fold_cons, ← ga, ← gb]
    by_cases hb : Fd.db p k = true
    · have ih := bg_loop s n p r hp m (k + 1) (P.pair (Fd.dh p k) h) (by omega)
      rw [if_pos hb]
      refine LRuns.next (F := F) Q78_ok (sh := Sh) (L := fun _ _ => .fail) (LGood.none (by kernel_rfl)) [(decide ((↑k : Int) < (↑p.length : Int)), true),
    (decide ((↑k : Int) < (↑(List.map encD p).length : Int)), true),
    (((List.map encD p).getD k V.undef).cells.length == 2 && fitP [TK.int IntKind.u64, TK.bool] 0 ((List.map encD p).getD k V.undef), true),
    (Fd.db p k, true)] [2, 0, 3, 4, 5] (τ' := bgS s n p r (P.pair (Fd.dh p k) h) (IntKind.i64.wrap ((k : Int) + 1))) (by kernel_rfl) ⟨by simp; omega, by simp; omega, by simp [encD, fitP, fld, leafFits, V.cells, hk], hb, trivial⟩ ?_
      rw [len_wrap (by omega)]; exact ih
    · have ih := bg_loop s n p r hp m (k + 1) (P.pair h (Fd.dh p k)) (by omega)
      rw [if_neg hb]
      refine LRuns.next (F := F) Q78_ok (sh := Sh) (L := fun _ _ => .fail) (LGood.none (by kernel_rfl)) [(decide ((↑k : Int) < (↑p.length : Int)), true),
    (decide ((↑k : Int) < (↑(List.map encD p).length : Int)), true),
    (((List.map encD p).getD k V.undef).cells.length == 2 && fitP [TK.int IntKind.u64, TK.bool] 0 ((List.map encD p).getD k V.undef), true),
    (Fd.db p k, false)] [2, 0, 3, 4, 5] (τ' := bgS s n p r (P.pair h (Fd.dh p k)) (IntKind.i64.wrap ((k : Int) + 1))) (by kernel_rfl) ⟨by simp; omega, by simp; omega, by simp [encD, fitP, fld, leafFits, V.cells, hk], by simpa using hb, trivial⟩ ?_
      rw [len_wrap (by omega)]; exact ih
/-- **Belongs** folds the sides. -/
theorem bg_runs (s : Stp) (n : Bool) (p : List (Int × Bool)) (r : Int) (hp : p.length ≤ 2000) : Runs T F 34 [encS s, .sl n (p.map encD), .int .u64 r] [] (.bool (P.fold s.sgn p == r), []) := by
  have hr := bg_loop s n p r hp p.length 0 s.sgn (by omega)
  rw [List.drop_zero, Int.natCast_zero] at hr
  generalize P.fold s.sgn p = h at *
  have hL := LGood.one (c := fi34.body) (b := lb fi34 0) (k := 3) (σ0 := bgS s n p r s.sgn 0) (by kernel_rfl) hr
  exact Runs.way (F := F) (sh := Sh) (S := Q78) Q78_ok (fi := fi34) (by kernel_rfl) hL [(is { env := [(2, V.int IntKind.u64 r), (7, V.int IntKind.u64 s.5), (12, V.sl n (List.map encD p)), (13, V.int IntKind.i64 (↑(List.map encD p).length : Int)), (14, V.int IntKind.i64 0)], heap := [B.cells [V.int IntKind.i64 s.1, V.int IntKind.u64 s.2, V.int IntKind.i64 s.3, V.int IntKind.i64 s.4, V.int IntKind.u64 s.5]] } { env := [(2, V.int IntKind.u64 r), (7, V.int IntKind.u64 s.5), (12, V.sl n (List.map encD p)), (13, V.int IntKind.i64 (↑p.length : Int)), (14, V.int IntKind.i64 0)], heap := [B.cells [V.int IntKind.i64 s.1, V.int IntKind.u64 s.2, V.int IntKind.i64 s.3, V.int IntKind.i64 s.4, V.int IntKind.u64 s.5]] }, true)] [2] (by kernel_rfl) ⟨is_eq (by simp [bgS, encS, V.cells]), trivial⟩
theorem up_get : ∀ (l : List Int) (k : Nat), k < l.length → (P.up l).getD (k / 2) 0 = if oth k < l.length then (if k % 2 = 1 then P.pair (l.getD (oth k) 0) (l.getD k 0) else P.pair (l.getD k 0) (l.getD (oth k) 0)) else l.getD k 0
  | [], k, h => by simp at h
  | [a], k, h => by
    have : k = 0 := by simpa using h
    subst this
    simp [P.up, oth]
  | a :: b :: l, 0, h => by simp [P.up, oth]
  | a :: b :: l, 1, h => by simp [P.up, oth]
  | a :: b :: l, k + 2, h => by
    have ih := up_get l k (by simp at h; omega)
    have e1 : (k + 2) / 2 = k / 2 + 1 := by omega
    have e2 : oth (k + 2) = oth k + 2 := by unfold oth; split <;> split <;> omega
    have e3 : (k + 2) % 2 = k % 2 := by omega
    rw [e1, e2, e3]
    simp only [P.up, List.getD_cons_succ, List.length_cons]
    rw [ih]
    by_cases ho : oth k < l.length
    · rw [if_pos ho, if_pos (show oth k + 2 < l.length + 1 + 1 by omega)]
    · rw [if_neg ho, if_neg (show ¬ oth k + 2 < l.length + 1 + 1 by omega)]
/-- **The sides of a hash lead to the root.** -/
theorem fold_root : ∀ (m : Nat) (l : List Int) (k f : Nat), l.length ≤ m → l.length ≤ f → k < l.length → P.fold (l.getD k 0) (P.sidesN m l k) = P.rootN f l
  | 0, l, k, f, hm, _, hk => by omega
  | m + 1, l, k, f, hm, hf, hk => by
    have hu := up_len l
    match f, hf with
    | 0, hf => omega
    | f + 1, hf =>
    simp only [P.sidesN, P.rootN]
    by_cases h1 : l.length ≤ 1
    · rw [if_pos h1, if_pos h1]
      have : k = 0 := by omega
      subst this
      cases l with
      | nil => simp at hk
      | cons x l => rfl
    · rw [if_neg h1, if_neg h1]
      have ih := fold_root m (P.up l) (k / 2) f (by omega) (by omega) (by omega)
      rw [← ih, up_get l k hk]
      by_cases ho : oth k < l.length
      · rw [if_pos ho, if_pos ho, List.singleton_append, fold_cons]
        congr 1
        by_cases hp : k % 2 = 1
        · have : oth k < k := by unfold oth; rw [if_pos hp]; omega
          simp [this, hp]
        · have : ¬ oth k < k := by unfold oth; rw [if_neg hp]; omega
          simp [this, hp]
      · rw [if_neg ho, if_neg ho, List.nil_append]
theorem fold_inj : ∀ (p : List (Int × Bool)) (h h' : Int), inU h → inU h' → P.fold h p = P.fold h' p → h = h'
  | [], h, h', _, _, e => e
  | (x, b) :: p, h, h', hu, hu', e => by
    rw [fold_cons, fold_cons] at e
    cases b with
    | true =>
      simp only [if_true] at e
      exact pair_right hu hu' (fold_inj p _ _ (pair_in _ _) (pair_in _ _) e)
    | false =>
      simp only [Bool.false_eq_true, if_false] at e
      exact pair_left hu hu' (fold_inj p _ _ (pair_in _ _) (pair_in _ _) e)
end Go.Proofs.Ytgmdkjiflhklaaa
