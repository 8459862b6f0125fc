/- L33: the sides of a stamp, where 3 more blocks lie. -/
import Derived.Test.YtgmdkjiflhklaaaL3
namespace Go.Proofs.Ytgmdkjiflhklaaa
open Go Go.Vm
def cloV33 : B := .cells [.clo (.func 75) [] [.ptr 4 0, .ptr 5 0]]
noncomputable def climbS33 (m : Nat) : List V → Heap → Tr (V × Heap) := fun a H => match a, H with
  | [.sl false xs, .int .i64 k, .ptr 4 0, .ptr 5 0], [.dead, .dead, .dead, .dead, .cells [ov], .cells [.clo (.func 75) [] [.ptr 4 0, .ptr 5 0]]] =>
    .must (xs.all isU) (.must (decide (xs.length ≤ m)) (.must (decide (xs.length ≤ 1000)) (.must (decide (0 ≤ k)) (.must (decide (k < xs.length)) (.must (eqB ov (P.outV (P.decO ov))) (.must (decide ((P.decO ov).length + m ≤ 2000))
      (.ret (.tup [], [.dead, .dead, .dead, .dead, .cells [P.outV (P.decO ov ++ P.sidesN m (xs.map intOf) k.toNat)], cloV33]))))))))
  | _, _ => .fail
noncomputable def T7533 (m : Nat) : Vm.Spec := Q76.add 75 (climbS33 m)
theorem climb_runs33 : ∀ (m : Nat) (l : List Int) (k : Nat) (o : List (Int × Bool)), l.length ≤ m → l.length ≤ 1000 → k < l.length → o.length + m ≤ 2000 →
    Runs T F 75 [.sl false (l.map encU), .int .i64 k, .ptr 4 0, .ptr 5 0] [.dead, .dead, .dead, .dead, .cells [P.outV o], cloV33] (.tup [], [.dead, .dead, .dead, .dead, .cells [P.outV (o ++ P.sidesN m l k)], cloV33])
  | 0, l, k, o, hm, _, hk, _ => by omega
  | m + 1, l, k, o, hm, hl, hk, hom => by
    have hS : Vm.Good (vlim T F) (T7533 m) := by
      refine Q76_ok.add fun a H r h => ?_
      unfold climbS33 at h
      split at h
      · rename_i xs k ov
        obtain ⟨h0, h⟩ := Tr.must_some h
        obtain ⟨h1, h⟩ := Tr.must_some h
        obtain ⟨h2, h⟩ := Tr.must_some h
        obtain ⟨h3, h⟩ := Tr.must_some h
        obtain ⟨h4, h⟩ := Tr.must_some h
        obtain ⟨h5, h⟩ := Tr.must_some h
        obtain ⟨h6, h⟩ := Tr.must_some h
        have hr := ret_some h; clear h; subst hr
        have hx := isU_all h0
        have h5 := of_eqB h5
        simp only [decide_eq_true_eq] at h1 h2 h3 h4 h6
        rw [← List.length_map (f := intOf)] at h1 h2
        have h4 : k < ((xs.map intOf).length : Int) := by rw [List.length_map]; exact h4
        generalize xs.map intOf = l at *
        generalize P.decO ov = o at *
        subst hx
        subst h5
        obtain ⟨k, rfl⟩ := Int.eq_ofNat_of_zero_le h3
        exact climb_runs33 m l k o h1 h2 (by omega) h6
      · cases h
    have hu := up_len l
    by_cases h1 : l.length = 1
    · have e : P.sidesN (m + 1) l k = [] := by simp only [P.sidesN]; rw [if_pos (by omega)]
      rw [e, List.append_nil]
      by_cases hne : o = []
      · subst hne
        exact Runs.way (F := F) (sh := Sh) (S := T7533 m) hS (L := fun _ _ => .fail) (fi := fi75) (by kernel_rfl) (fun _ _ _ _ h => by cases h) [((↑(List.map encU l).length : Int) == 1, true)] [2] (by kernel_rfl) ⟨by simp [h1], trivial⟩
      · rw [outV_ne hne]
        exact Runs.way (F := F) (sh := Sh) (S := T7533 m) hS (L := fun _ _ => .fail) (fi := fi75) (by kernel_rfl) (fun _ _ _ _ h => by cases h) [((↑(List.map encU l).length : Int) == 1, true)] [2] (by kernel_rfl) ⟨by simp [h1], trivial⟩
    · by_cases ho : oth k < l.length
      · have e : P.sidesN (m + 1) l k = (l.getD (oth k) 0, decide (oth k < k)) :: P.sidesN m (P.up l) (k / 2) := by
          simp only [P.sidesN]; rw [if_neg (by omega), if_pos ho]; rfl
        have hg := hu_at l (oth k) ho
        have hgd : l.getD (oth k) 0 = l[oth k] := by rw [List.getD_eq_getElem?_getD, List.getElem?_eq_getElem ho]; rfl
        by_cases hne : o = []
        · subst hne
          have e2 : V.tup [] = V.tup [] := rfl
          have e3 : P.outV ([] ++ P.sidesN (m + 1) l k) = P.outV (P.decO (V.ex 2 false [V.agg [V.int IntKind.u64 (Fd.hu l (Fd.ot k).toNat), V.bool (decide (Fd.ot k < (k : Int)))]]) ++ P.sidesN m (List.map intOf (List.map encU (P.up (List.map intOf (List.map encU l))))) (IntKind.i64.wrap ((k : Int).tdiv 2)).toNat) := by
            rw [e, int_encU, int_encU, (tdiv_two (show k < 1000000 by omega)).1, ot_eq (show k < 1000000 by omega), Int.toNat_natCast, hg, hgd]
            simp [P.decO, decD]
          rw [e3]
          refine Runs.way (F := F) (sh := Sh) (S := T7533 m) hS (L := fun _ _ => .fail) (fi := fi75) (by kernel_rfl) (fun _ _ _ _ h => by cases h) [((↑(List.map encU l).length : Int) == 1, false),
    (decide (Fd.ot k < (↑(List.map encU l).length : Int)), true),
    (decide (0 ≤ Fd.ot k), true),
    (decide (Fd.ot k < (↑(List.map encU l).length : Int)), true),
    (((List.map encU l).getD (Fd.ot k).toNat V.undef).cells.length == 1 && fitP [TK.int IntKind.u64] 0 ((List.map encU l).getD (Fd.ot k).toNat V.undef), true),
    ((List.map encU l).all isU, true),
    (decide (0 < (List.map encU l).length), true),
    (decide ((List.map encU l).length ≤ 1000), true),
    ((List.map encU (P.up (List.map intOf (List.map encU l)))).all isU, true),
    (decide ((List.map encU (P.up (List.map intOf (List.map encU l)))).length ≤ m), true),
    (decide ((List.map encU (P.up (List.map intOf (List.map encU l)))).length ≤ 1000), true),
    (decide (0 ≤ IntKind.i64.wrap ((↑k : Int).tdiv 2)), true),
    (decide (IntKind.i64.wrap ((↑k : Int).tdiv 2) < (↑(List.map encU (P.up (List.map intOf (List.map encU l)))).length : Int)), true),
    (eqB (V.ex 2 false [V.agg [V.int IntKind.u64 (Fd.hu l (Fd.ot k).toNat), V.bool (decide (Fd.ot k < (↑k : Int)))]]) (V.ex 2 false [V.agg [V.int IntKind.u64 (Fd.hu l (Fd.ot k).toNat), V.bool (decide (Fd.ot k < (↑k : Int)))]]), true),
    (decide (1 + m ≤ 2000), true)] [2, 3, 4, 5, 6, 0, 0, 0, 0, 7, 8, 9, 0, 10, 11, 12, 13, 14, 15, 16] (by kernel_rfl) ?_
          refine ⟨?_, ?_, ?_, ?_, ?_, ?_, ?_, ?_, ?_, ?_, ?_, ?_, ?_, ?_, ?_, trivial⟩
          all_goals (try simp only [int_encU, ot_eq (show k < 1000000 by omega), (tdiv_two (show k < 1000000 by omega)).2]); all_goals first
          | exact all_isU _
          | (simp [h1]; done)
          | (simp; omega)
          | (simp [encU, fitP, fld, leafFits, V.cells, ho]; done)
          | (simp [rooms, maxRoom]; omega)
          | exact eqB_eq rfl
          | exact outq hne
          | exact outq_snoc o _ _
          | exact outq_snoc [] _ _
          | (simp [P.decO]; omega)
        · have e3 : P.outV (o ++ P.sidesN (m + 1) l k) = P.outV (P.decO (V.ex 2 false (List.map encD o ++ [V.agg [V.int IntKind.u64 (Fd.hu l (Fd.ot k).toNat), V.bool (decide (Fd.ot k < (k : Int)))]])) ++ P.sidesN m (List.map intOf (List.map encU (P.up (List.map intOf (List.map encU l))))) (IntKind.i64.wrap ((k : Int).tdiv 2)).toNat) := by
            rw [e, int_encU, int_encU, (tdiv_two (show k < 1000000 by omega)).1, ot_eq (show k < 1000000 by omega), Int.toNat_natCast, hg, hgd]
            simp only [P.decO, List.map_append, decD_enc]
            simp [decD]
          rw [e3, outV_ne hne]
          refine Runs.way (F := F) (sh := Sh) (S := T7533 m) hS (L := fun _ _ => .fail) (fi := fi75) (by kernel_rfl) (fun _ _ _ _ h => by cases h) [((↑(List.map encU l).length : Int) == 1, false),
    (decide (Fd.ot k < (↑(List.map encU l).length : Int)), true),
    (decide (0 ≤ Fd.ot k), true),
    (decide (Fd.ot k < (↑(List.map encU l).length : Int)), true),
    (((List.map encU l).getD (Fd.ot k).toNat V.undef).cells.length == 1 && fitP [TK.int IntKind.u64] 0 ((List.map encU l).getD (Fd.ot k).toNat V.undef), true),
    (rooms ((List.map encD o).length + 1) 16, true),
    (decide ((List.map encD o).length + 1 < 4611686018427387904), true),
    ((List.map encU l).all isU, true),
    (decide (0 < (List.map encU l).length), true),
    (decide ((List.map encU l).length ≤ 1000), true),
    ((List.map encU (P.up (List.map intOf (List.map encU l)))).all isU, true),
    (decide ((List.map encU (P.up (List.map intOf (List.map encU l)))).length ≤ m), true),
    (decide ((List.map encU (P.up (List.map intOf (List.map encU l)))).length ≤ 1000), true),
    (decide (0 ≤ IntKind.i64.wrap ((↑k : Int).tdiv 2)), true),
    (decide (IntKind.i64.wrap ((↑k : Int).tdiv 2) < (↑(List.map encU (P.up (List.map intOf (List.map encU l)))).length : Int)), true),
    (eqB (V.ex 2 false (List.map encD o ++ [V.agg [V.int IntKind.u64 (Fd.hu l (Fd.ot k).toNat), V.bool (decide (Fd.ot k < (↑k : Int)))]])) (P.outV (P.decO (V.ex 2 false (List.map encD o ++ [V.agg [V.int IntKind.u64 (Fd.hu l (Fd.ot k).toNat), V.bool (decide (Fd.ot k < (↑k : Int)))]])))), true),
    (decide ((P.decO (V.ex 2 false (List.map encD o ++ [V.agg [V.int IntKind.u64 (Fd.hu l (Fd.ot k).toNat), V.bool (decide (Fd.ot k < (↑k : Int)))]]))).length + m ≤ 2000), true)] [2, 3, 4, 5, 6, 7, 8, 0, 0, 9, 10, 11, 0, 12, 13, 14, 15, 16, 17, 18] (by kernel_rfl) ?_
          refine ⟨?_, ?_, ?_, ?_, ?_, ?_, ?_, ?_, ?_, ?_, ?_, ?_, ?_, ?_, ?_, ?_, ?_, trivial⟩
          all_goals (try simp only [int_encU, ot_eq (show k < 1000000 by omega), (tdiv_two (show k < 1000000 by omega)).2]); all_goals first
          | exact all_isU _
          | (simp [h1]; done)
          | (simp; omega)
          | (simp [encU, fitP, fld, leafFits, V.cells, ho]; done)
          | (simp [rooms, maxRoom]; omega)
          | exact eqB_eq rfl
          | exact outq hne
          | exact outq_snoc o _ _
          | exact outq_snoc [] _ _
          | (simp [P.decO]; omega)
      · have e : P.sidesN (m + 1) l k = P.sidesN m (P.up l) (k / 2) := by
          simp only [P.sidesN]; rw [if_neg (by omega), if_neg ho]; rfl
        by_cases hne : o = []
        · subst hne
          have e3 : P.outV ([] ++ P.sidesN (m + 1) l k) = P.outV (P.decO (V.sl true []) ++ P.sidesN m (List.map intOf (List.map encU (P.up (List.map intOf (List.map encU l))))) (IntKind.i64.wrap ((k : Int).tdiv 2)).toNat) := by
            rw [e, int_encU, int_encU, (tdiv_two (show k < 1000000 by omega)).1]; rfl
          rw [e3]
          refine Runs.way (F := F) (sh := Sh) (S := T7533 m) hS (L := fun _ _ => .fail) (fi := fi75) (by kernel_rfl) (fun _ _ _ _ h => by cases h) [((↑(List.map encU l).length : Int) == 1, false),
    (decide (Fd.ot k < (↑(List.map encU l).length : Int)), false),
    ((List.map encU l).all isU, true),
    (decide (0 < (List.map encU l).length), true),
    (decide ((List.map encU l).length ≤ 1000), true),
    ((List.map encU (P.up (List.map intOf (List.map encU l)))).all isU, true),
    (decide ((List.map encU (P.up (List.map intOf (List.map encU l)))).length ≤ m), true),
    (decide ((List.map encU (P.up (List.map intOf (List.map encU l)))).length ≤ 1000), true),
    (decide (0 ≤ IntKind.i64.wrap ((↑k : Int).tdiv 2)), true),
    (decide (IntKind.i64.wrap ((↑k : Int).tdiv 2) < (↑(List.map encU (P.up (List.map intOf (List.map encU l)))).length : Int)), true),
    (eqB (V.sl true []) (V.sl true []), true),
    (decide (0 + m ≤ 2000), true)] [2, 3, 0, 4, 5, 6, 0, 7, 8, 9, 10, 11, 12, 13] (by kernel_rfl) ?_
          refine ⟨?_, ?_, ?_, ?_, ?_, ?_, ?_, ?_, ?_, ?_, ?_, ?_, trivial⟩
          all_goals (try simp only [int_encU, ot_eq (show k < 1000000 by omega), (tdiv_two (show k < 1000000 by omega)).2]); all_goals first
          | exact all_isU _
          | (simp [h1]; done)
          | (simp; omega)
          | (simp [encU, fitP, fld, leafFits, V.cells, ho]; done)
          | (simp [rooms, maxRoom]; omega)
          | exact eqB_eq rfl
          | exact outq hne
          | exact outq_snoc o _ _
          | exact outq_snoc [] _ _
          | (simp [P.decO]; omega)
        · have e3 : P.outV (o ++ P.sidesN (m + 1) l k) = P.outV (P.decO (V.ex 2 false (List.map encD o)) ++ P.sidesN m (List.map intOf (List.map encU (P.up (List.map intOf (List.map encU l))))) (IntKind.i64.wrap ((k : Int).tdiv 2)).toNat) := by
            rw [e, int_encU, int_encU, (tdiv_two (show k < 1000000 by omega)).1]
            simp only [P.decO, decD_enc]
          rw [e3, outV_ne hne]
          refine Runs.way (F := F) (sh := Sh) (S := T7533 m) hS (L := fun _ _ => .fail) (fi := fi75) (by kernel_rfl) (fun _ _ _ _ h => by cases h) [((↑(List.map encU l).length : Int) == 1, false),
    (decide (Fd.ot k < (↑(List.map encU l).length : Int)), false),
    ((List.map encU l).all isU, true),
    (decide (0 < (List.map encU l).length), true),
    (decide ((List.map encU l).length ≤ 1000), true),
    ((List.map encU (P.up (List.map intOf (List.map encU l)))).all isU, true),
    (decide ((List.map encU (P.up (List.map intOf (List.map encU l)))).length ≤ m), true),
    (decide ((List.map encU (P.up (List.map intOf (List.map encU l)))).length ≤ 1000), true),
    (decide (0 ≤ IntKind.i64.wrap ((↑k : Int).tdiv 2)), true),
    (decide (IntKind.i64.wrap ((↑k : Int).tdiv 2) < (↑(List.map encU (P.up (List.map intOf (List.map encU l)))).length : Int)), true),
    (eqB (V.ex 2 false (List.map encD o)) (P.outV (P.decO (V.ex 2 false (List.map encD o)))), true),
    (decide ((P.decO (V.ex 2 false (List.map encD o))).length + m ≤ 2000), true)] [2, 3, 0, 4, 5, 6, 0, 7, 8, 9, 10, 11, 12, 13] (by kernel_rfl) ?_
          refine ⟨?_, ?_, ?_, ?_, ?_, ?_, ?_, ?_, ?_, ?_, ?_, ?_, trivial⟩
          all_goals (try simp only [int_encU, ot_eq (show k < 1000000 by omega), (tdiv_two (show k < 1000000 by omega)).2]); all_goals first
          | exact all_isU _
          | (simp [h1]; done)
          | (simp; omega)
          | (simp [encU, fitP, fld, leafFits, V.cells, ho]; done)
          | (simp [rooms, maxRoom]; omega)
          | exact eqB_eq rfl
          | exact outq hne
          | exact outq_snoc o _ _
          | exact outq_snoc [] _ _
          | (simp [P.decO]; omega)
noncomputable def cl7533 (l : List Int) (k : Nat) (ov : V) : List V → Heap → Tr (V × Heap) := fun a H => match a, H with
  | [.sl n xs, .int .i64 k', .ptr 4 0, .ptr 5 0], [.dead, .dead, .dead, .dead, .cells [.sl true []], .cells [.clo (.func 75) [] [.ptr 4 0, .ptr 5 0]]] =>
    .must (!n) (.must (eqB xs (l.map encU)) (.must (decide (k' = k)) (.ret (.tup [], [.dead, .dead, .dead, .dead, .cells [ov], cloV33]))))
  | _, _ => .fail
theorem cl75_ok33 {l : List Int} {k : Nat} {ov : V} (h : Runs T F 75 [.sl false (l.map encU), .int .i64 k, .ptr 4 0, .ptr 5 0] [.dead, .dead, .dead, .dead, .cells [.sl true []], cloV33] (.tup [], [.dead, .dead, .dead, .dead, .cells [ov], cloV33])) : ∀ a H r, (cl7533 l k ov a H).run = some r → Runs T F 75 a H r := by
  intro a H r hr
  unfold cl7533 at hr
  split at hr
  · obtain ⟨h0, hr⟩ := Tr.must_some hr
    obtain ⟨h1, hr⟩ := Tr.must_some hr
    obtain ⟨h2, hr⟩ := Tr.must_some hr
    have hq := ret_some hr; clear hr; subst hq
    have h1 := of_eqB h1
    simp only [decide_eq_true_eq, Bool.not_eq_true'] at h0 h2
    subst h0; subst h1; subst h2
    exact h
  · cases hr
/-- **Show** tells the sides. -/
theorem show_runs33 (key la : Int) (l : List Stp) (k : Nat) (hl : l.length ≤ 1000) (hk : k < l.length) :
    Runs T F 33 [.ptr 0 0, .int .i64 k] [.cells [.int .u64 key, .int .u64 la, .bool true, .ex 5 false (l.map encS)], .dead, .dead, .dead]
      (.tup [.ex 2 (P.sidesN l.length (sgns l) k).isEmpty ((P.sidesN l.length (sgns l) k).map encD), .int .i64 0], [.cells [.int .u64 key, .int .u64 la, .bool true, .ex 5 false (l.map encS)], .dead, .dead, .dead]) := by
  have hs : (sgns l).length = l.length := by simp [sgns]
  have hc := climb_runs33 l.length (sgns l) k [] (by omega) (by omega) (by omega) (by simp; omega)
  rw [List.nil_append] at hc
  have hne : (sgns l).isEmpty = false := by cases l with
    | nil => simp at hk
    | cons x l => rfl
  have hwr : IntKind.i64.wrap ((l.length : Int) - 1) = (l.length : Int) - 1 := i64in (by omega) (by omega)
  have ap := apart_u (sgns l).isEmpty (sgns l)
  generalize P.sidesN l.length (sgns l) k = p at *
  by_cases hp : p = []
  · subst hp
    refine Runs.way (F := F) (sh := Sh) (S := Q74.add 75 (cl7533 (sgns l) k (.sl true []))) (Q74_ok.add (cl75_ok33 hc)) (L := fun _ _ => .fail) (fi := fi33) (by kernel_rfl) (fun _ _ _ _ h => by cases h) [(decide ((↑k : Int) > IntKind.i64.wrap ((↑(List.map encS l).length : Int) - 1)), false),
    (eqB (List.map encS l) (List.map encS (List.map decS (List.map encS l))), true),
    (decide ((List.map encS l).length ≤ 1000), true),
    (apart (V.ex 1 ((sgns (List.map decS (List.map encS l))).isEmpty) (List.map encU (List.map (fun s => s.5) (List.map decS (List.map encS l))))), true),
    (!(sgns (List.map decS (List.map encS l))).isEmpty, true),
    (eqB (List.map encU (List.map (fun s => s.5) (List.map decS (List.map encS l)))) (List.map encU (List.map (fun s => s.5) l)), true),
    (decide ((↑k : Int) = (↑k : Int)), true)] [1, 1, 1, 1, 1, 1, 1, 1, 0, 0, 0, 0, 1, 1, 1, 1, 2, 1, 0, 1, 3, 4, 5, 6, 7, 8] (by kernel_rfl) ?_
    rw [decS_enc]
    exact ⟨by rw [List.length_map, hwr]; simp; omega, eqB_eq rfl, by simp; omega, ap, by rw [hne]; rfl, eqB_eq rfl, by simp, trivial⟩
  · rw [outV_ne hp] at hc
    have e : p.isEmpty = false := by cases p with
      | nil => exact absurd rfl hp
      | cons x l => rfl
    rw [e]
    refine Runs.way (F := F) (sh := Sh) (S := Q74.add 75 (cl7533 (sgns l) k (.ex 2 false (p.map encD)))) (Q74_ok.add (cl75_ok33 hc)) (L := fun _ _ => .fail) (fi := fi33) (by kernel_rfl) (fun _ _ _ _ h => by cases h) [(decide ((↑k : Int) > IntKind.i64.wrap ((↑(List.map encS l).length : Int) - 1)), false),
    (eqB (List.map encS l) (List.map encS (List.map decS (List.map encS l))), true),
    (decide ((List.map encS l).length ≤ 1000), true),
    (apart (V.ex 1 ((sgns (List.map decS (List.map encS l))).isEmpty) (List.map encU (List.map (fun s => s.5) (List.map decS (List.map encS l))))), true),
    (!(sgns (List.map decS (List.map encS l))).isEmpty, true),
    (eqB (List.map encU (List.map (fun s => s.5) (List.map decS (List.map encS l)))) (List.map encU (List.map (fun s => s.5) l)), true),
    (decide ((↑k : Int) = (↑k : Int)), true)] [1, 1, 1, 1, 1, 1, 1, 1, 0, 0, 0, 0, 1, 1, 1, 1, 2, 1, 0, 1, 3, 4, 5, 6, 7, 8] (by kernel_rfl) ?_
    rw [decS_enc]
    exact ⟨by rw [List.length_map, hwr]; simp; omega, eqB_eq rfl, by simp; omega, ap, by rw [hne]; rfl, eqB_eq rfl, by simp, trivial⟩
/-- **Show** tells the sides. -/
theorem show_runs33b (key la : Int) (l : List Stp) (k : Nat) (hl : l.length ≤ 1000) (hk : k < l.length) :
    Runs T F 33 [.ptr 1 0, .int .i64 k] [.dead, .cells [.int .u64 key, .int .u64 la, .bool true, .ex 5 false (l.map encS)], .dead, .dead]
      (.tup [.ex 2 (P.sidesN l.length (sgns l) k).isEmpty ((P.sidesN l.length (sgns l) k).map encD), .int .i64 0], [.dead, .cells [.int .u64 key, .int .u64 la, .bool true, .ex 5 false (l.map encS)], .dead, .dead]) := by
  have hs : (sgns l).length = l.length := by simp [sgns]
  have hc := climb_runs33 l.length (sgns l) k [] (by omega) (by omega) (by omega) (by simp; omega)
  rw [List.nil_append] at hc
  have hne : (sgns l).isEmpty = false := by cases l with
    | nil => simp at hk
    | cons x l => rfl
  have hwr : IntKind.i64.wrap ((l.length : Int) - 1) = (l.length : Int) - 1 := i64in (by omega) (by omega)
  have ap := apart_u (sgns l).isEmpty (sgns l)
  generalize P.sidesN l.length (sgns l) k = p at *
  by_cases hp : p = []
  · subst hp
    refine Runs.way (F := F) (sh := Sh) (S := Q74.add 75 (cl7533 (sgns l) k (.sl true []))) (Q74_ok.add (cl75_ok33 hc)) (L := fun _ _ => .fail) (fi := fi33) (by kernel_rfl) (fun _ _ _ _ h => by cases h) [(decide ((↑k : Int) > IntKind.i64.wrap ((↑(List.map encS l).length : Int) - 1)), false),
    (eqB (List.map encS l) (List.map encS (List.map decS (List.map encS l))), true),
    (decide ((List.map encS l).length ≤ 1000), true),
    (apart (V.ex 1 ((sgns (List.map decS (List.map encS l))).isEmpty) (List.map encU (List.map (fun s => s.5) (List.map decS (List.map encS l))))), true),
    (!(sgns (List.map decS (List.map encS l))).isEmpty, true),
    (eqB (List.map encU (List.map (fun s => s.5) (List.map decS (List.map encS l)))) (List.map encU (List.map (fun s => s.5) l)), true),
    (decide ((↑k : Int) = (↑k : Int)), true)] [1, 1, 1, 1, 1, 1, 1, 1, 0, 0, 0, 0, 1, 1, 1, 1, 2, 1, 0, 1, 3, 4, 5, 6, 7, 8] (by kernel_rfl) ?_
    rw [decS_enc]
    exact ⟨by rw [List.length_map, hwr]; simp; omega, eqB_eq rfl, by simp; omega, ap, by rw [hne]; rfl, eqB_eq rfl, by simp, trivial⟩
  · rw [outV_ne hp] at hc
    have e : p.isEmpty = false := by cases p with
      | nil => exact absurd rfl hp
      | cons x l => rfl
    rw [e]
    refine Runs.way (F := F) (sh := Sh) (S := Q74.add 75 (cl7533 (sgns l) k (.ex 2 false (p.map encD)))) (Q74_ok.add (cl75_ok33 hc)) (L := fun _ _ => .fail) (fi := fi33) (by kernel_rfl) (fun _ _ _ _ h => by cases h) [(decide ((↑k : Int) > IntKind.i64.wrap ((↑(List.map encS l).length : Int) - 1)), false),
    (eqB (List.map encS l) (List.map encS (List.map decS (List.map encS l))), true),
    (decide ((List.map encS l).length ≤ 1000), true),
    (apart (V.ex 1 ((sgns (List.map decS (List.map encS l))).isEmpty) (List.map encU (List.map (fun s => s.5) (List.map decS (List.map encS l))))), true),
    (!(sgns (List.map decS (List.map encS l))).isEmpty, true),
    (eqB (List.map encU (List.map (fun s => s.5) (List.map decS (List.map encS l)))) (List.map encU (List.map (fun s => s.5) l)), true),
    (decide ((↑k : Int) = (↑k : Int)), true)] [1, 1, 1, 1, 1, 1, 1, 1, 0, 0, 0, 0, 1, 1, 1, 1, 2, 1, 0, 1, 3, 4, 5, 6, 7, 8] (by kernel_rfl) ?_
    rw [decS_enc]
    exact ⟨by rw [List.length_map, hwr]; simp; omega, eqB_eq rfl, by simp; omega, ap, by rw [hne]; rfl, eqB_eq rfl, by simp, trivial⟩
end Go.Proofs.Ytgmdkjiflhklaaa
