/- C1: Give; the reference's. -/
import Derived.Test.YtgmdkjiflhklaaaG0
namespace Go.Proofs.Ytgmdkjiflhklaaa
open Go Go.Vm
namespace P
/-- The last sign, the least lower end of what is given. -/
def last (key : Int) (l : List Stp) : Int := if 0 < l.length then (l.getD (l.length - 1) noS).sgn else P.mix key 3
def llo (l : List Stp) : Int := if 0 < l.length then (l.getD (l.length - 1) noS).lo else 0
def gLo (l : List Stp) (r b : Int) : Int := max (max (r - b) 0) (llo l)
def gHi (r b : Int) : Int := min (r + b) 1000000000000000
def gE (l : List Stp) (r b : Int) : Int := if 0 ≤ r ∧ r ≤ 1000000000000000 ∧ 0 ≤ b ∧ b ≤ 1000000000000000 then (if gLo l r b > gHi r b then 12 else 0) else 6
end P
def P.gS (key : Int) (l : List Stp) (doc r b : Int) : Stp := ⟨l.length, doc, P.gLo l r b, P.gHi r b, Fd.sgn key (P.last key l) l.length doc (P.gLo l r b) (P.gHi r b)⟩
theorem gE_range {l : List Stp} {r b : Int} (h : ¬ (0 ≤ r ∧ r ≤ 1000000000000000 ∧ 0 ≤ b ∧ b ≤ 1000000000000000)) : P.gE l r b = 6 := by unfold P.gE; rw [if_neg h]
theorem gE_empty {l : List Stp} {r b : Int} (h : 0 ≤ r ∧ r ≤ 1000000000000000 ∧ 0 ≤ b ∧ b ≤ 1000000000000000) (h' : P.gLo l r b > P.gHi r b) : P.gE l r b = 12 := by unfold P.gE; rw [if_pos h, if_pos h']
theorem gE_ok {l : List Stp} {r b : Int} (h : 0 ≤ r ∧ r ≤ 1000000000000000 ∧ 0 ≤ b ∧ b ≤ 1000000000000000) (h' : ¬ P.gLo l r b > P.gHi r b) : P.gE l r b = 0 := by unfold P.gE; rw [if_pos h, if_neg h']
/-- What Give tells; the chain afterwards. -/
def gX (key : Int) (l : List Stp) (doc r b : Int) : Stp := if P.gE l r b = 0 then P.gS key l doc r b else noS
def gL (key : Int) (l : List Stp) (doc r b : Int) : List Stp := if P.gE l r b = 0 then l ++ [P.gS key l doc r b] else l
theorem gcast {f : Nat} {a : List V} {H : Heap} {r r' : V × Heap} (h : Runs T F f a H r) (e : r = r') : Runs T F f a H r' := e ▸ h
def chB (key la : Int) (cv : V) : B := .cells [.int .u64 key, .int .u64 la, .bool true, cv]
/-- What Give does. -/
noncomputable def giR (key la : Int) (l : List Stp) (cv : V) (doc r b : Int) (rest : Heap) : Tr (V × Heap) :=
  .ask (decide (P.gE l r b = 0)) (.ret (.tup [encS (P.gS key l doc r b), .int .i64 0], chB key (P.gS key l doc r b).sgn (.ex 5 false (l.map encS ++ [encS (P.gS key l doc r b)])) :: rest))
    (.ret (.tup [encS noS, .int .i64 (P.gE l r b)], chB key la cv :: rest))
noncomputable def giveS : List V → Heap → Tr (V × Heap) := fun a H => match a, H with
  | [.ptr 0 0, .int .u64 doc, .int .i64 r, .int .i64 b], [.cells [.int .u64 key, .int .u64 la, .bool true, .sl true []], .dead] => .must (decide (la = P.mix key 3)) (giR key la [] (.sl true []) doc r b [.dead])
  | [.ptr 0 0, .int .u64 doc, .int .i64 r, .int .i64 b], [.cells [.int .u64 key, .int .u64 la, .bool true, .sl true []], .dead, .dead] => .must (decide (la = P.mix key 3)) (giR key la [] (.sl true []) doc r b [.dead, .dead])
  | [.ptr 0 0, .int .u64 doc, .int .i64 r, .int .i64 b], [.cells [.int .u64 key, .int .u64 la, .bool true, .ex 5 false xs], .dead] =>
    .must (eqB xs ((xs.map decS).map encS)) (.must (decide (0 < xs.length)) (.must (decide (xs.length < 1000)) (.must (decide (la = P.last key (xs.map decS))) (.must (decide (0 ≤ P.llo (xs.map decS))) (.must (decide (P.llo (xs.map decS) ≤ 1000000000000000)) (giR key la (xs.map decS) (.ex 5 false xs) doc r b [.dead]))))))
  | [.ptr 0 0, .int .u64 doc, .int .i64 r, .int .i64 b], [.cells [.int .u64 key, .int .u64 la, .bool true, .ex 5 false xs], .dead, .dead] =>
    .must (eqB xs ((xs.map decS).map encS)) (.must (decide (0 < xs.length)) (.must (decide (xs.length < 1000)) (.must (decide (la = P.last key (xs.map decS))) (.must (decide (0 ≤ P.llo (xs.map decS))) (.must (decide (P.llo (xs.map decS) ≤ 1000000000000000)) (giR key la (xs.map decS) (.ex 5 false xs) doc r b [.dead, .dead]))))))
  | _, _ => .fail
theorem win2 (r b : Int) : P.win 1000000000000000 [r, b] = decide (0 ≤ r ∧ r ≤ 1000000000000000 ∧ 0 ≤ b ∧ b ≤ 1000000000000000) := by
  simp only [P.win, List.all_cons, List.all_nil, Bool.and_true, ← Bool.decide_and]
  congr 1
  simp only [eq_iff_iff]
  omega
theorem wsub {r b : Int} (h : 0 ≤ r ∧ r ≤ 1000000000000000 ∧ 0 ≤ b ∧ b ≤ 1000000000000000) : IntKind.i64.wrap (r - b) = r - b := i64in (by omega) (by omega)
theorem wadd {r b : Int} (h : 0 ≤ r ∧ r ≤ 1000000000000000 ∧ 0 ≤ b ∧ b ≤ 1000000000000000) : IntKind.i64.wrap (r + b) = r + b := i64in (by omega) (by omega)
theorem llo_at {l : List Stp} (h : 0 < l.length) (hl : l.length ≤ 1000) : Fd.lo l (IntKind.i64.wrap (((l.map encS).length : Int) - 1)) = P.llo l := by
  rw [List.length_map, i64in (by omega) (by omega), show ((l.length : Int) - 1) = ((l.length - 1 : Nat) : Int) by omega, lo_at l _ (by omega)]
  unfold P.llo; rw [if_pos h, getD_at (by omega)]
theorem lsg_at {key : Int} {l : List Stp} (h : 0 < l.length) (hl : l.length ≤ 1000) : Fd.sg l (IntKind.i64.wrap (((l.map encS).length : Int) - 1)) = P.last key l := by
  rw [List.length_map, i64in (by omega) (by omega), show ((l.length : Int) - 1) = ((l.length - 1 : Nat) : Int) by omega, sg_at l _ (by omega)]
  unfold P.last; rw [if_pos h, getD_at (by omega)]
theorem rer_ok {key doc r b e : Int} {l : List Stp} {v : V} (h : P.gE l r b = e) (h0 : e ≠ 0) (h' : v = v) : ((V.tup [v, .int .i64 e], []) : V × Heap) = (if P.gE l r b = 0 then (V.tup [.sl false (l.map encS ++ [encS (P.gS key l doc r b)]), .int .i64 0], []) else (V.tup [v, .int .i64 (P.gE l r b)], [])) := by
  subst h; rw [if_neg h0]
theorem rok_ok {key doc r b : Int} {l : List Stp} {v : V} {bb : Bool} {lo hi la : Int} (hb : bb = false) (h : P.gE l r b = 0) (h1 : P.gLo l r b = lo) (h2 : P.gHi r b = hi) (h3 : P.last key l = la) :
    ((V.tup [.sl bb ([] ++ l.map encS ++ [.agg [.int .i64 ((l.map encS).length : Int), .int .u64 doc, .int .i64 lo, .int .i64 hi, .int .u64 (Fd.sgn key la ((l.map encS).length : Int) doc lo hi)]]), .int .i64 0], []) : V × Heap) =
      (if P.gE l r b = 0 then (V.tup [.sl false (l.map encS ++ [encS (P.gS key l doc r b)]), .int .i64 0], []) else (V.tup [v, .int .i64 (P.gE l r b)], [])) := by
  subst hb; subst h1; subst h2; subst h3; rw [if_pos h, List.length_map]; rfl
theorem rgive_ne (key doc r b : Int) (l : List Stp) (h : 0 < l.length) (hl : l.length < 1000) (hlo : 0 ≤ P.llo l) (hlo' : P.llo l ≤ 1000000000000000) :
    Runs T F 70 [.int .u64 key, .sl false (l.map encS), .int .u64 doc, .int .i64 r, .int .i64 b] []
      (if P.gE l r b = 0 then (V.tup [.sl false (l.map encS ++ [encS (P.gS key l doc r b)]), .int .i64 0], []) else (V.tup [.sl false (l.map encS), .int .i64 (P.gE l r b)], [])) := by
  have e1 := llo_at h (by omega)
  have e2 := lsg_at (key := key) h (by omega)
  have f1 := lo_at l (l.length - 1) (by omega)
  have hlm : (l.map encS).length = l.length := List.length_map _
  have gd : P.gLo l r b = max (max (r - b) 0) (P.llo l) := rfl
  have gh : P.gHi r b = min (r + b) 1000000000000000 := rfl
  by_cases h0 : (↑(List.map encS l).length : Int) ≥ 1000
  · skip
    have hr : Runs T F 70 [.int .u64 key, .sl false (l.map encS), .int .u64 doc, .int .i64 r, .int .i64 b] ([]) (V.tup [V.sl false (List.map encS l), V.int IntKind.i64 2], []) := by
      refine Runs.way (F := F) (sh := Sh) (S := UM) (L := fun _ _ => .fail) UM_ok (fi := fi70) (by kernel_rfl) (LGood.none (by kernel_rfl)) [(decide ((↑(List.map encS l).length : Int) ≥ 1000), true)] [2] (by kernel_rfl) ⟨(decide_eq_true h0), trivial⟩
      all_goals first
        | (rw [List.all_eq_true]; intro x hx; obtain ⟨c, _, rfl⟩ := List.mem_map.1 hx; rfl)
        | (simp; done)
        | (simp; omega)
        | (rw [List.length_map] at *; simp only [decide_eq_true_eq, decide_eq_false_iff_not]; rw [i64in (by omega) (by omega)]; omega)
        | (rw [List.length_map, i64in (by omega) (by omega), show ((l.length : Int) - 1) = ((l.length - 1 : Nat) : Int) by omega, Int.toNat_natCast, getD_map _ _ _ (by omega)]; simp [encS, fitP, fld, leafFits]; done)
        | (simp [rooms, maxRoom]; omega)
    try simp only [Bool.not_eq_true', Bool.not_eq_true, Bool.not_eq_false', Bool.not_eq_false, decide_eq_true_eq, decide_eq_false_iff_not] at *
    first
      | (exfalso; omega)
      | exact gcast hr (rer_ok (gE_range (by omega)) (by omega) rfl)
      | exact gcast hr (rer_ok (gE_empty (by omega) (by have := wsub (r := r) (b := b) (by omega); have := wadd (r := r) (b := b) (by omega); omega)) (by omega) rfl)
      | (have y1 := wsub (r := r) (b := b) (by omega); have y2 := wadd (r := r) (b := b) (by omega); exact gcast hr (rok_ok (by simp) (gE_ok (by omega) (by omega)) (by omega) (by omega) (by first | exact e2.symm | (simp at *; omega))))
  · skip
    by_cases h1 : r ≥ 0
    · skip
      by_cases h2 : (!decide (r ≤ 1000000000000000)) = true
      · skip
        have hr : Runs T F 70 [.int .u64 key, .sl false (l.map encS), .int .u64 doc, .int .i64 r, .int .i64 b] ([]) (V.tup [V.sl false (List.map encS l), V.int IntKind.i64 6], []) := by
          refine Runs.way (F := F) (sh := Sh) (S := UM) (L := fun _ _ => .fail) UM_ok (fi := fi70) (by kernel_rfl) (LGood.none (by kernel_rfl)) [(decide ((↑(List.map encS l).length : Int) ≥ 1000), false),
            (decide (r ≥ 0), true),
            (!decide (r ≤ 1000000000000000), true)] [2, 3, 3, 3, 3, 4, 4, 4, 4, 0] (by kernel_rfl) ⟨(decide_eq_false h0), (decide_eq_true h1), h2, trivial⟩
          all_goals first
            | (rw [List.all_eq_true]; intro x hx; obtain ⟨c, _, rfl⟩ := List.mem_map.1 hx; rfl)
            | (simp; done)
            | (simp; omega)
            | (rw [List.length_map] at *; simp only [decide_eq_true_eq, decide_eq_false_iff_not]; rw [i64in (by omega) (by omega)]; omega)
            | (rw [List.length_map, i64in (by omega) (by omega), show ((l.length : Int) - 1) = ((l.length - 1 : Nat) : Int) by omega, Int.toNat_natCast, getD_map _ _ _ (by omega)]; simp [encS, fitP, fld, leafFits]; done)
            | (simp [rooms, maxRoom]; omega)
        try simp only [Bool.not_eq_true', decide_eq_false_iff_not] at *
        first
          | (exfalso; omega)
          | exact gcast hr (rer_ok (gE_range (by omega)) (by omega) rfl)
          | exact gcast hr (rer_ok (gE_empty (by omega) (by have := wsub (r := r) (b := b) (by omega); have := wadd (r := r) (b := b) (by omega); omega)) (by omega) rfl)
          | (have y1 := wsub (r := r) (b := b) (by omega); have y2 := wadd (r := r) (b := b) (by omega); exact gcast hr (rok_ok (by simp) (gE_ok (by omega) (by omega)) (by omega) (by omega) (by first | exact e2.symm | (simp at *; omega))))
      · skip
        by_cases h3 : b ≥ 0
        · skip
          by_cases h4 : (!decide (b ≤ 1000000000000000)) = true
          · skip
            have hr : Runs T F 70 [.int .u64 key, .sl false (l.map encS), .int .u64 doc, .int .i64 r, .int .i64 b] ([]) (V.tup [V.sl false (List.map encS l), V.int IntKind.i64 6], []) := by
              refine Runs.way (F := F) (sh := Sh) (S := UM) (L := fun _ _ => .fail) UM_ok (fi := fi70) (by kernel_rfl) (LGood.none (by kernel_rfl)) [(decide ((↑(List.map encS l).length : Int) ≥ 1000), false),
                (decide (r ≥ 0), true),
                (!decide (r ≤ 1000000000000000), false),
                (decide (b ≥ 0), true),
                (!decide (b ≤ 1000000000000000), true)] [2, 3, 3, 3, 3, 4, 4, 5, 5, 5, 5, 4, 4, 6] (by kernel_rfl) ⟨(decide_eq_false h0), (decide_eq_true h1), (Bool.eq_false_iff.2 h2), (decide_eq_true h3), h4, trivial⟩
              all_goals first
                | (rw [List.all_eq_true]; intro x hx; obtain ⟨c, _, rfl⟩ := List.mem_map.1 hx; rfl)
                | (simp; done)
                | (simp; omega)
                | (rw [List.length_map] at *; simp only [decide_eq_true_eq, decide_eq_false_iff_not]; rw [i64in (by omega) (by omega)]; omega)
                | (rw [List.length_map, i64in (by omega) (by omega), show ((l.length : Int) - 1) = ((l.length - 1 : Nat) : Int) by omega, Int.toNat_natCast, getD_map _ _ _ (by omega)]; simp [encS, fitP, fld, leafFits]; done)
                | (simp [rooms, maxRoom]; omega)
            try simp only [Bool.not_eq_true', decide_eq_false_iff_not] at *
            first
              | (exfalso; omega)
              | exact gcast hr (rer_ok (gE_range (by omega)) (by omega) rfl)
              | exact gcast hr (rer_ok (gE_empty (by omega) (by have := wsub (r := r) (b := b) (by omega); have := wadd (r := r) (b := b) (by omega); omega)) (by omega) rfl)
              | (have y1 := wsub (r := r) (b := b) (by omega); have y2 := wadd (r := r) (b := b) (by omega); exact gcast hr (rok_ok (by simp) (gE_ok (by omega) (by omega)) (by omega) (by omega) (by first | exact e2.symm | (simp at *; omega))))
          · skip
            by_cases h5 : IntKind.i64.wrap (r - b) < 0
            · skip
              by_cases h6 : IntKind.i64.wrap (r + b) > 1000000000000000
              · skip
                by_cases h7 : (↑(List.map encS l).length : Int) > 0
                · skip
                  by_cases h8 : 0 < Fd.lo l (IntKind.i64.wrap ((↑(List.map encS l).length : Int) - 1))
                  · skip
                    by_cases h9 : Fd.lo l (IntKind.i64.wrap ((↑(List.map encS l).length : Int) - 1)) > 1000000000000000
                    · skip
                      have hr : Runs T F 70 [.int .u64 key, .sl false (l.map encS), .int .u64 doc, .int .i64 r, .int .i64 b] ([]) (V.tup [V.sl false (List.map encS l), V.int IntKind.i64 12], []) := by
                        refine Runs.way (F := F) (sh := Sh) (S := UM) (L := fun _ _ => .fail) UM_ok (fi := fi70) (by kernel_rfl) (LGood.none (by kernel_rfl)) [(decide ((↑(List.map encS l).length : Int) ≥ 1000), false),
                          (decide (r ≥ 0), true),
                          (!decide (r ≤ 1000000000000000), false),
                          (decide (b ≥ 0), true),
                          (!decide (b ≤ 1000000000000000), false),
                          (decide (IntKind.i64.wrap (r - b) < 0), true),
                          (decide (IntKind.i64.wrap (r + b) > 1000000000000000), true),
                          (decide ((↑(List.map encS l).length : Int) > 0), true),
                          (decide (0 ≤ IntKind.i64.wrap ((↑(List.map encS l).length : Int) - 1)), true),
                          (decide (IntKind.i64.wrap ((↑(List.map encS l).length : Int) - 1) < (↑(List.map encS l).length : Int)), true),
                          (((List.map encS l).getD (IntKind.i64.wrap ((↑(List.map encS l).length : Int) - 1)).toNat V.undef).cells.length == 5 && fitP [TK.int IntKind.i64, TK.int IntKind.u64, TK.int IntKind.i64, TK.int IntKind.i64, TK.int IntKind.u64] 0 ((List.map encS l).getD (IntKind.i64.wrap ((↑(List.map encS l).length : Int) - 1)).toNat V.undef), true),
                          (decide (0 < Fd.lo l (IntKind.i64.wrap ((↑(List.map encS l).length : Int) - 1))), true),
                          (decide (Fd.lo l (IntKind.i64.wrap ((↑(List.map encS l).length : Int) - 1)) > 1000000000000000), true)] [2, 3, 3, 3, 3, 4, 4, 5, 5, 5, 5, 4, 4, 6, 7, 8, 9, 10, 11, 12, 10, 11, 12, 13, 10, 11, 12, 14] (by kernel_rfl) ⟨(decide_eq_false h0), (decide_eq_true h1), (Bool.eq_false_iff.2 h2), (decide_eq_true h3), (Bool.eq_false_iff.2 h4), (decide_eq_true h5), (decide_eq_true h6), (decide_eq_true h7), ?_, ?_, ?_, (decide_eq_true h8), (decide_eq_true h9), trivial⟩
                        all_goals first
                          | (rw [List.all_eq_true]; intro x hx; obtain ⟨c, _, rfl⟩ := List.mem_map.1 hx; rfl)
                          | (simp; done)
                          | (simp; omega)
                          | (rw [List.length_map] at *; simp only [decide_eq_true_eq, decide_eq_false_iff_not]; rw [i64in (by omega) (by omega)]; omega)
                          | (rw [List.length_map, i64in (by omega) (by omega), show ((l.length : Int) - 1) = ((l.length - 1 : Nat) : Int) by omega, Int.toNat_natCast, getD_map _ _ _ (by omega)]; simp [encS, fitP, fld, leafFits]; done)
                          | (simp [rooms, maxRoom]; omega)
                      try simp only [Bool.not_eq_true', decide_eq_false_iff_not] at *
                      first
                        | (exfalso; omega)
                        | exact gcast hr (rer_ok (gE_range (by omega)) (by omega) rfl)
                        | exact gcast hr (rer_ok (gE_empty (by omega) (by have := wsub (r := r) (b := b) (by omega); have := wadd (r := r) (b := b) (by omega); omega)) (by omega) rfl)
                        | (have y1 := wsub (r := r) (b := b) (by omega); have y2 := wadd (r := r) (b := b) (by omega); exact gcast hr (rok_ok (by simp) (gE_ok (by omega) (by omega)) (by omega) (by omega) (by first | exact e2.symm | (simp at *; omega))))
                    · skip
                      have hr : Runs T F 70 [.int .u64 key, .sl false (l.map encS), .int .u64 doc, .int .i64 r, .int .i64 b] ([]) (V.tup [V.sl ((true && (List.map encS l).isEmpty) && false) ([] ++ List.map encS l ++ [V.agg [V.int IntKind.i64 (↑(List.map encS l).length : Int), V.int IntKind.u64 doc, V.int IntKind.i64 (Fd.lo l (IntKind.i64.wrap ((↑(List.map encS l).length : Int) - 1))), V.int IntKind.i64 1000000000000000, V.int IntKind.u64 (P.mix (P.mix (P.mix (P.mix (P.mix (Fd.sg l (IntKind.i64.wrap ((↑(List.map encS l).length : Int) - 1))) (IntKind.u64.wrap (↑(List.map encS l).length : Int))) doc) (IntKind.u64.wrap (Fd.lo l (IntKind.i64.wrap ((↑(List.map encS l).length : Int) - 1))))) 1000000000000000) key)]]), V.int IntKind.i64 0], []) := by
                        refine Runs.way (F := F) (sh := Sh) (S := UM) (L := fun _ _ => .fail) UM_ok (fi := fi70) (by kernel_rfl) (LGood.none (by kernel_rfl)) [(decide ((↑(List.map encS l).length : Int) ≥ 1000), false),
                          (decide (r ≥ 0), true),
                          (!decide (r ≤ 1000000000000000), false),
                          (decide (b ≥ 0), true),
                          (!decide (b ≤ 1000000000000000), false),
                          (decide (IntKind.i64.wrap (r - b) < 0), true),
                          (decide (IntKind.i64.wrap (r + b) > 1000000000000000), true),
                          (decide ((↑(List.map encS l).length : Int) > 0), true),
                          (decide (0 ≤ IntKind.i64.wrap ((↑(List.map encS l).length : Int) - 1)), true),
                          (decide (IntKind.i64.wrap ((↑(List.map encS l).length : Int) - 1) < (↑(List.map encS l).length : Int)), true),
                          (((List.map encS l).getD (IntKind.i64.wrap ((↑(List.map encS l).length : Int) - 1)).toNat V.undef).cells.length == 5 && fitP [TK.int IntKind.i64, TK.int IntKind.u64, TK.int IntKind.i64, TK.int IntKind.i64, TK.int IntKind.u64] 0 ((List.map encS l).getD (IntKind.i64.wrap ((↑(List.map encS l).length : Int) - 1)).toNat V.undef), true),
                          (decide (0 < Fd.lo l (IntKind.i64.wrap ((↑(List.map encS l).length : Int) - 1))), true),
                          (decide (Fd.lo l (IntKind.i64.wrap ((↑(List.map encS l).length : Int) - 1)) > 1000000000000000), false),
                          (rooms (0 + (List.map encS l).length) 40, true),
                          (decide (0 + (List.map encS l).length < 4611686018427387904), true),
                          ((List.map encS l).all fun y => y.cells.length == 5, true),
                          (rooms (([] ++ List.map encS l).length + 1) 40, true),
                          (decide (([] ++ List.map encS l).length + 1 < 4611686018427387904), true)] [2, 3, 3, 3, 3, 4, 4, 5, 5, 5, 5, 4, 4, 6, 7, 8, 9, 10, 11, 12, 10, 11, 12, 13, 10, 11, 12, 14, 15, 16, 17, 18, 19, 0] (by kernel_rfl) ⟨(decide_eq_false h0), (decide_eq_true h1), (Bool.eq_false_iff.2 h2), (decide_eq_true h3), (Bool.eq_false_iff.2 h4), (decide_eq_true h5), (decide_eq_true h6), (decide_eq_true h7), ?_, ?_, ?_, (decide_eq_true h8), (decide_eq_false h9), ?_, ?_, ?_, ?_, ?_, trivial⟩
                        all_goals first
                          | (rw [List.all_eq_true]; intro x hx; obtain ⟨c, _, rfl⟩ := List.mem_map.1 hx; rfl)
                          | (simp; done)
                          | (simp; omega)
                          | (rw [List.length_map] at *; simp only [decide_eq_true_eq]; rw [i64in (by omega) (by omega)]; omega)
                          | (rw [List.length_map, i64in (by omega) (by omega), show ((l.length : Int) - 1) = ((l.length - 1 : Nat) : Int) by omega, Int.toNat_natCast, getD_map _ _ _ (by omega)]; simp [encS, fitP, fld, leafFits]; done)
                          | (simp [rooms, maxRoom]; omega)
                      try simp only [Bool.not_eq_true', decide_eq_false_iff_not] at *
                      first
                        | (exfalso; omega)
                        | exact gcast hr (rer_ok (gE_range (by omega)) (by omega) rfl)
                        | exact gcast hr (rer_ok (gE_empty (by omega) (by have := wsub (r := r) (b := b) (by omega); have := wadd (r := r) (b := b) (by omega); omega)) (by omega) rfl)
                        | (have y1 := wsub (r := r) (b := b) (by omega); have y2 := wadd (r := r) (b := b) (by omega); exact gcast hr (rok_ok (by simp) (gE_ok (by omega) (by omega)) (by omega) (by omega) (by first | exact e2.symm | (simp at *; omega))))
                  · skip
                    have hr : Runs T F 70 [.int .u64 key, .sl false (l.map encS), .int .u64 doc, .int .i64 r, .int .i64 b] ([]) (V.tup [V.sl ((true && (List.map encS l).isEmpty) && false) ([] ++ List.map encS l ++ [V.agg [V.int IntKind.i64 (↑(List.map encS l).length : Int), V.int IntKind.u64 doc, V.int IntKind.i64 0, V.int IntKind.i64 1000000000000000, V.int IntKind.u64 (P.mix (P.mix (P.mix (P.mix (P.mix (Fd.sg l (IntKind.i64.wrap ((↑(List.map encS l).length : Int) - 1))) (IntKind.u64.wrap (↑(List.map encS l).length : Int))) doc) 0) 1000000000000000) key)]]), V.int IntKind.i64 0], []) := by
                      refine Runs.way (F := F) (sh := Sh) (S := UM) (L := fun _ _ => .fail) UM_ok (fi := fi70) (by kernel_rfl) (LGood.none (by kernel_rfl)) [(decide ((↑(List.map encS l).length : Int) ≥ 1000), false),
                        (decide (r ≥ 0), true),
                        (!decide (r ≤ 1000000000000000), false),
                        (decide (b ≥ 0), true),
                        (!decide (b ≤ 1000000000000000), false),
                        (decide (IntKind.i64.wrap (r - b) < 0), true),
                        (decide (IntKind.i64.wrap (r + b) > 1000000000000000), true),
                        (decide ((↑(List.map encS l).length : Int) > 0), true),
                        (decide (0 ≤ IntKind.i64.wrap ((↑(List.map encS l).length : Int) - 1)), true),
                        (decide (IntKind.i64.wrap ((↑(List.map encS l).length : Int) - 1) < (↑(List.map encS l).length : Int)), true),
                        (((List.map encS l).getD (IntKind.i64.wrap ((↑(List.map encS l).length : Int) - 1)).toNat V.undef).cells.length == 5 && fitP [TK.int IntKind.i64, TK.int IntKind.u64, TK.int IntKind.i64, TK.int IntKind.i64, TK.int IntKind.u64] 0 ((List.map encS l).getD (IntKind.i64.wrap ((↑(List.map encS l).length : Int) - 1)).toNat V.undef), true),
                        (decide (0 < Fd.lo l (IntKind.i64.wrap ((↑(List.map encS l).length : Int) - 1))), false),
                        (rooms (0 + (List.map encS l).length) 40, true),
                        (decide (0 + (List.map encS l).length < 4611686018427387904), true),
                        ((List.map encS l).all fun y => y.cells.length == 5, true),
                        (rooms (([] ++ List.map encS l).length + 1) 40, true),
                        (decide (([] ++ List.map encS l).length + 1 < 4611686018427387904), true)] [2, 3, 3, 3, 3, 4, 4, 5, 5, 5, 5, 4, 4, 6, 7, 8, 9, 10, 11, 12, 10, 11, 12, 13, 1, 14, 15, 16, 17, 18, 0] (by kernel_rfl) ⟨(decide_eq_false h0), (decide_eq_true h1), (Bool.eq_false_iff.2 h2), (decide_eq_true h3), (Bool.eq_false_iff.2 h4), (decide_eq_true h5), (decide_eq_true h6), (decide_eq_true h7), ?_, ?_, ?_, (decide_eq_false h8), ?_, ?_, ?_, ?_, ?_, trivial⟩
                      all_goals first
                        | (rw [List.all_eq_true]; intro x hx; obtain ⟨c, _, rfl⟩ := List.mem_map.1 hx; rfl)
                        | (simp; done)
                        | (simp; omega)
                        | (rw [List.length_map] at *; simp only [decide_eq_true_eq]; rw [i64in (by omega) (by omega)]; omega)
                        | (rw [List.length_map, i64in (by omega) (by omega), show ((l.length : Int) - 1) = ((l.length - 1 : Nat) : Int) by omega, Int.toNat_natCast, getD_map _ _ _ (by omega)]; simp [encS, fitP, fld, leafFits]; done)
                        | (simp [rooms, maxRoom]; omega)
                    try simp only [Bool.not_eq_true', decide_eq_false_iff_not] at *
                    first
                      | (exfalso; omega)
                      | exact gcast hr (rer_ok (gE_range (by omega)) (by omega) rfl)
                      | exact gcast hr (rer_ok (gE_empty (by omega) (by have := wsub (r := r) (b := b) (by omega); have := wadd (r := r) (b := b) (by omega); omega)) (by omega) rfl)
                      | (have y1 := wsub (r := r) (b := b) (by omega); have y2 := wadd (r := r) (b := b) (by omega); exact gcast hr (rok_ok (by simp) (gE_ok (by omega) (by omega)) (by omega) (by omega) (by first | exact e2.symm | (simp at *; omega))))
                · skip
                  have hr : Runs T F 70 [.int .u64 key, .sl false (l.map encS), .int .u64 doc, .int .i64 r, .int .i64 b] ([]) (V.tup [V.sl ((true && (List.map encS l).isEmpty) && false) ([] ++ List.map encS l ++ [V.agg [V.int IntKind.i64 (↑(List.map encS l).length : Int), V.int IntKind.u64 doc, V.int IntKind.i64 0, V.int IntKind.i64 1000000000000000, V.int IntKind.u64 (P.mix (P.mix (P.mix (P.mix (P.mix (P.mix key 3) (IntKind.u64.wrap (↑(List.map encS l).length : Int))) doc) 0) 1000000000000000) key)]]), V.int IntKind.i64 0], []) := by
                    refine Runs.way (F := F) (sh := Sh) (S := UM) (L := fun _ _ => .fail) UM_ok (fi := fi70) (by kernel_rfl) (LGood.none (by kernel_rfl)) [(decide ((↑(List.map encS l).length : Int) ≥ 1000), false),
                      (decide (r ≥ 0), true),
                      (!decide (r ≤ 1000000000000000), false),
                      (decide (b ≥ 0), true),
                      (!decide (b ≤ 1000000000000000), false),
                      (decide (IntKind.i64.wrap (r - b) < 0), true),
                      (decide (IntKind.i64.wrap (r + b) > 1000000000000000), true),
                      (decide ((↑(List.map encS l).length : Int) > 0), false),
                      (rooms (0 + (List.map encS l).length) 40, true),
                      (decide (0 + (List.map encS l).length < 4611686018427387904), true),
                      ((List.map encS l).all fun y => y.cells.length == 5, true),
                      (rooms (([] ++ List.map encS l).length + 1) 40, true),
                      (decide (([] ++ List.map encS l).length + 1 < 4611686018427387904), true)] [2, 3, 3, 3, 3, 4, 4, 5, 5, 5, 5, 4, 4, 6, 7, 8, 9, 1, 10, 11, 12, 13, 14, 0] (by kernel_rfl) ⟨(decide_eq_false h0), (decide_eq_true h1), (Bool.eq_false_iff.2 h2), (decide_eq_true h3), (Bool.eq_false_iff.2 h4), (decide_eq_true h5), (decide_eq_true h6), (decide_eq_false h7), ?_, ?_, ?_, ?_, ?_, trivial⟩
                    all_goals first
                      | (rw [List.all_eq_true]; intro x hx; obtain ⟨c, _, rfl⟩ := List.mem_map.1 hx; rfl)
                      | (simp; done)
                      | (simp; omega)
                      | (rw [List.length_map] at *; simp only [decide_eq_true_eq, decide_eq_false_iff_not]; rw [i64in (by omega) (by omega)]; omega)
                      | (rw [List.length_map, i64in (by omega) (by omega), show ((l.length : Int) - 1) = ((l.length - 1 : Nat) : Int) by omega, Int.toNat_natCast, getD_map _ _ _ (by omega)]; simp [encS, fitP, fld, leafFits]; done)
                      | (simp [rooms, maxRoom]; omega)
                  try simp only [Bool.not_eq_true', decide_eq_false_iff_not] at *
                  first
                    | (exfalso; omega)
                    | exact gcast hr (rer_ok (gE_range (by omega)) (by omega) rfl)
                    | exact gcast hr (rer_ok (gE_empty (by omega) (by have := wsub (r := r) (b := b) (by omega); have := wadd (r := r) (b := b) (by omega); omega)) (by omega) rfl)
                    | (have y1 := wsub (r := r) (b := b) (by omega); have y2 := wadd (r := r) (b := b) (by omega); exact gcast hr (rok_ok (by simp) (gE_ok (by omega) (by omega)) (by omega) (by omega) (by first | exact e2.symm | (simp at *; omega))))
              · skip
                by_cases h7 : (↑(List.map encS l).length : Int) > 0
                · skip
                  by_cases h8 : 0 < Fd.lo l (IntKind.i64.wrap ((↑(List.map encS l).length : Int) - 1))
                  · skip
                    by_cases h9 : Fd.lo l (IntKind.i64.wrap ((↑(List.map encS l).length : Int) - 1)) > IntKind.i64.wrap (r + b)
                    · skip
                      have hr : Runs T F 70 [.int .u64 key, .sl false (l.map encS), .int .u64 doc, .int .i64 r, .int .i64 b] ([]) (V.tup [V.sl false (List.map encS l), V.int IntKind.i64 12], []) := by
                        refine Runs.way (F := F) (sh := Sh) (S := UM) (L := fun _ _ => .fail) UM_ok (fi := fi70) (by kernel_rfl) (LGood.none (by kernel_rfl)) [(decide ((↑(List.map encS l).length : Int) ≥ 1000), false),
                          (decide (r ≥ 0), true),
                          (!decide (r ≤ 1000000000000000), false),
                          (decide (b ≥ 0), true),
                          (!decide (b ≤ 1000000000000000), false),
                          (decide (IntKind.i64.wrap (r - b) < 0), true),
                          (decide (IntKind.i64.wrap (r + b) > 1000000000000000), false),
                          (decide ((↑(List.map encS l).length : Int) > 0), true),
                          (decide (0 ≤ IntKind.i64.wrap ((↑(List.map encS l).length : Int) - 1)), true),
                          (decide (IntKind.i64.wrap ((↑(List.map encS l).length : Int) - 1) < (↑(List.map encS l).length : Int)), true),
                          (((List.map encS l).getD (IntKind.i64.wrap ((↑(List.map encS l).length : Int) - 1)).toNat V.undef).cells.length == 5 && fitP [TK.int IntKind.i64, TK.int IntKind.u64, TK.int IntKind.i64, TK.int IntKind.i64, TK.int IntKind.u64] 0 ((List.map encS l).getD (IntKind.i64.wrap ((↑(List.map encS l).length : Int) - 1)).toNat V.undef), true),
                          (decide (0 < Fd.lo l (IntKind.i64.wrap ((↑(List.map encS l).length : Int) - 1))), true),
                          (decide (Fd.lo l (IntKind.i64.wrap ((↑(List.map encS l).length : Int) - 1)) > IntKind.i64.wrap (r + b)), true)] [2, 3, 3, 3, 3, 4, 4, 5, 5, 5, 5, 4, 4, 6, 7, 8, 9, 10, 11, 12, 10, 11, 12, 13, 10, 11, 12, 14] (by kernel_rfl) ⟨(decide_eq_false h0), (decide_eq_true h1), (Bool.eq_false_iff.2 h2), (decide_eq_true h3), (Bool.eq_false_iff.2 h4), (decide_eq_true h5), (decide_eq_false h6), (decide_eq_true h7), ?_, ?_, ?_, (decide_eq_true h8), (decide_eq_true h9), trivial⟩
                        all_goals first
                          | (rw [List.all_eq_true]; intro x hx; obtain ⟨c, _, rfl⟩ := List.mem_map.1 hx; rfl)
                          | (simp; done)
                          | (simp; omega)
                          | (rw [List.length_map] at *; simp only [decide_eq_true_eq]; rw [i64in (by omega) (by omega)]; omega)
                          | (rw [List.length_map, i64in (by omega) (by omega), show ((l.length : Int) - 1) = ((l.length - 1 : Nat) : Int) by omega, Int.toNat_natCast, getD_map _ _ _ (by omega)]; simp [encS, fitP, fld, leafFits]; done)
                          | (simp [rooms, maxRoom]; omega)
                      try simp only [Bool.not_eq_true', decide_eq_false_iff_not] at *
                      first
                        | (exfalso; omega)
                        | exact gcast hr (rer_ok (gE_range (by omega)) (by omega) rfl)
                        | exact gcast hr (rer_ok (gE_empty (by omega) (by have := wsub (r := r) (b := b) (by omega); have := wadd (r := r) (b := b) (by omega); omega)) (by omega) rfl)
                        | (have y1 := wsub (r := r) (b := b) (by omega); have y2 := wadd (r := r) (b := b) (by omega); exact gcast hr (rok_ok (by simp) (gE_ok (by omega) (by omega)) (by omega) (by omega) (by first | exact e2.symm | (simp at *; omega))))
                    · skip
                      have hr : Runs T F 70 [.int .u64 key, .sl false (l.map encS), .int .u64 doc, .int .i64 r, .int .i64 b] ([]) (V.tup [V.sl ((true && (List.map encS l).isEmpty) && false) ([] ++ List.map encS l ++ [V.agg [V.int IntKind.i64 (↑(List.map encS l).length : Int), V.int IntKind.u64 doc, V.int IntKind.i64 (Fd.lo l (IntKind.i64.wrap ((↑(List.map encS l).length : Int) - 1))), V.int IntKind.i64 (IntKind.i64.wrap (r + b)), V.int IntKind.u64 (Fd.sgn key (Fd.sg l (IntKind.i64.wrap ((↑(List.map encS l).length : Int) - 1))) (↑(List.map encS l).length : Int) doc (Fd.lo l (IntKind.i64.wrap ((↑(List.map encS l).length : Int) - 1))) (IntKind.i64.wrap (r + b)))]]), V.int IntKind.i64 0], []) := by
                        refine Runs.way (F := F) (sh := Sh) (S := UM) (L := fun _ _ => .fail) UM_ok (fi := fi70) (by kernel_rfl) (LGood.none (by kernel_rfl)) [(decide ((↑(List.map encS l).length : Int) ≥ 1000), false),
                          (decide (r ≥ 0), true),
                          (!decide (r ≤ 1000000000000000), false),
                          (decide (b ≥ 0), true),
                          (!decide (b ≤ 1000000000000000), false),
                          (decide (IntKind.i64.wrap (r - b) < 0), true),
                          (decide (IntKind.i64.wrap (r + b) > 1000000000000000), false),
                          (decide ((↑(List.map encS l).length : Int) > 0), true),
                          (decide (0 ≤ IntKind.i64.wrap ((↑(List.map encS l).length : Int) - 1)), true),
                          (decide (IntKind.i64.wrap ((↑(List.map encS l).length : Int) - 1) < (↑(List.map encS l).length : Int)), true),
                          (((List.map encS l).getD (IntKind.i64.wrap ((↑(List.map encS l).length : Int) - 1)).toNat V.undef).cells.length == 5 && fitP [TK.int IntKind.i64, TK.int IntKind.u64, TK.int IntKind.i64, TK.int IntKind.i64, TK.int IntKind.u64] 0 ((List.map encS l).getD (IntKind.i64.wrap ((↑(List.map encS l).length : Int) - 1)).toNat V.undef), true),
                          (decide (0 < Fd.lo l (IntKind.i64.wrap ((↑(List.map encS l).length : Int) - 1))), true),
                          (decide (Fd.lo l (IntKind.i64.wrap ((↑(List.map encS l).length : Int) - 1)) > IntKind.i64.wrap (r + b)), false),
                          (rooms (0 + (List.map encS l).length) 40, true),
                          (decide (0 + (List.map encS l).length < 4611686018427387904), true),
                          ((List.map encS l).all fun y => y.cells.length == 5, true),
                          (rooms (([] ++ List.map encS l).length + 1) 40, true),
                          (decide (([] ++ List.map encS l).length + 1 < 4611686018427387904), true)] [2, 3, 3, 3, 3, 4, 4, 5, 5, 5, 5, 4, 4, 6, 7, 8, 9, 10, 11, 12, 10, 11, 12, 13, 10, 11, 12, 14, 15, 16, 17, 18, 19, 0] (by kernel_rfl) ⟨(decide_eq_false h0), (decide_eq_true h1), (Bool.eq_false_iff.2 h2), (decide_eq_true h3), (Bool.eq_false_iff.2 h4), (decide_eq_true h5), (decide_eq_false h6), (decide_eq_true h7), ?_, ?_, ?_, (decide_eq_true h8), (decide_eq_false h9), ?_, ?_, ?_, ?_, ?_, trivial⟩
                        all_goals first
                          | (rw [List.all_eq_true]; intro x hx; obtain ⟨c, _, rfl⟩ := List.mem_map.1 hx; rfl)
                          | (simp; done)
                          | (simp; omega)
                          | (rw [List.length_map] at *; simp only [decide_eq_true_eq]; rw [i64in (by omega) (by omega)]; omega)
                          | (rw [List.length_map, i64in (by omega) (by omega), show ((l.length : Int) - 1) = ((l.length - 1 : Nat) : Int) by omega, Int.toNat_natCast, getD_map _ _ _ (by omega)]; simp [encS, fitP, fld, leafFits]; done)
                          | (simp [rooms, maxRoom]; omega)
                      try simp only [Bool.not_eq_true', decide_eq_false_iff_not] at *
                      first
                        | (exfalso; omega)
                        | exact gcast hr (rer_ok (gE_range (by omega)) (by omega) rfl)
                        | exact gcast hr (rer_ok (gE_empty (by omega) (by have := wsub (r := r) (b := b) (by omega); have := wadd (r := r) (b := b) (by omega); omega)) (by omega) rfl)
                        | (have y1 := wsub (r := r) (b := b) (by omega); have y2 := wadd (r := r) (b := b) (by omega); exact gcast hr (rok_ok (by simp) (gE_ok (by omega) (by omega)) (by omega) (by omega) (by first | exact e2.symm | (simp at *; omega))))
                  · skip
                    by_cases h9 : 0 > IntKind.i64.wrap (r + b)
                    · skip
                      have hr : Runs T F 70 [.int .u64 key, .sl false (l.map encS), .int .u64 doc, .int .i64 r, .int .i64 b] ([]) (V.tup [V.sl false (List.map encS l), V.int IntKind.i64 12], []) := by
                        refine Runs.way (F := F) (sh := Sh) (S := UM) (L := fun _ _ => .fail) UM_ok (fi := fi70) (by kernel_rfl) (LGood.none (by kernel_rfl)) [(decide ((↑(List.map encS l).length : Int) ≥ 1000), false),
                          (decide (r ≥ 0), true),
                          (!decide (r ≤ 1000000000000000), false),
                          (decide (b ≥ 0), true),
                          (!decide (b ≤ 1000000000000000), false),
                          (decide (IntKind.i64.wrap (r - b) < 0), true),
                          (decide (IntKind.i64.wrap (r + b) > 1000000000000000), false),
                          (decide ((↑(List.map encS l).length : Int) > 0), true),
                          (decide (0 ≤ IntKind.i64.wrap ((↑(List.map encS l).length : Int) - 1)), true),
                          (decide (IntKind.i64.wrap ((↑(List.map encS l).length : Int) - 1) < (↑(List.map encS l).length : Int)), true),
                          (((List.map encS l).getD (IntKind.i64.wrap ((↑(List.map encS l).length : Int) - 1)).toNat V.undef).cells.length == 5 && fitP [TK.int IntKind.i64, TK.int IntKind.u64, TK.int IntKind.i64, TK.int IntKind.i64, TK.int IntKind.u64] 0 ((List.map encS l).getD (IntKind.i64.wrap ((↑(List.map encS l).length : Int) - 1)).toNat V.undef), true),
                          (decide (0 < Fd.lo l (IntKind.i64.wrap ((↑(List.map encS l).length : Int) - 1))), false),
                          (decide (0 > IntKind.i64.wrap (r + b)), true)] [2, 3, 3, 3, 3, 4, 4, 5, 5, 5, 5, 4, 4, 6, 7, 8, 9, 10, 11, 12, 10, 11, 12, 13, 14] (by kernel_rfl) ⟨(decide_eq_false h0), (decide_eq_true h1), (Bool.eq_false_iff.2 h2), (decide_eq_true h3), (Bool.eq_false_iff.2 h4), (decide_eq_true h5), (decide_eq_false h6), (decide_eq_true h7), ?_, ?_, ?_, (decide_eq_false h8), (decide_eq_true h9), trivial⟩
                        all_goals first
                          | (rw [List.all_eq_true]; intro x hx; obtain ⟨c, _, rfl⟩ := List.mem_map.1 hx; rfl)
                          | (simp; done)
                          | (simp; omega)
                          | (rw [List.length_map] at *; simp only [decide_eq_true_eq]; rw [i64in (by omega) (by omega)]; omega)
                          | (rw [List.length_map, i64in (by omega) (by omega), show ((l.length : Int) - 1) = ((l.length - 1 : Nat) : Int) by omega, Int.toNat_natCast, getD_map _ _ _ (by omega)]; simp [encS, fitP, fld, leafFits]; done)
                          | (simp [rooms, maxRoom]; omega)
                      try simp only [Bool.not_eq_true', decide_eq_false_iff_not] at *
                      first
                        | (exfalso; omega)
                        | exact gcast hr (rer_ok (gE_range (by omega)) (by omega) rfl)
                        | exact gcast hr (rer_ok (gE_empty (by omega) (by have := wsub (r := r) (b := b) (by omega); have := wadd (r := r) (b := b) (by omega); omega)) (by omega) rfl)
                        | (have y1 := wsub (r := r) (b := b) (by omega); have y2 := wadd (r := r) (b := b) (by omega); exact gcast hr (rok_ok (by simp) (gE_ok (by omega) (by omega)) (by omega) (by omega) (by first | exact e2.symm | (simp at *; omega))))
                    · skip
                      have hr : Runs T F 70 [.int .u64 key, .sl false (l.map encS), .int .u64 doc, .int .i64 r, .int .i64 b] ([]) (V.tup [V.sl ((true && (List.map encS l).isEmpty) && false) ([] ++ List.map encS l ++ [V.agg [V.int IntKind.i64 (↑(List.map encS l).length : Int), V.int IntKind.u64 doc, V.int IntKind.i64 0, V.int IntKind.i64 (IntKind.i64.wrap (r + b)), V.int IntKind.u64 (P.mix (P.mix (P.mix (P.mix (P.mix (Fd.sg l (IntKind.i64.wrap ((↑(List.map encS l).length : Int) - 1))) (IntKind.u64.wrap (↑(List.map encS l).length : Int))) doc) 0) (IntKind.u64.wrap (IntKind.i64.wrap (r + b)))) key)]]), V.int IntKind.i64 0], []) := by
                        refine Runs.way (F := F) (sh := Sh) (S := UM) (L := fun _ _ => .fail) UM_ok (fi := fi70) (by kernel_rfl) (LGood.none (by kernel_rfl)) [(decide ((↑(List.map encS l).length : Int) ≥ 1000), false),
                          (decide (r ≥ 0), true),
                          (!decide (r ≤ 1000000000000000), false),
                          (decide (b ≥ 0), true),
                          (!decide (b ≤ 1000000000000000), false),
                          (decide (IntKind.i64.wrap (r - b) < 0), true),
                          (decide (IntKind.i64.wrap (r + b) > 1000000000000000), false),
                          (decide ((↑(List.map encS l).length : Int) > 0), true),
                          (decide (0 ≤ IntKind.i64.wrap ((↑(List.map encS l).length : Int) - 1)), true),
                          (decide (IntKind.i64.wrap ((↑(List.map encS l).length : Int) - 1) < (↑(List.map encS l).length : Int)), true),
                          (((List.map encS l).getD (IntKind.i64.wrap ((↑(List.map encS l).length : Int) - 1)).toNat V.undef).cells.length == 5 && fitP [TK.int IntKind.i64, TK.int IntKind.u64, TK.int IntKind.i64, TK.int IntKind.i64, TK.int IntKind.u64] 0 ((List.map encS l).getD (IntKind.i64.wrap ((↑(List.map encS l).length : Int) - 1)).toNat V.undef), true),
                          (decide (0 < Fd.lo l (IntKind.i64.wrap ((↑(List.map encS l).length : Int) - 1))), false),
                          (decide (0 > IntKind.i64.wrap (r + b)), false),
                          (rooms (0 + (List.map encS l).length) 40, true),
                          (decide (0 + (List.map encS l).length < 4611686018427387904), true),
                          ((List.map encS l).all fun y => y.cells.length == 5, true),
                          (rooms (([] ++ List.map encS l).length + 1) 40, true),
                          (decide (([] ++ List.map encS l).length + 1 < 4611686018427387904), true)] [2, 3, 3, 3, 3, 4, 4, 5, 5, 5, 5, 4, 4, 6, 7, 8, 9, 10, 11, 12, 10, 11, 12, 13, 14, 15, 16, 17, 18, 19, 0] (by kernel_rfl) ⟨(decide_eq_false h0), (decide_eq_true h1), (Bool.eq_false_iff.2 h2), (decide_eq_true h3), (Bool.eq_false_iff.2 h4), (decide_eq_true h5), (decide_eq_false h6), (decide_eq_true h7), ?_, ?_, ?_, (decide_eq_false h8), (decide_eq_false h9), ?_, ?_, ?_, ?_, ?_, trivial⟩
                        all_goals first
                          | (rw [List.all_eq_true]; intro x hx; obtain ⟨c, _, rfl⟩ := List.mem_map.1 hx; rfl)
                          | (simp; done)
                          | (simp; omega)
                          | (rw [List.length_map] at *; simp only [decide_eq_true_eq]; rw [i64in (by omega) (by omega)]; omega)
                          | (rw [List.length_map, i64in (by omega) (by omega), show ((l.length : Int) - 1) = ((l.length - 1 : Nat) : Int) by omega, Int.toNat_natCast, getD_map _ _ _ (by omega)]; simp [encS, fitP, fld, leafFits]; done)
                          | (simp [rooms, maxRoom]; omega)
                      try simp only [Bool.not_eq_true', decide_eq_false_iff_not] at *
                      first
                        | (exfalso; omega)
                        | exact gcast hr (rer_ok (gE_range (by omega)) (by omega) rfl)
                        | exact gcast hr (rer_ok (gE_empty (by omega) (by have := wsub (r := r) (b := b) (by omega); have := wadd (r := r) (b := b) (by omega); omega)) (by omega) rfl)
                        | (have y1 := wsub (r := r) (b := b) (by omega); have y2 := wadd (r := r) (b := b) (by omega); exact gcast hr (rok_ok (by simp) (gE_ok (by omega) (by omega)) (by omega) (by omega) (by first | exact e2.symm | (simp at *; omega))))
                · skip
                  by_cases h8 : 0 > IntKind.i64.wrap (r + b)
                  · skip
                    have hr : Runs T F 70 [.int .u64 key, .sl false (l.map encS), .int .u64 doc, .int .i64 r, .int .i64 b] ([]) (V.tup [V.sl false (List.map encS l), V.int IntKind.i64 12], []) := by
                      refine Runs.way (F := F) (sh := Sh) (S := UM) (L := fun _ _ => .fail) UM_ok (fi := fi70) (by kernel_rfl) (LGood.none (by kernel_rfl)) [(decide ((↑(List.map encS l).length : Int) ≥ 1000), false),
                        (decide (r ≥ 0), true),
                        (!decide (r ≤ 1000000000000000), false),
                        (decide (b ≥ 0), true),
                        (!decide (b ≤ 1000000000000000), false),
                        (decide (IntKind.i64.wrap (r - b) < 0), true),
                        (decide (IntKind.i64.wrap (r + b) > 1000000000000000), false),
                        (decide ((↑(List.map encS l).length : Int) > 0), false),
                        (decide (0 > IntKind.i64.wrap (r + b)), true)] [2, 3, 3, 3, 3, 4, 4, 5, 5, 5, 5, 4, 4, 6, 7, 8, 9, 10] (by kernel_rfl) ⟨(decide_eq_false h0), (decide_eq_true h1), (Bool.eq_false_iff.2 h2), (decide_eq_true h3), (Bool.eq_false_iff.2 h4), (decide_eq_true h5), (decide_eq_false h6), (decide_eq_false h7), (decide_eq_true h8), trivial⟩
                      all_goals first
                        | (rw [List.all_eq_true]; intro x hx; obtain ⟨c, _, rfl⟩ := List.mem_map.1 hx; rfl)
                        | (simp; done)
                        | (simp; omega)
                        | (rw [List.length_map] at *; simp only [decide_eq_true_eq, decide_eq_false_iff_not]; rw [i64in (by omega) (by omega)]; omega)
                        | (rw [List.length_map, i64in (by omega) (by omega), show ((l.length : Int) - 1) = ((l.length - 1 : Nat) : Int) by omega, Int.toNat_natCast, getD_map _ _ _ (by omega)]; simp [encS, fitP, fld, leafFits]; done)
                        | (simp [rooms, maxRoom]; omega)
                    try simp only [Bool.not_eq_true', decide_eq_false_iff_not] at *
                    first
                      | (exfalso; omega)
                      | exact gcast hr (rer_ok (gE_range (by omega)) (by omega) rfl)
                      | exact gcast hr (rer_ok (gE_empty (by omega) (by have := wsub (r := r) (b := b) (by omega); have := wadd (r := r) (b := b) (by omega); omega)) (by omega) rfl)
                      | (have y1 := wsub (r := r) (b := b) (by omega); have y2 := wadd (r := r) (b := b) (by omega); exact gcast hr (rok_ok (by simp) (gE_ok (by omega) (by omega)) (by omega) (by omega) (by first | exact e2.symm | (simp at *; omega))))
                  · skip
                    have hr : Runs T F 70 [.int .u64 key, .sl false (l.map encS), .int .u64 doc, .int .i64 r, .int .i64 b] ([]) (V.tup [V.sl ((true && (List.map encS l).isEmpty) && false) ([] ++ List.map encS l ++ [V.agg [V.int IntKind.i64 (↑(List.map encS l).length : Int), V.int IntKind.u64 doc, V.int IntKind.i64 0, V.int IntKind.i64 (IntKind.i64.wrap (r + b)), V.int IntKind.u64 (P.mix (P.mix (P.mix (P.mix (P.mix (P.mix key 3) (IntKind.u64.wrap (↑(List.map encS l).length : Int))) doc) 0) (IntKind.u64.wrap (IntKind.i64.wrap (r + b)))) key)]]), V.int IntKind.i64 0], []) := by
                      refine Runs.way (F := F) (sh := Sh) (S := UM) (L := fun _ _ => .fail) UM_ok (fi := fi70) (by kernel_rfl) (LGood.none (by kernel_rfl)) [(decide ((↑(List.map encS l).length : Int) ≥ 1000), false),
                        (decide (r ≥ 0), true),
                        (!decide (r ≤ 1000000000000000), false),
                        (decide (b ≥ 0), true),
                        (!decide (b ≤ 1000000000000000), false),
                        (decide (IntKind.i64.wrap (r - b) < 0), true),
                        (decide (IntKind.i64.wrap (r + b) > 1000000000000000), false),
                        (decide ((↑(List.map encS l).length : Int) > 0), false),
                        (decide (0 > IntKind.i64.wrap (r + b)), false),
                        (rooms (0 + (List.map encS l).length) 40, true),
                        (decide (0 + (List.map encS l).length < 4611686018427387904), true),
                        ((List.map encS l).all fun y => y.cells.length == 5, true),
                        (rooms (([] ++ List.map encS l).length + 1) 40, true),
                        (decide (([] ++ List.map encS l).length + 1 < 4611686018427387904), true)] [2, 3, 3, 3, 3, 4, 4, 5, 5, 5, 5, 4, 4, 6, 7, 8, 9, 10, 11, 12, 13, 14, 15, 0] (by kernel_rfl) ⟨(decide_eq_false h0), (decide_eq_true h1), (Bool.eq_false_iff.2 h2), (decide_eq_true h3), (Bool.eq_false_iff.2 h4), (decide_eq_true h5), (decide_eq_false h6), (decide_eq_false h7), (decide_eq_false h8), ?_, ?_, ?_, ?_, ?_, trivial⟩
                      all_goals first
                        | (rw [List.all_eq_true]; intro x hx; obtain ⟨c, _, rfl⟩ := List.mem_map.1 hx; rfl)
                        | (simp; done)
                        | (simp; omega)
                        | (rw [List.length_map] at *; simp only [decide_eq_true_eq, decide_eq_false_iff_not]; rw [i64in (by omega) (by omega)]; omega)
                        | (rw [List.length_map, i64in (by omega) (by omega), show ((l.length : Int) - 1) = ((l.length - 1 : Nat) : Int) by omega, Int.toNat_natCast, getD_map _ _ _ (by omega)]; simp [encS, fitP, fld, leafFits]; done)
                        | (simp [rooms, maxRoom]; omega)
                    try simp only [Bool.not_eq_true', decide_eq_false_iff_not] at *
                    first
                      | (exfalso; omega)
                      | exact gcast hr (rer_ok (gE_range (by omega)) (by omega) rfl)
                      | exact gcast hr (rer_ok (gE_empty (by omega) (by have := wsub (r := r) (b := b) (by omega); have := wadd (r := r) (b := b) (by omega); omega)) (by omega) rfl)
                      | (have y1 := wsub (r := r) (b := b) (by omega); have y2 := wadd (r := r) (b := b) (by omega); exact gcast hr (rok_ok (by simp) (gE_ok (by omega) (by omega)) (by omega) (by omega) (by first | exact e2.symm | (simp at *; omega))))
            · skip
              by_cases h6 : IntKind.i64.wrap (r + b) > 1000000000000000
              · skip
                by_cases h7 : (↑(List.map encS l).length : Int) > 0
                · skip
                  by_cases h8 : IntKind.i64.wrap (r - b) < Fd.lo l (IntKind.i64.wrap ((↑(List.map encS l).length : Int) - 1))
                  · skip
                    by_cases h9 : Fd.lo l (IntKind.i64.wrap ((↑(List.map encS l).length : Int) - 1)) > 1000000000000000
                    · skip
                      have hr : Runs T F 70 [.int .u64 key, .sl false (l.map encS), .int .u64 doc, .int .i64 r, .int .i64 b] ([]) (V.tup [V.sl false (List.map encS l), V.int IntKind.i64 12], []) := by
                        refine Runs.way (F := F) (sh := Sh) (S := UM) (L := fun _ _ => .fail) UM_ok (fi := fi70) (by kernel_rfl) (LGood.none (by kernel_rfl)) [(decide ((↑(List.map encS l).length : Int) ≥ 1000), false),
                          (decide (r ≥ 0), true),
                          (!decide (r ≤ 1000000000000000), false),
                          (decide (b ≥ 0), true),
                          (!decide (b ≤ 1000000000000000), false),
                          (decide (IntKind.i64.wrap (r - b) < 0), false),
                          (decide (IntKind.i64.wrap (r + b) > 1000000000000000), true),
                          (decide ((↑(List.map encS l).length : Int) > 0), true),
                          (decide (0 ≤ IntKind.i64.wrap ((↑(List.map encS l).length : Int) - 1)), true),
                          (decide (IntKind.i64.wrap ((↑(List.map encS l).length : Int) - 1) < (↑(List.map encS l).length : Int)), true),
                          (((List.map encS l).getD (IntKind.i64.wrap ((↑(List.map encS l).length : Int) - 1)).toNat V.undef).cells.length == 5 && fitP [TK.int IntKind.i64, TK.int IntKind.u64, TK.int IntKind.i64, TK.int IntKind.i64, TK.int IntKind.u64] 0 ((List.map encS l).getD (IntKind.i64.wrap ((↑(List.map encS l).length : Int) - 1)).toNat V.undef), true),
                          (decide (IntKind.i64.wrap (r - b) < Fd.lo l (IntKind.i64.wrap ((↑(List.map encS l).length : Int) - 1))), true),
                          (decide (Fd.lo l (IntKind.i64.wrap ((↑(List.map encS l).length : Int) - 1)) > 1000000000000000), true)] [2, 3, 3, 3, 3, 4, 4, 5, 5, 5, 5, 4, 4, 6, 7, 8, 9, 10, 11, 12, 10, 11, 12, 13, 10, 11, 12, 14] (by kernel_rfl) ⟨(decide_eq_false h0), (decide_eq_true h1), (Bool.eq_false_iff.2 h2), (decide_eq_true h3), (Bool.eq_false_iff.2 h4), (decide_eq_false h5), (decide_eq_true h6), (decide_eq_true h7), ?_, ?_, ?_, (decide_eq_true h8), (decide_eq_true h9), trivial⟩
                        all_goals first
                          | (rw [List.all_eq_true]; intro x hx; obtain ⟨c, _, rfl⟩ := List.mem_map.1 hx; rfl)
                          | (simp; done)
                          | (simp; omega)
                          | (rw [List.length_map] at *; simp only [decide_eq_true_eq, decide_eq_false_iff_not]; rw [i64in (by omega) (by omega)]; omega)
                          | (rw [List.length_map, i64in (by omega) (by omega), show ((l.length : Int) - 1) = ((l.length - 1 : Nat) : Int) by omega, Int.toNat_natCast, getD_map _ _ _ (by omega)]; simp [encS, fitP, fld, leafFits]; done)
                          | (simp [rooms, maxRoom]; omega)
                      try simp only [Bool.not_eq_true', decide_eq_false_iff_not] at *
                      first
                        | (exfalso; omega)
                        | exact gcast hr (rer_ok (gE_range (by omega)) (by omega) rfl)
                        | exact gcast hr (rer_ok (gE_empty (by omega) (by have := wsub (r := r) (b := b) (by omega); have := wadd (r := r) (b := b) (by omega); omega)) (by omega) rfl)
                        | (have y1 := wsub (r := r) (b := b) (by omega); have y2 := wadd (r := r) (b := b) (by omega); exact gcast hr (rok_ok (by simp) (gE_ok (by omega) (by omega)) (by omega) (by omega) (by first | exact e2.symm | (simp at *; omega))))
                    · skip
                      have hr : Runs T F 70 [.int .u64 key, .sl false (l.map encS), .int .u64 doc, .int .i64 r, .int .i64 b] ([]) (V.tup [V.sl ((true && (List.map encS l).isEmpty) && false) ([] ++ List.map encS l ++ [V.agg [V.int IntKind.i64 (↑(List.map encS l).length : Int), V.int IntKind.u64 doc, V.int IntKind.i64 (Fd.lo l (IntKind.i64.wrap ((↑(List.map encS l).length : Int) - 1))), V.int IntKind.i64 1000000000000000, V.int IntKind.u64 (P.mix (P.mix (P.mix (P.mix (P.mix (Fd.sg l (IntKind.i64.wrap ((↑(List.map encS l).length : Int) - 1))) (IntKind.u64.wrap (↑(List.map encS l).length : Int))) doc) (IntKind.u64.wrap (Fd.lo l (IntKind.i64.wrap ((↑(List.map encS l).length : Int) - 1))))) 1000000000000000) key)]]), V.int IntKind.i64 0], []) := by
                        refine Runs.way (F := F) (sh := Sh) (S := UM) (L := fun _ _ => .fail) UM_ok (fi := fi70) (by kernel_rfl) (LGood.none (by kernel_rfl)) [(decide ((↑(List.map encS l).length : Int) ≥ 1000), false),
                          (decide (r ≥ 0), true),
                          (!decide (r ≤ 1000000000000000), false),
                          (decide (b ≥ 0), true),
                          (!decide (b ≤ 1000000000000000), false),
                          (decide (IntKind.i64.wrap (r - b) < 0), false),
                          (decide (IntKind.i64.wrap (r + b) > 1000000000000000), true),
                          (decide ((↑(List.map encS l).length : Int) > 0), true),
                          (decide (0 ≤ IntKind.i64.wrap ((↑(List.map encS l).length : Int) - 1)), true),
                          (decide (IntKind.i64.wrap ((↑(List.map encS l).length : Int) - 1) < (↑(List.map encS l).length : Int)), true),
                          (((List.map encS l).getD (IntKind.i64.wrap ((↑(List.map encS l).length : Int) - 1)).toNat V.undef).cells.length == 5 && fitP [TK.int IntKind.i64, TK.int IntKind.u64, TK.int IntKind.i64, TK.int IntKind.i64, TK.int IntKind.u64] 0 ((List.map encS l).getD (IntKind.i64.wrap ((↑(List.map encS l).length : Int) - 1)).toNat V.undef), true),
                          (decide (IntKind.i64.wrap (r - b) < Fd.lo l (IntKind.i64.wrap ((↑(List.map encS l).length : Int) - 1))), true),
                          (decide (Fd.lo l (IntKind.i64.wrap ((↑(List.map encS l).length : Int) - 1)) > 1000000000000000), false),
                          (rooms (0 + (List.map encS l).length) 40, true),
                          (decide (0 + (List.map encS l).length < 4611686018427387904), true),
                          ((List.map encS l).all fun y => y.cells.length == 5, true),
                          (rooms (([] ++ List.map encS l).length + 1) 40, true),
                          (decide (([] ++ List.map encS l).length + 1 < 4611686018427387904), true)] [2, 3, 3, 3, 3, 4, 4, 5, 5, 5, 5, 4, 4, 6, 7, 8, 9, 10, 11, 12, 10, 11, 12, 13, 10, 11, 12, 14, 15, 16, 17, 18, 19, 0] (by kernel_rfl) ⟨(decide_eq_false h0), (decide_eq_true h1), (Bool.eq_false_iff.2 h2), (decide_eq_true h3), (Bool.eq_false_iff.2 h4), (decide_eq_false h5), (decide_eq_true h6), (decide_eq_true h7), ?_, ?_, ?_, (decide_eq_true h8), (decide_eq_false h9), ?_, ?_, ?_, ?_, ?_, trivial⟩
                        all_goals first
                          | (rw [List.all_eq_true]; intro x hx; obtain ⟨c, _, rfl⟩ := List.mem_map.1 hx; rfl)
                          | (simp; done)
                          | (simp; omega)
                          | (rw [List.length_map] at *; simp only [decide_eq_true_eq]; rw [i64in (by omega) (by omega)]; omega)
                          | (rw [List.length_map, i64in (by omega) (by omega), show ((l.length : Int) - 1) = ((l.length - 1 : Nat) : Int) by omega, Int.toNat_natCast, getD_map _ _ _ (by omega)]; simp [encS, fitP, fld, leafFits]; done)
                          | (simp [rooms, maxRoom]; omega)
                      try simp only [Bool.not_eq_true', decide_eq_false_iff_not] at *
                      first
                        | (exfalso; omega)
                        | exact gcast hr (rer_ok (gE_range (by omega)) (by omega) rfl)
                        | exact gcast hr (rer_ok (gE_empty (by omega) (by have := wsub (r := r) (b := b) (by omega); have := wadd (r := r) (b := b) (by omega); omega)) (by omega) rfl)
                        | (have y1 := wsub (r := r) (b := b) (by omega); have y2 := wadd (r := r) (b := b) (by omega); exact gcast hr (rok_ok (by simp) (gE_ok (by omega) (by omega)) (by omega) (by omega) (by first | exact e2.symm | (simp at *; omega))))
                  · skip
                    by_cases h9 : IntKind.i64.wrap (r - b) > 1000000000000000
                    · skip
                      have hr : Runs T F 70 [.int .u64 key, .sl false (l.map encS), .int .u64 doc, .int .i64 r, .int .i64 b] ([]) (V.tup [V.sl false (List.map encS l), V.int IntKind.i64 12], []) := by
                        refine Runs.way (F := F) (sh := Sh) (S := UM) (L := fun _ _ => .fail) UM_ok (fi := fi70) (by kernel_rfl) (LGood.none (by kernel_rfl)) [(decide ((↑(List.map encS l).length : Int) ≥ 1000), false),
                          (decide (r ≥ 0), true),
                          (!decide (r ≤ 1000000000000000), false),
                          (decide (b ≥ 0), true),
                          (!decide (b ≤ 1000000000000000), false),
                          (decide (IntKind.i64.wrap (r - b) < 0), false),
                          (decide (IntKind.i64.wrap (r + b) > 1000000000000000), true),
                          (decide ((↑(List.map encS l).length : Int) > 0), true),
                          (decide (0 ≤ IntKind.i64.wrap ((↑(List.map encS l).length : Int) - 1)), true),
                          (decide (IntKind.i64.wrap ((↑(List.map encS l).length : Int) - 1) < (↑(List.map encS l).length : Int)), true),
                          (((List.map encS l).getD (IntKind.i64.wrap ((↑(List.map encS l).length : Int) - 1)).toNat V.undef).cells.length == 5 && fitP [TK.int IntKind.i64, TK.int IntKind.u64, TK.int IntKind.i64, TK.int IntKind.i64, TK.int IntKind.u64] 0 ((List.map encS l).getD (IntKind.i64.wrap ((↑(List.map encS l).length : Int) - 1)).toNat V.undef), true),
                          (decide (IntKind.i64.wrap (r - b) < Fd.lo l (IntKind.i64.wrap ((↑(List.map encS l).length : Int) - 1))), false),
                          (decide (IntKind.i64.wrap (r - b) > 1000000000000000), true)] [2, 3, 3, 3, 3, 4, 4, 5, 5, 5, 5, 4, 4, 6, 7, 8, 9, 10, 11, 12, 10, 11, 12, 13, 14] (by kernel_rfl) ⟨(decide_eq_false h0), (decide_eq_true h1), (Bool.eq_false_iff.2 h2), (decide_eq_true h3), (Bool.eq_false_iff.2 h4), (decide_eq_false h5), (decide_eq_true h6), (decide_eq_true h7), ?_, ?_, ?_, (decide_eq_false h8), (decide_eq_true h9), trivial⟩
                        all_goals first
                          | (rw [List.all_eq_true]; intro x hx; obtain ⟨c, _, rfl⟩ := List.mem_map.1 hx; rfl)
                          | (simp; done)
                          | (simp; omega)
                          | (rw [List.length_map] at *; simp only [decide_eq_true_eq]; rw [i64in (by omega) (by omega)]; omega)
                          | (rw [List.length_map, i64in (by omega) (by omega), show ((l.length : Int) - 1) = ((l.length - 1 : Nat) : Int) by omega, Int.toNat_natCast, getD_map _ _ _ (by omega)]; simp [encS, fitP, fld, leafFits]; done)
                          | (simp [rooms, maxRoom]; omega)
                      try simp only [Bool.not_eq_true', decide_eq_false_iff_not] at *
                      first
                        | (exfalso; omega)
                        | exact gcast hr (rer_ok (gE_range (by omega)) (by omega) rfl)
                        | exact gcast hr (rer_ok (gE_empty (by omega) (by have := wsub (r := r) (b := b) (by omega); have := wadd (r := r) (b := b) (by omega); omega)) (by omega) rfl)
                        | (have y1 := wsub (r := r) (b := b) (by omega); have y2 := wadd (r := r) (b := b) (by omega); exact gcast hr (rok_ok (by simp) (gE_ok (by omega) (by omega)) (by omega) (by omega) (by first | exact e2.symm | (simp at *; omega))))
                    · skip
                      have hr : Runs T F 70 [.int .u64 key, .sl false (l.map encS), .int .u64 doc, .int .i64 r, .int .i64 b] ([]) (V.tup [V.sl ((true && (List.map encS l).isEmpty) && false) ([] ++ List.map encS l ++ [V.agg [V.int IntKind.i64 (↑(List.map encS l).length : Int), V.int IntKind.u64 doc, V.int IntKind.i64 (IntKind.i64.wrap (r - b)), V.int IntKind.i64 1000000000000000, V.int IntKind.u64 (P.mix (P.mix (P.mix (P.mix (P.mix (Fd.sg l (IntKind.i64.wrap ((↑(List.map encS l).length : Int) - 1))) (IntKind.u64.wrap (↑(List.map encS l).length : Int))) doc) (IntKind.u64.wrap (IntKind.i64.wrap (r - b)))) 1000000000000000) key)]]), V.int IntKind.i64 0], []) := by
                        refine Runs.way (F := F) (sh := Sh) (S := UM) (L := fun _ _ => .fail) UM_ok (fi := fi70) (by kernel_rfl) (LGood.none (by kernel_rfl)) [(decide ((↑(List.map encS l).length : Int) ≥ 1000), false),
                          (decide (r ≥ 0), true),
                          (!decide (r ≤ 1000000000000000), false),
                          (decide (b ≥ 0), true),
                          (!decide (b ≤ 1000000000000000), false),
                          (decide (IntKind.i64.wrap (r - b) < 0), false),
                          (decide (IntKind.i64.wrap (r + b) > 1000000000000000), true),
                          (decide ((↑(List.map encS l).length : Int) > 0), true),
                          (decide (0 ≤ IntKind.i64.wrap ((↑(List.map encS l).length : Int) - 1)), true),
                          (decide (IntKind.i64.wrap ((↑(List.map encS l).length : Int) - 1) < (↑(List.map encS l).length : Int)), true),
                          (((List.map encS l).getD (IntKind.i64.wrap ((↑(List.map encS l).length : Int) - 1)).toNat V.undef).cells.length == 5 && fitP [TK.int IntKind.i64, TK.int IntKind.u64, TK.int IntKind.i64, TK.int IntKind.i64, TK.int IntKind.u64] 0 ((List.map encS l).getD (IntKind.i64.wrap ((↑(List.map encS l).length : Int) - 1)).toNat V.undef), true),
                          (decide (IntKind.i64.wrap (r - b) < Fd.lo l (IntKind.i64.wrap ((↑(List.map encS l).length : Int) - 1))), false),
                          (decide (IntKind.i64.wrap (r - b) > 1000000000000000), false),
                          (rooms (0 + (List.map encS l).length) 40, true),
                          (decide (0 + (List.map encS l).length < 4611686018427387904), true),
                          ((List.map encS l).all fun y => y.cells.length == 5, true),
                          (rooms (([] ++ List.map encS l).length + 1) 40, true),
                          (decide (([] ++ List.map encS l).length + 1 < 4611686018427387904), true)] [2, 3, 3, 3, 3, 4, 4, 5, 5, 5, 5, 4, 4, 6, 7, 8, 9, 10, 11, 12, 10, 11, 12, 13, 14, 15, 16, 17, 18, 19, 0] (by kernel_rfl) ⟨(decide_eq_false h0), (decide_eq_true h1), (Bool.eq_false_iff.2 h2), (decide_eq_true h3), (Bool.eq_false_iff.2 h4), (decide_eq_false h5), (decide_eq_true h6), (decide_eq_true h7), ?_, ?_, ?_, (decide_eq_false h8), (decide_eq_false h9), ?_, ?_, ?_, ?_, ?_, trivial⟩
                        all_goals first
                          | (rw [List.all_eq_true]; intro x hx; obtain ⟨c, _, rfl⟩ := List.mem_map.1 hx; rfl)
                          | (simp; done)
                          | (simp; omega)
                          | (rw [List.length_map] at *; simp only [decide_eq_true_eq]; rw [i64in (by omega) (by omega)]; omega)
                          | (rw [List.length_map, i64in (by omega) (by omega), show ((l.length : Int) - 1) = ((l.length - 1 : Nat) : Int) by omega, Int.toNat_natCast, getD_map _ _ _ (by omega)]; simp [encS, fitP, fld, leafFits]; done)
                          | (simp [rooms, maxRoom]; omega)
                      try simp only [Bool.not_eq_true', decide_eq_false_iff_not] at *
                      first
                        | (exfalso; omega)
                        | exact gcast hr (rer_ok (gE_range (by omega)) (by omega) rfl)
                        | exact gcast hr (rer_ok (gE_empty (by omega) (by have := wsub (r := r) (b := b) (by omega); have := wadd (r := r) (b := b) (by omega); omega)) (by omega) rfl)
                        | (have y1 := wsub (r := r) (b := b) (by omega); have y2 := wadd (r := r) (b := b) (by omega); exact gcast hr (rok_ok (by simp) (gE_ok (by omega) (by omega)) (by omega) (by omega) (by first | exact e2.symm | (simp at *; omega))))
                · skip
                  by_cases h8 : IntKind.i64.wrap (r - b) > 1000000000000000
                  · skip
                    have hr : Runs T F 70 [.int .u64 key, .sl false (l.map encS), .int .u64 doc, .int .i64 r, .int .i64 b] ([]) (V.tup [V.sl false (List.map encS l), V.int IntKind.i64 12], []) := by
                      refine Runs.way (F := F) (sh := Sh) (S := UM) (L := fun _ _ => .fail) UM_ok (fi := fi70) (by kernel_rfl) (LGood.none (by kernel_rfl)) [(decide ((↑(List.map encS l).length : Int) ≥ 1000), false),
                        (decide (r ≥ 0), true),
                        (!decide (r ≤ 1000000000000000), false),
                        (decide (b ≥ 0), true),
                        (!decide (b ≤ 1000000000000000), false),
                        (decide (IntKind.i64.wrap (r - b) < 0), false),
                        (decide (IntKind.i64.wrap (r + b) > 1000000000000000), true),
                        (decide ((↑(List.map encS l).length : Int) > 0), false),
                        (decide (IntKind.i64.wrap (r - b) > 1000000000000000), true)] [2, 3, 3, 3, 3, 4, 4, 5, 5, 5, 5, 4, 4, 6, 7, 8, 9, 10] (by kernel_rfl) ⟨(decide_eq_false h0), (decide_eq_true h1), (Bool.eq_false_iff.2 h2), (decide_eq_true h3), (Bool.eq_false_iff.2 h4), (decide_eq_false h5), (decide_eq_true h6), (decide_eq_false h7), (decide_eq_true h8), trivial⟩
                      all_goals first
                        | (rw [List.all_eq_true]; intro x hx; obtain ⟨c, _, rfl⟩ := List.mem_map.1 hx; rfl)
                        | (simp; done)
                        | (simp; omega)
                        | (rw [List.length_map] at *; simp only [decide_eq_true_eq, decide_eq_false_iff_not]; rw [i64in (by omega) (by omega)]; omega)
                        | (rw [List.length_map, i64in (by omega) (by omega), show ((l.length : Int) - 1) = ((l.length - 1 : Nat) : Int) by omega, Int.toNat_natCast, getD_map _ _ _ (by omega)]; simp [encS, fitP, fld, leafFits]; done)
                        | (simp [rooms, maxRoom]; omega)
                    try simp only [Bool.not_eq_true', decide_eq_false_iff_not] at *
                    first
                      | (exfalso; omega)
                      | exact gcast hr (rer_ok (gE_range (by omega)) (by omega) rfl)
                      | exact gcast hr (rer_ok (gE_empty (by omega) (by have := wsub (r := r) (b := b) (by omega); have := wadd (r := r) (b := b) (by omega); omega)) (by omega) rfl)
                      | (have y1 := wsub (r := r) (b := b) (by omega); have y2 := wadd (r := r) (b := b) (by omega); exact gcast hr (rok_ok (by simp) (gE_ok (by omega) (by omega)) (by omega) (by omega) (by first | exact e2.symm | (simp at *; omega))))
                  · skip
                    have hr : Runs T F 70 [.int .u64 key, .sl false (l.map encS), .int .u64 doc, .int .i64 r, .int .i64 b] ([]) (V.tup [V.sl ((true && (List.map encS l).isEmpty) && false) ([] ++ List.map encS l ++ [V.agg [V.int IntKind.i64 (↑(List.map encS l).length : Int), V.int IntKind.u64 doc, V.int IntKind.i64 (IntKind.i64.wrap (r - b)), V.int IntKind.i64 1000000000000000, V.int IntKind.u64 (P.mix (P.mix (P.mix (P.mix (P.mix (P.mix key 3) (IntKind.u64.wrap (↑(List.map encS l).length : Int))) doc) (IntKind.u64.wrap (IntKind.i64.wrap (r - b)))) 1000000000000000) key)]]), V.int IntKind.i64 0], []) := by
                      refine Runs.way (F := F) (sh := Sh) (S := UM) (L := fun _ _ => .fail) UM_ok (fi := fi70) (by kernel_rfl) (LGood.none (by kernel_rfl)) [(decide ((↑(List.map encS l).length : Int) ≥ 1000), false),
                        (decide (r ≥ 0), true),
                        (!decide (r ≤ 1000000000000000), false),
                        (decide (b ≥ 0), true),
                        (!decide (b ≤ 1000000000000000), false),
                        (decide (IntKind.i64.wrap (r - b) < 0), false),
                        (decide (IntKind.i64.wrap (r + b) > 1000000000000000), true),
                        (decide ((↑(List.map encS l).length : Int) > 0), false),
                        (decide (IntKind.i64.wrap (r - b) > 1000000000000000), false),
                        (rooms (0 + (List.map encS l).length) 40, true),
                        (decide (0 + (List.map encS l).length < 4611686018427387904), true),
                        ((List.map encS l).all fun y => y.cells.length == 5, true),
                        (rooms (([] ++ List.map encS l).length + 1) 40, true),
                        (decide (([] ++ List.map encS l).length + 1 < 4611686018427387904), true)] [2, 3, 3, 3, 3, 4, 4, 5, 5, 5, 5, 4, 4, 6, 7, 8, 9, 10, 11, 12, 13, 14, 15, 0] (by kernel_rfl) ⟨(decide_eq_false h0), (decide_eq_true h1), (Bool.eq_false_iff.2 h2), (decide_eq_true h3), (Bool.eq_false_iff.2 h4), (decide_eq_false h5), (decide_eq_true h6), (decide_eq_false h7), (decide_eq_false h8), ?_, ?_, ?_, ?_, ?_, trivial⟩
                      all_goals first
                        | (rw [List.all_eq_true]; intro x hx; obtain ⟨c, _, rfl⟩ := List.mem_map.1 hx; rfl)
                        | (simp; done)
                        | (simp; omega)
                        | (rw [List.length_map] at *; simp only [decide_eq_true_eq, decide_eq_false_iff_not]; rw [i64in (by omega) (by omega)]; omega)
                        | (rw [List.length_map, i64in (by omega) (by omega), show ((l.length : Int) - 1) = ((l.length - 1 : Nat) : Int) by omega, Int.toNat_natCast, getD_map _ _ _ (by omega)]; simp [encS, fitP, fld, leafFits]; done)
                        | (simp [rooms, maxRoom]; omega)
                    try simp only [Bool.not_eq_true', decide_eq_false_iff_not] at *
                    first
                      | (exfalso; omega)
                      | exact gcast hr (rer_ok (gE_range (by omega)) (by omega) rfl)
                      | exact gcast hr (rer_ok (gE_empty (by omega) (by have := wsub (r := r) (b := b) (by omega); have := wadd (r := r) (b := b) (by omega); omega)) (by omega) rfl)
                      | (have y1 := wsub (r := r) (b := b) (by omega); have y2 := wadd (r := r) (b := b) (by omega); exact gcast hr (rok_ok (by simp) (gE_ok (by omega) (by omega)) (by omega) (by omega) (by first | exact e2.symm | (simp at *; omega))))
              · skip
                by_cases h7 : (↑(List.map encS l).length : Int) > 0
                · skip
                  by_cases h8 : IntKind.i64.wrap (r - b) < Fd.lo l (IntKind.i64.wrap ((↑(List.map encS l).length : Int) - 1))
                  · skip
                    by_cases h9 : Fd.lo l (IntKind.i64.wrap ((↑(List.map encS l).length : Int) - 1)) > IntKind.i64.wrap (r + b)
                    · skip
                      have hr : Runs T F 70 [.int .u64 key, .sl false (l.map encS), .int .u64 doc, .int .i64 r, .int .i64 b] ([]) (V.tup [V.sl false (List.map encS l), V.int IntKind.i64 12], []) := by
                        refine Runs.way (F := F) (sh := Sh) (S := UM) (L := fun _ _ => .fail) UM_ok (fi := fi70) (by kernel_rfl) (LGood.none (by kernel_rfl)) [(decide ((↑(List.map encS l).length : Int) ≥ 1000), false),
                          (decide (r ≥ 0), true),
                          (!decide (r ≤ 1000000000000000), false),
                          (decide (b ≥ 0), true),
                          (!decide (b ≤ 1000000000000000), false),
                          (decide (IntKind.i64.wrap (r - b) < 0), false),
                          (decide (IntKind.i64.wrap (r + b) > 1000000000000000), false),
                          (decide ((↑(List.map encS l).length : Int) > 0), true),
                          (decide (0 ≤ IntKind.i64.wrap ((↑(List.map encS l).length : Int) - 1)), true),
                          (decide (IntKind.i64.wrap ((↑(List.map encS l).length : Int) - 1) < (↑(List.map encS l).length : Int)), true),
                          (((List.map encS l).getD (IntKind.i64.wrap ((↑(List.map encS l).length : Int) - 1)).toNat V.undef).cells.length == 5 && fitP [TK.int IntKind.i64, TK.int IntKind.u64, TK.int IntKind.i64, TK.int IntKind.i64, TK.int IntKind.u64] 0 ((List.map encS l).getD (IntKind.i64.wrap ((↑(List.map encS l).length : Int) - 1)).toNat V.undef), true),
                          (decide (IntKind.i64.wrap (r - b) < Fd.lo l (IntKind.i64.wrap ((↑(List.map encS l).length : Int) - 1))), true),
                          (decide (Fd.lo l (IntKind.i64.wrap ((↑(List.map encS l).length : Int) - 1)) > IntKind.i64.wrap (r + b)), true)] [2, 3, 3, 3, 3, 4, 4, 5, 5, 5, 5, 4, 4, 6, 7, 8, 9, 10, 11, 12, 10, 11, 12, 13, 10, 11, 12, 14] (by kernel_rfl) ⟨(decide_eq_false h0), (decide_eq_true h1), (Bool.eq_false_iff.2 h2), (decide_eq_true h3), (Bool.eq_false_iff.2 h4), (decide_eq_false h5), (decide_eq_false h6), (decide_eq_true h7), ?_, ?_, ?_, (decide_eq_true h8), (decide_eq_true h9), trivial⟩
                        all_goals first
                          | (rw [List.all_eq_true]; intro x hx; obtain ⟨c, _, rfl⟩ := List.mem_map.1 hx; rfl)
                          | (simp; done)
                          | (simp; omega)
                          | (rw [List.length_map] at *; simp only [decide_eq_true_eq]; rw [i64in (by omega) (by omega)]; omega)
                          | (rw [List.length_map, i64in (by omega) (by omega), show ((l.length : Int) - 1) = ((l.length - 1 : Nat) : Int) by omega, Int.toNat_natCast, getD_map _ _ _ (by omega)]; simp [encS, fitP, fld, leafFits]; done)
                          | (simp [rooms, maxRoom]; omega)
                      try simp only [Bool.not_eq_true', decide_eq_false_iff_not] at *
                      first
                        | (exfalso; omega)
                        | exact gcast hr (rer_ok (gE_range (by omega)) (by omega) rfl)
                        | exact gcast hr (rer_ok (gE_empty (by omega) (by have := wsub (r := r) (b := b) (by omega); have := wadd (r := r) (b := b) (by omega); omega)) (by omega) rfl)
                        | (have y1 := wsub (r := r) (b := b) (by omega); have y2 := wadd (r := r) (b := b) (by omega); exact gcast hr (rok_ok (by simp) (gE_ok (by omega) (by omega)) (by omega) (by omega) (by first | exact e2.symm | (simp at *; omega))))
                    · skip
                      have hr : Runs T F 70 [.int .u64 key, .sl false (l.map encS), .int .u64 doc, .int .i64 r, .int .i64 b] ([]) (V.tup [V.sl ((true && (List.map encS l).isEmpty) && false) ([] ++ List.map encS l ++ [V.agg [V.int IntKind.i64 (↑(List.map encS l).length : Int), V.int IntKind.u64 doc, V.int IntKind.i64 (Fd.lo l (IntKind.i64.wrap ((↑(List.map encS l).length : Int) - 1))), V.int IntKind.i64 (IntKind.i64.wrap (r + b)), V.int IntKind.u64 (Fd.sgn key (Fd.sg l (IntKind.i64.wrap ((↑(List.map encS l).length : Int) - 1))) (↑(List.map encS l).length : Int) doc (Fd.lo l (IntKind.i64.wrap ((↑(List.map encS l).length : Int) - 1))) (IntKind.i64.wrap (r + b)))]]), V.int IntKind.i64 0], []) := by
                        refine Runs.way (F := F) (sh := Sh) (S := UM) (L := fun _ _ => .fail) UM_ok (fi := fi70) (by kernel_rfl) (LGood.none (by kernel_rfl)) [(decide ((↑(List.map encS l).length : Int) ≥ 1000), false),
                          (decide (r ≥ 0), true),
                          (!decide (r ≤ 1000000000000000), false),
                          (decide (b ≥ 0), true),
                          (!decide (b ≤ 1000000000000000), false),
                          (decide (IntKind.i64.wrap (r - b) < 0), false),
                          (decide (IntKind.i64.wrap (r + b) > 1000000000000000), false),
                          (decide ((↑(List.map encS l).length : Int) > 0), true),
                          (decide (0 ≤ IntKind.i64.wrap ((↑(List.map encS l).length : Int) - 1)), true),
                          (decide (IntKind.i64.wrap ((↑(List.map encS l).length : Int) - 1) < (↑(List.map encS l).length : Int)), true),
                          (((List.map encS l).getD (IntKind.i64.wrap ((↑(List.map encS l).length : Int) - 1)).toNat V.undef).cells.length == 5 && fitP [TK.int IntKind.i64, TK.int IntKind.u64, TK.int IntKind.i64, TK.int IntKind.i64, TK.int IntKind.u64] 0 ((List.map encS l).getD (IntKind.i64.wrap ((↑(List.map encS l).length : Int) - 1)).toNat V.undef), true),
                          (decide (IntKind.i64.wrap (r - b) < Fd.lo l (IntKind.i64.wrap ((↑(List.map encS l).length : Int) - 1))), true),
                          (decide (Fd.lo l (IntKind.i64.wrap ((↑(List.map encS l).length : Int) - 1)) > IntKind.i64.wrap (r + b)), false),
                          (rooms (0 + (List.map encS l).length) 40, true),
                          (decide (0 + (List.map encS l).length < 4611686018427387904), true),
                          ((List.map encS l).all fun y => y.cells.length == 5, true),
                          (rooms (([] ++ List.map encS l).length + 1) 40, true),
                          (decide (([] ++ List.map encS l).length + 1 < 4611686018427387904), true)] [2, 3, 3, 3, 3, 4, 4, 5, 5, 5, 5, 4, 4, 6, 7, 8, 9, 10, 11, 12, 10, 11, 12, 13, 10, 11, 12, 14, 15, 16, 17, 18, 19, 0] (by kernel_rfl) ⟨(decide_eq_false h0), (decide_eq_true h1), (Bool.eq_false_iff.2 h2), (decide_eq_true h3), (Bool.eq_false_iff.2 h4), (decide_eq_false h5), (decide_eq_false h6), (decide_eq_true h7), ?_, ?_, ?_, (decide_eq_true h8), (decide_eq_false h9), ?_, ?_, ?_, ?_, ?_, trivial⟩
                        all_goals first
                          | (rw [List.all_eq_true]; intro x hx; obtain ⟨c, _, rfl⟩ := List.mem_map.1 hx; rfl)
                          | (simp; done)
                          | (simp; omega)
                          | (rw [List.length_map] at *; simp only [decide_eq_true_eq]; rw [i64in (by omega) (by omega)]; omega)
                          | (rw [List.length_map, i64in (by omega) (by omega), show ((l.length : Int) - 1) = ((l.length - 1 : Nat) : Int) by omega, Int.toNat_natCast, getD_map _ _ _ (by omega)]; simp [encS, fitP, fld, leafFits]; done)
                          | (simp [rooms, maxRoom]; omega)
                      try simp only [Bool.not_eq_true', decide_eq_false_iff_not] at *
                      first
                        | (exfalso; omega)
                        | exact gcast hr (rer_ok (gE_range (by omega)) (by omega) rfl)
                        | exact gcast hr (rer_ok (gE_empty (by omega) (by have := wsub (r := r) (b := b) (by omega); have := wadd (r := r) (b := b) (by omega); omega)) (by omega) rfl)
                        | (have y1 := wsub (r := r) (b := b) (by omega); have y2 := wadd (r := r) (b := b) (by omega); exact gcast hr (rok_ok (by simp) (gE_ok (by omega) (by omega)) (by omega) (by omega) (by first | exact e2.symm | (simp at *; omega))))
                  · skip
                    by_cases h9 : IntKind.i64.wrap (r - b) > IntKind.i64.wrap (r + b)
                    · skip
                      have hr : Runs T F 70 [.int .u64 key, .sl false (l.map encS), .int .u64 doc, .int .i64 r, .int .i64 b] ([]) (V.tup [V.sl false (List.map encS l), V.int IntKind.i64 12], []) := by
                        refine Runs.way (F := F) (sh := Sh) (S := UM) (L := fun _ _ => .fail) UM_ok (fi := fi70) (by kernel_rfl) (LGood.none (by kernel_rfl)) [(decide ((↑(List.map encS l).length : Int) ≥ 1000), false),
                          (decide (r ≥ 0), true),
                          (!decide (r ≤ 1000000000000000), false),
                          (decide (b ≥ 0), true),
                          (!decide (b ≤ 1000000000000000), false),
                          (decide (IntKind.i64.wrap (r - b) < 0), false),
                          (decide (IntKind.i64.wrap (r + b) > 1000000000000000), false),
                          (decide ((↑(List.map encS l).length : Int) > 0), true),
                          (decide (0 ≤ IntKind.i64.wrap ((↑(List.map encS l).length : Int) - 1)), true),
                          (decide (IntKind.i64.wrap ((↑(List.map encS l).length : Int) - 1) < (↑(List.map encS l).length : Int)), true),
                          (((List.map encS l).getD (IntKind.i64.wrap ((↑(List.map encS l).length : Int) - 1)).toNat V.undef).cells.length == 5 && fitP [TK.int IntKind.i64, TK.int IntKind.u64, TK.int IntKind.i64, TK.int IntKind.i64, TK.int IntKind.u64] 0 ((List.map encS l).getD (IntKind.i64.wrap ((↑(List.map encS l).length : Int) - 1)).toNat V.undef), true),
                          (decide (IntKind.i64.wrap (r - b) < Fd.lo l (IntKind.i64.wrap ((↑(List.map encS l).length : Int) - 1))), false),
                          (decide (IntKind.i64.wrap (r - b) > IntKind.i64.wrap (r + b)), true)] [2, 3, 3, 3, 3, 4, 4, 5, 5, 5, 5, 4, 4, 6, 7, 8, 9, 10, 11, 12, 10, 11, 12, 13, 14] (by kernel_rfl) ⟨(decide_eq_false h0), (decide_eq_true h1), (Bool.eq_false_iff.2 h2), (decide_eq_true h3), (Bool.eq_false_iff.2 h4), (decide_eq_false h5), (decide_eq_false h6), (decide_eq_true h7), ?_, ?_, ?_, (decide_eq_false h8), (decide_eq_true h9), trivial⟩
                        all_goals first
                          | (rw [List.all_eq_true]; intro x hx; obtain ⟨c, _, rfl⟩ := List.mem_map.1 hx; rfl)
                          | (simp; done)
                          | (simp; omega)
                          | (rw [List.length_map] at *; simp only [decide_eq_true_eq]; rw [i64in (by omega) (by omega)]; omega)
                          | (rw [List.length_map, i64in (by omega) (by omega), show ((l.length : Int) - 1) = ((l.length - 1 : Nat) : Int) by omega, Int.toNat_natCast, getD_map _ _ _ (by omega)]; simp [encS, fitP, fld, leafFits]; done)
                          | (simp [rooms, maxRoom]; omega)
                      try simp only [Bool.not_eq_true', decide_eq_false_iff_not] at *
                      first
                        | (exfalso; omega)
                        | exact gcast hr (rer_ok (gE_range (by omega)) (by omega) rfl)
                        | exact gcast hr (rer_ok (gE_empty (by omega) (by have := wsub (r := r) (b := b) (by omega); have := wadd (r := r) (b := b) (by omega); omega)) (by omega) rfl)
                        | (have y1 := wsub (r := r) (b := b) (by omega); have y2 := wadd (r := r) (b := b) (by omega); exact gcast hr (rok_ok (by simp) (gE_ok (by omega) (by omega)) (by omega) (by omega) (by first | exact e2.symm | (simp at *; omega))))
                    · skip
                      have hr : Runs T F 70 [.int .u64 key, .sl false (l.map encS), .int .u64 doc, .int .i64 r, .int .i64 b] ([]) (V.tup [V.sl ((true && (List.map encS l).isEmpty) && false) ([] ++ List.map encS l ++ [V.agg [V.int IntKind.i64 (↑(List.map encS l).length : Int), V.int IntKind.u64 doc, V.int IntKind.i64 (IntKind.i64.wrap (r - b)), V.int IntKind.i64 (IntKind.i64.wrap (r + b)), V.int IntKind.u64 (Fd.sgn key (Fd.sg l (IntKind.i64.wrap ((↑(List.map encS l).length : Int) - 1))) (↑(List.map encS l).length : Int) doc (IntKind.i64.wrap (r - b)) (IntKind.i64.wrap (r + b)))]]), V.int IntKind.i64 0], []) := by
                        refine Runs.way (F := F) (sh := Sh) (S := UM) (L := fun _ _ => .fail) UM_ok (fi := fi70) (by kernel_rfl) (LGood.none (by kernel_rfl)) [(decide ((↑(List.map encS l).length : Int) ≥ 1000), false),
                          (decide (r ≥ 0), true),
                          (!decide (r ≤ 1000000000000000), false),
                          (decide (b ≥ 0), true),
                          (!decide (b ≤ 1000000000000000), false),
                          (decide (IntKind.i64.wrap (r - b) < 0), false),
                          (decide (IntKind.i64.wrap (r + b) > 1000000000000000), false),
                          (decide ((↑(List.map encS l).length : Int) > 0), true),
                          (decide (0 ≤ IntKind.i64.wrap ((↑(List.map encS l).length : Int) - 1)), true),
                          (decide (IntKind.i64.wrap ((↑(List.map encS l).length : Int) - 1) < (↑(List.map encS l).length : Int)), true),
                          (((List.map encS l).getD (IntKind.i64.wrap ((↑(List.map encS l).length : Int) - 1)).toNat V.undef).cells.length == 5 && fitP [TK.int IntKind.i64, TK.int IntKind.u64, TK.int IntKind.i64, TK.int IntKind.i64, TK.int IntKind.u64] 0 ((List.map encS l).getD (IntKind.i64.wrap ((↑(List.map encS l).length : Int) - 1)).toNat V.undef), true),
                          (decide (IntKind.i64.wrap (r - b) < Fd.lo l (IntKind.i64.wrap ((↑(List.map encS l).length : Int) - 1))), false),
                          (decide (IntKind.i64.wrap (r - b) > IntKind.i64.wrap (r + b)), false),
                          (rooms (0 + (List.map encS l).length) 40, true),
                          (decide (0 + (List.map encS l).length < 4611686018427387904), true),
                          ((List.map encS l).all fun y => y.cells.length == 5, true),
                          (rooms (([] ++ List.map encS l).length + 1) 40, true),
                          (decide (([] ++ List.map encS l).length + 1 < 4611686018427387904), true)] [2, 3, 3, 3, 3, 4, 4, 5, 5, 5, 5, 4, 4, 6, 7, 8, 9, 10, 11, 12, 10, 11, 12, 13, 14, 15, 16, 17, 18, 19, 0] (by kernel_rfl) ⟨(decide_eq_false h0), (decide_eq_true h1), (Bool.eq_false_iff.2 h2), (decide_eq_true h3), (Bool.eq_false_iff.2 h4), (decide_eq_false h5), (decide_eq_false h6), (decide_eq_true h7), ?_, ?_, ?_, (decide_eq_false h8), (decide_eq_false h9), ?_, ?_, ?_, ?_, ?_, trivial⟩
                        all_goals first
                          | (rw [List.all_eq_true]; intro x hx; obtain ⟨c, _, rfl⟩ := List.mem_map.1 hx; rfl)
                          | (simp; done)
                          | (simp; omega)
                          | (rw [List.length_map] at *; simp only [decide_eq_true_eq]; rw [i64in (by omega) (by omega)]; omega)
                          | (rw [List.length_map, i64in (by omega) (by omega), show ((l.length : Int) - 1) = ((l.length - 1 : Nat) : Int) by omega, Int.toNat_natCast, getD_map _ _ _ (by omega)]; simp [encS, fitP, fld, leafFits]; done)
                          | (simp [rooms, maxRoom]; omega)
                      try simp only [Bool.not_eq_true', decide_eq_false_iff_not] at *
                      first
                        | (exfalso; omega)
                        | exact gcast hr (rer_ok (gE_range (by omega)) (by omega) rfl)
                        | exact gcast hr (rer_ok (gE_empty (by omega) (by have := wsub (r := r) (b := b) (by omega); have := wadd (r := r) (b := b) (by omega); omega)) (by omega) rfl)
                        | (have y1 := wsub (r := r) (b := b) (by omega); have y2 := wadd (r := r) (b := b) (by omega); exact gcast hr (rok_ok (by simp) (gE_ok (by omega) (by omega)) (by omega) (by omega) (by first | exact e2.symm | (simp at *; omega))))
                · skip
                  by_cases h8 : IntKind.i64.wrap (r - b) > IntKind.i64.wrap (r + b)
                  · skip
                    have hr : Runs T F 70 [.int .u64 key, .sl false (l.map encS), .int .u64 doc, .int .i64 r, .int .i64 b] ([]) (V.tup [V.sl false (List.map encS l), V.int IntKind.i64 12], []) := by
                      refine Runs.way (F := F) (sh := Sh) (S := UM) (L := fun _ _ => .fail) UM_ok (fi := fi70) (by kernel_rfl) (LGood.none (by kernel_rfl)) [(decide ((↑(List.map encS l).length : Int) ≥ 1000), false),
                        (decide (r ≥ 0), true),
                        (!decide (r ≤ 1000000000000000), false),
                        (decide (b ≥ 0), true),
                        (!decide (b ≤ 1000000000000000), false),
                        (decide (IntKind.i64.wrap (r - b) < 0), false),
                        (decide (IntKind.i64.wrap (r + b) > 1000000000000000), false),
                        (decide ((↑(List.map encS l).length : Int) > 0), false),
                        (decide (IntKind.i64.wrap (r - b) > IntKind.i64.wrap (r + b)), true)] [2, 3, 3, 3, 3, 4, 4, 5, 5, 5, 5, 4, 4, 6, 7, 8, 9, 10] (by kernel_rfl) ⟨(decide_eq_false h0), (decide_eq_true h1), (Bool.eq_false_iff.2 h2), (decide_eq_true h3), (Bool.eq_false_iff.2 h4), (decide_eq_false h5), (decide_eq_false h6), (decide_eq_false h7), (decide_eq_true h8), trivial⟩
                      all_goals first
                        | (rw [List.all_eq_true]; intro x hx; obtain ⟨c, _, rfl⟩ := List.mem_map.1 hx; rfl)
                        | (simp; done)
                        | (simp; omega)
                        | (rw [List.length_map] at *; simp only [decide_eq_true_eq, decide_eq_false_iff_not]; rw [i64in (by omega) (by omega)]; omega)
                        | (rw [List.length_map, i64in (by omega) (by omega), show ((l.length : Int) - 1) = ((l.length - 1 : Nat) : Int) by omega, Int.toNat_natCast, getD_map _ _ _ (by omega)]; simp [encS, fitP, fld, leafFits]; done)
                        | (simp [rooms, maxRoom]; omega)
                    try simp only [Bool.not_eq_true', decide_eq_false_iff_not] at *
                    first
                      | (exfalso; omega)
                      | exact gcast hr (rer_ok (gE_range (by omega)) (by omega) rfl)
                      | exact gcast hr (rer_ok (gE_empty (by omega) (by have := wsub (r := r) (b := b) (by omega); have := wadd (r := r) (b := b) (by omega); omega)) (by omega) rfl)
                      | (have y1 := wsub (r := r) (b := b) (by omega); have y2 := wadd (r := r) (b := b) (by omega); exact gcast hr (rok_ok (by simp) (gE_ok (by omega) (by omega)) (by omega) (by omega) (by first | exact e2.symm | (simp at *; omega))))
                  · skip
                    have hr : Runs T F 70 [.int .u64 key, .sl false (l.map encS), .int .u64 doc, .int .i64 r, .int .i64 b] ([]) (V.tup [V.sl ((true && (List.map encS l).isEmpty) && false) ([] ++ List.map encS l ++ [V.agg [V.int IntKind.i64 (↑(List.map encS l).length : Int), V.int IntKind.u64 doc, V.int IntKind.i64 (IntKind.i64.wrap (r - b)), V.int IntKind.i64 (IntKind.i64.wrap (r + b)), V.int IntKind.u64 (Fd.sgn key (P.mix key 3) (↑(List.map encS l).length : Int) doc (IntKind.i64.wrap (r - b)) (IntKind.i64.wrap (r + b)))]]), V.int IntKind.i64 0], []) := by
                      refine Runs.way (F := F) (sh := Sh) (S := UM) (L := fun _ _ => .fail) UM_ok (fi := fi70) (by kernel_rfl) (LGood.none (by kernel_rfl)) [(decide ((↑(List.map encS l).length : Int) ≥ 1000), false),
                        (decide (r ≥ 0), true),
                        (!decide (r ≤ 1000000000000000), false),
                        (decide (b ≥ 0), true),
                        (!decide (b ≤ 1000000000000000), false),
                        (decide (IntKind.i64.wrap (r - b) < 0), false),
                        (decide (IntKind.i64.wrap (r + b) > 1000000000000000), false),
                        (decide ((↑(List.map encS l).length : Int) > 0), false),
                        (decide (IntKind.i64.wrap (r - b) > IntKind.i64.wrap (r + b)), false),
                        (rooms (0 + (List.map encS l).length) 40, true),
                        (decide (0 + (List.map encS l).length < 4611686018427387904), true),
                        ((List.map encS l).all fun y => y.cells.length == 5, true),
                        (rooms (([] ++ List.map encS l).length + 1) 40, true),
                        (decide (([] ++ List.map encS l).length + 1 < 4611686018427387904), true)] [2, 3, 3, 3, 3, 4, 4, 5, 5, 5, 5, 4, 4, 6, 7, 8, 9, 10, 11, 12, 13, 14, 15, 0] (by kernel_rfl) ⟨(decide_eq_false h0), (decide_eq_true h1), (Bool.eq_false_iff.2 h2), (decide_eq_true h3), (Bool.eq_false_iff.2 h4), (decide_eq_false h5), (decide_eq_false h6), (decide_eq_false h7), (decide_eq_false h8), ?_, ?_, ?_, ?_, ?_, trivial⟩
                      all_goals first
                        | (rw [List.all_eq_true]; intro x hx; obtain ⟨c, _, rfl⟩ := List.mem_map.1 hx; rfl)
                        | (simp; done)
                        | (simp; omega)
                        | (rw [List.length_map] at *; simp only [decide_eq_true_eq, decide_eq_false_iff_not]; rw [i64in (by omega) (by omega)]; omega)
                        | (rw [List.length_map, i64in (by omega) (by omega), show ((l.length : Int) - 1) = ((l.length - 1 : Nat) : Int) by omega, Int.toNat_natCast, getD_map _ _ _ (by omega)]; simp [encS, fitP, fld, leafFits]; done)
                        | (simp [rooms, maxRoom]; omega)
                    try simp only [Bool.not_eq_true', decide_eq_false_iff_not] at *
                    first
                      | (exfalso; omega)
                      | exact gcast hr (rer_ok (gE_range (by omega)) (by omega) rfl)
                      | exact gcast hr (rer_ok (gE_empty (by omega) (by have := wsub (r := r) (b := b) (by omega); have := wadd (r := r) (b := b) (by omega); omega)) (by omega) rfl)
                      | (have y1 := wsub (r := r) (b := b) (by omega); have y2 := wadd (r := r) (b := b) (by omega); exact gcast hr (rok_ok (by simp) (gE_ok (by omega) (by omega)) (by omega) (by omega) (by first | exact e2.symm | (simp at *; omega))))
        · skip
          have hr : Runs T F 70 [.int .u64 key, .sl false (l.map encS), .int .u64 doc, .int .i64 r, .int .i64 b] ([]) (V.tup [V.sl false (List.map encS l), V.int IntKind.i64 6], []) := by
            refine Runs.way (F := F) (sh := Sh) (S := UM) (L := fun _ _ => .fail) UM_ok (fi := fi70) (by kernel_rfl) (LGood.none (by kernel_rfl)) [(decide ((↑(List.map encS l).length : Int) ≥ 1000), false),
              (decide (r ≥ 0), true),
              (!decide (r ≤ 1000000000000000), false),
              (decide (b ≥ 0), false)] [2, 3, 3, 3, 3, 4, 4, 5, 5, 5, 5, 4, 4, 0] (by kernel_rfl) ⟨(decide_eq_false h0), (decide_eq_true h1), (Bool.eq_false_iff.2 h2), (decide_eq_false h3), trivial⟩
            all_goals first
              | (rw [List.all_eq_true]; intro x hx; obtain ⟨c, _, rfl⟩ := List.mem_map.1 hx; rfl)
              | (simp; done)
              | (simp; omega)
              | (rw [List.length_map] at *; simp only [decide_eq_true_eq, decide_eq_false_iff_not]; rw [i64in (by omega) (by omega)]; omega)
              | (rw [List.length_map, i64in (by omega) (by omega), show ((l.length : Int) - 1) = ((l.length - 1 : Nat) : Int) by omega, Int.toNat_natCast, getD_map _ _ _ (by omega)]; simp [encS, fitP, fld, leafFits]; done)
              | (simp [rooms, maxRoom]; omega)
          try simp only [Bool.not_eq_true', decide_eq_false_iff_not] at *
          first
            | (exfalso; omega)
            | exact gcast hr (rer_ok (gE_range (by omega)) (by omega) rfl)
            | exact gcast hr (rer_ok (gE_empty (by omega) (by have := wsub (r := r) (b := b) (by omega); have := wadd (r := r) (b := b) (by omega); omega)) (by omega) rfl)
            | (have y1 := wsub (r := r) (b := b) (by omega); have y2 := wadd (r := r) (b := b) (by omega); exact gcast hr (rok_ok (by simp) (gE_ok (by omega) (by omega)) (by omega) (by omega) (by first | exact e2.symm | (simp at *; omega))))
    · skip
      have hr : Runs T F 70 [.int .u64 key, .sl false (l.map encS), .int .u64 doc, .int .i64 r, .int .i64 b] ([]) (V.tup [V.sl false (List.map encS l), V.int IntKind.i64 6], []) := by
        refine Runs.way (F := F) (sh := Sh) (S := UM) (L := fun _ _ => .fail) UM_ok (fi := fi70) (by kernel_rfl) (LGood.none (by kernel_rfl)) [(decide ((↑(List.map encS l).length : Int) ≥ 1000), false),
          (decide (r ≥ 0), false)] [2, 3, 3, 3, 3, 0, 0, 0, 0, 0] (by kernel_rfl) ⟨(decide_eq_false h0), (decide_eq_false h1), trivial⟩
        all_goals first
          | (rw [List.all_eq_true]; intro x hx; obtain ⟨c, _, rfl⟩ := List.mem_map.1 hx; rfl)
          | (simp; done)
          | (simp; omega)
          | (rw [List.length_map] at *; simp only [decide_eq_true_eq, decide_eq_false_iff_not]; rw [i64in (by omega) (by omega)]; omega)
          | (rw [List.length_map, i64in (by omega) (by omega), show ((l.length : Int) - 1) = ((l.length - 1 : Nat) : Int) by omega, Int.toNat_natCast, getD_map _ _ _ (by omega)]; simp [encS, fitP, fld, leafFits]; done)
          | (simp [rooms, maxRoom]; omega)
      try simp only [Bool.not_eq_true', Bool.not_eq_true, Bool.not_eq_false', Bool.not_eq_false, decide_eq_true_eq, decide_eq_false_iff_not] at *
      first
        | (exfalso; omega)
        | exact gcast hr (rer_ok (gE_range (by omega)) (by omega) rfl)
        | exact gcast hr (rer_ok (gE_empty (by omega) (by have := wsub (r := r) (b := b) (by omega); have := wadd (r := r) (b := b) (by omega); omega)) (by omega) rfl)
        | (have y1 := wsub (r := r) (b := b) (by omega); have y2 := wadd (r := r) (b := b) (by omega); exact gcast hr (rok_ok (by simp) (gE_ok (by omega) (by omega)) (by omega) (by omega) (by first | exact e2.symm | (simp at *; omega))))
theorem gS_nil (key doc r b : Int) : P.gS key [] doc r b = ⟨0, doc, P.gLo [] r b, P.gHi r b, Fd.sgn key (P.mix key 3) 0 doc (P.gLo [] r b) (P.gHi r b)⟩ := by
  have e : P.last key [] = P.mix key 3 := if_neg (by simp)
  unfold P.gS
  rw [e]
  simp only [List.length_nil, Int.natCast_zero]
theorem rokn_ok {key doc r b : Int} {v : V} {lo hi : Int} (h : P.gE [] r b = 0) (h1 : P.gLo [] r b = lo) (h2 : P.gHi r b = hi) :
    ((V.tup [.sl false [.agg [.int .i64 0, .int .u64 doc, .int .i64 lo, .int .i64 hi, .int .u64 (Fd.sgn key (P.mix key 3) 0 doc lo hi)]], .int .i64 0], []) : V × Heap) =
      (if P.gE [] r b = 0 then (V.tup [.sl false (([] : List Stp).map encS ++ [encS (P.gS key [] doc r b)]), .int .i64 0], []) else (V.tup [v, .int .i64 (P.gE [] r b)], [])) := by
  subst h1; subst h2; rw [if_pos h, gS_nil]; rfl
theorem rgive_nil (key doc r b : Int) :
    Runs T F 70 [.int .u64 key, .sl true [], .int .u64 doc, .int .i64 r, .int .i64 b] []
      (if P.gE [] r b = 0 then (V.tup [.sl false (([] : List Stp).map encS ++ [encS (P.gS key [] doc r b)]), .int .i64 0], []) else (V.tup [.sl true [], .int .i64 (P.gE [] r b)], [])) := by
  have hl0 : P.llo [] = 0 := rfl
  have gd : P.gLo [] r b = max (max (r - b) 0) (P.llo []) := rfl
  have gh : P.gHi r b = min (r + b) 1000000000000000 := rfl
  by_cases h0 : r ≥ 0
  · skip
    by_cases h1 : (!decide (r ≤ 1000000000000000)) = true
    · skip
      have hr := Runs.way (F := F) (sh := Sh) (S := UM) (L := fun _ _ => .fail) UM_ok (f := 70) (a := [.int .u64 key, .sl true [], .int .u64 doc, .int .i64 r, .int .i64 b]) (H := []) (fi := fi70) (by kernel_rfl) (LGood.none (by kernel_rfl)) [(decide (r ≥ 0), true),
          (!decide (r ≤ 1000000000000000), true)] [1, 2, 2, 2, 2, 3, 3, 3, 3, 0] (r := (V.tup [V.sl true [], V.int IntKind.i64 6], [])) (by kernel_rfl) ⟨(decide_eq_true h0), h1, trivial⟩
      try simp only [Bool.not_eq_true', decide_eq_false_iff_not] at *
      first
        | exact gcast hr (rer_ok (gE_range (by omega)) (by omega) rfl)
        | exact gcast hr (rer_ok (gE_empty (by omega) (by have := wsub (r := r) (b := b) (by omega); have := wadd (r := r) (b := b) (by omega); omega)) (by omega) rfl)
        | (have y1 := wsub (r := r) (b := b) (by omega); have y2 := wadd (r := r) (b := b) (by omega); exact gcast hr (rokn_ok (gE_ok (by omega) (by omega)) (by omega) (by omega)))
    · skip
      by_cases h2 : b ≥ 0
      · skip
        by_cases h3 : (!decide (b ≤ 1000000000000000)) = true
        · skip
          have hr := Runs.way (F := F) (sh := Sh) (S := UM) (L := fun _ _ => .fail) UM_ok (f := 70) (a := [.int .u64 key, .sl true [], .int .u64 doc, .int .i64 r, .int .i64 b]) (H := []) (fi := fi70) (by kernel_rfl) (LGood.none (by kernel_rfl)) [(decide (r ≥ 0), true),
              (!decide (r ≤ 1000000000000000), false),
              (decide (b ≥ 0), true),
              (!decide (b ≤ 1000000000000000), true)] [1, 2, 2, 2, 2, 3, 3, 4, 4, 4, 4, 3, 3, 5] (r := (V.tup [V.sl true [], V.int IntKind.i64 6], [])) (by kernel_rfl) ⟨(decide_eq_true h0), (Bool.eq_false_iff.2 h1), (decide_eq_true h2), h3, trivial⟩
          try simp only [Bool.not_eq_true', decide_eq_false_iff_not] at *
          first
            | exact gcast hr (rer_ok (gE_range (by omega)) (by omega) rfl)
            | exact gcast hr (rer_ok (gE_empty (by omega) (by have := wsub (r := r) (b := b) (by omega); have := wadd (r := r) (b := b) (by omega); omega)) (by omega) rfl)
            | (have y1 := wsub (r := r) (b := b) (by omega); have y2 := wadd (r := r) (b := b) (by omega); exact gcast hr (rokn_ok (gE_ok (by omega) (by omega)) (by omega) (by omega)))
        · skip
          by_cases h4 : IntKind.i64.wrap (r - b) < 0
          · skip
            by_cases h5 : IntKind.i64.wrap (r + b) > 1000000000000000
            · skip
              have hr := Runs.way (F := F) (sh := Sh) (S := UM) (L := fun _ _ => .fail) UM_ok (f := 70) (a := [.int .u64 key, .sl true [], .int .u64 doc, .int .i64 r, .int .i64 b]) (H := []) (fi := fi70) (by kernel_rfl) (LGood.none (by kernel_rfl)) [(decide (r ≥ 0), true),
                  (!decide (r ≤ 1000000000000000), false),
                  (decide (b ≥ 0), true),
                  (!decide (b ≤ 1000000000000000), false),
                  (decide (IntKind.i64.wrap (r - b) < 0), true),
                  (decide (IntKind.i64.wrap (r + b) > 1000000000000000), true)] [1, 2, 2, 2, 2, 3, 3, 4, 4, 4, 4, 3, 3, 5, 6, 7, 1, 1, 0, 0, 0, 0, 0, 0] (r := (V.tup [V.sl false [V.agg [V.int IntKind.i64 0, V.int IntKind.u64 doc, V.int IntKind.i64 0, V.int IntKind.i64 1000000000000000, V.int IntKind.u64 (P.mix (P.mix (P.mix (P.mix (P.mix (P.mix key 3) 0) doc) 0) 1000000000000000) key)]], V.int IntKind.i64 0], [])) (by kernel_rfl) ⟨(decide_eq_true h0), (Bool.eq_false_iff.2 h1), (decide_eq_true h2), (Bool.eq_false_iff.2 h3), (decide_eq_true h4), (decide_eq_true h5), trivial⟩
              try simp only [Bool.not_eq_true', decide_eq_false_iff_not] at *
              first
                | exact gcast hr (rer_ok (gE_range (by omega)) (by omega) rfl)
                | exact gcast hr (rer_ok (gE_empty (by omega) (by have := wsub (r := r) (b := b) (by omega); have := wadd (r := r) (b := b) (by omega); omega)) (by omega) rfl)
                | (have y1 := wsub (r := r) (b := b) (by omega); have y2 := wadd (r := r) (b := b) (by omega); exact gcast hr (rokn_ok (gE_ok (by omega) (by omega)) (by omega) (by omega)))
            · skip
              by_cases h6 : 0 > IntKind.i64.wrap (r + b)
              · skip
                have hr := Runs.way (F := F) (sh := Sh) (S := UM) (L := fun _ _ => .fail) UM_ok (f := 70) (a := [.int .u64 key, .sl true [], .int .u64 doc, .int .i64 r, .int .i64 b]) (H := []) (fi := fi70) (by kernel_rfl) (LGood.none (by kernel_rfl)) [(decide (r ≥ 0), true),
                    (!decide (r ≤ 1000000000000000), false),
                    (decide (b ≥ 0), true),
                    (!decide (b ≤ 1000000000000000), false),
                    (decide (IntKind.i64.wrap (r - b) < 0), true),
                    (decide (IntKind.i64.wrap (r + b) > 1000000000000000), false),
                    (decide (0 > IntKind.i64.wrap (r + b)), true)] [1, 2, 2, 2, 2, 3, 3, 4, 4, 4, 4, 3, 3, 5, 6, 7, 1, 8] (r := (V.tup [V.sl true [], V.int IntKind.i64 12], [])) (by kernel_rfl) ⟨(decide_eq_true h0), (Bool.eq_false_iff.2 h1), (decide_eq_true h2), (Bool.eq_false_iff.2 h3), (decide_eq_true h4), (decide_eq_false h5), (decide_eq_true h6), trivial⟩
                try simp only [Bool.not_eq_true', decide_eq_false_iff_not] at *
                first
                  | exact gcast hr (rer_ok (gE_range (by omega)) (by omega) rfl)
                  | exact gcast hr (rer_ok (gE_empty (by omega) (by have := wsub (r := r) (b := b) (by omega); have := wadd (r := r) (b := b) (by omega); omega)) (by omega) rfl)
                  | (have y1 := wsub (r := r) (b := b) (by omega); have y2 := wadd (r := r) (b := b) (by omega); exact gcast hr (rokn_ok (gE_ok (by omega) (by omega)) (by omega) (by omega)))
              · skip
                have hr := Runs.way (F := F) (sh := Sh) (S := UM) (L := fun _ _ => .fail) UM_ok (f := 70) (a := [.int .u64 key, .sl true [], .int .u64 doc, .int .i64 r, .int .i64 b]) (H := []) (fi := fi70) (by kernel_rfl) (LGood.none (by kernel_rfl)) [(decide (r ≥ 0), true),
                    (!decide (r ≤ 1000000000000000), false),
                    (decide (b ≥ 0), true),
                    (!decide (b ≤ 1000000000000000), false),
                    (decide (IntKind.i64.wrap (r - b) < 0), true),
                    (decide (IntKind.i64.wrap (r + b) > 1000000000000000), false),
                    (decide (0 > IntKind.i64.wrap (r + b)), false)] [1, 2, 2, 2, 2, 3, 3, 4, 4, 4, 4, 3, 3, 5, 6, 7, 1, 8, 0, 0, 0, 0, 0, 0] (r := (V.tup [V.sl false [V.agg [V.int IntKind.i64 0, V.int IntKind.u64 doc, V.int IntKind.i64 0, V.int IntKind.i64 (IntKind.i64.wrap (r + b)), V.int IntKind.u64 (P.mix (P.mix (P.mix (P.mix (P.mix (P.mix key 3) 0) doc) 0) (IntKind.u64.wrap (IntKind.i64.wrap (r + b)))) key)]], V.int IntKind.i64 0], [])) (by kernel_rfl) ⟨(decide_eq_true h0), (Bool.eq_false_iff.2 h1), (decide_eq_true h2), (Bool.eq_false_iff.2 h3), (decide_eq_true h4), (decide_eq_false h5), (decide_eq_false h6), trivial⟩
                try simp only [Bool.not_eq_true', decide_eq_false_iff_not] at *
                first
                  | exact gcast hr (rer_ok (gE_range (by omega)) (by omega) rfl)
                  | exact gcast hr (rer_ok (gE_empty (by omega) (by have := wsub (r := r) (b := b) (by omega); have := wadd (r := r) (b := b) (by omega); omega)) (by omega) rfl)
                  | (have y1 := wsub (r := r) (b := b) (by omega); have y2 := wadd (r := r) (b := b) (by omega); exact gcast hr (rokn_ok (gE_ok (by omega) (by omega)) (by omega) (by omega)))
          · skip
            by_cases h5 : IntKind.i64.wrap (r + b) > 1000000000000000
            · skip
              by_cases h6 : IntKind.i64.wrap (r - b) > 1000000000000000
              · skip
                have hr := Runs.way (F := F) (sh := Sh) (S := UM) (L := fun _ _ => .fail) UM_ok (f := 70) (a := [.int .u64 key, .sl true [], .int .u64 doc, .int .i64 r, .int .i64 b]) (H := []) (fi := fi70) (by kernel_rfl) (LGood.none (by kernel_rfl)) [(decide (r ≥ 0), true),
                    (!decide (r ≤ 1000000000000000), false),
                    (decide (b ≥ 0), true),
                    (!decide (b ≤ 1000000000000000), false),
                    (decide (IntKind.i64.wrap (r - b) < 0), false),
                    (decide (IntKind.i64.wrap (r + b) > 1000000000000000), true),
                    (decide (IntKind.i64.wrap (r - b) > 1000000000000000), true)] [1, 2, 2, 2, 2, 3, 3, 4, 4, 4, 4, 3, 3, 5, 6, 7, 1, 8] (r := (V.tup [V.sl true [], V.int IntKind.i64 12], [])) (by kernel_rfl) ⟨(decide_eq_true h0), (Bool.eq_false_iff.2 h1), (decide_eq_true h2), (Bool.eq_false_iff.2 h3), (decide_eq_false h4), (decide_eq_true h5), (decide_eq_true h6), trivial⟩
                try simp only [Bool.not_eq_true', decide_eq_false_iff_not] at *
                first
                  | exact gcast hr (rer_ok (gE_range (by omega)) (by omega) rfl)
                  | exact gcast hr (rer_ok (gE_empty (by omega) (by have := wsub (r := r) (b := b) (by omega); have := wadd (r := r) (b := b) (by omega); omega)) (by omega) rfl)
                  | (have y1 := wsub (r := r) (b := b) (by omega); have y2 := wadd (r := r) (b := b) (by omega); exact gcast hr (rokn_ok (gE_ok (by omega) (by omega)) (by omega) (by omega)))
              · skip
                have hr := Runs.way (F := F) (sh := Sh) (S := UM) (L := fun _ _ => .fail) UM_ok (f := 70) (a := [.int .u64 key, .sl true [], .int .u64 doc, .int .i64 r, .int .i64 b]) (H := []) (fi := fi70) (by kernel_rfl) (LGood.none (by kernel_rfl)) [(decide (r ≥ 0), true),
                    (!decide (r ≤ 1000000000000000), false),
                    (decide (b ≥ 0), true),
                    (!decide (b ≤ 1000000000000000), false),
                    (decide (IntKind.i64.wrap (r - b) < 0), false),
                    (decide (IntKind.i64.wrap (r + b) > 1000000000000000), true),
                    (decide (IntKind.i64.wrap (r - b) > 1000000000000000), false)] [1, 2, 2, 2, 2, 3, 3, 4, 4, 4, 4, 3, 3, 5, 6, 7, 1, 8, 0, 0, 0, 0, 0, 0] (r := (V.tup [V.sl false [V.agg [V.int IntKind.i64 0, V.int IntKind.u64 doc, V.int IntKind.i64 (IntKind.i64.wrap (r - b)), V.int IntKind.i64 1000000000000000, V.int IntKind.u64 (P.mix (P.mix (P.mix (P.mix (P.mix (P.mix key 3) 0) doc) (IntKind.u64.wrap (IntKind.i64.wrap (r - b)))) 1000000000000000) key)]], V.int IntKind.i64 0], [])) (by kernel_rfl) ⟨(decide_eq_true h0), (Bool.eq_false_iff.2 h1), (decide_eq_true h2), (Bool.eq_false_iff.2 h3), (decide_eq_false h4), (decide_eq_true h5), (decide_eq_false h6), trivial⟩
                try simp only [Bool.not_eq_true', decide_eq_false_iff_not] at *
                first
                  | exact gcast hr (rer_ok (gE_range (by omega)) (by omega) rfl)
                  | exact gcast hr (rer_ok (gE_empty (by omega) (by have := wsub (r := r) (b := b) (by omega); have := wadd (r := r) (b := b) (by omega); omega)) (by omega) rfl)
                  | (have y1 := wsub (r := r) (b := b) (by omega); have y2 := wadd (r := r) (b := b) (by omega); exact gcast hr (rokn_ok (gE_ok (by omega) (by omega)) (by omega) (by omega)))
            · skip
              by_cases h6 : IntKind.i64.wrap (r - b) > IntKind.i64.wrap (r + b)
              · skip
                have hr := Runs.way (F := F) (sh := Sh) (S := UM) (L := fun _ _ => .fail) UM_ok (f := 70) (a := [.int .u64 key, .sl true [], .int .u64 doc, .int .i64 r, .int .i64 b]) (H := []) (fi := fi70) (by kernel_rfl) (LGood.none (by kernel_rfl)) [(decide (r ≥ 0), true),
                    (!decide (r ≤ 1000000000000000), false),
                    (decide (b ≥ 0), true),
                    (!decide (b ≤ 1000000000000000), false),
                    (decide (IntKind.i64.wrap (r - b) < 0), false),
                    (decide (IntKind.i64.wrap (r + b) > 1000000000000000), false),
                    (decide (IntKind.i64.wrap (r - b) > IntKind.i64.wrap (r + b)), true)] [1, 2, 2, 2, 2, 3, 3, 4, 4, 4, 4, 3, 3, 5, 6, 7, 1, 8] (r := (V.tup [V.sl true [], V.int IntKind.i64 12], [])) (by kernel_rfl) ⟨(decide_eq_true h0), (Bool.eq_false_iff.2 h1), (decide_eq_true h2), (Bool.eq_false_iff.2 h3), (decide_eq_false h4), (decide_eq_false h5), (decide_eq_true h6), trivial⟩
                try simp only [Bool.not_eq_true', decide_eq_false_iff_not] at *
                first
                  | exact gcast hr (rer_ok (gE_range (by omega)) (by omega) rfl)
                  | exact gcast hr (rer_ok (gE_empty (by omega) (by have := wsub (r := r) (b := b) (by omega); have := wadd (r := r) (b := b) (by omega); omega)) (by omega) rfl)
                  | (have y1 := wsub (r := r) (b := b) (by omega); have y2 := wadd (r := r) (b := b) (by omega); exact gcast hr (rokn_ok (gE_ok (by omega) (by omega)) (by omega) (by omega)))
              · skip
                have hr := Runs.way (F := F) (sh := Sh) (S := UM) (L := fun _ _ => .fail) UM_ok (f := 70) (a := [.int .u64 key, .sl true [], .int .u64 doc, .int .i64 r, .int .i64 b]) (H := []) (fi := fi70) (by kernel_rfl) (LGood.none (by kernel_rfl)) [(decide (r ≥ 0), true),
                    (!decide (r ≤ 1000000000000000), false),
                    (decide (b ≥ 0), true),
                    (!decide (b ≤ 1000000000000000), false),
                    (decide (IntKind.i64.wrap (r - b) < 0), false),
                    (decide (IntKind.i64.wrap (r + b) > 1000000000000000), false),
                    (decide (IntKind.i64.wrap (r - b) > IntKind.i64.wrap (r + b)), false)] [1, 2, 2, 2, 2, 3, 3, 4, 4, 4, 4, 3, 3, 5, 6, 7, 1, 8, 0, 0, 0, 0, 0, 0] (r := (V.tup [V.sl false [V.agg [V.int IntKind.i64 0, V.int IntKind.u64 doc, V.int IntKind.i64 (IntKind.i64.wrap (r - b)), V.int IntKind.i64 (IntKind.i64.wrap (r + b)), V.int IntKind.u64 (P.mix (P.mix (P.mix (P.mix (P.mix (P.mix key 3) 0) doc) (IntKind.u64.wrap (IntKind.i64.wrap (r - b)))) (IntKind.u64.wrap (IntKind.i64.wrap (r + b)))) key)]], V.int IntKind.i64 0], [])) (by kernel_rfl) ⟨(decide_eq_true h0), (Bool.eq_false_iff.2 h1), (decide_eq_true h2), (Bool.eq_false_iff.2 h3), (decide_eq_false h4), (decide_eq_false h5), (decide_eq_false h6), trivial⟩
                try simp only [Bool.not_eq_true', decide_eq_false_iff_not] at *
                first
                  | exact gcast hr (rer_ok (gE_range (by omega)) (by omega) rfl)
                  | exact gcast hr (rer_ok (gE_empty (by omega) (by have := wsub (r := r) (b := b) (by omega); have := wadd (r := r) (b := b) (by omega); omega)) (by omega) rfl)
                  | (have y1 := wsub (r := r) (b := b) (by omega); have y2 := wadd (r := r) (b := b) (by omega); exact gcast hr (rokn_ok (gE_ok (by omega) (by omega)) (by omega) (by omega)))
      · skip
        have hr := Runs.way (F := F) (sh := Sh) (S := UM) (L := fun _ _ => .fail) UM_ok (f := 70) (a := [.int .u64 key, .sl true [], .int .u64 doc, .int .i64 r, .int .i64 b]) (H := []) (fi := fi70) (by kernel_rfl) (LGood.none (by kernel_rfl)) [(decide (r ≥ 0), true),
            (!decide (r ≤ 1000000000000000), false),
            (decide (b ≥ 0), false)] [1, 2, 2, 2, 2, 3, 3, 4, 4, 4, 4, 3, 3, 0] (r := (V.tup [V.sl true [], V.int IntKind.i64 6], [])) (by kernel_rfl) ⟨(decide_eq_true h0), (Bool.eq_false_iff.2 h1), (decide_eq_false h2), trivial⟩
        try simp only [Bool.not_eq_true', decide_eq_false_iff_not] at *
        first
          | exact gcast hr (rer_ok (gE_range (by omega)) (by omega) rfl)
          | exact gcast hr (rer_ok (gE_empty (by omega) (by have := wsub (r := r) (b := b) (by omega); have := wadd (r := r) (b := b) (by omega); omega)) (by omega) rfl)
          | (have y1 := wsub (r := r) (b := b) (by omega); have y2 := wadd (r := r) (b := b) (by omega); exact gcast hr (rokn_ok (gE_ok (by omega) (by omega)) (by omega) (by omega)))
  · skip
    have hr := Runs.way (F := F) (sh := Sh) (S := UM) (L := fun _ _ => .fail) UM_ok (f := 70) (a := [.int .u64 key, .sl true [], .int .u64 doc, .int .i64 r, .int .i64 b]) (H := []) (fi := fi70) (by kernel_rfl) (LGood.none (by kernel_rfl)) [(decide (r ≥ 0), false)] [1, 2, 2, 2, 2, 0, 0, 0, 0, 0] (r := (V.tup [V.sl true [], V.int IntKind.i64 6], [])) (by kernel_rfl) ⟨(decide_eq_false h0), trivial⟩
    try simp only [Bool.not_eq_true', Bool.not_eq_true, Bool.not_eq_false', Bool.not_eq_false, decide_eq_true_eq, decide_eq_false_iff_not] at *
    first
      | exact gcast hr (rer_ok (gE_range (by omega)) (by omega) rfl)
      | exact gcast hr (rer_ok (gE_empty (by omega) (by have := wsub (r := r) (b := b) (by omega); have := wadd (r := r) (b := b) (by omega); omega)) (by omega) rfl)
      | (have y1 := wsub (r := r) (b := b) (by omega); have y2 := wadd (r := r) (b := b) (by omega); exact gcast hr (rokn_ok (gE_ok (by omega) (by omega)) (by omega) (by omega)))
def giO (key la : Int) (l : List Stp) (cv : V) (doc r b : Int) (rest : Heap) : V × Heap :=
  if P.gE l r b = 0 then (.tup [encS (P.gS key l doc r b), .int .i64 0], chB key (P.gS key l doc r b).sgn (.ex 5 false (l.map encS ++ [encS (P.gS key l doc r b)])) :: rest) else (.tup [encS noS, .int .i64 (P.gE l r b)], chB key la cv :: rest)
theorem ger_ok {key la doc r b e : Int} {l : List Stp} {v : V} {rest : Heap} (h : P.gE l r b = e) (h0 : e ≠ 0) :
    ((V.tup [.agg [.int .i64 0, .int .u64 0, .int .i64 0, .int .i64 0, .int .u64 0], .int .i64 e], .cells [.int .u64 key, .int .u64 la, .bool true, v] :: rest) : V × Heap) = giO key la l v doc r b rest := by
  unfold giO; subst h; rw [if_neg h0]; rfl
theorem gokn_ok {key la doc r b lo hi : Int} {v : V} {rest : Heap} (h : P.gE [] r b = 0) (h1 : P.gLo [] r b = lo) (h2 : P.gHi r b = hi) (h3 : la = P.mix key 3) :
    ((V.tup [.agg [.int .i64 0, .int .u64 doc, .int .i64 lo, .int .i64 hi, .int .u64 (Fd.sgn key la 0 doc lo hi)], .int .i64 0], .cells [.int .u64 key, .int .u64 (Fd.sgn key la 0 doc lo hi), .bool true, .ex 5 false [.agg [.int .i64 0, .int .u64 doc, .int .i64 lo, .int .i64 hi, .int .u64 (Fd.sgn key la 0 doc lo hi)]]] :: rest) : V × Heap) = giO key la [] v doc r b rest := by
  unfold giO; subst h1; subst h2; subst h3; rw [if_pos h, gS_nil]; rfl
theorem gokb_ok {key la doc r b lo hi : Int} {l : List Stp} {v : V} {rest : Heap} (h : P.gE l r b = 0) (h1 : P.gLo l r b = lo) (h2 : P.gHi r b = hi) (h3 : la = P.last key l) :
    ((V.tup [.agg [.int .i64 ((l.map encS).length : Int), .int .u64 doc, .int .i64 lo, .int .i64 hi, .int .u64 (Fd.sgn key la ((l.map encS).length : Int) doc lo hi)], .int .i64 0], .cells [.int .u64 key, .int .u64 (Fd.sgn key la ((l.map encS).length : Int) doc lo hi), .bool true, .ex 5 false (l.map encS ++ [.agg [.int .i64 ((l.map encS).length : Int), .int .u64 doc, .int .i64 lo, .int .i64 hi, .int .u64 (Fd.sgn key la ((l.map encS).length : Int) doc lo hi)]])] :: rest) : V × Heap) = giO key la l v doc r b rest := by
  unfold giO; subst h1; subst h2; subst h3; rw [if_pos h, List.length_map]; rfl
theorem give_a (key la doc r b : Int) (hla : la = P.mix key 3) : Runs T F 32 [.ptr 0 0, .int .u64 doc, .int .i64 r, .int .i64 b] (chB key la (.sl true []) :: [.dead]) (giO key la [] (.sl true []) doc r b [.dead]) := by
  have hl0 : P.llo [] = 0 := rfl
  have gd : P.gLo [] r b = max (max (r - b) 0) (P.llo []) := rfl
  have gh : P.gHi r b = min (r + b) 1000000000000000 := rfl
  have hw := win2 r b
  by_cases h0 : (!P.win 1000000000000000 [r, b]) = true
  · skip
    have hr := Runs.way (F := F) (sh := Sh) (S := UM) (L := fun _ _ => .fail) UM_ok (f := 32) (a := [.ptr 0 0, .int .u64 doc, .int .i64 r, .int .i64 b]) (H := chB key la (.sl true []) :: [.dead]) (fi := fi32) (by kernel_rfl) (LGood.none (by kernel_rfl)) [(!P.win 1000000000000000 [r, b], true)] [1, 1, 1, 1, 1, 1, 1, 1, 1, 0, 0, 0, 2] (r := (V.tup [V.agg [V.int IntKind.i64 0, V.int IntKind.u64 0, V.int IntKind.i64 0, V.int IntKind.i64 0, V.int IntKind.u64 0], V.int IntKind.i64 6], [B.cells [V.int IntKind.u64 key, V.int IntKind.u64 la, V.bool true, V.sl true []], B.dead])) (by kernel_rfl) ⟨h0, trivial⟩
    try rw [win2] at *
    try simp only [Bool.not_eq_true', decide_eq_false_iff_not] at *
    try simp only [imax_eq, imin_eq] at *
    first
      | exact gcast hr (ger_ok (gE_range (by omega)) (by omega))
      | exact gcast hr (ger_ok (gE_empty (by omega) (by have := wsub (r := r) (b := b) (by omega); have := wadd (r := r) (b := b) (by omega); omega)) (by omega))
      | (have y1 := wsub (r := r) (b := b) (by omega); have y2 := wadd (r := r) (b := b) (by omega); exact gcast hr (gokn_ok (gE_ok (by omega) (by omega)) (by omega) (by omega) hla))
  · skip
    by_cases h1 : Fd.imax (IntKind.i64.wrap (r - b)) 0 > Fd.imin (IntKind.i64.wrap (r + b)) 1000000000000000
    · skip
      have hr := Runs.way (F := F) (sh := Sh) (S := UM) (L := fun _ _ => .fail) UM_ok (f := 32) (a := [.ptr 0 0, .int .u64 doc, .int .i64 r, .int .i64 b]) (H := chB key la (.sl true []) :: [.dead]) (fi := fi32) (by kernel_rfl) (LGood.none (by kernel_rfl)) [(!P.win 1000000000000000 [r, b], false),
          (decide (Fd.imax (IntKind.i64.wrap (r - b)) 0 > Fd.imin (IntKind.i64.wrap (r + b)) 1000000000000000), true)] [1, 1, 1, 1, 1, 1, 1, 1, 1, 0, 0, 0, 2, 1, 3] (r := (V.tup [V.agg [V.int IntKind.i64 0, V.int IntKind.u64 0, V.int IntKind.i64 0, V.int IntKind.i64 0, V.int IntKind.u64 0], V.int IntKind.i64 12], [B.cells [V.int IntKind.u64 key, V.int IntKind.u64 la, V.bool true, V.sl true []], B.dead])) (by kernel_rfl) ⟨(Bool.eq_false_iff.2 h0), (decide_eq_true h1), trivial⟩
      try rw [win2] at *
      try simp only [Bool.not_eq_true', decide_eq_false_iff_not] at *
      try simp only [imax_eq, imin_eq] at *
      first
        | exact gcast hr (ger_ok (gE_range (by omega)) (by omega))
        | exact gcast hr (ger_ok (gE_empty (by omega) (by have := wsub (r := r) (b := b) (by omega); have := wadd (r := r) (b := b) (by omega); omega)) (by omega))
        | (have y1 := wsub (r := r) (b := b) (by omega); have y2 := wadd (r := r) (b := b) (by omega); exact gcast hr (gokn_ok (gE_ok (by omega) (by omega)) (by omega) (by omega) hla))
    · skip
      have hr := Runs.way (F := F) (sh := Sh) (S := UM) (L := fun _ _ => .fail) UM_ok (f := 32) (a := [.ptr 0 0, .int .u64 doc, .int .i64 r, .int .i64 b]) (H := chB key la (.sl true []) :: [.dead]) (fi := fi32) (by kernel_rfl) (LGood.none (by kernel_rfl)) [(!P.win 1000000000000000 [r, b], false),
          (decide (Fd.imax (IntKind.i64.wrap (r - b)) 0 > Fd.imin (IntKind.i64.wrap (r + b)) 1000000000000000), false)] [1, 1, 1, 1, 1, 1, 1, 1, 1, 0, 0, 0, 2, 1, 3, 0, 0, 0, 0, 0, 1, 0, 0, 0] (r := (V.tup [V.agg [V.int IntKind.i64 0, V.int IntKind.u64 doc, V.int IntKind.i64 (Fd.imax (IntKind.i64.wrap (r - b)) 0), V.int IntKind.i64 (Fd.imin (IntKind.i64.wrap (r + b)) 1000000000000000), V.int IntKind.u64 (P.mix (P.mix (P.mix (P.mix (P.mix la 0) doc) (IntKind.u64.wrap (Fd.imax (IntKind.i64.wrap (r - b)) 0))) (IntKind.u64.wrap (Fd.imin (IntKind.i64.wrap (r + b)) 1000000000000000))) key)], V.int IntKind.i64 0], [B.cells [V.int IntKind.u64 key, V.int IntKind.u64 (P.mix (P.mix (P.mix (P.mix (P.mix la 0) doc) (IntKind.u64.wrap (Fd.imax (IntKind.i64.wrap (r - b)) 0))) (IntKind.u64.wrap (Fd.imin (IntKind.i64.wrap (r + b)) 1000000000000000))) key), V.bool true, V.ex 5 false [V.agg [V.int IntKind.i64 0, V.int IntKind.u64 doc, V.int IntKind.i64 (Fd.imax (IntKind.i64.wrap (r - b)) 0), V.int IntKind.i64 (Fd.imin (IntKind.i64.wrap (r + b)) 1000000000000000), V.int IntKind.u64 (P.mix (P.mix (P.mix (P.mix (P.mix la 0) doc) (IntKind.u64.wrap (Fd.imax (IntKind.i64.wrap (r - b)) 0))) (IntKind.u64.wrap (Fd.imin (IntKind.i64.wrap (r + b)) 1000000000000000))) key)]]], B.dead])) (by kernel_rfl) ⟨(Bool.eq_false_iff.2 h0), (decide_eq_false h1), trivial⟩
      try rw [win2] at *
      try simp only [Bool.not_eq_true', decide_eq_false_iff_not] at *
      try simp only [imax_eq, imin_eq] at *
      first
        | exact gcast hr (ger_ok (gE_range (by omega)) (by omega))
        | exact gcast hr (ger_ok (gE_empty (by omega) (by have := wsub (r := r) (b := b) (by omega); have := wadd (r := r) (b := b) (by omega); omega)) (by omega))
        | (have y1 := wsub (r := r) (b := b) (by omega); have y2 := wadd (r := r) (b := b) (by omega); exact gcast hr (gokn_ok (gE_ok (by omega) (by omega)) (by omega) (by omega) hla))
theorem give_a2 (key la doc r b : Int) (hla : la = P.mix key 3) : Runs T F 32 [.ptr 0 0, .int .u64 doc, .int .i64 r, .int .i64 b] (chB key la (.sl true []) :: [.dead, .dead]) (giO key la [] (.sl true []) doc r b [.dead, .dead]) := by
  have hl0 : P.llo [] = 0 := rfl
  have gd : P.gLo [] r b = max (max (r - b) 0) (P.llo []) := rfl
  have gh : P.gHi r b = min (r + b) 1000000000000000 := rfl
  have hw := win2 r b
  by_cases h0 : (!P.win 1000000000000000 [r, b]) = true
  · skip
    have hr := Runs.way (F := F) (sh := Sh) (S := UM) (L := fun _ _ => .fail) UM_ok (f := 32) (a := [.ptr 0 0, .int .u64 doc, .int .i64 r, .int .i64 b]) (H := chB key la (.sl true []) :: [.dead, .dead]) (fi := fi32) (by kernel_rfl) (LGood.none (by kernel_rfl)) [(!P.win 1000000000000000 [r, b], true)] [1, 1, 1, 1, 1, 1, 1, 1, 1, 0, 0, 0, 2] (r := (V.tup [V.agg [V.int IntKind.i64 0, V.int IntKind.u64 0, V.int IntKind.i64 0, V.int IntKind.i64 0, V.int IntKind.u64 0], V.int IntKind.i64 6], [B.cells [V.int IntKind.u64 key, V.int IntKind.u64 la, V.bool true, V.sl true []], B.dead, B.dead])) (by kernel_rfl) ⟨h0, trivial⟩
    try rw [win2] at *
    try simp only [Bool.not_eq_true', decide_eq_false_iff_not] at *
    try simp only [imax_eq, imin_eq] at *
    first
      | exact gcast hr (ger_ok (gE_range (by omega)) (by omega))
      | exact gcast hr (ger_ok (gE_empty (by omega) (by have := wsub (r := r) (b := b) (by omega); have := wadd (r := r) (b := b) (by omega); omega)) (by omega))
      | (have y1 := wsub (r := r) (b := b) (by omega); have y2 := wadd (r := r) (b := b) (by omega); exact gcast hr (gokn_ok (gE_ok (by omega) (by omega)) (by omega) (by omega) hla))
  · skip
    by_cases h1 : Fd.imax (IntKind.i64.wrap (r - b)) 0 > Fd.imin (IntKind.i64.wrap (r + b)) 1000000000000000
    · skip
      have hr := Runs.way (F := F) (sh := Sh) (S := UM) (L := fun _ _ => .fail) UM_ok (f := 32) (a := [.ptr 0 0, .int .u64 doc, .int .i64 r, .int .i64 b]) (H := chB key la (.sl true []) :: [.dead, .dead]) (fi := fi32) (by kernel_rfl) (LGood.none (by kernel_rfl)) [(!P.win 1000000000000000 [r, b], false),
          (decide (Fd.imax (IntKind.i64.wrap (r - b)) 0 > Fd.imin (IntKind.i64.wrap (r + b)) 1000000000000000), true)] [1, 1, 1, 1, 1, 1, 1, 1, 1, 0, 0, 0, 2, 1, 3] (r := (V.tup [V.agg [V.int IntKind.i64 0, V.int IntKind.u64 0, V.int IntKind.i64 0, V.int IntKind.i64 0, V.int IntKind.u64 0], V.int IntKind.i64 12], [B.cells [V.int IntKind.u64 key, V.int IntKind.u64 la, V.bool true, V.sl true []], B.dead, B.dead])) (by kernel_rfl) ⟨(Bool.eq_false_iff.2 h0), (decide_eq_true h1), trivial⟩
      try rw [win2] at *
      try simp only [Bool.not_eq_true', decide_eq_false_iff_not] at *
      try simp only [imax_eq, imin_eq] at *
      first
        | exact gcast hr (ger_ok (gE_range (by omega)) (by omega))
        | exact gcast hr (ger_ok (gE_empty (by omega) (by have := wsub (r := r) (b := b) (by omega); have := wadd (r := r) (b := b) (by omega); omega)) (by omega))
        | (have y1 := wsub (r := r) (b := b) (by omega); have y2 := wadd (r := r) (b := b) (by omega); exact gcast hr (gokn_ok (gE_ok (by omega) (by omega)) (by omega) (by omega) hla))
    · skip
      have hr := Runs.way (F := F) (sh := Sh) (S := UM) (L := fun _ _ => .fail) UM_ok (f := 32) (a := [.ptr 0 0, .int .u64 doc, .int .i64 r, .int .i64 b]) (H := chB key la (.sl true []) :: [.dead, .dead]) (fi := fi32) (by kernel_rfl) (LGood.none (by kernel_rfl)) [(!P.win 1000000000000000 [r, b], false),
          (decide (Fd.imax (IntKind.i64.wrap (r - b)) 0 > Fd.imin (IntKind.i64.wrap (r + b)) 1000000000000000), false)] [1, 1, 1, 1, 1, 1, 1, 1, 1, 0, 0, 0, 2, 1, 3, 0, 0, 0, 0, 0, 1, 0, 0, 0] (r := (V.tup [V.agg [V.int IntKind.i64 0, V.int IntKind.u64 doc, V.int IntKind.i64 (Fd.imax (IntKind.i64.wrap (r - b)) 0), V.int IntKind.i64 (Fd.imin (IntKind.i64.wrap (r + b)) 1000000000000000), V.int IntKind.u64 (P.mix (P.mix (P.mix (P.mix (P.mix la 0) doc) (IntKind.u64.wrap (Fd.imax (IntKind.i64.wrap (r - b)) 0))) (IntKind.u64.wrap (Fd.imin (IntKind.i64.wrap (r + b)) 1000000000000000))) key)], V.int IntKind.i64 0], [B.cells [V.int IntKind.u64 key, V.int IntKind.u64 (P.mix (P.mix (P.mix (P.mix (P.mix la 0) doc) (IntKind.u64.wrap (Fd.imax (IntKind.i64.wrap (r - b)) 0))) (IntKind.u64.wrap (Fd.imin (IntKind.i64.wrap (r + b)) 1000000000000000))) key), V.bool true, V.ex 5 false [V.agg [V.int IntKind.i64 0, V.int IntKind.u64 doc, V.int IntKind.i64 (Fd.imax (IntKind.i64.wrap (r - b)) 0), V.int IntKind.i64 (Fd.imin (IntKind.i64.wrap (r + b)) 1000000000000000), V.int IntKind.u64 (P.mix (P.mix (P.mix (P.mix (P.mix la 0) doc) (IntKind.u64.wrap (Fd.imax (IntKind.i64.wrap (r - b)) 0))) (IntKind.u64.wrap (Fd.imin (IntKind.i64.wrap (r + b)) 1000000000000000))) key)]]], B.dead, B.dead])) (by kernel_rfl) ⟨(Bool.eq_false_iff.2 h0), (decide_eq_false h1), trivial⟩
      try rw [win2] at *
      try simp only [Bool.not_eq_true', decide_eq_false_iff_not] at *
      try simp only [imax_eq, imin_eq] at *
      first
        | exact gcast hr (ger_ok (gE_range (by omega)) (by omega))
        | exact gcast hr (ger_ok (gE_empty (by omega) (by have := wsub (r := r) (b := b) (by omega); have := wadd (r := r) (b := b) (by omega); omega)) (by omega))
        | (have y1 := wsub (r := r) (b := b) (by omega); have y2 := wadd (r := r) (b := b) (by omega); exact gcast hr (gokn_ok (gE_ok (by omega) (by omega)) (by omega) (by omega) hla))
theorem give_b (key la doc r b : Int) (l : List Stp) (h : 0 < l.length) (hl : l.length < 1000) (hla : la = P.last key l) (hlo : 0 ≤ P.llo l) (hlo' : P.llo l ≤ 1000000000000000) : Runs T F 32 [.ptr 0 0, .int .u64 doc, .int .i64 r, .int .i64 b] (chB key la (.ex 5 false (l.map encS)) :: [.dead]) (giO key la l (.ex 5 false (l.map encS)) doc r b [.dead]) := by
  have e1 := llo_at h (by omega)
  have hlm : (l.map encS).length = l.length := List.length_map _
  have gd : P.gLo l r b = max (max (r - b) 0) (P.llo l) := rfl
  have gh : P.gHi r b = min (r + b) 1000000000000000 := rfl
  by_cases h0 : ((↑(List.map encS l).length : Int) == 1000) = true
  · skip
    have hr : Runs T F 32 [.ptr 0 0, .int .u64 doc, .int .i64 r, .int .i64 b] (chB key la (.ex 5 false (l.map encS)) :: [.dead]) (V.tup [V.agg [V.int IntKind.i64 0, V.int IntKind.u64 0, V.int IntKind.i64 0, V.int IntKind.i64 0, V.int IntKind.u64 0], V.int IntKind.i64 2], [B.cells [V.int IntKind.u64 key, V.int IntKind.u64 la, V.bool true, V.ex 5 false (List.map encS l)], B.dead]) := by
      refine Runs.way (F := F) (sh := Sh) (S := UM) (L := fun _ _ => .fail) UM_ok (fi := fi32) (by kernel_rfl) (LGood.none (by kernel_rfl)) [((↑(List.map encS l).length : Int) == 1000, true)] [1, 1, 1, 1, 1, 1, 1, 1, 2] (by kernel_rfl) ⟨h0, trivial⟩
      all_goals first
        | (rw [List.all_eq_true]; intro x hx; obtain ⟨c, _, rfl⟩ := List.mem_map.1 hx; rfl)
        | (simp; done)
        | (simp; omega)
        | (rw [List.length_map] at *; simp only [decide_eq_true_eq, decide_eq_false_iff_not]; rw [i64in (by omega) (by omega)]; omega)
        | (rw [List.length_map, i64in (by omega) (by omega), show ((l.length : Int) - 1) = ((l.length - 1 : Nat) : Int) by omega, Int.toNat_natCast, getD_map _ _ _ (by omega)]; simp [encS, fitP, fld, leafFits]; done)
        | (simp [rooms, maxRoom]; omega)
    try rw [win2] at *
    try simp only [Bool.not_eq_true', Bool.not_eq_true, Bool.not_eq_false', Bool.not_eq_false, decide_eq_true_eq, decide_eq_false_iff_not] at *
    try simp only [beq_iff_eq] at *
    first
      | (exfalso; omega)
      | exact gcast hr (ger_ok (gE_range (by omega)) (by omega))
      | exact gcast hr (ger_ok (gE_empty (by omega) (by have := wsub (r := r) (b := b) (by omega); have := wadd (r := r) (b := b) (by omega); omega)) (by omega))
      | (have y1 := wsub (r := r) (b := b) (by omega); have y2 := wadd (r := r) (b := b) (by omega); exact gcast hr (gokb_ok (gE_ok (by omega) (by omega)) (by omega) (by omega) hla))
  · skip
    by_cases h1 : (!P.win 1000000000000000 [r, b]) = true
    · skip
      have hr : Runs T F 32 [.ptr 0 0, .int .u64 doc, .int .i64 r, .int .i64 b] (chB key la (.ex 5 false (l.map encS)) :: [.dead]) (V.tup [V.agg [V.int IntKind.i64 0, V.int IntKind.u64 0, V.int IntKind.i64 0, V.int IntKind.i64 0, V.int IntKind.u64 0], V.int IntKind.i64 6], [B.cells [V.int IntKind.u64 key, V.int IntKind.u64 la, V.bool true, V.ex 5 false (List.map encS l)], B.dead]) := by
        refine Runs.way (F := F) (sh := Sh) (S := UM) (L := fun _ _ => .fail) UM_ok (fi := fi32) (by kernel_rfl) (LGood.none (by kernel_rfl)) [((↑(List.map encS l).length : Int) == 1000, false),
          (!P.win 1000000000000000 [r, b], true)] [1, 1, 1, 1, 1, 1, 1, 1, 2, 0, 0, 0, 3] (by kernel_rfl) ⟨(Bool.eq_false_iff.2 h0), h1, trivial⟩
        all_goals first
          | (rw [List.all_eq_true]; intro x hx; obtain ⟨c, _, rfl⟩ := List.mem_map.1 hx; rfl)
          | (simp; done)
          | (simp; omega)
          | (rw [List.length_map] at *; simp only [decide_eq_true_eq, decide_eq_false_iff_not]; rw [i64in (by omega) (by omega)]; omega)
          | (rw [List.length_map, i64in (by omega) (by omega), show ((l.length : Int) - 1) = ((l.length - 1 : Nat) : Int) by omega, Int.toNat_natCast, getD_map _ _ _ (by omega)]; simp [encS, fitP, fld, leafFits]; done)
          | (simp [rooms, maxRoom]; omega)
      try rw [win2] at *
      try simp only [Bool.not_eq_true', Bool.not_eq_true, decide_eq_false_iff_not] at *
      try simp only [beq_eq_false_iff_ne] at *
      first
        | (exfalso; omega)
        | exact gcast hr (ger_ok (gE_range (by omega)) (by omega))
        | exact gcast hr (ger_ok (gE_empty (by omega) (by have := wsub (r := r) (b := b) (by omega); have := wadd (r := r) (b := b) (by omega); omega)) (by omega))
        | (have y1 := wsub (r := r) (b := b) (by omega); have y2 := wadd (r := r) (b := b) (by omega); exact gcast hr (gokb_ok (gE_ok (by omega) (by omega)) (by omega) (by omega) hla))
    · skip
      by_cases h2 : (↑(List.map encS l).length : Int) > 0
      · skip
        by_cases h3 : Fd.imax (Fd.imax (IntKind.i64.wrap (r - b)) 0) (Fd.lo l (IntKind.i64.wrap ((↑(List.map encS l).length : Int) - 1))) > Fd.imin (IntKind.i64.wrap (r + b)) 1000000000000000
        · skip
          have hr : Runs T F 32 [.ptr 0 0, .int .u64 doc, .int .i64 r, .int .i64 b] (chB key la (.ex 5 false (l.map encS)) :: [.dead]) (V.tup [V.agg [V.int IntKind.i64 0, V.int IntKind.u64 0, V.int IntKind.i64 0, V.int IntKind.i64 0, V.int IntKind.u64 0], V.int IntKind.i64 12], [B.cells [V.int IntKind.u64 key, V.int IntKind.u64 la, V.bool true, V.ex 5 false (List.map encS l)], B.dead]) := by
            refine Runs.way (F := F) (sh := Sh) (S := UM) (L := fun _ _ => .fail) UM_ok (fi := fi32) (by kernel_rfl) (LGood.none (by kernel_rfl)) [((↑(List.map encS l).length : Int) == 1000, false),
              (!P.win 1000000000000000 [r, b], false),
              (decide ((↑(List.map encS l).length : Int) > 0), true),
              (decide (0 ≤ IntKind.i64.wrap ((↑(List.map encS l).length : Int) - 1)), true),
              (decide (IntKind.i64.wrap ((↑(List.map encS l).length : Int) - 1) < (↑(List.map encS l).length : Int)), true),
              (decide ((IntKind.i64.wrap ((↑(List.map encS l).length : Int) - 1)).toNat < (List.map encS l).length), true),
              (fitP [TK.int IntKind.i64] 2 ((List.map encS l).getD (IntKind.i64.wrap ((↑(List.map encS l).length : Int) - 1)).toNat V.undef), true),
              (decide (Fd.imax (Fd.imax (IntKind.i64.wrap (r - b)) 0) (Fd.lo l (IntKind.i64.wrap ((↑(List.map encS l).length : Int) - 1))) > Fd.imin (IntKind.i64.wrap (r + b)) 1000000000000000), true)] [1, 1, 1, 1, 1, 1, 1, 1, 2, 0, 0, 0, 3, 4, 5, 6, 7, 8, 9] (by kernel_rfl) ⟨(Bool.eq_false_iff.2 h0), (Bool.eq_false_iff.2 h1), (decide_eq_true h2), ?_, ?_, ?_, ?_, (decide_eq_true h3), trivial⟩
            all_goals first
              | (rw [List.all_eq_true]; intro x hx; obtain ⟨c, _, rfl⟩ := List.mem_map.1 hx; rfl)
              | (simp; done)
              | (simp; omega)
              | (rw [List.length_map] at *; simp only [decide_eq_true_eq]; rw [i64in (by omega) (by omega)]; omega)
              | (rw [List.length_map, i64in (by omega) (by omega), show ((l.length : Int) - 1) = ((l.length - 1 : Nat) : Int) by omega, Int.toNat_natCast, getD_map _ _ _ (by omega)]; simp [encS, fitP, fld, leafFits]; done)
              | (simp [rooms, maxRoom]; omega)
          try rw [win2] at *
          try simp only [Bool.not_eq_true', Bool.not_eq_true, decide_eq_false_iff_not] at *
          try simp only [imax_eq, imin_eq, beq_eq_false_iff_ne] at *
          first
            | (exfalso; omega)
            | exact gcast hr (ger_ok (gE_range (by omega)) (by omega))
            | exact gcast hr (ger_ok (gE_empty (by omega) (by have := wsub (r := r) (b := b) (by omega); have := wadd (r := r) (b := b) (by omega); omega)) (by omega))
            | (have y1 := wsub (r := r) (b := b) (by omega); have y2 := wadd (r := r) (b := b) (by omega); exact gcast hr (gokb_ok (gE_ok (by omega) (by omega)) (by omega) (by omega) hla))
        · skip
          have hr : Runs T F 32 [.ptr 0 0, .int .u64 doc, .int .i64 r, .int .i64 b] (chB key la (.ex 5 false (l.map encS)) :: [.dead]) (V.tup [V.agg [V.int IntKind.i64 (↑(List.map encS l).length : Int), V.int IntKind.u64 doc, V.int IntKind.i64 (Fd.imax (Fd.imax (IntKind.i64.wrap (r - b)) 0) (Fd.lo l (IntKind.i64.wrap ((↑(List.map encS l).length : Int) - 1)))), V.int IntKind.i64 (Fd.imin (IntKind.i64.wrap (r + b)) 1000000000000000), V.int IntKind.u64 (Fd.sgn key la (↑(List.map encS l).length : Int) doc (Fd.imax (Fd.imax (IntKind.i64.wrap (r - b)) 0) (Fd.lo l (IntKind.i64.wrap ((↑(List.map encS l).length : Int) - 1)))) (Fd.imin (IntKind.i64.wrap (r + b)) 1000000000000000))], V.int IntKind.i64 0], [B.cells [V.int IntKind.u64 key, V.int IntKind.u64 (Fd.sgn key la (↑(List.map encS l).length : Int) doc (Fd.imax (Fd.imax (IntKind.i64.wrap (r - b)) 0) (Fd.lo l (IntKind.i64.wrap ((↑(List.map encS l).length : Int) - 1)))) (Fd.imin (IntKind.i64.wrap (r + b)) 1000000000000000)), V.bool true, V.ex 5 false (List.map encS l ++ [V.agg [V.int IntKind.i64 (↑(List.map encS l).length : Int), V.int IntKind.u64 doc, V.int IntKind.i64 (Fd.imax (Fd.imax (IntKind.i64.wrap (r - b)) 0) (Fd.lo l (IntKind.i64.wrap ((↑(List.map encS l).length : Int) - 1)))), V.int IntKind.i64 (Fd.imin (IntKind.i64.wrap (r + b)) 1000000000000000), V.int IntKind.u64 (Fd.sgn key la (↑(List.map encS l).length : Int) doc (Fd.imax (Fd.imax (IntKind.i64.wrap (r - b)) 0) (Fd.lo l (IntKind.i64.wrap ((↑(List.map encS l).length : Int) - 1)))) (Fd.imin (IntKind.i64.wrap (r + b)) 1000000000000000))]])], B.dead]) := by
            refine Runs.way (F := F) (sh := Sh) (S := UM) (L := fun _ _ => .fail) UM_ok (fi := fi32) (by kernel_rfl) (LGood.none (by kernel_rfl)) [((↑(List.map encS l).length : Int) == 1000, false),
              (!P.win 1000000000000000 [r, b], false),
              (decide ((↑(List.map encS l).length : Int) > 0), true),
              (decide (0 ≤ IntKind.i64.wrap ((↑(List.map encS l).length : Int) - 1)), true),
              (decide (IntKind.i64.wrap ((↑(List.map encS l).length : Int) - 1) < (↑(List.map encS l).length : Int)), true),
              (decide ((IntKind.i64.wrap ((↑(List.map encS l).length : Int) - 1)).toNat < (List.map encS l).length), true),
              (fitP [TK.int IntKind.i64] 2 ((List.map encS l).getD (IntKind.i64.wrap ((↑(List.map encS l).length : Int) - 1)).toNat V.undef), true),
              (decide (Fd.imax (Fd.imax (IntKind.i64.wrap (r - b)) 0) (Fd.lo l (IntKind.i64.wrap ((↑(List.map encS l).length : Int) - 1))) > Fd.imin (IntKind.i64.wrap (r + b)) 1000000000000000), false),
              (rooms ((List.map encS l).length + 1) 40, true),
              (decide ((List.map encS l).length + 1 < 4611686018427387904), true)] [1, 1, 1, 1, 1, 1, 1, 1, 2, 0, 0, 0, 3, 4, 5, 6, 7, 8, 9, 0, 0, 0, 0, 0, 1, 10, 11, 0] (by kernel_rfl) ⟨(Bool.eq_false_iff.2 h0), (Bool.eq_false_iff.2 h1), (decide_eq_true h2), ?_, ?_, ?_, ?_, (decide_eq_false h3), ?_, ?_, trivial⟩
            all_goals first
              | (rw [List.all_eq_true]; intro x hx; obtain ⟨c, _, rfl⟩ := List.mem_map.1 hx; rfl)
              | (simp; done)
              | (simp; omega)
              | (rw [List.length_map] at *; simp only [decide_eq_true_eq]; rw [i64in (by omega) (by omega)]; omega)
              | (rw [List.length_map, i64in (by omega) (by omega), show ((l.length : Int) - 1) = ((l.length - 1 : Nat) : Int) by omega, Int.toNat_natCast, getD_map _ _ _ (by omega)]; simp [encS, fitP, fld, leafFits]; done)
              | (simp [rooms, maxRoom]; omega)
          try rw [win2] at *
          try simp only [Bool.not_eq_true', Bool.not_eq_true, decide_eq_false_iff_not] at *
          try simp only [imax_eq, imin_eq, beq_eq_false_iff_ne] at *
          first
            | (exfalso; omega)
            | exact gcast hr (ger_ok (gE_range (by omega)) (by omega))
            | exact gcast hr (ger_ok (gE_empty (by omega) (by have := wsub (r := r) (b := b) (by omega); have := wadd (r := r) (b := b) (by omega); omega)) (by omega))
            | (have y1 := wsub (r := r) (b := b) (by omega); have y2 := wadd (r := r) (b := b) (by omega); exact gcast hr (gokb_ok (gE_ok (by omega) (by omega)) (by omega) (by omega) hla))
      · skip
        by_cases h3 : Fd.imax (IntKind.i64.wrap (r - b)) 0 > Fd.imin (IntKind.i64.wrap (r + b)) 1000000000000000
        · skip
          have hr : Runs T F 32 [.ptr 0 0, .int .u64 doc, .int .i64 r, .int .i64 b] (chB key la (.ex 5 false (l.map encS)) :: [.dead]) (V.tup [V.agg [V.int IntKind.i64 0, V.int IntKind.u64 0, V.int IntKind.i64 0, V.int IntKind.i64 0, V.int IntKind.u64 0], V.int IntKind.i64 12], [B.cells [V.int IntKind.u64 key, V.int IntKind.u64 la, V.bool true, V.ex 5 false (List.map encS l)], B.dead]) := by
            refine Runs.way (F := F) (sh := Sh) (S := UM) (L := fun _ _ => .fail) UM_ok (fi := fi32) (by kernel_rfl) (LGood.none (by kernel_rfl)) [((↑(List.map encS l).length : Int) == 1000, false),
              (!P.win 1000000000000000 [r, b], false),
              (decide ((↑(List.map encS l).length : Int) > 0), false),
              (decide (Fd.imax (IntKind.i64.wrap (r - b)) 0 > Fd.imin (IntKind.i64.wrap (r + b)) 1000000000000000), true)] [1, 1, 1, 1, 1, 1, 1, 1, 2, 0, 0, 0, 3, 4, 5] (by kernel_rfl) ⟨(Bool.eq_false_iff.2 h0), (Bool.eq_false_iff.2 h1), (decide_eq_false h2), (decide_eq_true h3), trivial⟩
            all_goals first
              | (rw [List.all_eq_true]; intro x hx; obtain ⟨c, _, rfl⟩ := List.mem_map.1 hx; rfl)
              | (simp; done)
              | (simp; omega)
              | (rw [List.length_map] at *; simp only [decide_eq_true_eq, decide_eq_false_iff_not]; rw [i64in (by omega) (by omega)]; omega)
              | (rw [List.length_map, i64in (by omega) (by omega), show ((l.length : Int) - 1) = ((l.length - 1 : Nat) : Int) by omega, Int.toNat_natCast, getD_map _ _ _ (by omega)]; simp [encS, fitP, fld, leafFits]; done)
              | (simp [rooms, maxRoom]; omega)
          try rw [win2] at *
          try simp only [Bool.not_eq_true', Bool.not_eq_true, decide_eq_false_iff_not] at *
          try simp only [imax_eq, imin_eq, beq_eq_false_iff_ne] at *
          first
            | (exfalso; omega)
            | exact gcast hr (ger_ok (gE_range (by omega)) (by omega))
            | exact gcast hr (ger_ok (gE_empty (by omega) (by have := wsub (r := r) (b := b) (by omega); have := wadd (r := r) (b := b) (by omega); omega)) (by omega))
            | (have y1 := wsub (r := r) (b := b) (by omega); have y2 := wadd (r := r) (b := b) (by omega); exact gcast hr (gokb_ok (gE_ok (by omega) (by omega)) (by omega) (by omega) hla))
        · skip
          have hr : Runs T F 32 [.ptr 0 0, .int .u64 doc, .int .i64 r, .int .i64 b] (chB key la (.ex 5 false (l.map encS)) :: [.dead]) (V.tup [V.agg [V.int IntKind.i64 (↑(List.map encS l).length : Int), V.int IntKind.u64 doc, V.int IntKind.i64 (Fd.imax (IntKind.i64.wrap (r - b)) 0), V.int IntKind.i64 (Fd.imin (IntKind.i64.wrap (r + b)) 1000000000000000), V.int IntKind.u64 (Fd.sgn key la (↑(List.map encS l).length : Int) doc (Fd.imax (IntKind.i64.wrap (r - b)) 0) (Fd.imin (IntKind.i64.wrap (r + b)) 1000000000000000))], V.int IntKind.i64 0], [B.cells [V.int IntKind.u64 key, V.int IntKind.u64 (Fd.sgn key la (↑(List.map encS l).length : Int) doc (Fd.imax (IntKind.i64.wrap (r - b)) 0) (Fd.imin (IntKind.i64.wrap (r + b)) 1000000000000000)), V.bool true, V.ex 5 false (List.map encS l ++ [V.agg [V.int IntKind.i64 (↑(List.map encS l).length : Int), V.int IntKind.u64 doc, V.int IntKind.i64 (Fd.imax (IntKind.i64.wrap (r - b)) 0), V.int IntKind.i64 (Fd.imin (IntKind.i64.wrap (r + b)) 1000000000000000), V.int IntKind.u64 (Fd.sgn key la (↑(List.map encS l).length : Int) doc (Fd.imax (IntKind.i64.wrap (r - b)) 0) (Fd.imin (IntKind.i64.wrap (r + b)) 1000000000000000))]])], B.dead]) := by
            refine Runs.way (F := F) (sh := Sh) (S := UM) (L := fun _ _ => .fail) UM_ok (fi := fi32) (by kernel_rfl) (LGood.none (by kernel_rfl)) [((↑(List.map encS l).length : Int) == 1000, false),
              (!P.win 1000000000000000 [r, b], false),
              (decide ((↑(List.map encS l).length : Int) > 0), false),
              (decide (Fd.imax (IntKind.i64.wrap (r - b)) 0 > Fd.imin (IntKind.i64.wrap (r + b)) 1000000000000000), false),
              (rooms ((List.map encS l).length + 1) 40, true),
              (decide ((List.map encS l).length + 1 < 4611686018427387904), true)] [1, 1, 1, 1, 1, 1, 1, 1, 2, 0, 0, 0, 3, 4, 5, 0, 0, 0, 0, 0, 1, 6, 7, 0] (by kernel_rfl) ⟨(Bool.eq_false_iff.2 h0), (Bool.eq_false_iff.2 h1), (decide_eq_false h2), (decide_eq_false h3), ?_, ?_, trivial⟩
            all_goals first
              | (rw [List.all_eq_true]; intro x hx; obtain ⟨c, _, rfl⟩ := List.mem_map.1 hx; rfl)
              | (simp; done)
              | (simp; omega)
              | (rw [List.length_map] at *; simp only [decide_eq_true_eq, decide_eq_false_iff_not]; rw [i64in (by omega) (by omega)]; omega)
              | (rw [List.length_map, i64in (by omega) (by omega), show ((l.length : Int) - 1) = ((l.length - 1 : Nat) : Int) by omega, Int.toNat_natCast, getD_map _ _ _ (by omega)]; simp [encS, fitP, fld, leafFits]; done)
              | (simp [rooms, maxRoom]; omega)
          try rw [win2] at *
          try simp only [Bool.not_eq_true', Bool.not_eq_true, decide_eq_false_iff_not] at *
          try simp only [imax_eq, imin_eq, beq_eq_false_iff_ne] at *
          first
            | (exfalso; omega)
            | exact gcast hr (ger_ok (gE_range (by omega)) (by omega))
            | exact gcast hr (ger_ok (gE_empty (by omega) (by have := wsub (r := r) (b := b) (by omega); have := wadd (r := r) (b := b) (by omega); omega)) (by omega))
            | (have y1 := wsub (r := r) (b := b) (by omega); have y2 := wadd (r := r) (b := b) (by omega); exact gcast hr (gokb_ok (gE_ok (by omega) (by omega)) (by omega) (by omega) hla))
theorem give_b2 (key la doc r b : Int) (l : List Stp) (h : 0 < l.length) (hl : l.length < 1000) (hla : la = P.last key l) (hlo : 0 ≤ P.llo l) (hlo' : P.llo l ≤ 1000000000000000) : Runs T F 32 [.ptr 0 0, .int .u64 doc, .int .i64 r, .int .i64 b] (chB key la (.ex 5 false (l.map encS)) :: [.dead, .dead]) (giO key la l (.ex 5 false (l.map encS)) doc r b [.dead, .dead]) := by
  have e1 := llo_at h (by omega)
  have hlm : (l.map encS).length = l.length := List.length_map _
  have gd : P.gLo l r b = max (max (r - b) 0) (P.llo l) := rfl
  have gh : P.gHi r b = min (r + b) 1000000000000000 := rfl
  by_cases h0 : ((↑(List.map encS l).length : Int) == 1000) = true
  · skip
    have hr : Runs T F 32 [.ptr 0 0, .int .u64 doc, .int .i64 r, .int .i64 b] (chB key la (.ex 5 false (l.map encS)) :: [.dead, .dead]) (V.tup [V.agg [V.int IntKind.i64 0, V.int IntKind.u64 0, V.int IntKind.i64 0, V.int IntKind.i64 0, V.int IntKind.u64 0], V.int IntKind.i64 2], [B.cells [V.int IntKind.u64 key, V.int IntKind.u64 la, V.bool true, V.ex 5 false (List.map encS l)], B.dead, B.dead]) := by
      refine Runs.way (F := F) (sh := Sh) (S := UM) (L := fun _ _ => .fail) UM_ok (fi := fi32) (by kernel_rfl) (LGood.none (by kernel_rfl)) [((↑(List.map encS l).length : Int) == 1000, true)] [1, 1, 1, 1, 1, 1, 1, 1, 2] (by kernel_rfl) ⟨h0, trivial⟩
      all_goals first
        | (rw [List.all_eq_true]; intro x hx; obtain ⟨c, _, rfl⟩ := List.mem_map.1 hx; rfl)
        | (simp; done)
        | (simp; omega)
        | (rw [List.length_map] at *; simp only [decide_eq_true_eq, decide_eq_false_iff_not]; rw [i64in (by omega) (by omega)]; omega)
        | (rw [List.length_map, i64in (by omega) (by omega), show ((l.length : Int) - 1) = ((l.length - 1 : Nat) : Int) by omega, Int.toNat_natCast, getD_map _ _ _ (by omega)]; simp [encS, fitP, fld, leafFits]; done)
        | (simp [rooms, maxRoom]; omega)
    try rw [win2] at *
    try simp only [Bool.not_eq_true', Bool.not_eq_true, Bool.not_eq_false', Bool.not_eq_false, decide_eq_true_eq, decide_eq_false_iff_not] at *
    try simp only [beq_iff_eq] at *
    first
      | (exfalso; omega)
      | exact gcast hr (ger_ok (gE_range (by omega)) (by omega))
      | exact gcast hr (ger_ok (gE_empty (by omega) (by have := wsub (r := r) (b := b) (by omega); have := wadd (r := r) (b := b) (by omega); omega)) (by omega))
      | (have y1 := wsub (r := r) (b := b) (by omega); have y2 := wadd (r := r) (b := b) (by omega); exact gcast hr (gokb_ok (gE_ok (by omega) (by omega)) (by omega) (by omega) hla))
  · skip
    by_cases h1 : (!P.win 1000000000000000 [r, b]) = true
    · skip
      have hr : Runs T F 32 [.ptr 0 0, .int .u64 doc, .int .i64 r, .int .i64 b] (chB key la (.ex 5 false (l.map encS)) :: [.dead, .dead]) (V.tup [V.agg [V.int IntKind.i64 0, V.int IntKind.u64 0, V.int IntKind.i64 0, V.int IntKind.i64 0, V.int IntKind.u64 0], V.int IntKind.i64 6], [B.cells [V.int IntKind.u64 key, V.int IntKind.u64 la, V.bool true, V.ex 5 false (List.map encS l)], B.dead, B.dead]) := by
        refine Runs.way (F := F) (sh := Sh) (S := UM) (L := fun _ _ => .fail) UM_ok (fi := fi32) (by kernel_rfl) (LGood.none (by kernel_rfl)) [((↑(List.map encS l).length : Int) == 1000, false),
          (!P.win 1000000000000000 [r, b], true)] [1, 1, 1, 1, 1, 1, 1, 1, 2, 0, 0, 0, 3] (by kernel_rfl) ⟨(Bool.eq_false_iff.2 h0), h1, trivial⟩
        all_goals first
          | (rw [List.all_eq_true]; intro x hx; obtain ⟨c, _, rfl⟩ := List.mem_map.1 hx; rfl)
          | (simp; done)
          | (simp; omega)
          | (rw [List.length_map] at *; simp only [decide_eq_true_eq, decide_eq_false_iff_not]; rw [i64in (by omega) (by omega)]; omega)
          | (rw [List.length_map, i64in (by omega) (by omega), show ((l.length : Int) - 1) = ((l.length - 1 : Nat) : Int) by omega, Int.toNat_natCast, getD_map _ _ _ (by omega)]; simp [encS, fitP, fld, leafFits]; done)
          | (simp [rooms, maxRoom]; omega)
      try rw [win2] at *
      try simp only [Bool.not_eq_true', Bool.not_eq_true, decide_eq_false_iff_not] at *
      try simp only [beq_eq_false_iff_ne] at *
      first
        | (exfalso; omega)
        | exact gcast hr (ger_ok (gE_range (by omega)) (by omega))
        | exact gcast hr (ger_ok (gE_empty (by omega) (by have := wsub (r := r) (b := b) (by omega); have := wadd (r := r) (b := b) (by omega); omega)) (by omega))
        | (have y1 := wsub (r := r) (b := b) (by omega); have y2 := wadd (r := r) (b := b) (by omega); exact gcast hr (gokb_ok (gE_ok (by omega) (by omega)) (by omega) (by omega) hla))
    · skip
      by_cases h2 : (↑(List.map encS l).length : Int) > 0
      · skip
        by_cases h3 : Fd.imax (Fd.imax (IntKind.i64.wrap (r - b)) 0) (Fd.lo l (IntKind.i64.wrap ((↑(List.map encS l).length : Int) - 1))) > Fd.imin (IntKind.i64.wrap (r + b)) 1000000000000000
        · skip
          have hr : Runs T F 32 [.ptr 0 0, .int .u64 doc, .int .i64 r, .int .i64 b] (chB key la (.ex 5 false (l.map encS)) :: [.dead, .dead]) (V.tup [V.agg [V.int IntKind.i64 0, V.int IntKind.u64 0, V.int IntKind.i64 0, V.int IntKind.i64 0, V.int IntKind.u64 0], V.int IntKind.i64 12], [B.cells [V.int IntKind.u64 key, V.int IntKind.u64 la, V.bool true, V.ex 5 false (List.map encS l)], B.dead, B.dead]) := by
            refine Runs.way (F := F) (sh := Sh) (S := UM) (L := fun _ _ => .fail) UM_ok (fi := fi32) (by kernel_rfl) (LGood.none (by kernel_rfl)) [((↑(List.map encS l).length : Int) == 1000, false),
              (!P.win 1000000000000000 [r, b], false),
              (decide ((↑(List.map encS l).length : Int) > 0), true),
              (decide (0 ≤ IntKind.i64.wrap ((↑(List.map encS l).length : Int) - 1)), true),
              (decide (IntKind.i64.wrap ((↑(List.map encS l).length : Int) - 1) < (↑(List.map encS l).length : Int)), true),
              (decide ((IntKind.i64.wrap ((↑(List.map encS l).length : Int) - 1)).toNat < (List.map encS l).length), true),
              (fitP [TK.int IntKind.i64] 2 ((List.map encS l).getD (IntKind.i64.wrap ((↑(List.map encS l).length : Int) - 1)).toNat V.undef), true),
              (decide (Fd.imax (Fd.imax (IntKind.i64.wrap (r - b)) 0) (Fd.lo l (IntKind.i64.wrap ((↑(List.map encS l).length : Int) - 1))) > Fd.imin (IntKind.i64.wrap (r + b)) 1000000000000000), true)] [1, 1, 1, 1, 1, 1, 1, 1, 2, 0, 0, 0, 3, 4, 5, 6, 7, 8, 9] (by kernel_rfl) ⟨(Bool.eq_false_iff.2 h0), (Bool.eq_false_iff.2 h1), (decide_eq_true h2), ?_, ?_, ?_, ?_, (decide_eq_true h3), trivial⟩
            all_goals first
              | (rw [List.all_eq_true]; intro x hx; obtain ⟨c, _, rfl⟩ := List.mem_map.1 hx; rfl)
              | (simp; done)
              | (simp; omega)
              | (rw [List.length_map] at *; simp only [decide_eq_true_eq]; rw [i64in (by omega) (by omega)]; omega)
              | (rw [List.length_map, i64in (by omega) (by omega), show ((l.length : Int) - 1) = ((l.length - 1 : Nat) : Int) by omega, Int.toNat_natCast, getD_map _ _ _ (by omega)]; simp [encS, fitP, fld, leafFits]; done)
              | (simp [rooms, maxRoom]; omega)
          try rw [win2] at *
          try simp only [Bool.not_eq_true', Bool.not_eq_true, decide_eq_false_iff_not] at *
          try simp only [imax_eq, imin_eq, beq_eq_false_iff_ne] at *
          first
            | (exfalso; omega)
            | exact gcast hr (ger_ok (gE_range (by omega)) (by omega))
            | exact gcast hr (ger_ok (gE_empty (by omega) (by have := wsub (r := r) (b := b) (by omega); have := wadd (r := r) (b := b) (by omega); omega)) (by omega))
            | (have y1 := wsub (r := r) (b := b) (by omega); have y2 := wadd (r := r) (b := b) (by omega); exact gcast hr (gokb_ok (gE_ok (by omega) (by omega)) (by omega) (by omega) hla))
        · skip
          have hr : Runs T F 32 [.ptr 0 0, .int .u64 doc, .int .i64 r, .int .i64 b] (chB key la (.ex 5 false (l.map encS)) :: [.dead, .dead]) (V.tup [V.agg [V.int IntKind.i64 (↑(List.map encS l).length : Int), V.int IntKind.u64 doc, V.int IntKind.i64 (Fd.imax (Fd.imax (IntKind.i64.wrap (r - b)) 0) (Fd.lo l (IntKind.i64.wrap ((↑(List.map encS l).length : Int) - 1)))), V.int IntKind.i64 (Fd.imin (IntKind.i64.wrap (r + b)) 1000000000000000), V.int IntKind.u64 (Fd.sgn key la (↑(List.map encS l).length : Int) doc (Fd.imax (Fd.imax (IntKind.i64.wrap (r - b)) 0) (Fd.lo l (IntKind.i64.wrap ((↑(List.map encS l).length : Int) - 1)))) (Fd.imin (IntKind.i64.wrap (r + b)) 1000000000000000))], V.int IntKind.i64 0], [B.cells [V.int IntKind.u64 key, V.int IntKind.u64 (Fd.sgn key la (↑(List.map encS l).length : Int) doc (Fd.imax (Fd.imax (IntKind.i64.wrap (r - b)) 0) (Fd.lo l (IntKind.i64.wrap ((↑(List.map encS l).length : Int) - 1)))) (Fd.imin (IntKind.i64.wrap (r + b)) 1000000000000000)), V.bool true, V.ex 5 false (List.map encS l ++ [V.agg [V.int IntKind.i64 (↑(List.map encS l).length : Int), V.int IntKind.u64 doc, V.int IntKind.i64 (Fd.imax (Fd.imax (IntKind.i64.wrap (r - b)) 0) (Fd.lo l (IntKind.i64.wrap ((↑(List.map encS l).length : Int) - 1)))), V.int IntKind.i64 (Fd.imin (IntKind.i64.wrap (r + b)) 1000000000000000), V.int IntKind.u64 (Fd.sgn key la (↑(List.map encS l).length : Int) doc (Fd.imax (Fd.imax (IntKind.i64.wrap (r - b)) 0) (Fd.lo l (IntKind.i64.wrap ((↑(List.map encS l).length : Int) - 1)))) (Fd.imin (IntKind.i64.wrap (r + b)) 1000000000000000))]])], B.dead, B.dead]) := by
            refine Runs.way (F := F) (sh := Sh) (S := UM) (L := fun _ _ => .fail) UM_ok (fi := fi32) (by kernel_rfl) (LGood.none (by kernel_rfl)) [((↑(List.map encS l).length : Int) == 1000, false),
              (!P.win 1000000000000000 [r, b], false),
              (decide ((↑(List.map encS l).length : Int) > 0), true),
              (decide (0 ≤ IntKind.i64.wrap ((↑(List.map encS l).length : Int) - 1)), true),
              (decide (IntKind.i64.wrap ((↑(List.map encS l).length : Int) - 1) < (↑(List.map encS l).length : Int)), true),
              (decide ((IntKind.i64.wrap ((↑(List.map encS l).length : Int) - 1)).toNat < (List.map encS l).length), true),
              (fitP [TK.int IntKind.i64] 2 ((List.map encS l).getD (IntKind.i64.wrap ((↑(List.map encS l).length : Int) - 1)).toNat V.undef), true),
              (decide (Fd.imax (Fd.imax (IntKind.i64.wrap (r - b)) 0) (Fd.lo l (IntKind.i64.wrap ((↑(List.map encS l).length : Int) - 1))) > Fd.imin (IntKind.i64.wrap (r + b)) 1000000000000000), false),
              (rooms ((List.map encS l).length + 1) 40, true),
              (decide ((List.map encS l).length + 1 < 4611686018427387904), true)] [1, 1, 1, 1, 1, 1, 1, 1, 2, 0, 0, 0, 3, 4, 5, 6, 7, 8, 9, 0, 0, 0, 0, 0, 1, 10, 11, 0] (by kernel_rfl) ⟨(Bool.eq_false_iff.2 h0), (Bool.eq_false_iff.2 h1), (decide_eq_true h2), ?_, ?_, ?_, ?_, (decide_eq_false h3), ?_, ?_, trivial⟩
            all_goals first
              | (rw [List.all_eq_true]; intro x hx; obtain ⟨c, _, rfl⟩ := List.mem_map.1 hx; rfl)
              | (simp; done)
              | (simp; omega)
              | (rw [List.length_map] at *; simp only [decide_eq_true_eq]; rw [i64in (by omega) (by omega)]; omega)
              | (rw [List.length_map, i64in (by omega) (by omega), show ((l.length : Int) - 1) = ((l.length - 1 : Nat) : Int) by omega, Int.toNat_natCast, getD_map _ _ _ (by omega)]; simp [encS, fitP, fld, leafFits]; done)
              | (simp [rooms, maxRoom]; omega)
          try rw [win2] at *
          try simp only [Bool.not_eq_true', Bool.not_eq_true, decide_eq_false_iff_not] at *
          try simp only [imax_eq, imin_eq, beq_eq_false_iff_ne] at *
          first
            | (exfalso; omega)
            | exact gcast hr (ger_ok (gE_range (by omega)) (by omega))
            | exact gcast hr (ger_ok (gE_empty (by omega) (by have := wsub (r := r) (b := b) (by omega); have := wadd (r := r) (b := b) (by omega); omega)) (by omega))
            | (have y1 := wsub (r := r) (b := b) (by omega); have y2 := wadd (r := r) (b := b) (by omega); exact gcast hr (gokb_ok (gE_ok (by omega) (by omega)) (by omega) (by omega) hla))
      · skip
        by_cases h3 : Fd.imax (IntKind.i64.wrap (r - b)) 0 > Fd.imin (IntKind.i64.wrap (r + b)) 1000000000000000
        · skip
          have hr : Runs T F 32 [.ptr 0 0, .int .u64 doc, .int .i64 r, .int .i64 b] (chB key la (.ex 5 false (l.map encS)) :: [.dead, .dead]) (V.tup [V.agg [V.int IntKind.i64 0, V.int IntKind.u64 0, V.int IntKind.i64 0, V.int IntKind.i64 0, V.int IntKind.u64 0], V.int IntKind.i64 12], [B.cells [V.int IntKind.u64 key, V.int IntKind.u64 la, V.bool true, V.ex 5 false (List.map encS l)], B.dead, B.dead]) := by
            refine Runs.way (F := F) (sh := Sh) (S := UM) (L := fun _ _ => .fail) UM_ok (fi := fi32) (by kernel_rfl) (LGood.none (by kernel_rfl)) [((↑(List.map encS l).length : Int) == 1000, false),
              (!P.win 1000000000000000 [r, b], false),
              (decide ((↑(List.map encS l).length : Int) > 0), false),
              (decide (Fd.imax (IntKind.i64.wrap (r - b)) 0 > Fd.imin (IntKind.i64.wrap (r + b)) 1000000000000000), true)] [1, 1, 1, 1, 1, 1, 1, 1, 2, 0, 0, 0, 3, 4, 5] (by kernel_rfl) ⟨(Bool.eq_false_iff.2 h0), (Bool.eq_false_iff.2 h1), (decide_eq_false h2), (decide_eq_true h3), trivial⟩
            all_goals first
              | (rw [List.all_eq_true]; intro x hx; obtain ⟨c, _, rfl⟩ := List.mem_map.1 hx; rfl)
              | (simp; done)
              | (simp; omega)
              | (rw [List.length_map] at *; simp only [decide_eq_true_eq, decide_eq_false_iff_not]; rw [i64in (by omega) (by omega)]; omega)
              | (rw [List.length_map, i64in (by omega) (by omega), show ((l.length : Int) - 1) = ((l.length - 1 : Nat) : Int) by omega, Int.toNat_natCast, getD_map _ _ _ (by omega)]; simp [encS, fitP, fld, leafFits]; done)
              | (simp [rooms, maxRoom]; omega)
          try rw [win2] at *
          try simp only [Bool.not_eq_true', Bool.not_eq_true, decide_eq_false_iff_not] at *
          try simp only [imax_eq, imin_eq, beq_eq_false_iff_ne] at *
          first
            | (exfalso; omega)
            | exact gcast hr (ger_ok (gE_range (by omega)) (by omega))
            | exact gcast hr (ger_ok (gE_empty (by omega) (by have := wsub (r := r) (b := b) (by omega); have := wadd (r := r) (b := b) (by omega); omega)) (by omega))
            | (have y1 := wsub (r := r) (b := b) (by omega); have y2 := wadd (r := r) (b := b) (by omega); exact gcast hr (gokb_ok (gE_ok (by omega) (by omega)) (by omega) (by omega) hla))
        · skip
          have hr : Runs T F 32 [.ptr 0 0, .int .u64 doc, .int .i64 r, .int .i64 b] (chB key la (.ex 5 false (l.map encS)) :: [.dead, .dead]) (V.tup [V.agg [V.int IntKind.i64 (↑(List.map encS l).length : Int), V.int IntKind.u64 doc, V.int IntKind.i64 (Fd.imax (IntKind.i64.wrap (r - b)) 0), V.int IntKind.i64 (Fd.imin (IntKind.i64.wrap (r + b)) 1000000000000000), V.int IntKind.u64 (Fd.sgn key la (↑(List.map encS l).length : Int) doc (Fd.imax (IntKind.i64.wrap (r - b)) 0) (Fd.imin (IntKind.i64.wrap (r + b)) 1000000000000000))], V.int IntKind.i64 0], [B.cells [V.int IntKind.u64 key, V.int IntKind.u64 (Fd.sgn key la (↑(List.map encS l).length : Int) doc (Fd.imax (IntKind.i64.wrap (r - b)) 0) (Fd.imin (IntKind.i64.wrap (r + b)) 1000000000000000)), V.bool true, V.ex 5 false (List.map encS l ++ [V.agg [V.int IntKind.i64 (↑(List.map encS l).length : Int), V.int IntKind.u64 doc, V.int IntKind.i64 (Fd.imax (IntKind.i64.wrap (r - b)) 0), V.int IntKind.i64 (Fd.imin (IntKind.i64.wrap (r + b)) 1000000000000000), V.int IntKind.u64 (Fd.sgn key la (↑(List.map encS l).length : Int) doc (Fd.imax (IntKind.i64.wrap (r - b)) 0) (Fd.imin (IntKind.i64.wrap (r + b)) 1000000000000000))]])], B.dead, B.dead]) := by
            refine Runs.way (F := F) (sh := Sh) (S := UM) (L := fun _ _ => .fail) UM_ok (fi := fi32) (by kernel_rfl) (LGood.none (by kernel_rfl)) [((↑(List.map encS l).length : Int) == 1000, false),
              (!P.win 1000000000000000 [r, b], false),
              (decide ((↑(List.map encS l).length : Int) > 0), false),
              (decide (Fd.imax (IntKind.i64.wrap (r - b)) 0 > Fd.imin (IntKind.i64.wrap (r + b)) 1000000000000000), false),
              (rooms ((List.map encS l).length + 1) 40, true),
              (decide ((List.map encS l).length + 1 < 4611686018427387904), true)] [1, 1, 1, 1, 1, 1, 1, 1, 2, 0, 0, 0, 3, 4, 5, 0, 0, 0, 0, 0, 1, 6, 7, 0] (by kernel_rfl) ⟨(Bool.eq_false_iff.2 h0), (Bool.eq_false_iff.2 h1), (decide_eq_false h2), (decide_eq_false h3), ?_, ?_, trivial⟩
            all_goals first
              | (rw [List.all_eq_true]; intro x hx; obtain ⟨c, _, rfl⟩ := List.mem_map.1 hx; rfl)
              | (simp; done)
              | (simp; omega)
              | (rw [List.length_map] at *; simp only [decide_eq_true_eq, decide_eq_false_iff_not]; rw [i64in (by omega) (by omega)]; omega)
              | (rw [List.length_map, i64in (by omega) (by omega), show ((l.length : Int) - 1) = ((l.length - 1 : Nat) : Int) by omega, Int.toNat_natCast, getD_map _ _ _ (by omega)]; simp [encS, fitP, fld, leafFits]; done)
              | (simp [rooms, maxRoom]; omega)
          try rw [win2] at *
          try simp only [Bool.not_eq_true', Bool.not_eq_true, decide_eq_false_iff_not] at *
          try simp only [imax_eq, imin_eq, beq_eq_false_iff_ne] at *
          first
            | (exfalso; omega)
            | exact gcast hr (ger_ok (gE_range (by omega)) (by omega))
            | exact gcast hr (ger_ok (gE_empty (by omega) (by have := wsub (r := r) (b := b) (by omega); have := wadd (r := r) (b := b) (by omega); omega)) (by omega))
            | (have y1 := wsub (r := r) (b := b) (by omega); have y2 := wadd (r := r) (b := b) (by omega); exact gcast hr (gokb_ok (gE_ok (by omega) (by omega)) (by omega) (by omega) hla))
end Go.Proofs.Ytgmdkjiflhklaaa
