/- C5: the copy; all wishes. -/
import Derived.Test.YtgmdkjiflhklaaaC4
namespace Go.Proofs.Ytgmdkjiflhklaaa
open Go Go.Vm
theorem cp0_ok (key : Int) (n : Bool) (l : List Wsh) (hl : l.length ≤ 200) (r : Ex × St) (i : Nat) (hk : i < l.length) (la : Int) (hla : la = P.last key []) (hE : P.gE [] l[i].rd l[i].bd = 0) (h : LRuns (vstep T (vlim T F) lplim fi28.cx 1 (lb fi28 0)) (chC key n l i (i + 1 : Nat) (P.last key ([] ++ [P.gS key [] l[i].doc l[i].rd l[i].bd])) (refV ([] ++ [P.gS key [] l[i].doc l[i].rd l[i].bd])) (chainV ([] ++ [P.gS key [] l[i].doc l[i].rd l[i].bd])) (refV ([])) (.cells [.int .u64 key, .int .u64 la, .bool true, cpV ([])])) r) :
    LRuns (vstep T (vlim T F) lplim fi28.cx 1 (lb fi28 0)) (chA key n l i i la (refV ([])) (chainV ([]))) r := by
  have ga := w1_at l i hk
  have gb := w2_at l i hk
  have gc := w0_at l i hk
  refine LRuns.next (F := F) X73_ok (sh := Sh) (L := fun _ _ => .fail) (LGood.none (by kernel_rfl)) [(decide ((↑i : Int) < (↑l.length : Int) + 1), true),
    ((↑i : Int) == (↑i : Int), true),
    (eqB ([] : List V) [], true),
    ((↑i : Int) == (↑(List.map encW l).length : Int), false),
    (decide ((↑i : Int) < (↑(List.map encW l).length : Int)), true),
    (((List.map encW l).getD i V.undef).cells.length == 3 && fitP [TK.int IntKind.u64, TK.int IntKind.i64, TK.int IntKind.i64] 0 ((List.map encW l).getD i V.undef), true),
    (decide (la = P.mix key 3), true),
    (decide (P.gE [] (Fd.w1 l i) (Fd.w2 l i) = 0), true),
    (!cellsEqv [V.int IntKind.i64 0, V.int IntKind.u64 (Fd.w0 l i), V.int IntKind.i64 (P.gLo [] (Fd.w1 l i) (Fd.w2 l i)), V.int IntKind.i64 (P.gHi (Fd.w1 l i) (Fd.w2 l i)), V.int IntKind.u64 (Fd.sgn key (P.last key []) 0 (Fd.w0 l i) (P.gLo [] (Fd.w1 l i) (Fd.w2 l i)) (P.gHi (Fd.w1 l i) (Fd.w2 l i)))] [V.int IntKind.i64 0, V.int IntKind.u64 (Fd.w0 l i), V.int IntKind.i64 (P.gLo [] (Fd.w1 l i) (Fd.w2 l i)), V.int IntKind.i64 (P.gHi (Fd.w1 l i) (Fd.w2 l i)), V.int IntKind.u64 (Fd.sgn key (P.last key []) 0 (Fd.w0 l i) (P.gLo [] (Fd.w1 l i) (Fd.w2 l i)) (P.gHi (Fd.w1 l i) (Fd.w2 l i)))], false)] [2, 3, 1, 1, 1, 1, 1, 1, 1, 1, 4, 0, 0, 5, 0, 6, 7, 0, 6, 7, 0, 6, 7, 8, 9, 0, 6, 7, 0, 6, 7, 0, 6, 7, 9, 1, 1, 1, 0, 0, 0, 0, 0, 0, 0, 0, 0, 0, 1, 0, 1, 10, 10, 10, 1, 1, 1, 10, 1, 10, 1] (τ' := { env := [(0, V.int IntKind.u64 key), (1, V.sl n (List.map encW l)), (7, V.ptr 0 0), (8, V.sl false [V.agg [V.int IntKind.i64 0, V.int IntKind.u64 (Fd.w0 l i), V.int IntKind.i64 (P.gLo [] (Fd.w1 l i) (Fd.w2 l i)), V.int IntKind.i64 (P.gHi (Fd.w1 l i) (Fd.w2 l i)), V.int IntKind.u64 (Fd.sgn key (P.last key []) 0 (Fd.w0 l i) (P.gLo [] (Fd.w1 l i) (Fd.w2 l i)) (P.gHi (Fd.w1 l i) (Fd.w2 l i)))]]), (9, V.sl true []), (10, V.ptr 1 0), (11, V.int IntKind.i64 (↑i : Int)), (53, V.int IntKind.i64 ((↑l.length : Int) + 1)), (54, V.int IntKind.i64 (IntKind.i64.wrap ((↑i : Int) + 1)))], heap := [B.cells [V.int IntKind.u64 key, V.int IntKind.u64 (Fd.sgn key (P.last key []) 0 (Fd.w0 l i) (P.gLo [] (Fd.w1 l i) (Fd.w2 l i)) (P.gHi (Fd.w1 l i) (Fd.w2 l i))), V.bool true, V.ex 5 false [V.agg [V.int IntKind.i64 0, V.int IntKind.u64 (Fd.w0 l i), V.int IntKind.i64 (P.gLo [] (Fd.w1 l i) (Fd.w2 l i)), V.int IntKind.i64 (P.gHi (Fd.w1 l i) (Fd.w2 l i)), V.int IntKind.u64 (Fd.sgn key (P.last key []) 0 (Fd.w0 l i) (P.gLo [] (Fd.w1 l i) (Fd.w2 l i)) (P.gHi (Fd.w1 l i) (Fd.w2 l i)))]]], B.cells [V.int IntKind.u64 key, V.int IntKind.u64 la, V.bool true, V.ex 5 true []]] }) (by kernel_rfl) ?_ ?_
  · refine ⟨?_, ?_, ?_, ?_, ?_, ?_, ?_, ?_, ?_, trivial⟩
    all_goals first
      | exact eqB_eq rfl
      | (simp; done)
      | exact eqB_eq (by rw [decS_enc])
      | exact apart_s _ _
      | (rw [eqv_S]; rfl)
      | (rw [decS_enc]; simp only [decide_eq_true_eq]; exact hv.lo)
      | (rw [decS_enc]; simp only [decide_eq_true_eq]; exact hv.hi)
      | (rw [decS_enc]; simp only [decide_eq_true_eq]; rw [ga, gb]; exact hE)
      | (rw [decS_enc]; simp only [decide_eq_false_iff_not]; rw [ga, gb]; exact hE)
      | (simp only [decide_eq_true_eq]; rw [ga, gb]; exact hE)
      | (simp only [decide_eq_false_iff_not]; rw [ga, gb]; exact hE)
      | (rw [ga, gb]; first | (simp; done) | simpa using hE)
      | (rw [decS_enc, ga, gb]; first | (simp; done) | simpa using hE)
      | (simp only [decS_enc]; simp; done)
      | exact decide_eq_true (hla.trans (last_nil key))
      | (rw [decS_enc]; exact decide_eq_true hla)
      | (simp only [Fd.y0, snoc_at]; simp [fld, intOf, cellsEqv, cellEqv]; done)
      | (rw [snoc_at]; simp [fitP, fld, leafFits, V.cells]; done)
      | (simp; omega)
      | (simp [encW, fitP, fld, leafFits, V.cells, hk]; done)
  · refine lcast h ?_
    rw [len_wrap (by omega), ga, gb, gc, refV_snoc, chV_snoc, last_snoc, encS_gS0, gS_sgn0]
    all_goals rfl
theorem cp0_er (key : Int) (n : Bool) (l : List Wsh) (hl : l.length ≤ 200) (r : Ex × St) (i : Nat) (hk : i < l.length) (la : Int) (hla : la = P.last key []) (hE : P.gE [] l[i].rd l[i].bd ≠ 0) (h : LRuns (vstep T (vlim T F) lplim fi28.cx 1 (lb fi28 0)) (chC key n l i (i + 1 : Nat) la (refV ([])) (chainV ([])) (refV ([])) (.cells [.int .u64 key, .int .u64 la, .bool true, cpV ([])])) r) :
    LRuns (vstep T (vlim T F) lplim fi28.cx 1 (lb fi28 0)) (chA key n l i i la (refV ([])) (chainV ([]))) r := by
  have ga := w1_at l i hk
  have gb := w2_at l i hk
  have gc := w0_at l i hk
  refine LRuns.next (F := F) X73_ok (sh := Sh) (L := fun _ _ => .fail) (LGood.none (by kernel_rfl)) [(decide ((↑i : Int) < (↑l.length : Int) + 1), true),
    ((↑i : Int) == (↑i : Int), true),
    (eqB ([] : List V) [], true),
    ((↑i : Int) == (↑(List.map encW l).length : Int), false),
    (decide ((↑i : Int) < (↑(List.map encW l).length : Int)), true),
    (((List.map encW l).getD i V.undef).cells.length == 3 && fitP [TK.int IntKind.u64, TK.int IntKind.i64, TK.int IntKind.i64] 0 ((List.map encW l).getD i V.undef), true),
    (decide (la = P.mix key 3), true),
    (decide (P.gE [] (Fd.w1 l i) (Fd.w2 l i) = 0), false),
    (P.gE [] (Fd.w1 l i) (Fd.w2 l i) != P.gE [] (Fd.w1 l i) (Fd.w2 l i), false),
    (P.gE [] (Fd.w1 l i) (Fd.w2 l i) == 0, false),
    (P.gE [] (Fd.w1 l i) (Fd.w2 l i) != 0, true)] [2, 3, 1, 1, 1, 1, 1, 1, 1, 1, 4, 0, 0, 5, 0, 6, 7, 0, 6, 7, 0, 6, 7, 8, 9, 0, 6, 7, 0, 6, 7, 0, 6, 7, 9, 10, 10, 10, 11, 11, 11, 11, 11, 11, 11, 10, 11, 10, 1, 1, 1, 12, 12, 12, 1, 12, 1, 1] (τ' := { env := [(0, V.int IntKind.u64 key), (1, V.sl n (List.map encW l)), (7, V.ptr 0 0), (8, V.sl true []), (9, V.sl true []), (10, V.ptr 1 0), (11, V.int IntKind.i64 (↑i : Int)), (53, V.int IntKind.i64 ((↑l.length : Int) + 1)), (54, V.int IntKind.i64 (IntKind.i64.wrap ((↑i : Int) + 1)))], heap := [B.cells [V.int IntKind.u64 key, V.int IntKind.u64 la, V.bool true, V.sl true []], B.cells [V.int IntKind.u64 key, V.int IntKind.u64 la, V.bool true, V.ex 5 true []]] }) (by kernel_rfl) ?_ ?_
  · refine ⟨?_, ?_, ?_, ?_, ?_, ?_, ?_, ?_, ?_, ?_, ?_, trivial⟩
    all_goals first
      | exact eqB_eq rfl
      | (simp; done)
      | exact eqB_eq (by rw [decS_enc])
      | exact apart_s _ _
      | (rw [eqv_S]; rfl)
      | (rw [decS_enc]; simp only [decide_eq_true_eq]; exact hv.lo)
      | (rw [decS_enc]; simp only [decide_eq_true_eq]; exact hv.hi)
      | (rw [decS_enc]; simp only [decide_eq_true_eq]; rw [ga, gb]; exact hE)
      | (rw [decS_enc]; simp only [decide_eq_false_iff_not]; rw [ga, gb]; exact hE)
      | (simp only [decide_eq_true_eq]; rw [ga, gb]; exact hE)
      | (simp only [decide_eq_false_iff_not]; rw [ga, gb]; exact hE)
      | (rw [ga, gb]; first | (simp; done) | simpa using hE)
      | (rw [decS_enc, ga, gb]; first | (simp; done) | simpa using hE)
      | (simp only [decS_enc]; simp; done)
      | exact decide_eq_true (hla.trans (last_nil key))
      | (rw [decS_enc]; exact decide_eq_true hla)
      | (simp only [Fd.y0, snoc_at]; simp [fld, intOf, cellsEqv, cellEqv]; done)
      | (rw [snoc_at]; simp [fitP, fld, leafFits, V.cells]; done)
      | (simp; omega)
      | (simp [encW, fitP, fld, leafFits, V.cells, hk]; done)
  · refine lcast h ?_
    rw [len_wrap (by omega)]
    all_goals rfl
theorem cp0_end (key : Int) (n : Bool) (l : List Wsh) (hl : l.length ≤ 200) (la : Int) : LRuns (vstep T (vlim T F) lplim fi28.cx 1 (lb fi28 0)) (chA key n l l.length l.length la (refV ([])) (chainV ([]))) (.exit 0, ⟨[(0, .int .u64 key), (1, V.sl n (l.map encW)), (7, .ptr 0 0), (8, refV ([])), (9, refV ([])), (10, .ptr 1 0), (11, .int .i64 l.length), (12, .int .i64 l.length), (53, .int .i64 ((l.length : Int) + 1)), (54, .int .i64 l.length), (66, .bool true)], [.cells [.int .u64 key, .int .u64 la, .bool true, chainV ([])], .cells [.int .u64 key, .int .u64 la, .bool true, cpV ([])]]⟩) := by
  refine rcast (LRuns.last (F := F) X73_ok (sh := Sh) (L := fun _ _ => .fail) (LGood.none (by kernel_rfl)) [(decide ((↑l.length : Int) < (↑l.length : Int) + 1), true),
    ((↑l.length : Int) == (↑l.length : Int), true),
    (eqB ([] : List V) [], true),
    ((↑l.length : Int) == (↑(List.map encW l).length : Int), true)] [2, 3, 1, 1, 1, 1, 1, 1, 1, 1, 4, 0, 0, 5] (r := (Ex.exit 0, { env := [(0, V.int IntKind.u64 key), (1, V.sl n (List.map encW l)), (7, V.ptr 0 0), (8, V.sl true []), (9, V.sl true []), (10, V.ptr 1 0), (11, V.int IntKind.i64 (↑l.length : Int)), (12, V.int IntKind.i64 (↑l.length : Int)), (53, V.int IntKind.i64 ((↑l.length : Int) + 1)), (54, V.int IntKind.i64 (↑l.length : Int)), (66, V.bool ((↑l.length : Int) == (↑(List.map encW l).length : Int)))], heap := [B.cells [V.int IntKind.u64 key, V.int IntKind.u64 la, V.bool true, V.sl true []], B.cells [V.int IntKind.u64 key, V.int IntKind.u64 la, V.bool true, V.ex 5 true []]] })) (by kernel_rfl) (by simp) ?_) ?_
  · refine ⟨?_, ?_, ?_, ?_, trivial⟩
    all_goals first
      | exact eqB_eq rfl
      | (simp; done)
      | exact eqB_eq (by rw [decS_enc])
      | exact apart_s _ _
      | (rw [eqv_S]; rfl)
      | (rw [decS_enc]; simp only [decide_eq_true_eq]; exact hv.lo)
      | (rw [decS_enc]; simp only [decide_eq_true_eq]; exact hv.hi)
      | (rw [decS_enc]; simp only [decide_eq_true_eq]; rw [ga, gb]; exact hE)
      | (rw [decS_enc]; simp only [decide_eq_false_iff_not]; rw [ga, gb]; exact hE)
      | (simp only [decide_eq_true_eq]; rw [ga, gb]; exact hE)
      | (simp only [decide_eq_false_iff_not]; rw [ga, gb]; exact hE)
      | (rw [ga, gb]; first | (simp; done) | simpa using hE)
      | (rw [decS_enc, ga, gb]; first | (simp; done) | simpa using hE)
      | (simp only [decS_enc]; simp; done)
      | exact decide_eq_true (hla.trans (last_nil key))
      | (rw [decS_enc]; exact decide_eq_true hla)
      | (simp only [Fd.y0, snoc_at]; simp [fld, intOf, cellsEqv, cellEqv]; done)
      | (rw [snoc_at]; simp [fitP, fld, leafFits, V.cells]; done)
      | (simp; omega)
      | (simp [encW, fitP, fld, leafFits, V.cells, hk]; done)
  · rw [show ((l.length : Int) == ((l.map encW).length : Int)) = true by simp]
    all_goals rfl
theorem cp1_ok (key : Int) (n : Bool) (l : List Wsh) (hl : l.length ≤ 200) (r : Ex × St) (g : List Stp) (hg : 0 < g.length) (i : Nat) (hk : i < l.length) (hv : Gv g i) (la : Int) (hla : la = P.last key g) (hE : P.gE g l[i].rd l[i].bd = 0) (h : LRuns (vstep T (vlim T F) lplim fi28.cx 1 (lb fi28 0)) (chC key n l i (i + 1 : Nat) (P.last key (g ++ [P.gS key g l[i].doc l[i].rd l[i].bd])) (refV (g ++ [P.gS key g l[i].doc l[i].rd l[i].bd])) (chainV (g ++ [P.gS key g l[i].doc l[i].rd l[i].bd])) (refV (g)) (.cells [.int .u64 key, .int .u64 la, .bool true, cpV (g)])) r) :
    LRuns (vstep T (vlim T F) lplim fi28.cx 1 (lb fi28 0)) (chA key n l i i la (refV (g)) (chainV (g))) r := by
  have ga := w1_at l i hk
  have gb := w2_at l i hk
  have gc := w0_at l i hk
  have hlg := hv.len
  have e0 : chA key n l i i la (refV (g)) (chainV (g)) = chA key n l i i la (.sl false (g.map encS)) (.ex 5 false (g.map encS)) := by unfold chA; rw [refV_ne hg, chainV_ne hg]
  rw [e0]
  refine LRuns.next (F := F) X73_ok (sh := Sh) (L := fun _ _ => .fail) (LGood.none (by kernel_rfl)) [(decide ((↑i : Int) < (↑l.length : Int) + 1), true),
    ((↑i : Int) == (↑i : Int), true),
    (eqB (List.map encS g) (List.map encS (List.map decS (List.map encS g))), true),
    (decide ((List.map encS g).length ≤ 1000), true),
    (apart (V.ex 5 false (List.map encS g)), true),
    ((↑i : Int) == (↑(List.map encW l).length : Int), false),
    (decide ((↑i : Int) < (↑(List.map encW l).length : Int)), true),
    (((List.map encW l).getD i V.undef).cells.length == 3 && fitP [TK.int IntKind.u64, TK.int IntKind.i64, TK.int IntKind.i64] 0 ((List.map encW l).getD i V.undef), true),
    (decide (0 < (List.map encS g).length), true),
    (decide ((List.map encS g).length < 1000), true),
    (decide (la = P.last key (List.map decS (List.map encS g))), true),
    (decide (0 ≤ P.llo (List.map decS (List.map encS g))), true),
    (decide (P.llo (List.map decS (List.map encS g)) ≤ 1000000000000000), true),
    (decide (P.gE (List.map decS (List.map encS g)) (Fd.w1 l i) (Fd.w2 l i) = 0), true),
    (decide ((↑(List.map encS g).length : Int) < (↑(List.map encS g ++ [V.agg [V.int IntKind.i64 (↑(List.map decS (List.map encS g)).length : Int), V.int IntKind.u64 (Fd.w0 l i), V.int IntKind.i64 (P.gLo (List.map decS (List.map encS g)) (Fd.w1 l i) (Fd.w2 l i)), V.int IntKind.i64 (P.gHi (Fd.w1 l i) (Fd.w2 l i)), V.int IntKind.u64 (Fd.sgn key (P.last key (List.map decS (List.map encS g))) (↑(List.map decS (List.map encS g)).length : Int) (Fd.w0 l i) (P.gLo (List.map decS (List.map encS g)) (Fd.w1 l i) (Fd.w2 l i)) (P.gHi (Fd.w1 l i) (Fd.w2 l i)))]]).length : Int)), true),
    (((List.map encS g ++ [V.agg [V.int IntKind.i64 (↑(List.map decS (List.map encS g)).length : Int), V.int IntKind.u64 (Fd.w0 l i), V.int IntKind.i64 (P.gLo (List.map decS (List.map encS g)) (Fd.w1 l i) (Fd.w2 l i)), V.int IntKind.i64 (P.gHi (Fd.w1 l i) (Fd.w2 l i)), V.int IntKind.u64 (Fd.sgn key (P.last key (List.map decS (List.map encS g))) (↑(List.map decS (List.map encS g)).length : Int) (Fd.w0 l i) (P.gLo (List.map decS (List.map encS g)) (Fd.w1 l i) (Fd.w2 l i)) (P.gHi (Fd.w1 l i) (Fd.w2 l i)))]]).getD (↑(List.map encS g).length : Int).toNat V.undef).cells.length == 5 && fitP [TK.int IntKind.i64, TK.int IntKind.u64, TK.int IntKind.i64, TK.int IntKind.i64, TK.int IntKind.u64] 0 ((List.map encS g ++ [V.agg [V.int IntKind.i64 (↑(List.map decS (List.map encS g)).length : Int), V.int IntKind.u64 (Fd.w0 l i), V.int IntKind.i64 (P.gLo (List.map decS (List.map encS g)) (Fd.w1 l i) (Fd.w2 l i)), V.int IntKind.i64 (P.gHi (Fd.w1 l i) (Fd.w2 l i)), V.int IntKind.u64 (Fd.sgn key (P.last key (List.map decS (List.map encS g))) (↑(List.map decS (List.map encS g)).length : Int) (Fd.w0 l i) (P.gLo (List.map decS (List.map encS g)) (Fd.w1 l i) (Fd.w2 l i)) (P.gHi (Fd.w1 l i) (Fd.w2 l i)))]]).getD (↑(List.map encS g).length : Int).toNat V.undef), true),
    (!cellsEqv [V.int IntKind.i64 (↑(List.map decS (List.map encS g)).length : Int), V.int IntKind.u64 (Fd.w0 l i), V.int IntKind.i64 (P.gLo (List.map decS (List.map encS g)) (Fd.w1 l i) (Fd.w2 l i)), V.int IntKind.i64 (P.gHi (Fd.w1 l i) (Fd.w2 l i)), V.int IntKind.u64 (Fd.sgn key (P.last key (List.map decS (List.map encS g))) (↑(List.map decS (List.map encS g)).length : Int) (Fd.w0 l i) (P.gLo (List.map decS (List.map encS g)) (Fd.w1 l i) (Fd.w2 l i)) (P.gHi (Fd.w1 l i) (Fd.w2 l i)))] [V.int IntKind.i64 (Fd.y0 ((List.map encS g ++ [V.agg [V.int IntKind.i64 (↑(List.map decS (List.map encS g)).length : Int), V.int IntKind.u64 (Fd.w0 l i), V.int IntKind.i64 (P.gLo (List.map decS (List.map encS g)) (Fd.w1 l i) (Fd.w2 l i)), V.int IntKind.i64 (P.gHi (Fd.w1 l i) (Fd.w2 l i)), V.int IntKind.u64 (Fd.sgn key (P.last key (List.map decS (List.map encS g))) (↑(List.map decS (List.map encS g)).length : Int) (Fd.w0 l i) (P.gLo (List.map decS (List.map encS g)) (Fd.w1 l i) (Fd.w2 l i)) (P.gHi (Fd.w1 l i) (Fd.w2 l i)))]]).getD (↑(List.map encS g).length : Int).toNat V.undef)), V.int IntKind.u64 (intOf (fld 1 ((List.map encS g ++ [V.agg [V.int IntKind.i64 (↑(List.map decS (List.map encS g)).length : Int), V.int IntKind.u64 (Fd.w0 l i), V.int IntKind.i64 (P.gLo (List.map decS (List.map encS g)) (Fd.w1 l i) (Fd.w2 l i)), V.int IntKind.i64 (P.gHi (Fd.w1 l i) (Fd.w2 l i)), V.int IntKind.u64 (Fd.sgn key (P.last key (List.map decS (List.map encS g))) (↑(List.map decS (List.map encS g)).length : Int) (Fd.w0 l i) (P.gLo (List.map decS (List.map encS g)) (Fd.w1 l i) (Fd.w2 l i)) (P.gHi (Fd.w1 l i) (Fd.w2 l i)))]]).getD (↑(List.map encS g).length : Int).toNat V.undef))), V.int IntKind.i64 (intOf (fld 2 ((List.map encS g ++ [V.agg [V.int IntKind.i64 (↑(List.map decS (List.map encS g)).length : Int), V.int IntKind.u64 (Fd.w0 l i), V.int IntKind.i64 (P.gLo (List.map decS (List.map encS g)) (Fd.w1 l i) (Fd.w2 l i)), V.int IntKind.i64 (P.gHi (Fd.w1 l i) (Fd.w2 l i)), V.int IntKind.u64 (Fd.sgn key (P.last key (List.map decS (List.map encS g))) (↑(List.map decS (List.map encS g)).length : Int) (Fd.w0 l i) (P.gLo (List.map decS (List.map encS g)) (Fd.w1 l i) (Fd.w2 l i)) (P.gHi (Fd.w1 l i) (Fd.w2 l i)))]]).getD (↑(List.map encS g).length : Int).toNat V.undef))), V.int IntKind.i64 (intOf (fld 3 ((List.map encS g ++ [V.agg [V.int IntKind.i64 (↑(List.map decS (List.map encS g)).length : Int), V.int IntKind.u64 (Fd.w0 l i), V.int IntKind.i64 (P.gLo (List.map decS (List.map encS g)) (Fd.w1 l i) (Fd.w2 l i)), V.int IntKind.i64 (P.gHi (Fd.w1 l i) (Fd.w2 l i)), V.int IntKind.u64 (Fd.sgn key (P.last key (List.map decS (List.map encS g))) (↑(List.map decS (List.map encS g)).length : Int) (Fd.w0 l i) (P.gLo (List.map decS (List.map encS g)) (Fd.w1 l i) (Fd.w2 l i)) (P.gHi (Fd.w1 l i) (Fd.w2 l i)))]]).getD (↑(List.map encS g).length : Int).toNat V.undef))), V.int IntKind.u64 (intOf (fld 4 ((List.map encS g ++ [V.agg [V.int IntKind.i64 (↑(List.map decS (List.map encS g)).length : Int), V.int IntKind.u64 (Fd.w0 l i), V.int IntKind.i64 (P.gLo (List.map decS (List.map encS g)) (Fd.w1 l i) (Fd.w2 l i)), V.int IntKind.i64 (P.gHi (Fd.w1 l i) (Fd.w2 l i)), V.int IntKind.u64 (Fd.sgn key (P.last key (List.map decS (List.map encS g))) (↑(List.map decS (List.map encS g)).length : Int) (Fd.w0 l i) (P.gLo (List.map decS (List.map encS g)) (Fd.w1 l i) (Fd.w2 l i)) (P.gHi (Fd.w1 l i) (Fd.w2 l i)))]]).getD (↑(List.map encS g).length : Int).toNat V.undef)))], false)] [2, 3, 1, 1, 1, 1, 1, 1, 1, 1, 4, 0, 5, 6, 7, 0, 8, 9, 0, 8, 9, 0, 8, 9, 4, 10, 11, 12, 13, 14, 15, 0, 8, 9, 0, 8, 9, 0, 8, 9, 4, 10, 11, 13, 14, 15, 1, 1, 1, 0, 0, 0, 0, 0, 0, 16, 17, 0, 0, 1, 0, 1, 18, 18, 18, 1, 1, 1, 18, 1, 18, 1] (τ' := { env := [(0, V.int IntKind.u64 key), (1, V.sl n (List.map encW l)), (7, V.ptr 0 0), (8, V.sl false (List.map encS g ++ [V.agg [V.int IntKind.i64 (↑(List.map decS (List.map encS g)).length : Int), V.int IntKind.u64 (Fd.w0 l i), V.int IntKind.i64 (P.gLo (List.map decS (List.map encS g)) (Fd.w1 l i) (Fd.w2 l i)), V.int IntKind.i64 (P.gHi (Fd.w1 l i) (Fd.w2 l i)), V.int IntKind.u64 (Fd.sgn key (P.last key (List.map decS (List.map encS g))) (↑(List.map decS (List.map encS g)).length : Int) (Fd.w0 l i) (P.gLo (List.map decS (List.map encS g)) (Fd.w1 l i) (Fd.w2 l i)) (P.gHi (Fd.w1 l i) (Fd.w2 l i)))]])), (9, V.sl false (List.map encS g)), (10, V.ptr 1 0), (11, V.int IntKind.i64 (↑i : Int)), (53, V.int IntKind.i64 ((↑l.length : Int) + 1)), (54, V.int IntKind.i64 (IntKind.i64.wrap ((↑i : Int) + 1)))], heap := [B.cells [V.int IntKind.u64 key, V.int IntKind.u64 (Fd.sgn key (P.last key (List.map decS (List.map encS g))) (↑(List.map decS (List.map encS g)).length : Int) (Fd.w0 l i) (P.gLo (List.map decS (List.map encS g)) (Fd.w1 l i) (Fd.w2 l i)) (P.gHi (Fd.w1 l i) (Fd.w2 l i))), V.bool true, V.ex 5 false (List.map encS (List.map decS (List.map encS g)) ++ [V.agg [V.int IntKind.i64 (↑(List.map decS (List.map encS g)).length : Int), V.int IntKind.u64 (Fd.w0 l i), V.int IntKind.i64 (P.gLo (List.map decS (List.map encS g)) (Fd.w1 l i) (Fd.w2 l i)), V.int IntKind.i64 (P.gHi (Fd.w1 l i) (Fd.w2 l i)), V.int IntKind.u64 (Fd.sgn key (P.last key (List.map decS (List.map encS g))) (↑(List.map decS (List.map encS g)).length : Int) (Fd.w0 l i) (P.gLo (List.map decS (List.map encS g)) (Fd.w1 l i) (Fd.w2 l i)) (P.gHi (Fd.w1 l i) (Fd.w2 l i)))]])], B.cells [V.int IntKind.u64 key, V.int IntKind.u64 la, V.bool true, V.ex 5 false (List.map encS g)]] }) (by kernel_rfl) ?_ ?_
  · refine ⟨?_, ?_, ?_, ?_, ?_, ?_, ?_, ?_, ?_, ?_, ?_, ?_, ?_, ?_, ?_, ?_, ?_, trivial⟩
    all_goals first
      | exact eqB_eq rfl
      | (simp; done)
      | exact eqB_eq (by rw [decS_enc])
      | exact apart_s _ _
      | (rw [eqv_S]; rfl)
      | (rw [decS_enc]; simp only [decide_eq_true_eq]; exact hv.lo)
      | (rw [decS_enc]; simp only [decide_eq_true_eq]; exact hv.hi)
      | (rw [decS_enc]; simp only [decide_eq_true_eq]; rw [ga, gb]; exact hE)
      | (rw [decS_enc]; simp only [decide_eq_false_iff_not]; rw [ga, gb]; exact hE)
      | (simp only [decide_eq_true_eq]; rw [ga, gb]; exact hE)
      | (simp only [decide_eq_false_iff_not]; rw [ga, gb]; exact hE)
      | (rw [ga, gb]; first | (simp; done) | simpa using hE)
      | (rw [decS_enc, ga, gb]; first | (simp; done) | simpa using hE)
      | (simp only [decS_enc]; simp; done)
      | exact decide_eq_true (hla.trans (last_nil key))
      | (rw [decS_enc]; exact decide_eq_true hla)
      | (simp only [Fd.y0, snoc_at]; simp [fld, intOf, cellsEqv, cellEqv]; done)
      | (rw [snoc_at]; simp [fitP, fld, leafFits, V.cells]; done)
      | (simp; omega)
      | (simp [encW, fitP, fld, leafFits, V.cells, hk]; done)
  · refine lcast h ?_
    rw [decS_enc, len_wrap (by omega), ga, gb, gc, refV_snoc, chV_snoc, last_snoc, encS_gS, gS_sgn, refV_ne hg, cpV_ne hg]
    all_goals rfl
theorem cp1_er (key : Int) (n : Bool) (l : List Wsh) (hl : l.length ≤ 200) (r : Ex × St) (g : List Stp) (hg : 0 < g.length) (i : Nat) (hk : i < l.length) (hv : Gv g i) (la : Int) (hla : la = P.last key g) (hE : P.gE g l[i].rd l[i].bd ≠ 0) (h : LRuns (vstep T (vlim T F) lplim fi28.cx 1 (lb fi28 0)) (chC key n l i (i + 1 : Nat) la (refV (g)) (chainV (g)) (refV (g)) (.cells [.int .u64 key, .int .u64 la, .bool true, cpV (g)])) r) :
    LRuns (vstep T (vlim T F) lplim fi28.cx 1 (lb fi28 0)) (chA key n l i i la (refV (g)) (chainV (g))) r := by
  have ga := w1_at l i hk
  have gb := w2_at l i hk
  have gc := w0_at l i hk
  have hlg := hv.len
  have e0 : chA key n l i i la (refV (g)) (chainV (g)) = chA key n l i i la (.sl false (g.map encS)) (.ex 5 false (g.map encS)) := by unfold chA; rw [refV_ne hg, chainV_ne hg]
  rw [e0]
  refine LRuns.next (F := F) X73_ok (sh := Sh) (L := fun _ _ => .fail) (LGood.none (by kernel_rfl)) [(decide ((↑i : Int) < (↑l.length : Int) + 1), true),
    ((↑i : Int) == (↑i : Int), true),
    (eqB (List.map encS g) (List.map encS (List.map decS (List.map encS g))), true),
    (decide ((List.map encS g).length ≤ 1000), true),
    (apart (V.ex 5 false (List.map encS g)), true),
    ((↑i : Int) == (↑(List.map encW l).length : Int), false),
    (decide ((↑i : Int) < (↑(List.map encW l).length : Int)), true),
    (((List.map encW l).getD i V.undef).cells.length == 3 && fitP [TK.int IntKind.u64, TK.int IntKind.i64, TK.int IntKind.i64] 0 ((List.map encW l).getD i V.undef), true),
    (decide (0 < (List.map encS g).length), true),
    (decide ((List.map encS g).length < 1000), true),
    (decide (la = P.last key (List.map decS (List.map encS g))), true),
    (decide (0 ≤ P.llo (List.map decS (List.map encS g))), true),
    (decide (P.llo (List.map decS (List.map encS g)) ≤ 1000000000000000), true),
    (decide (P.gE (List.map decS (List.map encS g)) (Fd.w1 l i) (Fd.w2 l i) = 0), false),
    (P.gE (List.map decS (List.map encS g)) (Fd.w1 l i) (Fd.w2 l i) != P.gE (List.map decS (List.map encS g)) (Fd.w1 l i) (Fd.w2 l i), false),
    (P.gE (List.map decS (List.map encS g)) (Fd.w1 l i) (Fd.w2 l i) == 0, false),
    (P.gE (List.map decS (List.map encS g)) (Fd.w1 l i) (Fd.w2 l i) != 0, true)] [2, 3, 1, 1, 1, 1, 1, 1, 1, 1, 4, 0, 5, 6, 7, 0, 8, 9, 0, 8, 9, 0, 8, 9, 4, 10, 11, 12, 13, 14, 15, 0, 8, 9, 0, 8, 9, 0, 8, 9, 4, 10, 11, 13, 14, 15, 16, 16, 16, 17, 17, 17, 17, 17, 17, 17, 16, 17, 16, 1, 1, 1, 18, 18, 18, 1, 18, 1, 1] (τ' := { env := [(0, V.int IntKind.u64 key), (1, V.sl n (List.map encW l)), (7, V.ptr 0 0), (8, V.sl false (List.map encS g)), (9, V.sl false (List.map encS g)), (10, V.ptr 1 0), (11, V.int IntKind.i64 (↑i : Int)), (53, V.int IntKind.i64 ((↑l.length : Int) + 1)), (54, V.int IntKind.i64 (IntKind.i64.wrap ((↑i : Int) + 1)))], heap := [B.cells [V.int IntKind.u64 key, V.int IntKind.u64 la, V.bool true, V.ex 5 false (List.map encS g)], B.cells [V.int IntKind.u64 key, V.int IntKind.u64 la, V.bool true, V.ex 5 false (List.map encS g)]] }) (by kernel_rfl) ?_ ?_
  · refine ⟨?_, ?_, ?_, ?_, ?_, ?_, ?_, ?_, ?_, ?_, ?_, ?_, ?_, ?_, ?_, ?_, ?_, trivial⟩
    all_goals first
      | exact eqB_eq rfl
      | (simp; done)
      | exact eqB_eq (by rw [decS_enc])
      | exact apart_s _ _
      | (rw [eqv_S]; rfl)
      | (rw [decS_enc]; simp only [decide_eq_true_eq]; exact hv.lo)
      | (rw [decS_enc]; simp only [decide_eq_true_eq]; exact hv.hi)
      | (rw [decS_enc]; simp only [decide_eq_true_eq]; rw [ga, gb]; exact hE)
      | (rw [decS_enc]; simp only [decide_eq_false_iff_not]; rw [ga, gb]; exact hE)
      | (simp only [decide_eq_true_eq]; rw [ga, gb]; exact hE)
      | (simp only [decide_eq_false_iff_not]; rw [ga, gb]; exact hE)
      | (rw [ga, gb]; first | (simp; done) | simpa using hE)
      | (rw [decS_enc, ga, gb]; first | (simp; done) | simpa using hE)
      | (simp only [decS_enc]; simp; done)
      | exact decide_eq_true (hla.trans (last_nil key))
      | (rw [decS_enc]; exact decide_eq_true hla)
      | (simp only [Fd.y0, snoc_at]; simp [fld, intOf, cellsEqv, cellEqv]; done)
      | (rw [snoc_at]; simp [fitP, fld, leafFits, V.cells]; done)
      | (simp; omega)
      | (simp [encW, fitP, fld, leafFits, V.cells, hk]; done)
  · refine lcast h ?_
    rw [len_wrap (by omega), refV_ne hg, chainV_ne hg, cpV_ne hg]
    all_goals rfl
theorem cp1_end (key : Int) (n : Bool) (l : List Wsh) (hl : l.length ≤ 200) (g : List Stp) (hg : 0 < g.length) (hv : Gv g l.length) (la : Int) : LRuns (vstep T (vlim T F) lplim fi28.cx 1 (lb fi28 0)) (chA key n l l.length l.length la (refV (g)) (chainV (g))) (.exit 0, ⟨[(0, .int .u64 key), (1, V.sl n (l.map encW)), (7, .ptr 0 0), (8, refV (g)), (9, refV (g)), (10, .ptr 1 0), (11, .int .i64 l.length), (12, .int .i64 l.length), (53, .int .i64 ((l.length : Int) + 1)), (54, .int .i64 l.length), (66, .bool true)], [.cells [.int .u64 key, .int .u64 la, .bool true, chainV (g)], .cells [.int .u64 key, .int .u64 la, .bool true, cpV (g)]]⟩) := by
  have hlg := hv.len
  have e0 : chA key n l l.length l.length la (refV (g)) (chainV (g)) = chA key n l l.length l.length la (.sl false (g.map encS)) (.ex 5 false (g.map encS)) := by unfold chA; rw [refV_ne hg, chainV_ne hg]
  rw [e0]
  refine rcast (LRuns.last (F := F) X73_ok (sh := Sh) (L := fun _ _ => .fail) (LGood.none (by kernel_rfl)) [(decide ((↑l.length : Int) < (↑l.length : Int) + 1), true),
    ((↑l.length : Int) == (↑l.length : Int), true),
    (eqB (List.map encS g) (List.map encS (List.map decS (List.map encS g))), true),
    (decide ((List.map encS g).length ≤ 1000), true),
    (apart (V.ex 5 false (List.map encS g)), true),
    ((↑l.length : Int) == (↑(List.map encW l).length : Int), true)] [2, 3, 1, 1, 1, 1, 1, 1, 1, 1, 4, 0, 5, 6, 7] (r := (Ex.exit 0, { env := [(0, V.int IntKind.u64 key), (1, V.sl n (List.map encW l)), (7, V.ptr 0 0), (8, V.sl false (List.map encS g)), (9, V.sl false (List.map encS g)), (10, V.ptr 1 0), (11, V.int IntKind.i64 (↑l.length : Int)), (12, V.int IntKind.i64 (↑l.length : Int)), (53, V.int IntKind.i64 ((↑l.length : Int) + 1)), (54, V.int IntKind.i64 (↑l.length : Int)), (66, V.bool ((↑l.length : Int) == (↑(List.map encW l).length : Int)))], heap := [B.cells [V.int IntKind.u64 key, V.int IntKind.u64 la, V.bool true, V.ex 5 false (List.map encS g)], B.cells [V.int IntKind.u64 key, V.int IntKind.u64 la, V.bool true, V.ex 5 false (List.map encS g)]] })) (by kernel_rfl) (by simp) ?_) ?_
  · refine ⟨?_, ?_, ?_, ?_, ?_, ?_, trivial⟩
    all_goals first
      | exact eqB_eq rfl
      | (simp; done)
      | exact eqB_eq (by rw [decS_enc])
      | exact apart_s _ _
      | (rw [eqv_S]; rfl)
      | (rw [decS_enc]; simp only [decide_eq_true_eq]; exact hv.lo)
      | (rw [decS_enc]; simp only [decide_eq_true_eq]; exact hv.hi)
      | (rw [decS_enc]; simp only [decide_eq_true_eq]; rw [ga, gb]; exact hE)
      | (rw [decS_enc]; simp only [decide_eq_false_iff_not]; rw [ga, gb]; exact hE)
      | (simp only [decide_eq_true_eq]; rw [ga, gb]; exact hE)
      | (simp only [decide_eq_false_iff_not]; rw [ga, gb]; exact hE)
      | (rw [ga, gb]; first | (simp; done) | simpa using hE)
      | (rw [decS_enc, ga, gb]; first | (simp; done) | simpa using hE)
      | (simp only [decS_enc]; simp; done)
      | exact decide_eq_true (hla.trans (last_nil key))
      | (rw [decS_enc]; exact decide_eq_true hla)
      | (simp only [Fd.y0, snoc_at]; simp [fld, intOf, cellsEqv, cellEqv]; done)
      | (rw [snoc_at]; simp [fitP, fld, leafFits, V.cells]; done)
      | (simp; omega)
      | (simp [encW, fitP, fld, leafFits, V.cells, hk]; done)
  · rw [show ((l.length : Int) == ((l.map encW).length : Int)) = true by simp, refV_ne hg, chainV_ne hg, cpV_ne hg]
    all_goals rfl
theorem chC0_end (key : Int) (n : Bool) (l : List Wsh) (hl : l.length ≤ 200) (k : Int) (hik : (l.length : Int) ≠ k) (la la0 : Int) (m : Bool) (ys : List V) (c0 : V) : LRuns (vstep T (vlim T F) lplim fi28.cx 1 (lb fi28 0)) (chC key n l k l.length la (refV ([])) (chainV ([])) (.sl m ys) (.cells [.int .u64 key, .int .u64 la0, .bool true, c0])) (.exit 0, ⟨[(0, .int .u64 key), (1, V.sl n (l.map encW)), (7, .ptr 0 0), (8, refV ([])), (9, .sl m ys), (10, .ptr 1 0), (11, .int .i64 k), (12, .int .i64 l.length), (53, .int .i64 ((l.length : Int) + 1)), (54, .int .i64 l.length), (66, .bool true)], [.cells [.int .u64 key, .int .u64 la, .bool true, chainV ([])], .cells [.int .u64 key, .int .u64 la0, .bool true, c0]]⟩) := by
  refine rcast (LRuns.last (F := F) X73_ok (sh := Sh) (L := fun _ _ => .fail) (LGood.none (by kernel_rfl)) [(decide ((↑l.length : Int) < (↑l.length : Int) + 1), true),
    ((↑l.length : Int) == k, false),
    ((↑l.length : Int) == (↑(List.map encW l).length : Int), true)] [2, 3, 4] (r := (Ex.exit 0, { env := [(0, V.int IntKind.u64 key), (1, V.sl n (List.map encW l)), (7, V.ptr 0 0), (8, V.sl true []), (9, V.sl m ys), (10, V.ptr 1 0), (11, V.int IntKind.i64 k), (12, V.int IntKind.i64 (↑l.length : Int)), (53, V.int IntKind.i64 ((↑l.length : Int) + 1)), (54, V.int IntKind.i64 (↑l.length : Int)), (66, V.bool ((↑l.length : Int) == (↑(List.map encW l).length : Int)))], heap := [B.cells [V.int IntKind.u64 key, V.int IntKind.u64 la, V.bool true, V.sl true []], B.cells [V.int IntKind.u64 key, V.int IntKind.u64 la0, V.bool true, c0]] })) (by kernel_rfl) (by simp) ?_) ?_
  · refine ⟨?_, ?_, ?_, trivial⟩
    all_goals first
      | exact eqB_eq rfl
      | (simp; done)
      | exact eqB_eq (by rw [decS_enc])
      | exact apart_s _ _
      | (rw [eqv_S]; rfl)
      | (rw [decS_enc]; simp only [decide_eq_true_eq]; exact hv.lo)
      | (rw [decS_enc]; simp only [decide_eq_true_eq]; exact hv.hi)
      | (rw [decS_enc]; simp only [decide_eq_true_eq]; rw [ga, gb]; exact hE)
      | (rw [decS_enc]; simp only [decide_eq_false_iff_not]; rw [ga, gb]; exact hE)
      | (simp only [decide_eq_true_eq]; rw [ga, gb]; exact hE)
      | (simp only [decide_eq_false_iff_not]; rw [ga, gb]; exact hE)
      | (rw [ga, gb]; first | (simp; done) | simpa using hE)
      | (rw [decS_enc, ga, gb]; first | (simp; done) | simpa using hE)
      | (simp only [decS_enc]; simp; done)
      | exact decide_eq_true (hla.trans (last_nil key))
      | (rw [decS_enc]; exact decide_eq_true hla)
      | (simp only [Fd.y0, snoc_at]; simp [fld, intOf, cellsEqv, cellEqv]; done)
      | (rw [snoc_at]; simp [fitP, fld, leafFits, V.cells]; done)
      | (simp; omega)
      | (simp [encW, fitP, fld, leafFits, V.cells, hk]; done)
  · rw [show ((l.length : Int) == ((l.map encW).length : Int)) = true by simp]
    all_goals rfl
theorem chC1_end (key : Int) (n : Bool) (l : List Wsh) (hl : l.length ≤ 200) (k : Int) (hik : (l.length : Int) ≠ k) (g : List Stp) (hg : 0 < g.length) (la la0 : Int) (m : Bool) (ys : List V) (c0 : V) : LRuns (vstep T (vlim T F) lplim fi28.cx 1 (lb fi28 0)) (chC key n l k l.length la (refV (g)) (chainV (g)) (.sl m ys) (.cells [.int .u64 key, .int .u64 la0, .bool true, c0])) (.exit 0, ⟨[(0, .int .u64 key), (1, V.sl n (l.map encW)), (7, .ptr 0 0), (8, refV (g)), (9, .sl m ys), (10, .ptr 1 0), (11, .int .i64 k), (12, .int .i64 l.length), (53, .int .i64 ((l.length : Int) + 1)), (54, .int .i64 l.length), (66, .bool true)], [.cells [.int .u64 key, .int .u64 la, .bool true, chainV (g)], .cells [.int .u64 key, .int .u64 la0, .bool true, c0]]⟩) := by
  have e0 : chC key n l k l.length la (refV (g)) (chainV (g)) (.sl m ys) (.cells [.int .u64 key, .int .u64 la0, .bool true, c0]) = chC key n l k l.length la (.sl false (g.map encS)) (.ex 5 false (g.map encS)) (.sl m ys) (.cells [.int .u64 key, .int .u64 la0, .bool true, c0]) := by unfold chC; rw [refV_ne hg, chainV_ne hg]
  rw [e0]
  refine rcast (LRuns.last (F := F) X73_ok (sh := Sh) (L := fun _ _ => .fail) (LGood.none (by kernel_rfl)) [(decide ((↑l.length : Int) < (↑l.length : Int) + 1), true),
    ((↑l.length : Int) == k, false),
    ((↑l.length : Int) == (↑(List.map encW l).length : Int), true)] [2, 3, 4] (r := (Ex.exit 0, { env := [(0, V.int IntKind.u64 key), (1, V.sl n (List.map encW l)), (7, V.ptr 0 0), (8, V.sl false (List.map encS g)), (9, V.sl m ys), (10, V.ptr 1 0), (11, V.int IntKind.i64 k), (12, V.int IntKind.i64 (↑l.length : Int)), (53, V.int IntKind.i64 ((↑l.length : Int) + 1)), (54, V.int IntKind.i64 (↑l.length : Int)), (66, V.bool ((↑l.length : Int) == (↑(List.map encW l).length : Int)))], heap := [B.cells [V.int IntKind.u64 key, V.int IntKind.u64 la, V.bool true, V.ex 5 false (List.map encS g)], B.cells [V.int IntKind.u64 key, V.int IntKind.u64 la0, V.bool true, c0]] })) (by kernel_rfl) (by simp) ?_) ?_
  · refine ⟨?_, ?_, ?_, trivial⟩
    all_goals first
      | exact eqB_eq rfl
      | (simp; done)
      | exact eqB_eq (by rw [decS_enc])
      | exact apart_s _ _
      | (rw [eqv_S]; rfl)
      | (rw [decS_enc]; simp only [decide_eq_true_eq]; exact hv.lo)
      | (rw [decS_enc]; simp only [decide_eq_true_eq]; exact hv.hi)
      | (rw [decS_enc]; simp only [decide_eq_true_eq]; rw [ga, gb]; exact hE)
      | (rw [decS_enc]; simp only [decide_eq_false_iff_not]; rw [ga, gb]; exact hE)
      | (simp only [decide_eq_true_eq]; rw [ga, gb]; exact hE)
      | (simp only [decide_eq_false_iff_not]; rw [ga, gb]; exact hE)
      | (rw [ga, gb]; first | (simp; done) | simpa using hE)
      | (rw [decS_enc, ga, gb]; first | (simp; done) | simpa using hE)
      | (simp only [decS_enc]; simp; done)
      | exact decide_eq_true (hla.trans (last_nil key))
      | (rw [decS_enc]; exact decide_eq_true hla)
      | (simp only [Fd.y0, snoc_at]; simp [fld, intOf, cellsEqv, cellEqv]; done)
      | (rw [snoc_at]; simp [fitP, fld, leafFits, V.cells]; done)
      | (simp; omega)
      | (simp [encW, fitP, fld, leafFits, V.cells, hk]; done)
  · rw [show ((l.length : Int) == ((l.map encW).length : Int)) = true by simp, refV_ne hg, chainV_ne hg]
    all_goals rfl
end Go.Proofs.Ytgmdkjiflhklaaa
