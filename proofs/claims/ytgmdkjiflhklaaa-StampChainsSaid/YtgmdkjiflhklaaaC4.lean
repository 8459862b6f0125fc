/- C4: a chain, wish by wish. -/
import Derived.Test.YtgmdkjiflhklaaaC3
namespace Go.Proofs.Ytgmdkjiflhklaaa
open Go Go.Vm
structure Wsh where
  doc : Int
  rd : Int
  bd : Int
def encW (w : Wsh) : V := .agg [.int .u64 w.doc, .int .i64 w.rd, .int .i64 w.bd]
def Fd.w0 (l : List Wsh) (i : Nat) : Int := intOf (fld 0 ((l.map encW).getD i V.undef))
def Fd.w1 (l : List Wsh) (i : Nat) : Int := intOf (fld 1 ((l.map encW).getD i V.undef))
def Fd.w2 (l : List Wsh) (i : Nat) : Int := intOf (fld 2 ((l.map encW).getD i V.undef))
theorem w0_at (l : List Wsh) (k : Nat) (h : k < l.length) : Fd.w0 l k = l[k].doc := by simp [Fd.w0, encW, h]
theorem w1_at (l : List Wsh) (k : Nat) (h : k < l.length) : Fd.w1 l k = l[k].rd := by simp [Fd.w1, encW, h]
theorem w2_at (l : List Wsh) (k : Nat) (h : k < l.length) : Fd.w2 l k = l[k].bd := by simp [Fd.w2, encW, h]
/-- Before the copy is made; after it. -/
def chA (key : Int) (n : Bool) (l : List Wsh) (k i la : Int) (rv cv : V) : St := ⟨[(0, .int .u64 key), (1, V.sl n (l.map encW)), (7, .ptr 0 0), (8, rv), (9, .sl true []), (10, .nilp), (11, .int .i64 k), (53, .int .i64 ((l.length : Int) + 1)), (54, .int .i64 i)], [.cells [.int .u64 key, .int .u64 la, .bool true, cv]]⟩
def chC (key : Int) (n : Bool) (l : List Wsh) (k i la : Int) (rv cv r0 : V) (b0 : B) : St := ⟨[(0, .int .u64 key), (1, V.sl n (l.map encW)), (7, .ptr 0 0), (8, rv), (9, r0), (10, .ptr 1 0), (11, .int .i64 k), (53, .int .i64 ((l.length : Int) + 1)), (54, .int .i64 i)], [.cells [.int .u64 key, .int .u64 la, .bool true, cv], b0]⟩
def refV (g : List Stp) : V := .sl g.isEmpty (g.map encS)
def cpV (g : List Stp) : V := .ex 5 g.isEmpty (g.map encS)
def cpB (key : Int) (g : List Stp) : B := .cells [.int .u64 key, .int .u64 (P.last key g), .bool true, cpV g]
def chF (key : Int) (n : Bool) (l : List Wsh) (k : Int) (g g0 : List Stp) : St := ⟨[(0, .int .u64 key), (1, V.sl n (l.map encW)), (7, .ptr 0 0), (8, refV g), (9, refV g0), (10, .ptr 1 0), (11, .int .i64 k), (12, .int .i64 l.length), (53, .int .i64 ((l.length : Int) + 1)), (54, .int .i64 l.length), (66, .bool true)], [.cells [.int .u64 key, .int .u64 (P.last key g), .bool true, chainV g], cpB key g0]⟩
theorem lcast {s : Step} {τ τ' : St} {r : Ex × St} (h : LRuns s τ r) (e : τ = τ') : LRuns s τ' r := e ▸ h
theorem rcast {s : Step} {τ : St} {r r' : Ex × St} (h : LRuns s τ r) (e : r = r') : LRuns s τ r' := e ▸ h
theorem last_nil (key : Int) : P.last key [] = P.mix key 3 := if_neg (by simp)
theorem last_snoc (key : Int) (g : List Stp) (s : Stp) : P.last key (g ++ [s]) = s.sgn := by
  unfold P.last
  rw [if_pos (by simp)]
  simp [List.getD_eq_getElem?_getD]
theorem llo_snoc (g : List Stp) (s : Stp) : P.llo (g ++ [s]) = s.lo := by
  unfold P.llo
  rw [if_pos (by simp)]
  simp [List.getD_eq_getElem?_getD]
theorem refV_ne {g : List Stp} (h : 0 < g.length) : refV g = .sl false (g.map encS) := by
  cases g with
  | nil => simp at h
  | cons s g => rfl
theorem cpV_ne {g : List Stp} (h : 0 < g.length) : cpV g = .ex 5 false (g.map encS) := by
  cases g with
  | nil => simp at h
  | cons s g => rfl
theorem refV_snoc (g : List Stp) (s : Stp) : refV (g ++ [s]) = .sl false (g.map encS ++ [encS s]) := by rw [refV_ne (by simp)]; simp
theorem chV_snoc (g : List Stp) (s : Stp) : chainV (g ++ [s]) = .ex 5 false (g.map encS ++ [encS s]) := by rw [chainV_ne (by simp)]; simp
theorem snoc_at (xs : List V) (x : V) : (xs ++ [x]).getD ((xs.length : Int)).toNat V.undef = x := by simp [List.getD_eq_getElem?_getD]
/-- What holds of the stamps on the way. -/
structure Gv (g : List Stp) (i : Nat) : Prop where
  len : g.length ≤ i
  lo : 0 ≤ P.llo g
  hi : P.llo g ≤ 1000000000000000
theorem Gv.nil : Gv [] 0 := ⟨Nat.le_refl _, Int.le_refl _, by decide⟩
theorem Gv.up {g : List Stp} {i : Nat} (h : Gv g i) : Gv g (i + 1) := ⟨by have := h.len; omega, h.lo, h.hi⟩
theorem Gv.snoc {g : List Stp} {i : Nat} (h : Gv g i) {key doc r b : Int} (hE : P.gE g r b = 0) : Gv (g ++ [P.gS key g doc r b]) (i + 1) := by
  have h1 := h.len
  have h2 := h.lo
  have h3 := h.hi
  unfold P.gE at hE
  split at hE
  · split at hE
    · cases hE
    · rename_i q1 q2
      have gd : P.gLo g r b = max (max (r - b) 0) (P.llo g) := rfl
      have gh : P.gHi r b = min (r + b) 1000000000000000 := rfl
      refine ⟨by simp; omega, ?_, ?_⟩
      · rw [llo_snoc]; show 0 ≤ P.gLo g r b; omega
      · rw [llo_snoc]; show P.gLo g r b ≤ _; omega
  · cases hE
theorem encS_gS (key doc r b : Int) (g : List Stp) : encS (P.gS key g doc r b) = .agg [.int .i64 (g.length : Int), .int .u64 doc, .int .i64 (P.gLo g r b), .int .i64 (P.gHi r b), .int .u64 (Fd.sgn key (P.last key g) g.length doc (P.gLo g r b) (P.gHi r b))] := rfl
theorem gS_sgn (key doc r b : Int) (g : List Stp) : (P.gS key g doc r b).sgn = Fd.sgn key (P.last key g) g.length doc (P.gLo g r b) (P.gHi r b) := rfl
theorem gS_sgn0 (key doc r b : Int) : (P.gS key [] doc r b).sgn = Fd.sgn key (P.last key []) 0 doc (P.gLo [] r b) (P.gHi r b) := by
  rw [gS_sgn]; simp only [List.length_nil, Int.natCast_zero]
theorem encS_gS0 (key doc r b : Int) : encS (P.gS key [] doc r b) = .agg [.int .i64 0, .int .u64 doc, .int .i64 (P.gLo [] r b), .int .i64 (P.gHi r b), .int .u64 (Fd.sgn key (P.last key []) 0 doc (P.gLo [] r b) (P.gHi r b))] := by
  rw [encS_gS]; simp only [List.length_nil, Int.natCast_zero]
theorem apart_s (b : Bool) (l : List Stp) : apart (V.ex 5 b (l.map encS)) = true := by
  simp only [apart, V.cells, List.all_cons, List.all_nil, Bool.and_true, apartC]
  rw [List.all_eq_true]; intro x hx; obtain ⟨c, _, rfl⟩ := List.mem_map.1 hx; rfl
theorem chA0_ok (key : Int) (n : Bool) (l : List Wsh) (hl : l.length ≤ 200) (k : Int) (r : Ex × St) (i : Nat) (hk : i < l.length) (hik : (i : Int) ≠ k) (la : Int) (hla : la = P.last key []) (hE : P.gE [] l[i].rd l[i].bd = 0) (h : LRuns (vstep T (vlim T F) lplim fi28.cx 1 (lb fi28 0)) (chA key n l k (i + 1 : Nat) (P.last key ([] ++ [P.gS key [] l[i].doc l[i].rd l[i].bd])) (refV ([] ++ [P.gS key [] l[i].doc l[i].rd l[i].bd])) (chainV ([] ++ [P.gS key [] l[i].doc l[i].rd l[i].bd]))) r) :
    LRuns (vstep T (vlim T F) lplim fi28.cx 1 (lb fi28 0)) (chA key n l k i la (refV ([])) (chainV ([]))) r := by
  have ga := w1_at l i hk
  have gb := w2_at l i hk
  have gc := w0_at l i hk
  refine LRuns.next (F := F) X73_ok (sh := Sh) (L := fun _ _ => .fail) (LGood.none (by kernel_rfl)) [(decide ((↑i : Int) < (↑l.length : Int) + 1), true),
    ((↑i : Int) == k, false),
    ((↑i : Int) == (↑(List.map encW l).length : Int), false),
    (decide ((↑i : Int) < (↑(List.map encW l).length : Int)), true),
    (((List.map encW l).getD i V.undef).cells.length == 3 && fitP [TK.int IntKind.u64, TK.int IntKind.i64, TK.int IntKind.i64] 0 ((List.map encW l).getD i V.undef), true),
    (decide (la = P.mix key 3), true),
    (decide (P.gE [] (Fd.w1 l i) (Fd.w2 l i) = 0), true),
    (!cellsEqv [V.int IntKind.i64 0, V.int IntKind.u64 (Fd.w0 l i), V.int IntKind.i64 (P.gLo [] (Fd.w1 l i) (Fd.w2 l i)), V.int IntKind.i64 (P.gHi (Fd.w1 l i) (Fd.w2 l i)), V.int IntKind.u64 (Fd.sgn key (P.last key []) 0 (Fd.w0 l i) (P.gLo [] (Fd.w1 l i) (Fd.w2 l i)) (P.gHi (Fd.w1 l i) (Fd.w2 l i)))] [V.int IntKind.i64 0, V.int IntKind.u64 (Fd.w0 l i), V.int IntKind.i64 (P.gLo [] (Fd.w1 l i) (Fd.w2 l i)), V.int IntKind.i64 (P.gHi (Fd.w1 l i) (Fd.w2 l i)), V.int IntKind.u64 (Fd.sgn key (P.last key []) 0 (Fd.w0 l i) (P.gLo [] (Fd.w1 l i) (Fd.w2 l i)) (P.gHi (Fd.w1 l i) (Fd.w2 l i)))], false)] [2, 3, 4, 0, 5, 6, 0, 5, 6, 0, 5, 6, 7, 8, 0, 5, 6, 0, 5, 6, 0, 5, 6, 8, 1, 1, 1, 0, 0, 0, 0, 0, 0, 0, 0, 0, 0, 1, 0, 1, 9, 9, 9, 1, 1, 1, 9, 1, 9, 1] (τ' := { env := [(0, V.int IntKind.u64 key), (1, V.sl n (List.map encW l)), (7, V.ptr 0 0), (8, V.sl false [V.agg [V.int IntKind.i64 0, V.int IntKind.u64 (Fd.w0 l i), V.int IntKind.i64 (P.gLo [] (Fd.w1 l i) (Fd.w2 l i)), V.int IntKind.i64 (P.gHi (Fd.w1 l i) (Fd.w2 l i)), V.int IntKind.u64 (Fd.sgn key (P.last key []) 0 (Fd.w0 l i) (P.gLo [] (Fd.w1 l i) (Fd.w2 l i)) (P.gHi (Fd.w1 l i) (Fd.w2 l i)))]]), (9, V.sl true []), (10, V.nilp), (11, V.int IntKind.i64 k), (53, V.int IntKind.i64 ((↑l.length : Int) + 1)), (54, V.int IntKind.i64 (IntKind.i64.wrap ((↑i : Int) + 1)))], heap := [B.cells [V.int IntKind.u64 key, V.int IntKind.u64 (Fd.sgn key (P.last key []) 0 (Fd.w0 l i) (P.gLo [] (Fd.w1 l i) (Fd.w2 l i)) (P.gHi (Fd.w1 l i) (Fd.w2 l i))), V.bool true, V.ex 5 false [V.agg [V.int IntKind.i64 0, V.int IntKind.u64 (Fd.w0 l i), V.int IntKind.i64 (P.gLo [] (Fd.w1 l i) (Fd.w2 l i)), V.int IntKind.i64 (P.gHi (Fd.w1 l i) (Fd.w2 l i)), V.int IntKind.u64 (Fd.sgn key (P.last key []) 0 (Fd.w0 l i) (P.gLo [] (Fd.w1 l i) (Fd.w2 l i)) (P.gHi (Fd.w1 l i) (Fd.w2 l i)))]]]] }) (by kernel_rfl) ?_ ?_
  · refine ⟨?_, ?_, ?_, ?_, ?_, ?_, ?_, ?_, trivial⟩
    all_goals first
      | exact eqB_eq (by rw [decS_enc])
      | exact apart_s _ _
      | (rw [eqv_S]; rfl)
      | (rw [decS_enc]; simp only [decide_eq_true_eq]; exact hv.lo)
      | (rw [decS_enc]; simp only [decide_eq_true_eq]; exact hv.hi)
      | (rw [decS_enc]; simp only [decide_eq_true_eq]; rw [ga, gb]; exact hE)
      | (rw [decS_enc]; simp only [decide_eq_false_iff_not]; rw [ga, gb]; exact hE)
      | (simp only [decide_eq_true_eq]; rw [ga, gb]; exact hE)
      | (simp only [decide_eq_false_iff_not]; rw [ga, gb]; exact hE)
      | (rw [ga, gb]; first | (simp; done) | simpa using hE)
      | (rw [decS_enc, ga, gb]; first | (simp; done) | simpa using hE)
      | (simp only [decS_enc]; simp; done)
      | exact decide_eq_true (hla.trans (last_nil key))
      | (rw [decS_enc]; exact decide_eq_true hla)
      | (simp only [Fd.y0, snoc_at]; simp [fld, intOf, cellsEqv, cellEqv]; done)
      | (rw [snoc_at]; simp [fitP, fld, leafFits, V.cells]; done)
      | (simp; omega)
      | (simp [encW, fitP, fld, leafFits, V.cells, hk]; done)
  · refine lcast h ?_
    rw [len_wrap (by omega), ga, gb, gc]
    rw [refV_snoc, chV_snoc, last_snoc, encS_gS0, gS_sgn0]
    rfl
theorem chA0_er (key : Int) (n : Bool) (l : List Wsh) (hl : l.length ≤ 200) (k : Int) (r : Ex × St) (i : Nat) (hk : i < l.length) (hik : (i : Int) ≠ k) (la : Int) (hla : la = P.last key []) (hE : P.gE [] l[i].rd l[i].bd ≠ 0) (h : LRuns (vstep T (vlim T F) lplim fi28.cx 1 (lb fi28 0)) (chA key n l k (i + 1 : Nat) la (refV ([])) (chainV ([]))) r) :
    LRuns (vstep T (vlim T F) lplim fi28.cx 1 (lb fi28 0)) (chA key n l k i la (refV ([])) (chainV ([]))) r := by
  have ga := w1_at l i hk
  have gb := w2_at l i hk
  have gc := w0_at l i hk
  refine LRuns.next (F := F) X73_ok (sh := Sh) (L := fun _ _ => .fail) (LGood.none (by kernel_rfl)) [(decide ((↑i : Int) < (↑l.length : Int) + 1), true),
    ((↑i : Int) == k, false),
    ((↑i : Int) == (↑(List.map encW l).length : Int), false),
    (decide ((↑i : Int) < (↑(List.map encW l).length : Int)), true),
    (((List.map encW l).getD i V.undef).cells.length == 3 && fitP [TK.int IntKind.u64, TK.int IntKind.i64, TK.int IntKind.i64] 0 ((List.map encW l).getD i V.undef), true),
    (decide (la = P.mix key 3), true),
    (decide (P.gE [] (Fd.w1 l i) (Fd.w2 l i) = 0), false),
    (P.gE [] (Fd.w1 l i) (Fd.w2 l i) != P.gE [] (Fd.w1 l i) (Fd.w2 l i), false),
    (P.gE [] (Fd.w1 l i) (Fd.w2 l i) == 0, false),
    (P.gE [] (Fd.w1 l i) (Fd.w2 l i) != 0, true)] [2, 3, 4, 0, 5, 6, 0, 5, 6, 0, 5, 6, 7, 8, 0, 5, 6, 0, 5, 6, 0, 5, 6, 8, 9, 9, 9, 10, 10, 10, 10, 10, 10, 10, 9, 10, 9, 1, 1, 1, 11, 11, 11, 1, 11, 1, 1] (τ' := { env := [(0, V.int IntKind.u64 key), (1, V.sl n (List.map encW l)), (7, V.ptr 0 0), (8, V.sl true []), (9, V.sl true []), (10, V.nilp), (11, V.int IntKind.i64 k), (53, V.int IntKind.i64 ((↑l.length : Int) + 1)), (54, V.int IntKind.i64 (IntKind.i64.wrap ((↑i : Int) + 1)))], heap := [B.cells [V.int IntKind.u64 key, V.int IntKind.u64 la, V.bool true, V.sl true []]] }) (by kernel_rfl) ?_ ?_
  · refine ⟨?_, ?_, ?_, ?_, ?_, ?_, ?_, ?_, ?_, ?_, trivial⟩
    all_goals first
      | exact eqB_eq (by rw [decS_enc])
      | exact apart_s _ _
      | (rw [eqv_S]; rfl)
      | (rw [decS_enc]; simp only [decide_eq_true_eq]; exact hv.lo)
      | (rw [decS_enc]; simp only [decide_eq_true_eq]; exact hv.hi)
      | (rw [decS_enc]; simp only [decide_eq_true_eq]; rw [ga, gb]; exact hE)
      | (rw [decS_enc]; simp only [decide_eq_false_iff_not]; rw [ga, gb]; exact hE)
      | (simp only [decide_eq_true_eq]; rw [ga, gb]; exact hE)
      | (simp only [decide_eq_false_iff_not]; rw [ga, gb]; exact hE)
      | (rw [ga, gb]; first | (simp; done) | simpa using hE)
      | (rw [decS_enc, ga, gb]; first | (simp; done) | simpa using hE)
      | (simp only [decS_enc]; simp; done)
      | exact decide_eq_true (hla.trans (last_nil key))
      | (rw [decS_enc]; exact decide_eq_true hla)
      | (simp only [Fd.y0, snoc_at]; simp [fld, intOf, cellsEqv, cellEqv]; done)
      | (rw [snoc_at]; simp [fitP, fld, leafFits, V.cells]; done)
      | (simp; omega)
      | (simp [encW, fitP, fld, leafFits, V.cells, hk]; done)
  · refine lcast h ?_
    rw [len_wrap (by omega)]
    rfl
theorem chA1_ok (key : Int) (n : Bool) (l : List Wsh) (hl : l.length ≤ 200) (k : Int) (r : Ex × St) (g : List Stp) (hg : 0 < g.length) (i : Nat) (hk : i < l.length) (hik : (i : Int) ≠ k) (hv : Gv g i) (la : Int) (hla : la = P.last key g) (hE : P.gE g l[i].rd l[i].bd = 0) (h : LRuns (vstep T (vlim T F) lplim fi28.cx 1 (lb fi28 0)) (chA key n l k (i + 1 : Nat) (P.last key (g ++ [P.gS key g l[i].doc l[i].rd l[i].bd])) (refV (g ++ [P.gS key g l[i].doc l[i].rd l[i].bd])) (chainV (g ++ [P.gS key g l[i].doc l[i].rd l[i].bd]))) r) :
    LRuns (vstep T (vlim T F) lplim fi28.cx 1 (lb fi28 0)) (chA key n l k i la (refV (g)) (chainV (g))) r := by
  have ga := w1_at l i hk
  have gb := w2_at l i hk
  have gc := w0_at l i hk
  have hlg := hv.len
  have e0 : chA key n l k i la (refV (g)) (chainV (g)) = chA key n l k i la (.sl false (g.map encS)) (.ex 5 false (g.map encS)) := by unfold chA; rw [refV_ne hg, chainV_ne hg]
  rw [e0]
  refine LRuns.next (F := F) X73_ok (sh := Sh) (L := fun _ _ => .fail) (LGood.none (by kernel_rfl)) [(decide ((↑i : Int) < (↑l.length : Int) + 1), true),
    ((↑i : Int) == k, false),
    ((↑i : Int) == (↑(List.map encW l).length : Int), false),
    (decide ((↑i : Int) < (↑(List.map encW l).length : Int)), true),
    (((List.map encW l).getD i V.undef).cells.length == 3 && fitP [TK.int IntKind.u64, TK.int IntKind.i64, TK.int IntKind.i64] 0 ((List.map encW l).getD i V.undef), true),
    (eqB (List.map encS g) (List.map encS (List.map decS (List.map encS g))), true),
    (decide (0 < (List.map encS g).length), true),
    (decide ((List.map encS g).length < 1000), true),
    (decide (la = P.last key (List.map decS (List.map encS g))), true),
    (decide (0 ≤ P.llo (List.map decS (List.map encS g))), true),
    (decide (P.llo (List.map decS (List.map encS g)) ≤ 1000000000000000), true),
    (decide (P.gE (List.map decS (List.map encS g)) (Fd.w1 l i) (Fd.w2 l i) = 0), true),
    (decide ((↑(List.map encS g).length : Int) < (↑(List.map encS g ++ [V.agg [V.int IntKind.i64 (↑(List.map decS (List.map encS g)).length : Int), V.int IntKind.u64 (Fd.w0 l i), V.int IntKind.i64 (P.gLo (List.map decS (List.map encS g)) (Fd.w1 l i) (Fd.w2 l i)), V.int IntKind.i64 (P.gHi (Fd.w1 l i) (Fd.w2 l i)), V.int IntKind.u64 (Fd.sgn key (P.last key (List.map decS (List.map encS g))) (↑(List.map decS (List.map encS g)).length : Int) (Fd.w0 l i) (P.gLo (List.map decS (List.map encS g)) (Fd.w1 l i) (Fd.w2 l i)) (P.gHi (Fd.w1 l i) (Fd.w2 l i)))]]).length : Int)), true),
    (((List.map encS g ++ [V.agg [V.int IntKind.i64 (↑(List.map decS (List.map encS g)).length : Int), V.int IntKind.u64 (Fd.w0 l i), V.int IntKind.i64 (P.gLo (List.map decS (List.map encS g)) (Fd.w1 l i) (Fd.w2 l i)), V.int IntKind.i64 (P.gHi (Fd.w1 l i) (Fd.w2 l i)), V.int IntKind.u64 (Fd.sgn key (P.last key (List.map decS (List.map encS g))) (↑(List.map decS (List.map encS g)).length : Int) (Fd.w0 l i) (P.gLo (List.map decS (List.map encS g)) (Fd.w1 l i) (Fd.w2 l i)) (P.gHi (Fd.w1 l i) (Fd.w2 l i)))]]).getD (↑(List.map encS g).length : Int).toNat V.undef).cells.length == 5 && fitP [TK.int IntKind.i64, TK.int IntKind.u64, TK.int IntKind.i64, TK.int IntKind.i64, TK.int IntKind.u64] 0 ((List.map encS g ++ [V.agg [V.int IntKind.i64 (↑(List.map decS (List.map encS g)).length : Int), V.int IntKind.u64 (Fd.w0 l i), V.int IntKind.i64 (P.gLo (List.map decS (List.map encS g)) (Fd.w1 l i) (Fd.w2 l i)), V.int IntKind.i64 (P.gHi (Fd.w1 l i) (Fd.w2 l i)), V.int IntKind.u64 (Fd.sgn key (P.last key (List.map decS (List.map encS g))) (↑(List.map decS (List.map encS g)).length : Int) (Fd.w0 l i) (P.gLo (List.map decS (List.map encS g)) (Fd.w1 l i) (Fd.w2 l i)) (P.gHi (Fd.w1 l i) (Fd.w2 l i)))]]).getD (↑(List.map encS g).length : Int).toNat V.undef), true),
    (!cellsEqv [V.int IntKind.i64 (↑(List.map decS (List.map encS g)).length : Int), V.int IntKind.u64 (Fd.w0 l i), V.int IntKind.i64 (P.gLo (List.map decS (List.map encS g)) (Fd.w1 l i) (Fd.w2 l i)), V.int IntKind.i64 (P.gHi (Fd.w1 l i) (Fd.w2 l i)), V.int IntKind.u64 (Fd.sgn key (P.last key (List.map decS (List.map encS g))) (↑(List.map decS (List.map encS g)).length : Int) (Fd.w0 l i) (P.gLo (List.map decS (List.map encS g)) (Fd.w1 l i) (Fd.w2 l i)) (P.gHi (Fd.w1 l i) (Fd.w2 l i)))] [V.int IntKind.i64 (Fd.y0 ((List.map encS g ++ [V.agg [V.int IntKind.i64 (↑(List.map decS (List.map encS g)).length : Int), V.int IntKind.u64 (Fd.w0 l i), V.int IntKind.i64 (P.gLo (List.map decS (List.map encS g)) (Fd.w1 l i) (Fd.w2 l i)), V.int IntKind.i64 (P.gHi (Fd.w1 l i) (Fd.w2 l i)), V.int IntKind.u64 (Fd.sgn key (P.last key (List.map decS (List.map encS g))) (↑(List.map decS (List.map encS g)).length : Int) (Fd.w0 l i) (P.gLo (List.map decS (List.map encS g)) (Fd.w1 l i) (Fd.w2 l i)) (P.gHi (Fd.w1 l i) (Fd.w2 l i)))]]).getD (↑(List.map encS g).length : Int).toNat V.undef)), V.int IntKind.u64 (intOf (fld 1 ((List.map encS g ++ [V.agg [V.int IntKind.i64 (↑(List.map decS (List.map encS g)).length : Int), V.int IntKind.u64 (Fd.w0 l i), V.int IntKind.i64 (P.gLo (List.map decS (List.map encS g)) (Fd.w1 l i) (Fd.w2 l i)), V.int IntKind.i64 (P.gHi (Fd.w1 l i) (Fd.w2 l i)), V.int IntKind.u64 (Fd.sgn key (P.last key (List.map decS (List.map encS g))) (↑(List.map decS (List.map encS g)).length : Int) (Fd.w0 l i) (P.gLo (List.map decS (List.map encS g)) (Fd.w1 l i) (Fd.w2 l i)) (P.gHi (Fd.w1 l i) (Fd.w2 l i)))]]).getD (↑(List.map encS g).length : Int).toNat V.undef))), V.int IntKind.i64 (intOf (fld 2 ((List.map encS g ++ [V.agg [V.int IntKind.i64 (↑(List.map decS (List.map encS g)).length : Int), V.int IntKind.u64 (Fd.w0 l i), V.int IntKind.i64 (P.gLo (List.map decS (List.map encS g)) (Fd.w1 l i) (Fd.w2 l i)), V.int IntKind.i64 (P.gHi (Fd.w1 l i) (Fd.w2 l i)), V.int IntKind.u64 (Fd.sgn key (P.last key (List.map decS (List.map encS g))) (↑(List.map decS (List.map encS g)).length : Int) (Fd.w0 l i) (P.gLo (List.map decS (List.map encS g)) (Fd.w1 l i) (Fd.w2 l i)) (P.gHi (Fd.w1 l i) (Fd.w2 l i)))]]).getD (↑(List.map encS g).length : Int).toNat V.undef))), V.int IntKind.i64 (intOf (fld 3 ((List.map encS g ++ [V.agg [V.int IntKind.i64 (↑(List.map decS (List.map encS g)).length : Int), V.int IntKind.u64 (Fd.w0 l i), V.int IntKind.i64 (P.gLo (List.map decS (List.map encS g)) (Fd.w1 l i) (Fd.w2 l i)), V.int IntKind.i64 (P.gHi (Fd.w1 l i) (Fd.w2 l i)), V.int IntKind.u64 (Fd.sgn key (P.last key (List.map decS (List.map encS g))) (↑(List.map decS (List.map encS g)).length : Int) (Fd.w0 l i) (P.gLo (List.map decS (List.map encS g)) (Fd.w1 l i) (Fd.w2 l i)) (P.gHi (Fd.w1 l i) (Fd.w2 l i)))]]).getD (↑(List.map encS g).length : Int).toNat V.undef))), V.int IntKind.u64 (intOf (fld 4 ((List.map encS g ++ [V.agg [V.int IntKind.i64 (↑(List.map decS (List.map encS g)).length : Int), V.int IntKind.u64 (Fd.w0 l i), V.int IntKind.i64 (P.gLo (List.map decS (List.map encS g)) (Fd.w1 l i) (Fd.w2 l i)), V.int IntKind.i64 (P.gHi (Fd.w1 l i) (Fd.w2 l i)), V.int IntKind.u64 (Fd.sgn key (P.last key (List.map decS (List.map encS g))) (↑(List.map decS (List.map encS g)).length : Int) (Fd.w0 l i) (P.gLo (List.map decS (List.map encS g)) (Fd.w1 l i) (Fd.w2 l i)) (P.gHi (Fd.w1 l i) (Fd.w2 l i)))]]).getD (↑(List.map encS g).length : Int).toNat V.undef)))], false)] [2, 3, 4, 0, 5, 6, 0, 5, 6, 0, 5, 6, 7, 8, 9, 10, 11, 12, 13, 0, 5, 6, 0, 5, 6, 0, 5, 6, 7, 8, 9, 11, 12, 13, 1, 1, 1, 0, 0, 0, 0, 0, 0, 14, 15, 0, 0, 1, 0, 1, 16, 16, 16, 1, 1, 1, 16, 1, 16, 1] (τ' := { env := [(0, V.int IntKind.u64 key), (1, V.sl n (List.map encW l)), (7, V.ptr 0 0), (8, V.sl false (List.map encS g ++ [V.agg [V.int IntKind.i64 (↑(List.map decS (List.map encS g)).length : Int), V.int IntKind.u64 (Fd.w0 l i), V.int IntKind.i64 (P.gLo (List.map decS (List.map encS g)) (Fd.w1 l i) (Fd.w2 l i)), V.int IntKind.i64 (P.gHi (Fd.w1 l i) (Fd.w2 l i)), V.int IntKind.u64 (Fd.sgn key (P.last key (List.map decS (List.map encS g))) (↑(List.map decS (List.map encS g)).length : Int) (Fd.w0 l i) (P.gLo (List.map decS (List.map encS g)) (Fd.w1 l i) (Fd.w2 l i)) (P.gHi (Fd.w1 l i) (Fd.w2 l i)))]])), (9, V.sl true []), (10, V.nilp), (11, V.int IntKind.i64 k), (53, V.int IntKind.i64 ((↑l.length : Int) + 1)), (54, V.int IntKind.i64 (IntKind.i64.wrap ((↑i : Int) + 1)))], heap := [B.cells [V.int IntKind.u64 key, V.int IntKind.u64 (Fd.sgn key (P.last key (List.map decS (List.map encS g))) (↑(List.map decS (List.map encS g)).length : Int) (Fd.w0 l i) (P.gLo (List.map decS (List.map encS g)) (Fd.w1 l i) (Fd.w2 l i)) (P.gHi (Fd.w1 l i) (Fd.w2 l i))), V.bool true, V.ex 5 false (List.map encS (List.map decS (List.map encS g)) ++ [V.agg [V.int IntKind.i64 (↑(List.map decS (List.map encS g)).length : Int), V.int IntKind.u64 (Fd.w0 l i), V.int IntKind.i64 (P.gLo (List.map decS (List.map encS g)) (Fd.w1 l i) (Fd.w2 l i)), V.int IntKind.i64 (P.gHi (Fd.w1 l i) (Fd.w2 l i)), V.int IntKind.u64 (Fd.sgn key (P.last key (List.map decS (List.map encS g))) (↑(List.map decS (List.map encS g)).length : Int) (Fd.w0 l i) (P.gLo (List.map decS (List.map encS g)) (Fd.w1 l i) (Fd.w2 l i)) (P.gHi (Fd.w1 l i) (Fd.w2 l i)))]])]] }) (by kernel_rfl) ?_ ?_
  · refine ⟨?_, ?_, ?_, ?_, ?_, ?_, ?_, ?_, ?_, ?_, ?_, ?_, ?_, ?_, ?_, trivial⟩
    all_goals first
      | exact eqB_eq (by rw [decS_enc])
      | exact apart_s _ _
      | (rw [eqv_S]; rfl)
      | (rw [decS_enc]; simp only [decide_eq_true_eq]; exact hv.lo)
      | (rw [decS_enc]; simp only [decide_eq_true_eq]; exact hv.hi)
      | (rw [decS_enc]; simp only [decide_eq_true_eq]; rw [ga, gb]; exact hE)
      | (rw [decS_enc]; simp only [decide_eq_false_iff_not]; rw [ga, gb]; exact hE)
      | (simp only [decide_eq_true_eq]; rw [ga, gb]; exact hE)
      | (simp only [decide_eq_false_iff_not]; rw [ga, gb]; exact hE)
      | (rw [ga, gb]; first | (simp; done) | simpa using hE)
      | (rw [decS_enc, ga, gb]; first | (simp; done) | simpa using hE)
      | (simp only [decS_enc]; simp; done)
      | exact decide_eq_true (hla.trans (last_nil key))
      | (rw [decS_enc]; exact decide_eq_true hla)
      | (simp only [Fd.y0, snoc_at]; simp [fld, intOf, cellsEqv, cellEqv]; done)
      | (rw [snoc_at]; simp [fitP, fld, leafFits, V.cells]; done)
      | (simp; omega)
      | (simp [encW, fitP, fld, leafFits, V.cells, hk]; done)
  · refine lcast h ?_
    rw [decS_enc, len_wrap (by omega), ga, gb, gc]
    rw [refV_snoc, chV_snoc, last_snoc, encS_gS, gS_sgn]
    rfl
theorem chA1_er (key : Int) (n : Bool) (l : List Wsh) (hl : l.length ≤ 200) (k : Int) (r : Ex × St) (g : List Stp) (hg : 0 < g.length) (i : Nat) (hk : i < l.length) (hik : (i : Int) ≠ k) (hv : Gv g i) (la : Int) (hla : la = P.last key g) (hE : P.gE g l[i].rd l[i].bd ≠ 0) (h : LRuns (vstep T (vlim T F) lplim fi28.cx 1 (lb fi28 0)) (chA key n l k (i + 1 : Nat) la (refV (g)) (chainV (g))) r) :
    LRuns (vstep T (vlim T F) lplim fi28.cx 1 (lb fi28 0)) (chA key n l k i la (refV (g)) (chainV (g))) r := by
  have ga := w1_at l i hk
  have gb := w2_at l i hk
  have gc := w0_at l i hk
  have hlg := hv.len
  have e0 : chA key n l k i la (refV (g)) (chainV (g)) = chA key n l k i la (.sl false (g.map encS)) (.ex 5 false (g.map encS)) := by unfold chA; rw [refV_ne hg, chainV_ne hg]
  rw [e0]
  refine LRuns.next (F := F) X73_ok (sh := Sh) (L := fun _ _ => .fail) (LGood.none (by kernel_rfl)) [(decide ((↑i : Int) < (↑l.length : Int) + 1), true),
    ((↑i : Int) == k, false),
    ((↑i : Int) == (↑(List.map encW l).length : Int), false),
    (decide ((↑i : Int) < (↑(List.map encW l).length : Int)), true),
    (((List.map encW l).getD i V.undef).cells.length == 3 && fitP [TK.int IntKind.u64, TK.int IntKind.i64, TK.int IntKind.i64] 0 ((List.map encW l).getD i V.undef), true),
    (eqB (List.map encS g) (List.map encS (List.map decS (List.map encS g))), true),
    (decide (0 < (List.map encS g).length), true),
    (decide ((List.map encS g).length < 1000), true),
    (decide (la = P.last key (List.map decS (List.map encS g))), true),
    (decide (0 ≤ P.llo (List.map decS (List.map encS g))), true),
    (decide (P.llo (List.map decS (List.map encS g)) ≤ 1000000000000000), true),
    (decide (P.gE (List.map decS (List.map encS g)) (Fd.w1 l i) (Fd.w2 l i) = 0), false),
    (P.gE (List.map decS (List.map encS g)) (Fd.w1 l i) (Fd.w2 l i) != P.gE (List.map decS (List.map encS g)) (Fd.w1 l i) (Fd.w2 l i), false),
    (P.gE (List.map decS (List.map encS g)) (Fd.w1 l i) (Fd.w2 l i) == 0, false),
    (P.gE (List.map decS (List.map encS g)) (Fd.w1 l i) (Fd.w2 l i) != 0, true)] [2, 3, 4, 0, 5, 6, 0, 5, 6, 0, 5, 6, 7, 8, 9, 10, 11, 12, 13, 0, 5, 6, 0, 5, 6, 0, 5, 6, 7, 8, 9, 11, 12, 13, 14, 14, 14, 15, 15, 15, 15, 15, 15, 15, 14, 15, 14, 1, 1, 1, 16, 16, 16, 1, 16, 1, 1] (τ' := { env := [(0, V.int IntKind.u64 key), (1, V.sl n (List.map encW l)), (7, V.ptr 0 0), (8, V.sl false (List.map encS g)), (9, V.sl true []), (10, V.nilp), (11, V.int IntKind.i64 k), (53, V.int IntKind.i64 ((↑l.length : Int) + 1)), (54, V.int IntKind.i64 (IntKind.i64.wrap ((↑i : Int) + 1)))], heap := [B.cells [V.int IntKind.u64 key, V.int IntKind.u64 la, V.bool true, V.ex 5 false (List.map encS g)]] }) (by kernel_rfl) ?_ ?_
  · refine ⟨?_, ?_, ?_, ?_, ?_, ?_, ?_, ?_, ?_, ?_, ?_, ?_, ?_, ?_, ?_, trivial⟩
    all_goals first
      | exact eqB_eq (by rw [decS_enc])
      | exact apart_s _ _
      | (rw [eqv_S]; rfl)
      | (rw [decS_enc]; simp only [decide_eq_true_eq]; exact hv.lo)
      | (rw [decS_enc]; simp only [decide_eq_true_eq]; exact hv.hi)
      | (rw [decS_enc]; simp only [decide_eq_true_eq]; rw [ga, gb]; exact hE)
      | (rw [decS_enc]; simp only [decide_eq_false_iff_not]; rw [ga, gb]; exact hE)
      | (simp only [decide_eq_true_eq]; rw [ga, gb]; exact hE)
      | (simp only [decide_eq_false_iff_not]; rw [ga, gb]; exact hE)
      | (rw [ga, gb]; first | (simp; done) | simpa using hE)
      | (rw [decS_enc, ga, gb]; first | (simp; done) | simpa using hE)
      | (simp only [decS_enc]; simp; done)
      | exact decide_eq_true (hla.trans (last_nil key))
      | (rw [decS_enc]; exact decide_eq_true hla)
      | (simp only [Fd.y0, snoc_at]; simp [fld, intOf, cellsEqv, cellEqv]; done)
      | (rw [snoc_at]; simp [fitP, fld, leafFits, V.cells]; done)
      | (simp; omega)
      | (simp [encW, fitP, fld, leafFits, V.cells, hk]; done)
  · refine lcast h ?_
    rw [len_wrap (by omega)]
    rw [refV_ne hg, chainV_ne hg]
    rfl
theorem chC0_ok (key : Int) (n : Bool) (l : List Wsh) (hl : l.length ≤ 200) (k : Int) (r : Ex × St) (m : Bool) (ys : List V) (la0 : Int) (c0 : V) (i : Nat) (hk : i < l.length) (hik : (i : Int) ≠ k) (la : Int) (hla : la = P.last key []) (hE : P.gE [] l[i].rd l[i].bd = 0) (h : LRuns (vstep T (vlim T F) lplim fi28.cx 1 (lb fi28 0)) (chC key n l k (i + 1 : Nat) (P.last key ([] ++ [P.gS key [] l[i].doc l[i].rd l[i].bd])) (refV ([] ++ [P.gS key [] l[i].doc l[i].rd l[i].bd])) (chainV ([] ++ [P.gS key [] l[i].doc l[i].rd l[i].bd])) (.sl m ys) (.cells [.int .u64 key, .int .u64 la0, .bool true, c0])) r) :
    LRuns (vstep T (vlim T F) lplim fi28.cx 1 (lb fi28 0)) (chC key n l k i la (refV ([])) (chainV ([])) (.sl m ys) (.cells [.int .u64 key, .int .u64 la0, .bool true, c0])) r := by
  have ga := w1_at l i hk
  have gb := w2_at l i hk
  have gc := w0_at l i hk
  refine LRuns.next (F := F) X73_ok (sh := Sh) (L := fun _ _ => .fail) (LGood.none (by kernel_rfl)) [(decide ((↑i : Int) < (↑l.length : Int) + 1), true),
    ((↑i : Int) == k, false),
    ((↑i : Int) == (↑(List.map encW l).length : Int), false),
    (decide ((↑i : Int) < (↑(List.map encW l).length : Int)), true),
    (((List.map encW l).getD i V.undef).cells.length == 3 && fitP [TK.int IntKind.u64, TK.int IntKind.i64, TK.int IntKind.i64] 0 ((List.map encW l).getD i V.undef), true),
    (decide (la = P.mix key 3), true),
    (decide (P.gE [] (Fd.w1 l i) (Fd.w2 l i) = 0), true),
    (!cellsEqv [V.int IntKind.i64 0, V.int IntKind.u64 (Fd.w0 l i), V.int IntKind.i64 (P.gLo [] (Fd.w1 l i) (Fd.w2 l i)), V.int IntKind.i64 (P.gHi (Fd.w1 l i) (Fd.w2 l i)), V.int IntKind.u64 (Fd.sgn key (P.last key []) 0 (Fd.w0 l i) (P.gLo [] (Fd.w1 l i) (Fd.w2 l i)) (P.gHi (Fd.w1 l i) (Fd.w2 l i)))] [V.int IntKind.i64 0, V.int IntKind.u64 (Fd.w0 l i), V.int IntKind.i64 (P.gLo [] (Fd.w1 l i) (Fd.w2 l i)), V.int IntKind.i64 (P.gHi (Fd.w1 l i) (Fd.w2 l i)), V.int IntKind.u64 (Fd.sgn key (P.last key []) 0 (Fd.w0 l i) (P.gLo [] (Fd.w1 l i) (Fd.w2 l i)) (P.gHi (Fd.w1 l i) (Fd.w2 l i)))], false)] [2, 3, 4, 0, 5, 6, 0, 5, 6, 0, 5, 6, 7, 8, 0, 5, 6, 0, 5, 6, 0, 5, 6, 8, 1, 1, 1, 0, 0, 0, 0, 0, 0, 0, 0, 0, 0, 1, 0, 1, 9, 9, 9, 1, 1, 1, 9, 1, 9, 1] (τ' := { env := [(0, V.int IntKind.u64 key), (1, V.sl n (List.map encW l)), (7, V.ptr 0 0), (8, V.sl false [V.agg [V.int IntKind.i64 0, V.int IntKind.u64 (Fd.w0 l i), V.int IntKind.i64 (P.gLo [] (Fd.w1 l i) (Fd.w2 l i)), V.int IntKind.i64 (P.gHi (Fd.w1 l i) (Fd.w2 l i)), V.int IntKind.u64 (Fd.sgn key (P.last key []) 0 (Fd.w0 l i) (P.gLo [] (Fd.w1 l i) (Fd.w2 l i)) (P.gHi (Fd.w1 l i) (Fd.w2 l i)))]]), (9, V.sl m ys), (10, V.ptr 1 0), (11, V.int IntKind.i64 k), (53, V.int IntKind.i64 ((↑l.length : Int) + 1)), (54, V.int IntKind.i64 (IntKind.i64.wrap ((↑i : Int) + 1)))], heap := [B.cells [V.int IntKind.u64 key, V.int IntKind.u64 (Fd.sgn key (P.last key []) 0 (Fd.w0 l i) (P.gLo [] (Fd.w1 l i) (Fd.w2 l i)) (P.gHi (Fd.w1 l i) (Fd.w2 l i))), V.bool true, V.ex 5 false [V.agg [V.int IntKind.i64 0, V.int IntKind.u64 (Fd.w0 l i), V.int IntKind.i64 (P.gLo [] (Fd.w1 l i) (Fd.w2 l i)), V.int IntKind.i64 (P.gHi (Fd.w1 l i) (Fd.w2 l i)), V.int IntKind.u64 (Fd.sgn key (P.last key []) 0 (Fd.w0 l i) (P.gLo [] (Fd.w1 l i) (Fd.w2 l i)) (P.gHi (Fd.w1 l i) (Fd.w2 l i)))]]], B.cells [V.int IntKind.u64 key, V.int IntKind.u64 la0, V.bool true, c0]] }) (by kernel_rfl) ?_ ?_
  · refine ⟨?_, ?_, ?_, ?_, ?_, ?_, ?_, ?_, trivial⟩
    all_goals first
      | exact eqB_eq (by rw [decS_enc])
      | exact apart_s _ _
      | (rw [eqv_S]; rfl)
      | (rw [decS_enc]; simp only [decide_eq_true_eq]; exact hv.lo)
      | (rw [decS_enc]; simp only [decide_eq_true_eq]; exact hv.hi)
      | (rw [decS_enc]; simp only [decide_eq_true_eq]; rw [ga, gb]; exact hE)
      | (rw [decS_enc]; simp only [decide_eq_false_iff_not]; rw [ga, gb]; exact hE)
      | (simp only [decide_eq_true_eq]; rw [ga, gb]; exact hE)
      | (simp only [decide_eq_false_iff_not]; rw [ga, gb]; exact hE)
      | (rw [ga, gb]; first | (simp; done) | simpa using hE)
      | (rw [decS_enc, ga, gb]; first | (simp; done) | simpa using hE)
      | (simp only [decS_enc]; simp; done)
      | exact decide_eq_true (hla.trans (last_nil key))
      | (rw [decS_enc]; exact decide_eq_true hla)
      | (simp only [Fd.y0, snoc_at]; simp [fld, intOf, cellsEqv, cellEqv]; done)
      | (rw [snoc_at]; simp [fitP, fld, leafFits, V.cells]; done)
      | (simp; omega)
      | (simp [encW, fitP, fld, leafFits, V.cells, hk]; done)
  · refine lcast h ?_
    rw [len_wrap (by omega), ga, gb, gc]
    rw [refV_snoc, chV_snoc, last_snoc, encS_gS0, gS_sgn0]
    rfl
theorem chC0_er (key : Int) (n : Bool) (l : List Wsh) (hl : l.length ≤ 200) (k : Int) (r : Ex × St) (m : Bool) (ys : List V) (la0 : Int) (c0 : V) (i : Nat) (hk : i < l.length) (hik : (i : Int) ≠ k) (la : Int) (hla : la = P.last key []) (hE : P.gE [] l[i].rd l[i].bd ≠ 0) (h : LRuns (vstep T (vlim T F) lplim fi28.cx 1 (lb fi28 0)) (chC key n l k (i + 1 : Nat) la (refV ([])) (chainV ([])) (.sl m ys) (.cells [.int .u64 key, .int .u64 la0, .bool true, c0])) r) :
    LRuns (vstep T (vlim T F) lplim fi28.cx 1 (lb fi28 0)) (chC key n l k i la (refV ([])) (chainV ([])) (.sl m ys) (.cells [.int .u64 key, .int .u64 la0, .bool true, c0])) r := by
  have ga := w1_at l i hk
  have gb := w2_at l i hk
  have gc := w0_at l i hk
  refine LRuns.next (F := F) X73_ok (sh := Sh) (L := fun _ _ => .fail) (LGood.none (by kernel_rfl)) [(decide ((↑i : Int) < (↑l.length : Int) + 1), true),
    ((↑i : Int) == k, false),
    ((↑i : Int) == (↑(List.map encW l).length : Int), false),
    (decide ((↑i : Int) < (↑(List.map encW l).length : Int)), true),
    (((List.map encW l).getD i V.undef).cells.length == 3 && fitP [TK.int IntKind.u64, TK.int IntKind.i64, TK.int IntKind.i64] 0 ((List.map encW l).getD i V.undef), true),
    (decide (la = P.mix key 3), true),
    (decide (P.gE [] (Fd.w1 l i) (Fd.w2 l i) = 0), false),
    (P.gE [] (Fd.w1 l i) (Fd.w2 l i) != P.gE [] (Fd.w1 l i) (Fd.w2 l i), false),
    (P.gE [] (Fd.w1 l i) (Fd.w2 l i) == 0, false),
    (P.gE [] (Fd.w1 l i) (Fd.w2 l i) != 0, true)] [2, 3, 4, 0, 5, 6, 0, 5, 6, 0, 5, 6, 7, 8, 0, 5, 6, 0, 5, 6, 0, 5, 6, 8, 9, 9, 9, 10, 10, 10, 10, 10, 10, 10, 9, 10, 9, 1, 1, 1, 11, 11, 11, 1, 11, 1, 1] (τ' := { env := [(0, V.int IntKind.u64 key), (1, V.sl n (List.map encW l)), (7, V.ptr 0 0), (8, V.sl true []), (9, V.sl m ys), (10, V.ptr 1 0), (11, V.int IntKind.i64 k), (53, V.int IntKind.i64 ((↑l.length : Int) + 1)), (54, V.int IntKind.i64 (IntKind.i64.wrap ((↑i : Int) + 1)))], heap := [B.cells [V.int IntKind.u64 key, V.int IntKind.u64 la, V.bool true, V.sl true []], B.cells [V.int IntKind.u64 key, V.int IntKind.u64 la0, V.bool true, c0]] }) (by kernel_rfl) ?_ ?_
  · refine ⟨?_, ?_, ?_, ?_, ?_, ?_, ?_, ?_, ?_, ?_, trivial⟩
    all_goals first
      | exact eqB_eq (by rw [decS_enc])
      | exact apart_s _ _
      | (rw [eqv_S]; rfl)
      | (rw [decS_enc]; simp only [decide_eq_true_eq]; exact hv.lo)
      | (rw [decS_enc]; simp only [decide_eq_true_eq]; exact hv.hi)
      | (rw [decS_enc]; simp only [decide_eq_true_eq]; rw [ga, gb]; exact hE)
      | (rw [decS_enc]; simp only [decide_eq_false_iff_not]; rw [ga, gb]; exact hE)
      | (simp only [decide_eq_true_eq]; rw [ga, gb]; exact hE)
      | (simp only [decide_eq_false_iff_not]; rw [ga, gb]; exact hE)
      | (rw [ga, gb]; first | (simp; done) | simpa using hE)
      | (rw [decS_enc, ga, gb]; first | (simp; done) | simpa using hE)
      | (simp only [decS_enc]; simp; done)
      | exact decide_eq_true (hla.trans (last_nil key))
      | (rw [decS_enc]; exact decide_eq_true hla)
      | (simp only [Fd.y0, snoc_at]; simp [fld, intOf, cellsEqv, cellEqv]; done)
      | (rw [snoc_at]; simp [fitP, fld, leafFits, V.cells]; done)
      | (simp; omega)
      | (simp [encW, fitP, fld, leafFits, V.cells, hk]; done)
  · refine lcast h ?_
    rw [len_wrap (by omega)]
    rfl
theorem chC1_ok (key : Int) (n : Bool) (l : List Wsh) (hl : l.length ≤ 200) (k : Int) (r : Ex × St) (m : Bool) (ys : List V) (la0 : Int) (c0 : V) (g : List Stp) (hg : 0 < g.length) (i : Nat) (hk : i < l.length) (hik : (i : Int) ≠ k) (hv : Gv g i) (la : Int) (hla : la = P.last key g) (hE : P.gE g l[i].rd l[i].bd = 0) (h : LRuns (vstep T (vlim T F) lplim fi28.cx 1 (lb fi28 0)) (chC key n l k (i + 1 : Nat) (P.last key (g ++ [P.gS key g l[i].doc l[i].rd l[i].bd])) (refV (g ++ [P.gS key g l[i].doc l[i].rd l[i].bd])) (chainV (g ++ [P.gS key g l[i].doc l[i].rd l[i].bd])) (.sl m ys) (.cells [.int .u64 key, .int .u64 la0, .bool true, c0])) r) :
    LRuns (vstep T (vlim T F) lplim fi28.cx 1 (lb fi28 0)) (chC key n l k i la (refV (g)) (chainV (g)) (.sl m ys) (.cells [.int .u64 key, .int .u64 la0, .bool true, c0])) r := by
  have ga := w1_at l i hk
  have gb := w2_at l i hk
  have gc := w0_at l i hk
  have hlg := hv.len
  have e0 : chC key n l k i la (refV (g)) (chainV (g)) (.sl m ys) (.cells [.int .u64 key, .int .u64 la0, .bool true, c0]) = chC key n l k i la (.sl false (g.map encS)) (.ex 5 false (g.map encS)) (.sl m ys) (.cells [.int .u64 key, .int .u64 la0, .bool true, c0]) := by unfold chC; rw [refV_ne hg, chainV_ne hg]
  rw [e0]
  refine LRuns.next (F := F) X73_ok (sh := Sh) (L := fun _ _ => .fail) (LGood.none (by kernel_rfl)) [(decide ((↑i : Int) < (↑l.length : Int) + 1), true),
    ((↑i : Int) == k, false),
    ((↑i : Int) == (↑(List.map encW l).length : Int), false),
    (decide ((↑i : Int) < (↑(List.map encW l).length : Int)), true),
    (((List.map encW l).getD i V.undef).cells.length == 3 && fitP [TK.int IntKind.u64, TK.int IntKind.i64, TK.int IntKind.i64] 0 ((List.map encW l).getD i V.undef), true),
    (eqB (List.map encS g) (List.map encS (List.map decS (List.map encS g))), true),
    (decide (0 < (List.map encS g).length), true),
    (decide ((List.map encS g).length < 1000), true),
    (decide (la = P.last key (List.map decS (List.map encS g))), true),
    (decide (0 ≤ P.llo (List.map decS (List.map encS g))), true),
    (decide (P.llo (List.map decS (List.map encS g)) ≤ 1000000000000000), true),
    (decide (P.gE (List.map decS (List.map encS g)) (Fd.w1 l i) (Fd.w2 l i) = 0), true),
    (decide ((↑(List.map encS g).length : Int) < (↑(List.map encS g ++ [V.agg [V.int IntKind.i64 (↑(List.map decS (List.map encS g)).length : Int), V.int IntKind.u64 (Fd.w0 l i), V.int IntKind.i64 (P.gLo (List.map decS (List.map encS g)) (Fd.w1 l i) (Fd.w2 l i)), V.int IntKind.i64 (P.gHi (Fd.w1 l i) (Fd.w2 l i)), V.int IntKind.u64 (Fd.sgn key (P.last key (List.map decS (List.map encS g))) (↑(List.map decS (List.map encS g)).length : Int) (Fd.w0 l i) (P.gLo (List.map decS (List.map encS g)) (Fd.w1 l i) (Fd.w2 l i)) (P.gHi (Fd.w1 l i) (Fd.w2 l i)))]]).length : Int)), true),
    (((List.map encS g ++ [V.agg [V.int IntKind.i64 (↑(List.map decS (List.map encS g)).length : Int), V.int IntKind.u64 (Fd.w0 l i), V.int IntKind.i64 (P.gLo (List.map decS (List.map encS g)) (Fd.w1 l i) (Fd.w2 l i)), V.int IntKind.i64 (P.gHi (Fd.w1 l i) (Fd.w2 l i)), V.int IntKind.u64 (Fd.sgn key (P.last key (List.map decS (List.map encS g))) (↑(List.map decS (List.map encS g)).length : Int) (Fd.w0 l i) (P.gLo (List.map decS (List.map encS g)) (Fd.w1 l i) (Fd.w2 l i)) (P.gHi (Fd.w1 l i) (Fd.w2 l i)))]]).getD (↑(List.map encS g).length : Int).toNat V.undef).cells.length == 5 && fitP [TK.int IntKind.i64, TK.int IntKind.u64, TK.int IntKind.i64, TK.int IntKind.i64, TK.int IntKind.u64] 0 ((List.map encS g ++ [V.agg [V.int IntKind.i64 (↑(List.map decS (List.map encS g)).length : Int), V.int IntKind.u64 (Fd.w0 l i), V.int IntKind.i64 (P.gLo (List.map decS (List.map encS g)) (Fd.w1 l i) (Fd.w2 l i)), V.int IntKind.i64 (P.gHi (Fd.w1 l i) (Fd.w2 l i)), V.int IntKind.u64 (Fd.sgn key (P.last key (List.map decS (List.map encS g))) (↑(List.map decS (List.map encS g)).length : Int) (Fd.w0 l i) (P.gLo (List.map decS (List.map encS g)) (Fd.w1 l i) (Fd.w2 l i)) (P.gHi (Fd.w1 l i) (Fd.w2 l i)))]]).getD (↑(List.map encS g).length : Int).toNat V.undef), true),
    (!cellsEqv [V.int IntKind.i64 (↑(List.map decS (List.map encS g)).length : Int), V.int IntKind.u64 (Fd.w0 l i), V.int IntKind.i64 (P.gLo (List.map decS (List.map encS g)) (Fd.w1 l i) (Fd.w2 l i)), V.int IntKind.i64 (P.gHi (Fd.w1 l i) (Fd.w2 l i)), V.int IntKind.u64 (Fd.sgn key (P.last key (List.map decS (List.map encS g))) (↑(List.map decS (List.map encS g)).length : Int) (Fd.w0 l i) (P.gLo (List.map decS (List.map encS g)) (Fd.w1 l i) (Fd.w2 l i)) (P.gHi (Fd.w1 l i) (Fd.w2 l i)))] [V.int IntKind.i64 (Fd.y0 ((List.map encS g ++ [V.agg [V.int IntKind.i64 (↑(List.map decS (List.map encS g)).length : Int), V.int IntKind.u64 (Fd.w0 l i), V.int IntKind.i64 (P.gLo (List.map decS (List.map encS g)) (Fd.w1 l i) (Fd.w2 l i)), V.int IntKind.i64 (P.gHi (Fd.w1 l i) (Fd.w2 l i)), V.int IntKind.u64 (Fd.sgn key (P.last key (List.map decS (List.map encS g))) (↑(List.map decS (List.map encS g)).length : Int) (Fd.w0 l i) (P.gLo (List.map decS (List.map encS g)) (Fd.w1 l i) (Fd.w2 l i)) (P.gHi (Fd.w1 l i) (Fd.w2 l i)))]]).getD (↑(List.map encS g).length : Int).toNat V.undef)), V.int IntKind.u64 (intOf (fld 1 ((List.map encS g ++ [V.agg [V.int IntKind.i64 (↑(List.map decS (List.map encS g)).length : Int), V.int IntKind.u64 (Fd.w0 l i), V.int IntKind.i64 (P.gLo (List.map decS (List.map encS g)) (Fd.w1 l i) (Fd.w2 l i)), V.int IntKind.i64 (P.gHi (Fd.w1 l i) (Fd.w2 l i)), V.int IntKind.u64 (Fd.sgn key (P.last key (List.map decS (List.map encS g))) (↑(List.map decS (List.map encS g)).length : Int) (Fd.w0 l i) (P.gLo (List.map decS (List.map encS g)) (Fd.w1 l i) (Fd.w2 l i)) (P.gHi (Fd.w1 l i) (Fd.w2 l i)))]]).getD (↑(List.map encS g).length : Int).toNat V.undef))), V.int IntKind.i64 (intOf (fld 2 ((List.map encS g ++ [V.agg [V.int IntKind.i64 (↑(List.map decS (List.map encS g)).length : Int), V.int IntKind.u64 (Fd.w0 l i), V.int IntKind.i64 (P.gLo (List.map decS (List.map encS g)) (Fd.w1 l i) (Fd.w2 l i)), V.int IntKind.i64 (P.gHi (Fd.w1 l i) (Fd.w2 l i)), V.int IntKind.u64 (Fd.sgn key (P.last key (List.map decS (List.map encS g))) (↑(List.map decS (List.map encS g)).length : Int) (Fd.w0 l i) (P.gLo (List.map decS (List.map encS g)) (Fd.w1 l i) (Fd.w2 l i)) (P.gHi (Fd.w1 l i) (Fd.w2 l i)))]]).getD (↑(List.map encS g).length : Int).toNat V.undef))), V.int IntKind.i64 (intOf (fld 3 ((List.map encS g ++ [V.agg [V.int IntKind.i64 (↑(List.map decS (List.map encS g)).length : Int), V.int IntKind.u64 (Fd.w0 l i), V.int IntKind.i64 (P.gLo (List.map decS (List.map encS g)) (Fd.w1 l i) (Fd.w2 l i)), V.int IntKind.i64 (P.gHi (Fd.w1 l i) (Fd.w2 l i)), V.int IntKind.u64 (Fd.sgn key (P.last key (List.map decS (List.map encS g))) (↑(List.map decS (List.map encS g)).length : Int) (Fd.w0 l i) (P.gLo (List.map decS (List.map encS g)) (Fd.w1 l i) (Fd.w2 l i)) (P.gHi (Fd.w1 l i) (Fd.w2 l i)))]]).getD (↑(List.map encS g).length : Int).toNat V.undef))), V.int IntKind.u64 (intOf (fld 4 ((List.map encS g ++ [V.agg [V.int IntKind.i64 (↑(List.map decS (List.map encS g)).length : Int), V.int IntKind.u64 (Fd.w0 l i), V.int IntKind.i64 (P.gLo (List.map decS (List.map encS g)) (Fd.w1 l i) (Fd.w2 l i)), V.int IntKind.i64 (P.gHi (Fd.w1 l i) (Fd.w2 l i)), V.int IntKind.u64 (Fd.sgn key (P.last key (List.map decS (List.map encS g))) (↑(List.map decS (List.map encS g)).length : Int) (Fd.w0 l i) (P.gLo (List.map decS (List.map encS g)) (Fd.w1 l i) (Fd.w2 l i)) (P.gHi (Fd.w1 l i) (Fd.w2 l i)))]]).getD (↑(List.map encS g).length : Int).toNat V.undef)))], false)] [2, 3, 4, 0, 5, 6, 0, 5, 6, 0, 5, 6, 7, 8, 9, 10, 11, 12, 13, 0, 5, 6, 0, 5, 6, 0, 5, 6, 7, 8, 9, 11, 12, 13, 1, 1, 1, 0, 0, 0, 0, 0, 0, 14, 15, 0, 0, 1, 0, 1, 16, 16, 16, 1, 1, 1, 16, 1, 16, 1] (τ' := { env := [(0, V.int IntKind.u64 key), (1, V.sl n (List.map encW l)), (7, V.ptr 0 0), (8, V.sl false (List.map encS g ++ [V.agg [V.int IntKind.i64 (↑(List.map decS (List.map encS g)).length : Int), V.int IntKind.u64 (Fd.w0 l i), V.int IntKind.i64 (P.gLo (List.map decS (List.map encS g)) (Fd.w1 l i) (Fd.w2 l i)), V.int IntKind.i64 (P.gHi (Fd.w1 l i) (Fd.w2 l i)), V.int IntKind.u64 (Fd.sgn key (P.last key (List.map decS (List.map encS g))) (↑(List.map decS (List.map encS g)).length : Int) (Fd.w0 l i) (P.gLo (List.map decS (List.map encS g)) (Fd.w1 l i) (Fd.w2 l i)) (P.gHi (Fd.w1 l i) (Fd.w2 l i)))]])), (9, V.sl m ys), (10, V.ptr 1 0), (11, V.int IntKind.i64 k), (53, V.int IntKind.i64 ((↑l.length : Int) + 1)), (54, V.int IntKind.i64 (IntKind.i64.wrap ((↑i : Int) + 1)))], heap := [B.cells [V.int IntKind.u64 key, V.int IntKind.u64 (Fd.sgn key (P.last key (List.map decS (List.map encS g))) (↑(List.map decS (List.map encS g)).length : Int) (Fd.w0 l i) (P.gLo (List.map decS (List.map encS g)) (Fd.w1 l i) (Fd.w2 l i)) (P.gHi (Fd.w1 l i) (Fd.w2 l i))), V.bool true, V.ex 5 false (List.map encS (List.map decS (List.map encS g)) ++ [V.agg [V.int IntKind.i64 (↑(List.map decS (List.map encS g)).length : Int), V.int IntKind.u64 (Fd.w0 l i), V.int IntKind.i64 (P.gLo (List.map decS (List.map encS g)) (Fd.w1 l i) (Fd.w2 l i)), V.int IntKind.i64 (P.gHi (Fd.w1 l i) (Fd.w2 l i)), V.int IntKind.u64 (Fd.sgn key (P.last key (List.map decS (List.map encS g))) (↑(List.map decS (List.map encS g)).length : Int) (Fd.w0 l i) (P.gLo (List.map decS (List.map encS g)) (Fd.w1 l i) (Fd.w2 l i)) (P.gHi (Fd.w1 l i) (Fd.w2 l i)))]])], B.cells [V.int IntKind.u64 key, V.int IntKind.u64 la0, V.bool true, c0]] }) (by kernel_rfl) ?_ ?_
  · refine ⟨?_, ?_, ?_, ?_, ?_, ?_, ?_, ?_, ?_, ?_, ?_, ?_, ?_, ?_, ?_, trivial⟩
    all_goals first
      | exact eqB_eq (by rw [decS_enc])
      | exact apart_s _ _
      | (rw [eqv_S]; rfl)
      | (rw [decS_enc]; simp only [decide_eq_true_eq]; exact hv.lo)
      | (rw [decS_enc]; simp only [decide_eq_true_eq]; exact hv.hi)
      | (rw [decS_enc]; simp only [decide_eq_true_eq]; rw [ga, gb]; exact hE)
      | (rw [decS_enc]; simp only [decide_eq_false_iff_not]; rw [ga, gb]; exact hE)
      | (simp only [decide_eq_true_eq]; rw [ga, gb]; exact hE)
      | (simp only [decide_eq_false_iff_not]; rw [ga, gb]; exact hE)
      | (rw [ga, gb]; first | (simp; done) | simpa using hE)
      | (rw [decS_enc, ga, gb]; first | (simp; done) | simpa using hE)
      | (simp only [decS_enc]; simp; done)
      | exact decide_eq_true (hla.trans (last_nil key))
      | (rw [decS_enc]; exact decide_eq_true hla)
      | (simp only [Fd.y0, snoc_at]; simp [fld, intOf, cellsEqv, cellEqv]; done)
      | (rw [snoc_at]; simp [fitP, fld, leafFits, V.cells]; done)
      | (simp; omega)
      | (simp [encW, fitP, fld, leafFits, V.cells, hk]; done)
  · refine lcast h ?_
    rw [decS_enc, len_wrap (by omega), ga, gb, gc]
    rw [refV_snoc, chV_snoc, last_snoc, encS_gS, gS_sgn]
    rfl
theorem chC1_er (key : Int) (n : Bool) (l : List Wsh) (hl : l.length ≤ 200) (k : Int) (r : Ex × St) (m : Bool) (ys : List V) (la0 : Int) (c0 : V) (g : List Stp) (hg : 0 < g.length) (i : Nat) (hk : i < l.length) (hik : (i : Int) ≠ k) (hv : Gv g i) (la : Int) (hla : la = P.last key g) (hE : P.gE g l[i].rd l[i].bd ≠ 0) (h : LRuns (vstep T (vlim T F) lplim fi28.cx 1 (lb fi28 0)) (chC key n l k (i + 1 : Nat) la (refV (g)) (chainV (g)) (.sl m ys) (.cells [.int .u64 key, .int .u64 la0, .bool true, c0])) r) :
    LRuns (vstep T (vlim T F) lplim fi28.cx 1 (lb fi28 0)) (chC key n l k i la (refV (g)) (chainV (g)) (.sl m ys) (.cells [.int .u64 key, .int .u64 la0, .bool true, c0])) r := by
  have ga := w1_at l i hk
  have gb := w2_at l i hk
  have gc := w0_at l i hk
  have hlg := hv.len
  have e0 : chC key n l k i la (refV (g)) (chainV (g)) (.sl m ys) (.cells [.int .u64 key, .int .u64 la0, .bool true, c0]) = chC key n l k i la (.sl false (g.map encS)) (.ex 5 false (g.map encS)) (.sl m ys) (.cells [.int .u64 key, .int .u64 la0, .bool true, c0]) := by unfold chC; rw [refV_ne hg, chainV_ne hg]
  rw [e0]
  refine LRuns.next (F := F) X73_ok (sh := Sh) (L := fun _ _ => .fail) (LGood.none (by kernel_rfl)) [(decide ((↑i : Int) < (↑l.length : Int) + 1), true),
    ((↑i : Int) == k, false),
    ((↑i : Int) == (↑(List.map encW l).length : Int), false),
    (decide ((↑i : Int) < (↑(List.map encW l).length : Int)), true),
    (((List.map encW l).getD i V.undef).cells.length == 3 && fitP [TK.int IntKind.u64, TK.int IntKind.i64, TK.int IntKind.i64] 0 ((List.map encW l).getD i V.undef), true),
    (eqB (List.map encS g) (List.map encS (List.map decS (List.map encS g))), true),
    (decide (0 < (List.map encS g).length), true),
    (decide ((List.map encS g).length < 1000), true),
    (decide (la = P.last key (List.map decS (List.map encS g))), true),
    (decide (0 ≤ P.llo (List.map decS (List.map encS g))), true),
    (decide (P.llo (List.map decS (List.map encS g)) ≤ 1000000000000000), true),
    (decide (P.gE (List.map decS (List.map encS g)) (Fd.w1 l i) (Fd.w2 l i) = 0), false),
    (P.gE (List.map decS (List.map encS g)) (Fd.w1 l i) (Fd.w2 l i) != P.gE (List.map decS (List.map encS g)) (Fd.w1 l i) (Fd.w2 l i), false),
    (P.gE (List.map decS (List.map encS g)) (Fd.w1 l i) (Fd.w2 l i) == 0, false),
    (P.gE (List.map decS (List.map encS g)) (Fd.w1 l i) (Fd.w2 l i) != 0, true)] [2, 3, 4, 0, 5, 6, 0, 5, 6, 0, 5, 6, 7, 8, 9, 10, 11, 12, 13, 0, 5, 6, 0, 5, 6, 0, 5, 6, 7, 8, 9, 11, 12, 13, 14, 14, 14, 15, 15, 15, 15, 15, 15, 15, 14, 15, 14, 1, 1, 1, 16, 16, 16, 1, 16, 1, 1] (τ' := { env := [(0, V.int IntKind.u64 key), (1, V.sl n (List.map encW l)), (7, V.ptr 0 0), (8, V.sl false (List.map encS g)), (9, V.sl m ys), (10, V.ptr 1 0), (11, V.int IntKind.i64 k), (53, V.int IntKind.i64 ((↑l.length : Int) + 1)), (54, V.int IntKind.i64 (IntKind.i64.wrap ((↑i : Int) + 1)))], heap := [B.cells [V.int IntKind.u64 key, V.int IntKind.u64 la, V.bool true, V.ex 5 false (List.map encS g)], B.cells [V.int IntKind.u64 key, V.int IntKind.u64 la0, V.bool true, c0]] }) (by kernel_rfl) ?_ ?_
  · refine ⟨?_, ?_, ?_, ?_, ?_, ?_, ?_, ?_, ?_, ?_, ?_, ?_, ?_, ?_, ?_, trivial⟩
    all_goals first
      | exact eqB_eq (by rw [decS_enc])
      | exact apart_s _ _
      | (rw [eqv_S]; rfl)
      | (rw [decS_enc]; simp only [decide_eq_true_eq]; exact hv.lo)
      | (rw [decS_enc]; simp only [decide_eq_true_eq]; exact hv.hi)
      | (rw [decS_enc]; simp only [decide_eq_true_eq]; rw [ga, gb]; exact hE)
      | (rw [decS_enc]; simp only [decide_eq_false_iff_not]; rw [ga, gb]; exact hE)
      | (simp only [decide_eq_true_eq]; rw [ga, gb]; exact hE)
      | (simp only [decide_eq_false_iff_not]; rw [ga, gb]; exact hE)
      | (rw [ga, gb]; first | (simp; done) | simpa using hE)
      | (rw [decS_enc, ga, gb]; first | (simp; done) | simpa using hE)
      | (simp only [decS_enc]; simp; done)
      | exact decide_eq_true (hla.trans (last_nil key))
      | (rw [decS_enc]; exact decide_eq_true hla)
      | (simp only [Fd.y0, snoc_at]; simp [fld, intOf, cellsEqv, cellEqv]; done)
      | (rw [snoc_at]; simp [fitP, fld, leafFits, V.cells]; done)
      | (simp; omega)
      | (simp [encW, fitP, fld, leafFits, V.cells, hk]; done)
  · refine lcast h ?_
    rw [len_wrap (by omega)]
    rw [refV_ne hg, chainV_ne hg]
    rfl
end Go.Proofs.Ytgmdkjiflhklaaa
