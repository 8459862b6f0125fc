/- B2: the slopes that are collected. -/
import Derived.Test.YtgmdkjiflhklaaaB1
namespace Go.Proofs.Ytgmdkjiflhklaaa
open Go Go.Vm

/-- What is collected: the least and the greatest slope; whose they are; whether there is any; whether nothing fits. -/
structure Bd where
  lN : Int := 0
  lD : Int := 0
  mN : Int := 0
  mD : Int := 0
  f0 : Int := 0
  f1 : Int := 0
  g0 : Int := 0
  g1 : Int := 0
  fd : Bool := false
  em : Bool := false
def encBd (b : Bd) : List V := [.int .i64 b.lN, .int .i64 b.lD, .int .i64 b.mN, .int .i64 b.mD, .int .i64 b.f0, .int .i64 b.f1, .int .i64 b.g0, .int .i64 b.g1, .bool b.fd, .bool b.em]
def addB (x y : Chk) (i k : Int) (b : Bd) : Bd :=
  let p := !b.fd || decide (P.cmp (P.rn (y.lo - x.hi) (y.at_ - x.at_)) (P.rd (y.lo - x.hi) (y.at_ - x.at_)) b.lN b.lD > 0)
  let q := !b.fd || decide (P.cmp (P.rn (y.hi - x.lo) (y.at_ - x.at_)) (P.rd (y.hi - x.lo) (y.at_ - x.at_)) b.mN b.mD < 0)
  { lN := if p then P.rn (y.lo - x.hi) (y.at_ - x.at_) else b.lN, lD := if p then P.rd (y.lo - x.hi) (y.at_ - x.at_) else b.lD,
    mN := if q then P.rn (y.hi - x.lo) (y.at_ - x.at_) else b.mN, mD := if q then P.rd (y.hi - x.lo) (y.at_ - x.at_) else b.mD,
    f0 := if p then i else b.f0, f1 := if p then k else b.f1, g0 := if q then i else b.g0, g1 := if q then k else b.g1, fd := true, em := b.em }
/-- Checks within their limits. -/
structure OkC (c : Chk) : Prop where
  a0 : 0 ≤ c.at_
  a1 : c.at_ ≤ 100000
  l0 : -100000000 ≤ c.lo
  h1 : c.hi ≤ 100000000
  le : c.lo ≤ c.hi
structure OkB (b : Bd) : Prop where
  ln : b.lN.natAbs ≤ 1000000000
  ld : b.lD.natAbs ≤ 1000000000
  mn : b.mN.natAbs ≤ 1000000000
  md : b.mD.natAbs ≤ 1000000000

theorem tdiv_abs (a g : Int) : (a.tdiv g).natAbs ≤ a.natAbs := by rw [Int.natAbs_tdiv]; exact Nat.div_le_self _ _
theorem prod_in {a b : Int} (h1 : a.natAbs ≤ 1000000000) (h2 : b.natAbs ≤ 1000000000) : -9000000000000000000 ≤ a * b ∧ a * b ≤ 9000000000000000000 := by
  have h : (a * b).natAbs ≤ 1000000000 * 1000000000 := by rw [Int.natAbs_mul]; exact Nat.mul_le_mul h1 h2
  omega
theorem addB_ok {x y : Chk} {i k : Int} {b : Bd} (hx : OkC x) (hy : OkC y) (hb : OkB b) : OkB (addB x y i k b) := by
  obtain ⟨x0, x1, x2, x3, x4⟩ := hx
  obtain ⟨y0, y1, y2, y3, y4⟩ := hy
  have t1 := tdiv_abs (y.lo - x.hi) (P.gcd (y.lo - x.hi) (y.at_ - x.at_))
  have t2 := tdiv_abs (y.at_ - x.at_) (P.gcd (y.lo - x.hi) (y.at_ - x.at_))
  have t3 := tdiv_abs (y.hi - x.lo) (P.gcd (y.hi - x.lo) (y.at_ - x.at_))
  have t4 := tdiv_abs (y.at_ - x.at_) (P.gcd (y.hi - x.lo) (y.at_ - x.at_))
  refine ⟨?_, ?_, ?_, ?_⟩ <;> simp only [addB] <;> split
  · unfold P.rn; omega
  · exact hb.ln
  · unfold P.rd; omega
  · exact hb.ld
  · unfold P.rn; omega
  · exact hb.mn
  · unfold P.rd; omega
  · exact hb.md

theorem add_runs {n : Bool} {l : List Chk} {i k : Nat} {b : Bd} (hi : i < l.length) (hk : k < l.length) (hl : l.length ≤ 1000) (hx : OkC l[i]) (hy : OkC l[k]) (hat : l[i].at_ < l[k].at_) (hb : OkB b) :
    Runs T F 41 [.ptr 1 0, .sl n (l.map encC), .int .i64 i, .int .i64 k] [.dead, .cells (encBd b), .dead, .dead] (.tup [], [.dead, .cells (encBd (addB l[i] l[k] i k b)), .dead, .dead]) := by
  obtain ⟨x0, x1, x2, x3, x4⟩ := hx
  obtain ⟨y0, y1, y2, y3, y4⟩ := hy
  have hw1 : IntKind.i64.wrap (Fd.clo l k - Fd.chi l i) = l[k].lo - l[i].hi := by rw [clo_at l k hk, chi_at l i hi, i64in (by omega) (by omega)]
  have hw2 : IntKind.i64.wrap (Fd.chi l k - Fd.clo l i) = l[k].hi - l[i].lo := by rw [clo_at l i hi, chi_at l k hk, i64in (by omega) (by omega)]
  have hwd : IntKind.i64.wrap (Fd.cat l k - Fd.cat l i) = l[k].at_ - l[i].at_ := by rw [cat_at l i hi, cat_at l k hk, i64in (by omega) (by omega)]
  have t1 := tdiv_abs (l[k].lo - l[i].hi) (P.gcd (l[k].lo - l[i].hi) (l[k].at_ - l[i].at_))
  have t2 := tdiv_abs (l[k].at_ - l[i].at_) (P.gcd (l[k].lo - l[i].hi) (l[k].at_ - l[i].at_))
  have t3 := tdiv_abs (l[k].hi - l[i].lo) (P.gcd (l[k].hi - l[i].lo) (l[k].at_ - l[i].at_))
  have t4 := tdiv_abs (l[k].at_ - l[i].at_) (P.gcd (l[k].hi - l[i].lo) (l[k].at_ - l[i].at_))
  obtain ⟨p1, p2⟩ := prod_in (a := P.rn (l[k].lo - l[i].hi) (l[k].at_ - l[i].at_)) (by unfold P.rn; omega) hb.ld
  obtain ⟨p3, p4⟩ := prod_in (b := P.rd (l[k].lo - l[i].hi) (l[k].at_ - l[i].at_)) hb.ln (by unfold P.rd; omega)
  obtain ⟨p5, p6⟩ := prod_in (a := P.rn (l[k].hi - l[i].lo) (l[k].at_ - l[i].at_)) (by unfold P.rn; omega) hb.md
  obtain ⟨p7, p8⟩ := prod_in (b := P.rd (l[k].hi - l[i].lo) (l[k].at_ - l[i].at_)) hb.mn (by unfold P.rd; omega)
  cases hfd : b.fd with
  | false =>
      have e : encBd (addB l[i] l[k] i k b) = [V.int IntKind.i64 (P.rn (l[k].lo - l[i].hi) (l[k].at_ - l[i].at_)), V.int IntKind.i64 (P.rd (l[k].lo - l[i].hi) (l[k].at_ - l[i].at_)), V.int IntKind.i64 (P.rn (l[k].hi - l[i].lo) (l[k].at_ - l[i].at_)), V.int IntKind.i64 (P.rd (l[k].hi - l[i].lo) (l[k].at_ - l[i].at_)), V.int IntKind.i64 (i : Int), V.int IntKind.i64 (k : Int), V.int IntKind.i64 (i : Int), V.int IntKind.i64 (k : Int), V.bool true, V.bool b.em] := by simp [addB, encBd, hfd]
      have := Runs.way (F := F) (sh := Sh) (S := S42) (L := fun _ _ => .fail) S42_ok (f := 41) (fi := fi41) (by kernel_rfl) (LGood.none (by kernel_rfl)) (a := [.ptr 1 0, .sl n (l.map encC), .int .i64 i, .int .i64 k]) (H := [.dead, .cells (encBd b), .dead, .dead])
        [(decide (0 ≤ (k : Int)), true),
        (decide ((k : Int) < ↑(List.map encC l).length), true),
        (((List.map encC l).getD (k : Int).toNat V.undef).cells.length == 3 && fitP [TK.int IntKind.i64, TK.int IntKind.i64, TK.int IntKind.i64] 0 ((List.map encC l).getD (k : Int).toNat V.undef), true),
        (decide (0 ≤ (i : Int)), true),
        (decide ((i : Int) < ↑(List.map encC l).length), true),
        (((List.map encC l).getD (i : Int).toNat V.undef).cells.length == 3 && fitP [TK.int IntKind.i64, TK.int IntKind.i64, TK.int IntKind.i64] 0 ((List.map encC l).getD (i : Int).toNat V.undef), true),
        (decide (-1000000000000000 ≤ IntKind.i64.wrap (Fd.clo l k - Fd.chi l i)), true),
        (decide (IntKind.i64.wrap (Fd.clo l k - Fd.chi l i) ≤ 1000000000000000), true),
        (decide (0 < IntKind.i64.wrap (Fd.cat l k - Fd.cat l i)), true),
        (decide (IntKind.i64.wrap (Fd.cat l k - Fd.cat l i) ≤ 1000000000000000), true),
        (decide (-1000000000000000 ≤ IntKind.i64.wrap (Fd.chi l k - Fd.clo l i)), true),
        (decide (IntKind.i64.wrap (Fd.chi l k - Fd.clo l i) ≤ 1000000000000000), true),
        (!b.fd, true)]
        [2, 3, 4, 5, 6, 7, 2, 3, 4, 5, 6, 7, 8, 9, 10, 11, 2, 3, 4, 5, 6, 7, 12, 13, 10, 11, 14, 14, 14, 14, 14, 14, 14, 14, 14, 0, 14, 14, 14, 14, 14, 14, 14, 14, 14, 0] (r := (.tup [], [B.dead, B.cells [V.int IntKind.i64 (P.rn (IntKind.i64.wrap (Fd.clo l k - Fd.chi l i)) (IntKind.i64.wrap (Fd.cat l k - Fd.cat l i))), V.int IntKind.i64 (P.rd (IntKind.i64.wrap (Fd.clo l k - Fd.chi l i)) (IntKind.i64.wrap (Fd.cat l k - Fd.cat l i))), V.int IntKind.i64 (P.rn (IntKind.i64.wrap (Fd.chi l k - Fd.clo l i)) (IntKind.i64.wrap (Fd.cat l k - Fd.cat l i))), V.int IntKind.i64 (P.rd (IntKind.i64.wrap (Fd.chi l k - Fd.clo l i)) (IntKind.i64.wrap (Fd.cat l k - Fd.cat l i))), V.int IntKind.i64 ((i : Int)), V.int IntKind.i64 ((k : Int)), V.int IntKind.i64 ((i : Int)), V.int IntKind.i64 ((k : Int)), V.bool true, V.bool b.em], B.dead, B.dead])) (by kernel_rfl) (by
      refine ⟨?_, ?_, ?_, ?_, ?_, ?_, ?_, ?_, ?_, ?_, ?_, ?_, ?_, trivial⟩
      all_goals first
        | (simp [encC, fitP, fld, leafFits, hi, hk]; done)
        | (simp only [hw1, hw2, hwd, decide_eq_true_eq]; omega)
        | (simp [hfd]; done)
        | (simp; omega)
        | (simp only [hw1, hw2, hwd, decide_eq_true_eq, decide_eq_false_iff_not]; assumption))
      rw [hw1, hw2, hwd] at this
      rw [e]; exact this
  | true =>
    by_cases c1 : P.cmp (P.rn (l[k].lo - l[i].hi) (l[k].at_ - l[i].at_)) (P.rd (l[k].lo - l[i].hi) (l[k].at_ - l[i].at_)) b.lN b.lD > 0 <;> by_cases c2 : P.cmp (P.rn (l[k].hi - l[i].lo) (l[k].at_ - l[i].at_)) (P.rd (l[k].hi - l[i].lo) (l[k].at_ - l[i].at_)) b.mN b.mD < 0
    · have e : encBd (addB l[i] l[k] i k b) = [V.int IntKind.i64 (P.rn (l[k].lo - l[i].hi) (l[k].at_ - l[i].at_)), V.int IntKind.i64 (P.rd (l[k].lo - l[i].hi) (l[k].at_ - l[i].at_)), V.int IntKind.i64 (P.rn (l[k].hi - l[i].lo) (l[k].at_ - l[i].at_)), V.int IntKind.i64 (P.rd (l[k].hi - l[i].lo) (l[k].at_ - l[i].at_)), V.int IntKind.i64 ((i : Int)), V.int IntKind.i64 ((k : Int)), V.int IntKind.i64 ((i : Int)), V.int IntKind.i64 ((k : Int)), V.bool true, V.bool b.em] := by simp only [addB, encBd, hfd, Bool.not_true, Bool.false_or, c1, c2, decide_true, decide_false, if_true, Bool.false_eq_true, if_false]
      have := Runs.way (F := F) (sh := Sh) (S := S42) (L := fun _ _ => .fail) S42_ok (f := 41) (fi := fi41) (by kernel_rfl) (LGood.none (by kernel_rfl)) (a := [.ptr 1 0, .sl n (l.map encC), .int .i64 i, .int .i64 k]) (H := [.dead, .cells (encBd b), .dead, .dead])
        [(decide (0 ≤ (k : Int)), true),
        (decide ((k : Int) < ↑(List.map encC l).length), true),
        (((List.map encC l).getD (k : Int).toNat V.undef).cells.length == 3 && fitP [TK.int IntKind.i64, TK.int IntKind.i64, TK.int IntKind.i64] 0 ((List.map encC l).getD (k : Int).toNat V.undef), true),
        (decide (0 ≤ (i : Int)), true),
        (decide ((i : Int) < ↑(List.map encC l).length), true),
        (((List.map encC l).getD (i : Int).toNat V.undef).cells.length == 3 && fitP [TK.int IntKind.i64, TK.int IntKind.i64, TK.int IntKind.i64] 0 ((List.map encC l).getD (i : Int).toNat V.undef), true),
        (decide (-1000000000000000 ≤ IntKind.i64.wrap (Fd.clo l k - Fd.chi l i)), true),
        (decide (IntKind.i64.wrap (Fd.clo l k - Fd.chi l i) ≤ 1000000000000000), true),
        (decide (0 < IntKind.i64.wrap (Fd.cat l k - Fd.cat l i)), true),
        (decide (IntKind.i64.wrap (Fd.cat l k - Fd.cat l i) ≤ 1000000000000000), true),
        (decide (-1000000000000000 ≤ IntKind.i64.wrap (Fd.chi l k - Fd.clo l i)), true),
        (decide (IntKind.i64.wrap (Fd.chi l k - Fd.clo l i) ≤ 1000000000000000), true),
        (!b.fd, false),
        (decide (-9000000000000000000 ≤ P.rn (IntKind.i64.wrap (Fd.clo l k - Fd.chi l i)) (IntKind.i64.wrap (Fd.cat l k - Fd.cat l i)) * b.lD), true),
        (decide (P.rn (IntKind.i64.wrap (Fd.clo l k - Fd.chi l i)) (IntKind.i64.wrap (Fd.cat l k - Fd.cat l i)) * b.lD ≤ 9000000000000000000), true),
        (decide (-9000000000000000000 ≤ b.lN * P.rd (IntKind.i64.wrap (Fd.clo l k - Fd.chi l i)) (IntKind.i64.wrap (Fd.cat l k - Fd.cat l i))), true),
        (decide (b.lN * P.rd (IntKind.i64.wrap (Fd.clo l k - Fd.chi l i)) (IntKind.i64.wrap (Fd.cat l k - Fd.cat l i)) ≤ 9000000000000000000), true),
        (decide (P.cmp (P.rn (IntKind.i64.wrap (Fd.clo l k - Fd.chi l i)) (IntKind.i64.wrap (Fd.cat l k - Fd.cat l i))) (P.rd (IntKind.i64.wrap (Fd.clo l k - Fd.chi l i)) (IntKind.i64.wrap (Fd.cat l k - Fd.cat l i))) b.lN b.lD > 0), true),
        (decide (-9000000000000000000 ≤ P.rn (IntKind.i64.wrap (Fd.chi l k - Fd.clo l i)) (IntKind.i64.wrap (Fd.cat l k - Fd.cat l i)) * b.mD), true),
        (decide (P.rn (IntKind.i64.wrap (Fd.chi l k - Fd.clo l i)) (IntKind.i64.wrap (Fd.cat l k - Fd.cat l i)) * b.mD ≤ 9000000000000000000), true),
        (decide (-9000000000000000000 ≤ b.mN * P.rd (IntKind.i64.wrap (Fd.chi l k - Fd.clo l i)) (IntKind.i64.wrap (Fd.cat l k - Fd.cat l i))), true),
        (decide (b.mN * P.rd (IntKind.i64.wrap (Fd.chi l k - Fd.clo l i)) (IntKind.i64.wrap (Fd.cat l k - Fd.cat l i)) ≤ 9000000000000000000), true),
        (decide (P.cmp (P.rn (IntKind.i64.wrap (Fd.chi l k - Fd.clo l i)) (IntKind.i64.wrap (Fd.cat l k - Fd.cat l i))) (P.rd (IntKind.i64.wrap (Fd.chi l k - Fd.clo l i)) (IntKind.i64.wrap (Fd.cat l k - Fd.cat l i))) b.mN b.mD < 0), true)]
        [2, 3, 4, 5, 6, 7, 2, 3, 4, 5, 6, 7, 8, 9, 10, 11, 2, 3, 4, 5, 6, 7, 12, 13, 10, 11, 14, 14, 14, 14, 14, 14, 14, 15, 16, 17, 18, 14, 14, 19, 14, 14, 14, 14, 14, 14, 14, 20, 21, 22, 23, 14, 14, 24] (r := (.tup [], [B.dead, B.cells [V.int IntKind.i64 (P.rn (IntKind.i64.wrap (Fd.clo l k - Fd.chi l i)) (IntKind.i64.wrap (Fd.cat l k - Fd.cat l i))), V.int IntKind.i64 (P.rd (IntKind.i64.wrap (Fd.clo l k - Fd.chi l i)) (IntKind.i64.wrap (Fd.cat l k - Fd.cat l i))), V.int IntKind.i64 (P.rn (IntKind.i64.wrap (Fd.chi l k - Fd.clo l i)) (IntKind.i64.wrap (Fd.cat l k - Fd.cat l i))), V.int IntKind.i64 (P.rd (IntKind.i64.wrap (Fd.chi l k - Fd.clo l i)) (IntKind.i64.wrap (Fd.cat l k - Fd.cat l i))), V.int IntKind.i64 ((i : Int)), V.int IntKind.i64 ((k : Int)), V.int IntKind.i64 ((i : Int)), V.int IntKind.i64 ((k : Int)), V.bool true, V.bool b.em], B.dead, B.dead])) (by kernel_rfl) (by
      refine ⟨?_, ?_, ?_, ?_, ?_, ?_, ?_, ?_, ?_, ?_, ?_, ?_, ?_, ?_, ?_, ?_, ?_, ?_, ?_, ?_, ?_, ?_, ?_, trivial⟩
      all_goals first
        | (simp [encC, fitP, fld, leafFits, hi, hk]; done)
        | (simp only [hw1, hw2, hwd, decide_eq_true_eq]; omega)
        | (simp [hfd]; done)
        | (simp; omega)
        | (simp only [hw1, hw2, hwd, decide_eq_true_eq, decide_eq_false_iff_not]; assumption))
      rw [hw1, hw2, hwd] at this
      rw [e]; exact this
    · have e : encBd (addB l[i] l[k] i k b) = [V.int IntKind.i64 (P.rn (l[k].lo - l[i].hi) (l[k].at_ - l[i].at_)), V.int IntKind.i64 (P.rd (l[k].lo - l[i].hi) (l[k].at_ - l[i].at_)), V.int IntKind.i64 (b.mN), V.int IntKind.i64 (b.mD), V.int IntKind.i64 ((i : Int)), V.int IntKind.i64 ((k : Int)), V.int IntKind.i64 (b.g0), V.int IntKind.i64 (b.g1), V.bool true, V.bool b.em] := by simp only [addB, encBd, hfd, Bool.not_true, Bool.false_or, c1, c2, decide_true, decide_false, if_true, Bool.false_eq_true, if_false]
      have := Runs.way (F := F) (sh := Sh) (S := S42) (L := fun _ _ => .fail) S42_ok (f := 41) (fi := fi41) (by kernel_rfl) (LGood.none (by kernel_rfl)) (a := [.ptr 1 0, .sl n (l.map encC), .int .i64 i, .int .i64 k]) (H := [.dead, .cells (encBd b), .dead, .dead])
        [(decide (0 ≤ (k : Int)), true),
        (decide ((k : Int) < ↑(List.map encC l).length), true),
        (((List.map encC l).getD (k : Int).toNat V.undef).cells.length == 3 && fitP [TK.int IntKind.i64, TK.int IntKind.i64, TK.int IntKind.i64] 0 ((List.map encC l).getD (k : Int).toNat V.undef), true),
        (decide (0 ≤ (i : Int)), true),
        (decide ((i : Int) < ↑(List.map encC l).length), true),
        (((List.map encC l).getD (i : Int).toNat V.undef).cells.length == 3 && fitP [TK.int IntKind.i64, TK.int IntKind.i64, TK.int IntKind.i64] 0 ((List.map encC l).getD (i : Int).toNat V.undef), true),
        (decide (-1000000000000000 ≤ IntKind.i64.wrap (Fd.clo l k - Fd.chi l i)), true),
        (decide (IntKind.i64.wrap (Fd.clo l k - Fd.chi l i) ≤ 1000000000000000), true),
        (decide (0 < IntKind.i64.wrap (Fd.cat l k - Fd.cat l i)), true),
        (decide (IntKind.i64.wrap (Fd.cat l k - Fd.cat l i) ≤ 1000000000000000), true),
        (decide (-1000000000000000 ≤ IntKind.i64.wrap (Fd.chi l k - Fd.clo l i)), true),
        (decide (IntKind.i64.wrap (Fd.chi l k - Fd.clo l i) ≤ 1000000000000000), true),
        (!b.fd, false),
        (decide (-9000000000000000000 ≤ P.rn (IntKind.i64.wrap (Fd.clo l k - Fd.chi l i)) (IntKind.i64.wrap (Fd.cat l k - Fd.cat l i)) * b.lD), true),
        (decide (P.rn (IntKind.i64.wrap (Fd.clo l k - Fd.chi l i)) (IntKind.i64.wrap (Fd.cat l k - Fd.cat l i)) * b.lD ≤ 9000000000000000000), true),
        (decide (-9000000000000000000 ≤ b.lN * P.rd (IntKind.i64.wrap (Fd.clo l k - Fd.chi l i)) (IntKind.i64.wrap (Fd.cat l k - Fd.cat l i))), true),
        (decide (b.lN * P.rd (IntKind.i64.wrap (Fd.clo l k - Fd.chi l i)) (IntKind.i64.wrap (Fd.cat l k - Fd.cat l i)) ≤ 9000000000000000000), true),
        (decide (P.cmp (P.rn (IntKind.i64.wrap (Fd.clo l k - Fd.chi l i)) (IntKind.i64.wrap (Fd.cat l k - Fd.cat l i))) (P.rd (IntKind.i64.wrap (Fd.clo l k - Fd.chi l i)) (IntKind.i64.wrap (Fd.cat l k - Fd.cat l i))) b.lN b.lD > 0), true),
        (decide (-9000000000000000000 ≤ P.rn (IntKind.i64.wrap (Fd.chi l k - Fd.clo l i)) (IntKind.i64.wrap (Fd.cat l k - Fd.cat l i)) * b.mD), true),
        (decide (P.rn (IntKind.i64.wrap (Fd.chi l k - Fd.clo l i)) (IntKind.i64.wrap (Fd.cat l k - Fd.cat l i)) * b.mD ≤ 9000000000000000000), true),
        (decide (-9000000000000000000 ≤ b.mN * P.rd (IntKind.i64.wrap (Fd.chi l k - Fd.clo l i)) (IntKind.i64.wrap (Fd.cat l k - Fd.cat l i))), true),
        (decide (b.mN * P.rd (IntKind.i64.wrap (Fd.chi l k - Fd.clo l i)) (IntKind.i64.wrap (Fd.cat l k - Fd.cat l i)) ≤ 9000000000000000000), true),
        (decide (P.cmp (P.rn (IntKind.i64.wrap (Fd.chi l k - Fd.clo l i)) (IntKind.i64.wrap (Fd.cat l k - Fd.cat l i))) (P.rd (IntKind.i64.wrap (Fd.chi l k - Fd.clo l i)) (IntKind.i64.wrap (Fd.cat l k - Fd.cat l i))) b.mN b.mD < 0), false)]
        [2, 3, 4, 5, 6, 7, 2, 3, 4, 5, 6, 7, 8, 9, 10, 11, 2, 3, 4, 5, 6, 7, 12, 13, 10, 11, 14, 14, 14, 14, 14, 14, 14, 15, 16, 17, 18, 14, 14, 19, 14, 14, 14, 14, 14, 14, 14, 20, 21, 22, 23, 14, 14, 24] (r := (.tup [], [B.dead, B.cells [V.int IntKind.i64 (P.rn (IntKind.i64.wrap (Fd.clo l k - Fd.chi l i)) (IntKind.i64.wrap (Fd.cat l k - Fd.cat l i))), V.int IntKind.i64 (P.rd (IntKind.i64.wrap (Fd.clo l k - Fd.chi l i)) (IntKind.i64.wrap (Fd.cat l k - Fd.cat l i))), V.int IntKind.i64 (b.mN), V.int IntKind.i64 (b.mD), V.int IntKind.i64 ((i : Int)), V.int IntKind.i64 ((k : Int)), V.int IntKind.i64 (b.g0), V.int IntKind.i64 (b.g1), V.bool true, V.bool b.em], B.dead, B.dead])) (by kernel_rfl) (by
      refine ⟨?_, ?_, ?_, ?_, ?_, ?_, ?_, ?_, ?_, ?_, ?_, ?_, ?_, ?_, ?_, ?_, ?_, ?_, ?_, ?_, ?_, ?_, ?_, trivial⟩
      all_goals first
        | (simp [encC, fitP, fld, leafFits, hi, hk]; done)
        | (simp only [hw1, hw2, hwd, decide_eq_true_eq]; omega)
        | (simp [hfd]; done)
        | (simp; omega)
        | (simp only [hw1, hw2, hwd, decide_eq_true_eq, decide_eq_false_iff_not]; assumption))
      rw [hw1, hwd] at this
      rw [e]; exact this
    · have e : encBd (addB l[i] l[k] i k b) = [V.int IntKind.i64 (b.lN), V.int IntKind.i64 (b.lD), V.int IntKind.i64 (P.rn (l[k].hi - l[i].lo) (l[k].at_ - l[i].at_)), V.int IntKind.i64 (P.rd (l[k].hi - l[i].lo) (l[k].at_ - l[i].at_)), V.int IntKind.i64 (b.f0), V.int IntKind.i64 (b.f1), V.int IntKind.i64 ((i : Int)), V.int IntKind.i64 ((k : Int)), V.bool true, V.bool b.em] := by simp only [addB, encBd, hfd, Bool.not_true, Bool.false_or, c1, c2, decide_true, decide_false, if_true, Bool.false_eq_true, if_false]
      have := Runs.way (F := F) (sh := Sh) (S := S42) (L := fun _ _ => .fail) S42_ok (f := 41) (fi := fi41) (by kernel_rfl) (LGood.none (by kernel_rfl)) (a := [.ptr 1 0, .sl n (l.map encC), .int .i64 i, .int .i64 k]) (H := [.dead, .cells (encBd b), .dead, .dead])
        [(decide (0 ≤ (k : Int)), true),
        (decide ((k : Int) < ↑(List.map encC l).length), true),
        (((List.map encC l).getD (k : Int).toNat V.undef).cells.length == 3 && fitP [TK.int IntKind.i64, TK.int IntKind.i64, TK.int IntKind.i64] 0 ((List.map encC l).getD (k : Int).toNat V.undef), true),
        (decide (0 ≤ (i : Int)), true),
        (decide ((i : Int) < ↑(List.map encC l).length), true),
        (((List.map encC l).getD (i : Int).toNat V.undef).cells.length == 3 && fitP [TK.int IntKind.i64, TK.int IntKind.i64, TK.int IntKind.i64] 0 ((List.map encC l).getD (i : Int).toNat V.undef), true),
        (decide (-1000000000000000 ≤ IntKind.i64.wrap (Fd.clo l k - Fd.chi l i)), true),
        (decide (IntKind.i64.wrap (Fd.clo l k - Fd.chi l i) ≤ 1000000000000000), true),
        (decide (0 < IntKind.i64.wrap (Fd.cat l k - Fd.cat l i)), true),
        (decide (IntKind.i64.wrap (Fd.cat l k - Fd.cat l i) ≤ 1000000000000000), true),
        (decide (-1000000000000000 ≤ IntKind.i64.wrap (Fd.chi l k - Fd.clo l i)), true),
        (decide (IntKind.i64.wrap (Fd.chi l k - Fd.clo l i) ≤ 1000000000000000), true),
        (!b.fd, false),
        (decide (-9000000000000000000 ≤ P.rn (IntKind.i64.wrap (Fd.clo l k - Fd.chi l i)) (IntKind.i64.wrap (Fd.cat l k - Fd.cat l i)) * b.lD), true),
        (decide (P.rn (IntKind.i64.wrap (Fd.clo l k - Fd.chi l i)) (IntKind.i64.wrap (Fd.cat l k - Fd.cat l i)) * b.lD ≤ 9000000000000000000), true),
        (decide (-9000000000000000000 ≤ b.lN * P.rd (IntKind.i64.wrap (Fd.clo l k - Fd.chi l i)) (IntKind.i64.wrap (Fd.cat l k - Fd.cat l i))), true),
        (decide (b.lN * P.rd (IntKind.i64.wrap (Fd.clo l k - Fd.chi l i)) (IntKind.i64.wrap (Fd.cat l k - Fd.cat l i)) ≤ 9000000000000000000), true),
        (decide (P.cmp (P.rn (IntKind.i64.wrap (Fd.clo l k - Fd.chi l i)) (IntKind.i64.wrap (Fd.cat l k - Fd.cat l i))) (P.rd (IntKind.i64.wrap (Fd.clo l k - Fd.chi l i)) (IntKind.i64.wrap (Fd.cat l k - Fd.cat l i))) b.lN b.lD > 0), false),
        (decide (-9000000000000000000 ≤ P.rn (IntKind.i64.wrap (Fd.chi l k - Fd.clo l i)) (IntKind.i64.wrap (Fd.cat l k - Fd.cat l i)) * b.mD), true),
        (decide (P.rn (IntKind.i64.wrap (Fd.chi l k - Fd.clo l i)) (IntKind.i64.wrap (Fd.cat l k - Fd.cat l i)) * b.mD ≤ 9000000000000000000), true),
        (decide (-9000000000000000000 ≤ b.mN * P.rd (IntKind.i64.wrap (Fd.chi l k - Fd.clo l i)) (IntKind.i64.wrap (Fd.cat l k - Fd.cat l i))), true),
        (decide (b.mN * P.rd (IntKind.i64.wrap (Fd.chi l k - Fd.clo l i)) (IntKind.i64.wrap (Fd.cat l k - Fd.cat l i)) ≤ 9000000000000000000), true),
        (decide (P.cmp (P.rn (IntKind.i64.wrap (Fd.chi l k - Fd.clo l i)) (IntKind.i64.wrap (Fd.cat l k - Fd.cat l i))) (P.rd (IntKind.i64.wrap (Fd.chi l k - Fd.clo l i)) (IntKind.i64.wrap (Fd.cat l k - Fd.cat l i))) b.mN b.mD < 0), true)]
        [2, 3, 4, 5, 6, 7, 2, 3, 4, 5, 6, 7, 8, 9, 10, 11, 2, 3, 4, 5, 6, 7, 12, 13, 10, 11, 14, 14, 14, 14, 14, 14, 14, 15, 16, 17, 18, 14, 14, 19, 14, 14, 14, 14, 14, 14, 14, 20, 21, 22, 23, 14, 14, 24] (r := (.tup [], [B.dead, B.cells [V.int IntKind.i64 (b.lN), V.int IntKind.i64 (b.lD), V.int IntKind.i64 (P.rn (IntKind.i64.wrap (Fd.chi l k - Fd.clo l i)) (IntKind.i64.wrap (Fd.cat l k - Fd.cat l i))), V.int IntKind.i64 (P.rd (IntKind.i64.wrap (Fd.chi l k - Fd.clo l i)) (IntKind.i64.wrap (Fd.cat l k - Fd.cat l i))), V.int IntKind.i64 (b.f0), V.int IntKind.i64 (b.f1), V.int IntKind.i64 ((i : Int)), V.int IntKind.i64 ((k : Int)), V.bool true, V.bool b.em], B.dead, B.dead])) (by kernel_rfl) (by
      refine ⟨?_, ?_, ?_, ?_, ?_, ?_, ?_, ?_, ?_, ?_, ?_, ?_, ?_, ?_, ?_, ?_, ?_, ?_, ?_, ?_, ?_, ?_, ?_, trivial⟩
      all_goals first
        | (simp [encC, fitP, fld, leafFits, hi, hk]; done)
        | (simp only [hw1, hw2, hwd, decide_eq_true_eq]; omega)
        | (simp [hfd]; done)
        | (simp; omega)
        | (simp only [hw1, hw2, hwd, decide_eq_true_eq, decide_eq_false_iff_not]; assumption))
      rw [hw2, hwd] at this
      rw [e]; exact this
    · have e : encBd (addB l[i] l[k] i k b) = [V.int IntKind.i64 (b.lN), V.int IntKind.i64 (b.lD), V.int IntKind.i64 (b.mN), V.int IntKind.i64 (b.mD), V.int IntKind.i64 (b.f0), V.int IntKind.i64 (b.f1), V.int IntKind.i64 (b.g0), V.int IntKind.i64 (b.g1), V.bool true, V.bool b.em] := by simp only [addB, encBd, hfd, Bool.not_true, Bool.false_or, c1, c2, decide_true, decide_false, if_true, Bool.false_eq_true, if_false]
      have := Runs.way (F := F) (sh := Sh) (S := S42) (L := fun _ _ => .fail) S42_ok (f := 41) (fi := fi41) (by kernel_rfl) (LGood.none (by kernel_rfl)) (a := [.ptr 1 0, .sl n (l.map encC), .int .i64 i, .int .i64 k]) (H := [.dead, .cells (encBd b), .dead, .dead])
        [(decide (0 ≤ (k : Int)), true),
        (decide ((k : Int) < ↑(List.map encC l).length), true),
        (((List.map encC l).getD (k : Int).toNat V.undef).cells.length == 3 && fitP [TK.int IntKind.i64, TK.int IntKind.i64, TK.int IntKind.i64] 0 ((List.map encC l).getD (k : Int).toNat V.undef), true),
        (decide (0 ≤ (i : Int)), true),
        (decide ((i : Int) < ↑(List.map encC l).length), true),
        (((List.map encC l).getD (i : Int).toNat V.undef).cells.length == 3 && fitP [TK.int IntKind.i64, TK.int IntKind.i64, TK.int IntKind.i64] 0 ((List.map encC l).getD (i : Int).toNat V.undef), true),
        (decide (-1000000000000000 ≤ IntKind.i64.wrap (Fd.clo l k - Fd.chi l i)), true),
        (decide (IntKind.i64.wrap (Fd.clo l k - Fd.chi l i) ≤ 1000000000000000), true),
        (decide (0 < IntKind.i64.wrap (Fd.cat l k - Fd.cat l i)), true),
        (decide (IntKind.i64.wrap (Fd.cat l k - Fd.cat l i) ≤ 1000000000000000), true),
        (decide (-1000000000000000 ≤ IntKind.i64.wrap (Fd.chi l k - Fd.clo l i)), true),
        (decide (IntKind.i64.wrap (Fd.chi l k - Fd.clo l i) ≤ 1000000000000000), true),
        (!b.fd, false),
        (decide (-9000000000000000000 ≤ P.rn (IntKind.i64.wrap (Fd.clo l k - Fd.chi l i)) (IntKind.i64.wrap (Fd.cat l k - Fd.cat l i)) * b.lD), true),
        (decide (P.rn (IntKind.i64.wrap (Fd.clo l k - Fd.chi l i)) (IntKind.i64.wrap (Fd.cat l k - Fd.cat l i)) * b.lD ≤ 9000000000000000000), true),
        (decide (-9000000000000000000 ≤ b.lN * P.rd (IntKind.i64.wrap (Fd.clo l k - Fd.chi l i)) (IntKind.i64.wrap (Fd.cat l k - Fd.cat l i))), true),
        (decide (b.lN * P.rd (IntKind.i64.wrap (Fd.clo l k - Fd.chi l i)) (IntKind.i64.wrap (Fd.cat l k - Fd.cat l i)) ≤ 9000000000000000000), true),
        (decide (P.cmp (P.rn (IntKind.i64.wrap (Fd.clo l k - Fd.chi l i)) (IntKind.i64.wrap (Fd.cat l k - Fd.cat l i))) (P.rd (IntKind.i64.wrap (Fd.clo l k - Fd.chi l i)) (IntKind.i64.wrap (Fd.cat l k - Fd.cat l i))) b.lN b.lD > 0), false),
        (decide (-9000000000000000000 ≤ P.rn (IntKind.i64.wrap (Fd.chi l k - Fd.clo l i)) (IntKind.i64.wrap (Fd.cat l k - Fd.cat l i)) * b.mD), true),
        (decide (P.rn (IntKind.i64.wrap (Fd.chi l k - Fd.clo l i)) (IntKind.i64.wrap (Fd.cat l k - Fd.cat l i)) * b.mD ≤ 9000000000000000000), true),
        (decide (-9000000000000000000 ≤ b.mN * P.rd (IntKind.i64.wrap (Fd.chi l k - Fd.clo l i)) (IntKind.i64.wrap (Fd.cat l k - Fd.cat l i))), true),
        (decide (b.mN * P.rd (IntKind.i64.wrap (Fd.chi l k - Fd.clo l i)) (IntKind.i64.wrap (Fd.cat l k - Fd.cat l i)) ≤ 9000000000000000000), true),
        (decide (P.cmp (P.rn (IntKind.i64.wrap (Fd.chi l k - Fd.clo l i)) (IntKind.i64.wrap (Fd.cat l k - Fd.cat l i))) (P.rd (IntKind.i64.wrap (Fd.chi l k - Fd.clo l i)) (IntKind.i64.wrap (Fd.cat l k - Fd.cat l i))) b.mN b.mD < 0), false)]
        [2, 3, 4, 5, 6, 7, 2, 3, 4, 5, 6, 7, 8, 9, 10, 11, 2, 3, 4, 5, 6, 7, 12, 13, 10, 11, 14, 14, 14, 14, 14, 14, 14, 15, 16, 17, 18, 14, 14, 19, 14, 14, 14, 14, 14, 14, 14, 20, 21, 22, 23, 14, 14, 24] (r := (.tup [], [B.dead, B.cells [V.int IntKind.i64 (b.lN), V.int IntKind.i64 (b.lD), V.int IntKind.i64 (b.mN), V.int IntKind.i64 (b.mD), V.int IntKind.i64 (b.f0), V.int IntKind.i64 (b.f1), V.int IntKind.i64 (b.g0), V.int IntKind.i64 (b.g1), V.bool true, V.bool b.em], B.dead, B.dead])) (by kernel_rfl) (by
      refine ⟨?_, ?_, ?_, ?_, ?_, ?_, ?_, ?_, ?_, ?_, ?_, ?_, ?_, ?_, ?_, ?_, ?_, ?_, ?_, ?_, ?_, ?_, ?_, trivial⟩
      all_goals first
        | (simp [encC, fitP, fld, leafFits, hi, hk]; done)
        | (simp only [hw1, hw2, hwd, decide_eq_true_eq]; omega)
        | (simp [hfd]; done)
        | (simp; omega)
        | (simp only [hw1, hw2, hwd, decide_eq_true_eq, decide_eq_false_iff_not]; assumption))
      rw [e]; exact this

end Go.Proofs.Ytgmdkjiflhklaaa
