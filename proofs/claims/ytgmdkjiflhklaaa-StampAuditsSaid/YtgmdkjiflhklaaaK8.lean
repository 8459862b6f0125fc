/- K8: the reference's Audit. -/
import Derived.Test.YtgmdkjiflhklaaaK7
namespace Go.Proofs.Ytgmdkjiflhklaaa
open Go Go.Vm
def fit8 (b : Bd) : List V := [.int .i64 b.lN, .int .i64 b.lD, .int .i64 b.mN, .int .i64 b.mD, .int .i64 b.f0, .int .i64 b.f1, .int .i64 b.g0, .int .i64 b.g1]
def roS (n : Bool) (l : List Chk) (i : Int) (b : Bd) : St := ⟨[(0, V.sl n (l.map encC)), (2, .ptr 0 0), (5, .ptr 1 0), (6, .bool b.fd), (7, .bool b.em), (8, .int .i64 i)], [.cells zero8, .cells (fit8 b)]⟩
def riS (n : Bool) (l : List Chk) (i k : Int) (b : Bd) : St := ⟨[(0, V.sl n (l.map encC)), (2, .ptr 0 0), (5, .ptr 1 0), (6, .bool b.fd), (7, .bool b.em), (8, .int .i64 i), (9, .int .i64 k)], [.cells zero8, .cells (fit8 b)]⟩
theorem bl_cmp (a b c d : Int) : decide (P.cmp c d a b > 0) = P.bl a b c d := by
  rw [Bool.eq_iff_iff]; simp only [decide_eq_true_eq, P.bl]; exact cmp_pos
theorem bl_cmp' (a b c d : Int) : decide (P.cmp a b c d < 0) = P.bl a b c d := by
  rw [Bool.eq_iff_iff]; simp only [decide_eq_true_eq, P.bl]; exact cmp_neg
theorem ri_loop {n : Bool} {l : List Chk} (hl : l.length ≤ 1000) (hc : ∀ c ∈ l, OkC c) {i : Nat} (hi : i < l.length) : ∀ (d k : Nat) (b : Bd), k + d = l.length → OkB b →
    LRuns (vstep T (vlim T F) lplim fi53.cx 2 (lb fi53 1)) (riS n l i k b) (.exit 2, ⟨(riS n l i l.length (restB l i d k b)).env ++ [(28, .bool false)], (riS n l i l.length (restB l i d k b)).heap⟩)
  | 0, k, b, hd, hb => by
    have hk : k = l.length := by omega
    subst hk
    have := LRuns.last (F := F) R86_ok (sh := Sh) (L := fun _ _ => .fail) (n := 2) (b := lb fi53 1) (cx := fi53.cx) (τ := riS n l i l.length b) (LGood.none (by kernel_rfl)) [(decide ((l.length : Int) < ((l.map encC).length : Int)), false)] [2]
      (r := (.exit 2, ⟨(riS n l i l.length b).env ++ [(28, .bool (decide ((l.length : Int) < ((l.map encC).length : Int))))], (riS n l i l.length b).heap⟩)) (by kernel_rfl) (by simp) ⟨by simp, trivial⟩
    simpa [restB] using this
  | d + 1, k, b, hd, hb => by
    have hk : k < l.length := by omega
    have ih := ri_loop (n := n) hl hc hi d (k + 1) (stepB l i k b) (by omega) (stepB_ok hc hi hk hb)
    have hw : IntKind.i64.wrap ((k : Int) + 1) = ((k + 1 : Nat) : Int) := by rw [i64in (by omega) (by omega)]; rfl
    obtain ⟨x0, x1, x2, x3, x4⟩ := hc l[i] (List.getElem_mem _)
    obtain ⟨y0, y1, y2, y3, y4⟩ := hc l[k] (List.getElem_mem _)
    have si := chk_at l i hi
    have sk := chk_at l k hk
    have w1 : IntKind.i64.wrap (Fd.ca l k - Fd.ca l i) = l[k].at_ - l[i].at_ := by rw [ca_at l k hk, ca_at l i hi, i64in (by omega) (by omega)]
    have w2 : IntKind.i64.wrap (Fd.cl l k - Fd.ch l i) = l[k].lo - l[i].hi := by rw [cl_at l k hk, ch_at l i hi, i64in (by omega) (by omega)]
    have w3 : IntKind.i64.wrap (Fd.ch l k - Fd.cl l i) = l[k].hi - l[i].lo := by rw [ch_at l k hk, cl_at l i hi, i64in (by omega) (by omega)]
    simp only [restB]
    obtain ⟨p, q, r, s, u, v, w, x, f, e⟩ := b
    obtain ⟨b1, b2, b3, b4⟩ := hb
    simp only at b1 b2 b3 b4
    by_cases c1 : l[i].at_ < l[k].at_
    · have hA : stepB l i k ⟨p, q, r, s, u, v, w, x, f, e⟩ = P.addB l[i] l[k] i k ⟨p, q, r, s, u, v, w, x, f, e⟩ := by unfold stepB; rw [si, sk, if_pos c1]
      rw [hA] at ih ⊢
      have f1 := tdiv_abs (l[k].lo - l[i].hi) (P.gcd (l[k].lo - l[i].hi) (l[k].at_ - l[i].at_))
      have f2 := tdiv_abs (l[k].at_ - l[i].at_) (P.gcd (l[k].lo - l[i].hi) (l[k].at_ - l[i].at_))
      have f3 := tdiv_abs (l[k].hi - l[i].lo) (P.gcd (l[k].hi - l[i].lo) (l[k].at_ - l[i].at_))
      have f4 := tdiv_abs (l[k].at_ - l[i].at_) (P.gcd (l[k].hi - l[i].lo) (l[k].at_ - l[i].at_))
      have p1 := prod_in (a := p) (b := P.rd (l[k].lo - l[i].hi) (l[k].at_ - l[i].at_)) b1 (by unfold P.rd; omega)
      have p2 := prod_in (a := P.rn (l[k].lo - l[i].hi) (l[k].at_ - l[i].at_)) (b := q) (by unfold P.rn; omega) b2
      have p3 := prod_in (a := P.rn (l[k].hi - l[i].lo) (l[k].at_ - l[i].at_)) (b := s) (by unfold P.rn; omega) b4
      have p4 := prod_in (a := r) (b := P.rd (l[k].hi - l[i].lo) (l[k].at_ - l[i].at_)) b3 (by unfold P.rd; omega)
      have hadd : ∀ g, P.addB l[i] l[k] i k ⟨p, q, r, s, u, v, w, x, g, e⟩ = addB l[i] l[k] i k ⟨p, q, r, s, u, v, w, x, g, e⟩ := fun _ => rfl
      by_cases hf : f = true
      · cases h5 : P.bl p q (P.rn (l[k].lo - l[i].hi) (l[k].at_ - l[i].at_)) (P.rd (l[k].lo - l[i].hi) (l[k].at_ - l[i].at_)) <;>
        cases h6 : P.bl (P.rn (l[k].hi - l[i].lo) (l[k].at_ - l[i].at_)) (P.rd (l[k].hi - l[i].lo) (l[k].at_ - l[i].at_)) r s
        · have e0 : P.addB l[i] l[k] i k ⟨p, q, r, s, u, v, w, x, f, e⟩ = ⟨p, q, r, s, u, v, w, x, true, e⟩ := by
            rw [hadd, hf]; unfold addB; simp only [bl_cmp, bl_cmp', h5, h6, Bool.not_true, Bool.false_or, if_true, Bool.false_eq_true, if_false]
          rw [e0] at ih ⊢
          refine LRuns.next (F := F) R86_ok (sh := Sh) (L := fun _ _ => .fail) (LGood.none (by kernel_rfl)) [(decide ((↑k : Int) < (↑(List.map encC l).length : Int)), true),
    (((List.map encC l).getD k V.undef).cells.length == 3 && fitP [TK.int IntKind.i64, TK.int IntKind.i64, TK.int IntKind.i64] 0 ((List.map encC l).getD k V.undef), true),
    (decide ((↑i : Int) < (↑(List.map encC l).length : Int)), true),
    (((List.map encC l).getD i V.undef).cells.length == 3 && fitP [TK.int IntKind.i64, TK.int IntKind.i64, TK.int IntKind.i64] 0 ((List.map encC l).getD i V.undef), true),
    (IntKind.i64.wrap (Fd.ca l k - Fd.ca l i) == 0, false),
    (decide (IntKind.i64.wrap (Fd.ca l k - Fd.ca l i) ≤ 0), false),
    (decide (-1000000000000000 ≤ IntKind.i64.wrap (Fd.cl l k - Fd.ch l i)), true),
    (decide (IntKind.i64.wrap (Fd.cl l k - Fd.ch l i) ≤ 1000000000000000), true),
    (decide (0 < IntKind.i64.wrap (Fd.ca l k - Fd.ca l i)), true),
    (decide (IntKind.i64.wrap (Fd.ca l k - Fd.ca l i) ≤ 1000000000000000), true),
    (decide (-1000000000000000 ≤ IntKind.i64.wrap (Fd.ch l k - Fd.cl l i)), true),
    (decide (IntKind.i64.wrap (Fd.ch l k - Fd.cl l i) ≤ 1000000000000000), true),
    (!f, false),
    (decide (-9000000000000000000 ≤ p * P.rd (IntKind.i64.wrap (Fd.cl l k - Fd.ch l i)) (IntKind.i64.wrap (Fd.ca l k - Fd.ca l i))), true),
    (decide (p * P.rd (IntKind.i64.wrap (Fd.cl l k - Fd.ch l i)) (IntKind.i64.wrap (Fd.ca l k - Fd.ca l i)) ≤ 9000000000000000000), true),
    (decide (-9000000000000000000 ≤ P.rn (IntKind.i64.wrap (Fd.cl l k - Fd.ch l i)) (IntKind.i64.wrap (Fd.ca l k - Fd.ca l i)) * q), true),
    (decide (P.rn (IntKind.i64.wrap (Fd.cl l k - Fd.ch l i)) (IntKind.i64.wrap (Fd.ca l k - Fd.ca l i)) * q ≤ 9000000000000000000), true),
    (P.bl p q (P.rn (IntKind.i64.wrap (Fd.cl l k - Fd.ch l i)) (IntKind.i64.wrap (Fd.ca l k - Fd.ca l i))) (P.rd (IntKind.i64.wrap (Fd.cl l k - Fd.ch l i)) (IntKind.i64.wrap (Fd.ca l k - Fd.ca l i))), false),
    (decide (-9000000000000000000 ≤ P.rn (IntKind.i64.wrap (Fd.ch l k - Fd.cl l i)) (IntKind.i64.wrap (Fd.ca l k - Fd.ca l i)) * s), true),
    (decide (P.rn (IntKind.i64.wrap (Fd.ch l k - Fd.cl l i)) (IntKind.i64.wrap (Fd.ca l k - Fd.ca l i)) * s ≤ 9000000000000000000), true),
    (decide (-9000000000000000000 ≤ r * P.rd (IntKind.i64.wrap (Fd.ch l k - Fd.cl l i)) (IntKind.i64.wrap (Fd.ca l k - Fd.ca l i))), true),
    (decide (r * P.rd (IntKind.i64.wrap (Fd.ch l k - Fd.cl l i)) (IntKind.i64.wrap (Fd.ca l k - Fd.ca l i)) ≤ 9000000000000000000), true),
    (P.bl (P.rn (IntKind.i64.wrap (Fd.ch l k - Fd.cl l i)) (IntKind.i64.wrap (Fd.ca l k - Fd.ca l i))) (P.rd (IntKind.i64.wrap (Fd.ch l k - Fd.cl l i)) (IntKind.i64.wrap (Fd.ca l k - Fd.ca l i))) r s, false)] [2, 0, 2, 3, 0, 4, 5, 6, 6, 6, 6, 6, 6, 6, 6, 6, 6, 6, 6, 1, 7, 0, 2, 3, 0, 4, 5, 8, 9, 10, 11, 0, 2, 3, 0, 4, 5, 12, 13, 10, 11, 14, 14, 14, 14, 15, 16, 17, 18, 14, 19, 14, 14, 14, 14, 20, 21, 22, 23, 14, 24] (τ' := { env := [(0, V.sl n (List.map encC l)), (2, V.ptr 0 0), (5, V.ptr 1 0), (6, V.bool true), (7, V.bool e), (8, V.int IntKind.i64 (↑i : Int)), (9, V.int IntKind.i64 (IntKind.i64.wrap ((↑k : Int) + 1)))], heap := [B.cells [V.int IntKind.i64 0, V.int IntKind.i64 0, V.int IntKind.i64 0, V.int IntKind.i64 0, V.int IntKind.i64 0, V.int IntKind.i64 0, V.int IntKind.i64 0, V.int IntKind.i64 0], B.cells [V.int IntKind.i64 p, V.int IntKind.i64 q, V.int IntKind.i64 r, V.int IntKind.i64 s, V.int IntKind.i64 u, V.int IntKind.i64 v, V.int IntKind.i64 w, V.int IntKind.i64 x]] }) (by kernel_rfl) ?_ ?_
          · refine ⟨?_, ?_, ?_, ?_, ?_, ?_, ?_, ?_, ?_, ?_, ?_, ?_, ?_, ?_, ?_, ?_, ?_, ?_, ?_, ?_, ?_, ?_, ?_, trivial⟩
            all_goals first
            | (simp; omega)
            | (simp [encC, fitP, fld, leafFits, V.cells, hk, hi]; done)
            | (simp only [w1, w2, w3, decide_eq_true_eq, decide_eq_false_iff_not, beq_iff_eq, beq_eq_false_iff_ne, ne_eq]; omega)
            | (rw [hf]; rfl)
            | (rw [hf']; rfl)
            | (simp only [w1, w2, w3]; exact h5)
            | (simp only [w1, w2, w3]; exact h6)
            | (simp only [w1, w2, w3]; simp; omega)
          · rw [hw]; first
            | exact ih
            | (simp only [w1, w2, w3]; exact ih)
        · have e0 : P.addB l[i] l[k] i k ⟨p, q, r, s, u, v, w, x, f, e⟩ = ⟨p, q, P.rn (l[k].hi - l[i].lo) (l[k].at_ - l[i].at_), P.rd (l[k].hi - l[i].lo) (l[k].at_ - l[i].at_), u, v, i, k, true, e⟩ := by
            rw [hadd, hf]; unfold addB; simp only [bl_cmp, bl_cmp', h5, h6, Bool.not_true, Bool.false_or, if_true, Bool.false_eq_true, if_false]
          rw [e0] at ih ⊢
          refine LRuns.next (F := F) R86_ok (sh := Sh) (L := fun _ _ => .fail) (LGood.none (by kernel_rfl)) [(decide ((↑k : Int) < (↑(List.map encC l).length : Int)), true),
    (((List.map encC l).getD k V.undef).cells.length == 3 && fitP [TK.int IntKind.i64, TK.int IntKind.i64, TK.int IntKind.i64] 0 ((List.map encC l).getD k V.undef), true),
    (decide ((↑i : Int) < (↑(List.map encC l).length : Int)), true),
    (((List.map encC l).getD i V.undef).cells.length == 3 && fitP [TK.int IntKind.i64, TK.int IntKind.i64, TK.int IntKind.i64] 0 ((List.map encC l).getD i V.undef), true),
    (IntKind.i64.wrap (Fd.ca l k - Fd.ca l i) == 0, false),
    (decide (IntKind.i64.wrap (Fd.ca l k - Fd.ca l i) ≤ 0), false),
    (decide (-1000000000000000 ≤ IntKind.i64.wrap (Fd.cl l k - Fd.ch l i)), true),
    (decide (IntKind.i64.wrap (Fd.cl l k - Fd.ch l i) ≤ 1000000000000000), true),
    (decide (0 < IntKind.i64.wrap (Fd.ca l k - Fd.ca l i)), true),
    (decide (IntKind.i64.wrap (Fd.ca l k - Fd.ca l i) ≤ 1000000000000000), true),
    (decide (-1000000000000000 ≤ IntKind.i64.wrap (Fd.ch l k - Fd.cl l i)), true),
    (decide (IntKind.i64.wrap (Fd.ch l k - Fd.cl l i) ≤ 1000000000000000), true),
    (!f, false),
    (decide (-9000000000000000000 ≤ p * P.rd (IntKind.i64.wrap (Fd.cl l k - Fd.ch l i)) (IntKind.i64.wrap (Fd.ca l k - Fd.ca l i))), true),
    (decide (p * P.rd (IntKind.i64.wrap (Fd.cl l k - Fd.ch l i)) (IntKind.i64.wrap (Fd.ca l k - Fd.ca l i)) ≤ 9000000000000000000), true),
    (decide (-9000000000000000000 ≤ P.rn (IntKind.i64.wrap (Fd.cl l k - Fd.ch l i)) (IntKind.i64.wrap (Fd.ca l k - Fd.ca l i)) * q), true),
    (decide (P.rn (IntKind.i64.wrap (Fd.cl l k - Fd.ch l i)) (IntKind.i64.wrap (Fd.ca l k - Fd.ca l i)) * q ≤ 9000000000000000000), true),
    (P.bl p q (P.rn (IntKind.i64.wrap (Fd.cl l k - Fd.ch l i)) (IntKind.i64.wrap (Fd.ca l k - Fd.ca l i))) (P.rd (IntKind.i64.wrap (Fd.cl l k - Fd.ch l i)) (IntKind.i64.wrap (Fd.ca l k - Fd.ca l i))), false),
    (decide (-9000000000000000000 ≤ P.rn (IntKind.i64.wrap (Fd.ch l k - Fd.cl l i)) (IntKind.i64.wrap (Fd.ca l k - Fd.ca l i)) * s), true),
    (decide (P.rn (IntKind.i64.wrap (Fd.ch l k - Fd.cl l i)) (IntKind.i64.wrap (Fd.ca l k - Fd.ca l i)) * s ≤ 9000000000000000000), true),
    (decide (-9000000000000000000 ≤ r * P.rd (IntKind.i64.wrap (Fd.ch l k - Fd.cl l i)) (IntKind.i64.wrap (Fd.ca l k - Fd.ca l i))), true),
    (decide (r * P.rd (IntKind.i64.wrap (Fd.ch l k - Fd.cl l i)) (IntKind.i64.wrap (Fd.ca l k - Fd.ca l i)) ≤ 9000000000000000000), true),
    (P.bl (P.rn (IntKind.i64.wrap (Fd.ch l k - Fd.cl l i)) (IntKind.i64.wrap (Fd.ca l k - Fd.ca l i))) (P.rd (IntKind.i64.wrap (Fd.ch l k - Fd.cl l i)) (IntKind.i64.wrap (Fd.ca l k - Fd.ca l i))) r s, true)] [2, 0, 2, 3, 0, 4, 5, 6, 6, 6, 6, 6, 6, 6, 6, 6, 6, 6, 6, 1, 7, 0, 2, 3, 0, 4, 5, 8, 9, 10, 11, 0, 2, 3, 0, 4, 5, 12, 13, 10, 11, 14, 14, 14, 14, 15, 16, 17, 18, 14, 19, 14, 14, 14, 14, 20, 21, 22, 23, 14, 24] (τ' := { env := [(0, V.sl n (List.map encC l)), (2, V.ptr 0 0), (5, V.ptr 1 0), (6, V.bool true), (7, V.bool e), (8, V.int IntKind.i64 (↑i : Int)), (9, V.int IntKind.i64 (IntKind.i64.wrap ((↑k : Int) + 1)))], heap := [B.cells [V.int IntKind.i64 0, V.int IntKind.i64 0, V.int IntKind.i64 0, V.int IntKind.i64 0, V.int IntKind.i64 0, V.int IntKind.i64 0, V.int IntKind.i64 0, V.int IntKind.i64 0], B.cells [V.int IntKind.i64 p, V.int IntKind.i64 q, V.int IntKind.i64 (P.rn (IntKind.i64.wrap (Fd.ch l k - Fd.cl l i)) (IntKind.i64.wrap (Fd.ca l k - Fd.ca l i))), V.int IntKind.i64 (P.rd (IntKind.i64.wrap (Fd.ch l k - Fd.cl l i)) (IntKind.i64.wrap (Fd.ca l k - Fd.ca l i))), V.int IntKind.i64 u, V.int IntKind.i64 v, V.int IntKind.i64 (↑i : Int), V.int IntKind.i64 (↑k : Int)]] }) (by kernel_rfl) ?_ ?_
          · refine ⟨?_, ?_, ?_, ?_, ?_, ?_, ?_, ?_, ?_, ?_, ?_, ?_, ?_, ?_, ?_, ?_, ?_, ?_, ?_, ?_, ?_, ?_, ?_, trivial⟩
            all_goals first
            | (simp; omega)
            | (simp [encC, fitP, fld, leafFits, V.cells, hk, hi]; done)
            | (simp only [w1, w2, w3, decide_eq_true_eq, decide_eq_false_iff_not, beq_iff_eq, beq_eq_false_iff_ne, ne_eq]; omega)
            | (rw [hf]; rfl)
            | (rw [hf']; rfl)
            | (simp only [w1, w2, w3]; exact h5)
            | (simp only [w1, w2, w3]; exact h6)
            | (simp only [w1, w2, w3]; simp; omega)
          · rw [hw]; first
            | exact ih
            | (simp only [w1, w2, w3]; exact ih)
        · have e0 : P.addB l[i] l[k] i k ⟨p, q, r, s, u, v, w, x, f, e⟩ = ⟨P.rn (l[k].lo - l[i].hi) (l[k].at_ - l[i].at_), P.rd (l[k].lo - l[i].hi) (l[k].at_ - l[i].at_), r, s, i, k, w, x, true, e⟩ := by
            rw [hadd, hf]; unfold addB; simp only [bl_cmp, bl_cmp', h5, h6, Bool.not_true, Bool.false_or, if_true, Bool.false_eq_true, if_false]
          rw [e0] at ih ⊢
          refine LRuns.next (F := F) R86_ok (sh := Sh) (L := fun _ _ => .fail) (LGood.none (by kernel_rfl)) [(decide ((↑k : Int) < (↑(List.map encC l).length : Int)), true),
    (((List.map encC l).getD k V.undef).cells.length == 3 && fitP [TK.int IntKind.i64, TK.int IntKind.i64, TK.int IntKind.i64] 0 ((List.map encC l).getD k V.undef), true),
    (decide ((↑i : Int) < (↑(List.map encC l).length : Int)), true),
    (((List.map encC l).getD i V.undef).cells.length == 3 && fitP [TK.int IntKind.i64, TK.int IntKind.i64, TK.int IntKind.i64] 0 ((List.map encC l).getD i V.undef), true),
    (IntKind.i64.wrap (Fd.ca l k - Fd.ca l i) == 0, false),
    (decide (IntKind.i64.wrap (Fd.ca l k - Fd.ca l i) ≤ 0), false),
    (decide (-1000000000000000 ≤ IntKind.i64.wrap (Fd.cl l k - Fd.ch l i)), true),
    (decide (IntKind.i64.wrap (Fd.cl l k - Fd.ch l i) ≤ 1000000000000000), true),
    (decide (0 < IntKind.i64.wrap (Fd.ca l k - Fd.ca l i)), true),
    (decide (IntKind.i64.wrap (Fd.ca l k - Fd.ca l i) ≤ 1000000000000000), true),
    (decide (-1000000000000000 ≤ IntKind.i64.wrap (Fd.ch l k - Fd.cl l i)), true),
    (decide (IntKind.i64.wrap (Fd.ch l k - Fd.cl l i) ≤ 1000000000000000), true),
    (!f, false),
    (decide (-9000000000000000000 ≤ p * P.rd (IntKind.i64.wrap (Fd.cl l k - Fd.ch l i)) (IntKind.i64.wrap (Fd.ca l k - Fd.ca l i))), true),
    (decide (p * P.rd (IntKind.i64.wrap (Fd.cl l k - Fd.ch l i)) (IntKind.i64.wrap (Fd.ca l k - Fd.ca l i)) ≤ 9000000000000000000), true),
    (decide (-9000000000000000000 ≤ P.rn (IntKind.i64.wrap (Fd.cl l k - Fd.ch l i)) (IntKind.i64.wrap (Fd.ca l k - Fd.ca l i)) * q), true),
    (decide (P.rn (IntKind.i64.wrap (Fd.cl l k - Fd.ch l i)) (IntKind.i64.wrap (Fd.ca l k - Fd.ca l i)) * q ≤ 9000000000000000000), true),
    (P.bl p q (P.rn (IntKind.i64.wrap (Fd.cl l k - Fd.ch l i)) (IntKind.i64.wrap (Fd.ca l k - Fd.ca l i))) (P.rd (IntKind.i64.wrap (Fd.cl l k - Fd.ch l i)) (IntKind.i64.wrap (Fd.ca l k - Fd.ca l i))), true),
    (decide (-9000000000000000000 ≤ P.rn (IntKind.i64.wrap (Fd.ch l k - Fd.cl l i)) (IntKind.i64.wrap (Fd.ca l k - Fd.ca l i)) * s), true),
    (decide (P.rn (IntKind.i64.wrap (Fd.ch l k - Fd.cl l i)) (IntKind.i64.wrap (Fd.ca l k - Fd.ca l i)) * s ≤ 9000000000000000000), true),
    (decide (-9000000000000000000 ≤ r * P.rd (IntKind.i64.wrap (Fd.ch l k - Fd.cl l i)) (IntKind.i64.wrap (Fd.ca l k - Fd.ca l i))), true),
    (decide (r * P.rd (IntKind.i64.wrap (Fd.ch l k - Fd.cl l i)) (IntKind.i64.wrap (Fd.ca l k - Fd.ca l i)) ≤ 9000000000000000000), true),
    (P.bl (P.rn (IntKind.i64.wrap (Fd.ch l k - Fd.cl l i)) (IntKind.i64.wrap (Fd.ca l k - Fd.ca l i))) (P.rd (IntKind.i64.wrap (Fd.ch l k - Fd.cl l i)) (IntKind.i64.wrap (Fd.ca l k - Fd.ca l i))) r s, false)] [2, 0, 2, 3, 0, 4, 5, 6, 6, 6, 6, 6, 6, 6, 6, 6, 6, 6, 6, 1, 7, 0, 2, 3, 0, 4, 5, 8, 9, 10, 11, 0, 2, 3, 0, 4, 5, 12, 13, 10, 11, 14, 14, 14, 14, 15, 16, 17, 18, 14, 19, 14, 14, 14, 14, 20, 21, 22, 23, 14, 24] (τ' := { env := [(0, V.sl n (List.map encC l)), (2, V.ptr 0 0), (5, V.ptr 1 0), (6, V.bool true), (7, V.bool e), (8, V.int IntKind.i64 (↑i : Int)), (9, V.int IntKind.i64 (IntKind.i64.wrap ((↑k : Int) + 1)))], heap := [B.cells [V.int IntKind.i64 0, V.int IntKind.i64 0, V.int IntKind.i64 0, V.int IntKind.i64 0, V.int IntKind.i64 0, V.int IntKind.i64 0, V.int IntKind.i64 0, V.int IntKind.i64 0], B.cells [V.int IntKind.i64 (P.rn (IntKind.i64.wrap (Fd.cl l k - Fd.ch l i)) (IntKind.i64.wrap (Fd.ca l k - Fd.ca l i))), V.int IntKind.i64 (P.rd (IntKind.i64.wrap (Fd.cl l k - Fd.ch l i)) (IntKind.i64.wrap (Fd.ca l k - Fd.ca l i))), V.int IntKind.i64 r, V.int IntKind.i64 s, V.int IntKind.i64 (↑i : Int), V.int IntKind.i64 (↑k : Int), V.int IntKind.i64 w, V.int IntKind.i64 x]] }) (by kernel_rfl) ?_ ?_
          · refine ⟨?_, ?_, ?_, ?_, ?_, ?_, ?_, ?_, ?_, ?_, ?_, ?_, ?_, ?_, ?_, ?_, ?_, ?_, ?_, ?_, ?_, ?_, ?_, trivial⟩
            all_goals first
            | (simp; omega)
            | (simp [encC, fitP, fld, leafFits, V.cells, hk, hi]; done)
            | (simp only [w1, w2, w3, decide_eq_true_eq, decide_eq_false_iff_not, beq_iff_eq, beq_eq_false_iff_ne, ne_eq]; omega)
            | (rw [hf]; rfl)
            | (rw [hf']; rfl)
            | (simp only [w1, w2, w3]; exact h5)
            | (simp only [w1, w2, w3]; exact h6)
            | (simp only [w1, w2, w3]; simp; omega)
          · rw [hw]; first
            | exact ih
            | (simp only [w1, w2, w3]; exact ih)
        · have e0 : P.addB l[i] l[k] i k ⟨p, q, r, s, u, v, w, x, f, e⟩ = ⟨P.rn (l[k].lo - l[i].hi) (l[k].at_ - l[i].at_), P.rd (l[k].lo - l[i].hi) (l[k].at_ - l[i].at_), P.rn (l[k].hi - l[i].lo) (l[k].at_ - l[i].at_), P.rd (l[k].hi - l[i].lo) (l[k].at_ - l[i].at_), i, k, i, k, true, e⟩ := by
            rw [hadd, hf]; unfold addB; simp only [bl_cmp, bl_cmp', h5, h6, Bool.not_true, Bool.false_or, if_true, Bool.false_eq_true, if_false]
          rw [e0] at ih ⊢
          refine LRuns.next (F := F) R86_ok (sh := Sh) (L := fun _ _ => .fail) (LGood.none (by kernel_rfl)) [(decide ((↑k : Int) < (↑(List.map encC l).length : Int)), true),
    (((List.map encC l).getD k V.undef).cells.length == 3 && fitP [TK.int IntKind.i64, TK.int IntKind.i64, TK.int IntKind.i64] 0 ((List.map encC l).getD k V.undef), true),
    (decide ((↑i : Int) < (↑(List.map encC l).length : Int)), true),
    (((List.map encC l).getD i V.undef).cells.length == 3 && fitP [TK.int IntKind.i64, TK.int IntKind.i64, TK.int IntKind.i64] 0 ((List.map encC l).getD i V.undef), true),
    (IntKind.i64.wrap (Fd.ca l k - Fd.ca l i) == 0, false),
    (decide (IntKind.i64.wrap (Fd.ca l k - Fd.ca l i) ≤ 0), false),
    (decide (-1000000000000000 ≤ IntKind.i64.wrap (Fd.cl l k - Fd.ch l i)), true),
    (decide (IntKind.i64.wrap (Fd.cl l k - Fd.ch l i) ≤ 1000000000000000), true),
    (decide (0 < IntKind.i64.wrap (Fd.ca l k - Fd.ca l i)), true),
    (decide (IntKind.i64.wrap (Fd.ca l k - Fd.ca l i) ≤ 1000000000000000), true),
    (decide (-1000000000000000 ≤ IntKind.i64.wrap (Fd.ch l k - Fd.cl l i)), true),
    (decide (IntKind.i64.wrap (Fd.ch l k - Fd.cl l i) ≤ 1000000000000000), true),
    (!f, false),
    (decide (-9000000000000000000 ≤ p * P.rd (IntKind.i64.wrap (Fd.cl l k - Fd.ch l i)) (IntKind.i64.wrap (Fd.ca l k - Fd.ca l i))), true),
    (decide (p * P.rd (IntKind.i64.wrap (Fd.cl l k - Fd.ch l i)) (IntKind.i64.wrap (Fd.ca l k - Fd.ca l i)) ≤ 9000000000000000000), true),
    (decide (-9000000000000000000 ≤ P.rn (IntKind.i64.wrap (Fd.cl l k - Fd.ch l i)) (IntKind.i64.wrap (Fd.ca l k - Fd.ca l i)) * q), true),
    (decide (P.rn (IntKind.i64.wrap (Fd.cl l k - Fd.ch l i)) (IntKind.i64.wrap (Fd.ca l k - Fd.ca l i)) * q ≤ 9000000000000000000), true),
    (P.bl p q (P.rn (IntKind.i64.wrap (Fd.cl l k - Fd.ch l i)) (IntKind.i64.wrap (Fd.ca l k - Fd.ca l i))) (P.rd (IntKind.i64.wrap (Fd.cl l k - Fd.ch l i)) (IntKind.i64.wrap (Fd.ca l k - Fd.ca l i))), true),
    (decide (-9000000000000000000 ≤ P.rn (IntKind.i64.wrap (Fd.ch l k - Fd.cl l i)) (IntKind.i64.wrap (Fd.ca l k - Fd.ca l i)) * s), true),
    (decide (P.rn (IntKind.i64.wrap (Fd.ch l k - Fd.cl l i)) (IntKind.i64.wrap (Fd.ca l k - Fd.ca l i)) * s ≤ 9000000000000000000), true),
    (decide (-9000000000000000000 ≤ r * P.rd (IntKind.i64.wrap (Fd.ch l k - Fd.cl l i)) (IntKind.i64.wrap (Fd.ca l k - Fd.ca l i))), true),
    (decide (r * P.rd (IntKind.i64.wrap (Fd.ch l k - Fd.cl l i)) (IntKind.i64.wrap (Fd.ca l k - Fd.ca l i)) ≤ 9000000000000000000), true),
    (P.bl (P.rn (IntKind.i64.wrap (Fd.ch l k - Fd.cl l i)) (IntKind.i64.wrap (Fd.ca l k - Fd.ca l i))) (P.rd (IntKind.i64.wrap (Fd.ch l k - Fd.cl l i)) (IntKind.i64.wrap (Fd.ca l k - Fd.ca l i))) r s, true)] [2, 0, 2, 3, 0, 4, 5, 6, 6, 6, 6, 6, 6, 6, 6, 6, 6, 6, 6, 1, 7, 0, 2, 3, 0, 4, 5, 8, 9, 10, 11, 0, 2, 3, 0, 4, 5, 12, 13, 10, 11, 14, 14, 14, 14, 15, 16, 17, 18, 14, 19, 14, 14, 14, 14, 20, 21, 22, 23, 14, 24] (τ' := { env := [(0, V.sl n (List.map encC l)), (2, V.ptr 0 0), (5, V.ptr 1 0), (6, V.bool true), (7, V.bool e), (8, V.int IntKind.i64 (↑i : Int)), (9, V.int IntKind.i64 (IntKind.i64.wrap ((↑k : Int) + 1)))], heap := [B.cells [V.int IntKind.i64 0, V.int IntKind.i64 0, V.int IntKind.i64 0, V.int IntKind.i64 0, V.int IntKind.i64 0, V.int IntKind.i64 0, V.int IntKind.i64 0, V.int IntKind.i64 0], B.cells [V.int IntKind.i64 (P.rn (IntKind.i64.wrap (Fd.cl l k - Fd.ch l i)) (IntKind.i64.wrap (Fd.ca l k - Fd.ca l i))), V.int IntKind.i64 (P.rd (IntKind.i64.wrap (Fd.cl l k - Fd.ch l i)) (IntKind.i64.wrap (Fd.ca l k - Fd.ca l i))), V.int IntKind.i64 (P.rn (IntKind.i64.wrap (Fd.ch l k - Fd.cl l i)) (IntKind.i64.wrap (Fd.ca l k - Fd.ca l i))), V.int IntKind.i64 (P.rd (IntKind.i64.wrap (Fd.ch l k - Fd.cl l i)) (IntKind.i64.wrap (Fd.ca l k - Fd.ca l i))), V.int IntKind.i64 (↑i : Int), V.int IntKind.i64 (↑k : Int), V.int IntKind.i64 (↑i : Int), V.int IntKind.i64 (↑k : Int)]] }) (by kernel_rfl) ?_ ?_
          · refine ⟨?_, ?_, ?_, ?_, ?_, ?_, ?_, ?_, ?_, ?_, ?_, ?_, ?_, ?_, ?_, ?_, ?_, ?_, ?_, ?_, ?_, ?_, ?_, trivial⟩
            all_goals first
            | (simp; omega)
            | (simp [encC, fitP, fld, leafFits, V.cells, hk, hi]; done)
            | (simp only [w1, w2, w3, decide_eq_true_eq, decide_eq_false_iff_not, beq_iff_eq, beq_eq_false_iff_ne, ne_eq]; omega)
            | (rw [hf]; rfl)
            | (rw [hf']; rfl)
            | (simp only [w1, w2, w3]; exact h5)
            | (simp only [w1, w2, w3]; exact h6)
            | (simp only [w1, w2, w3]; simp; omega)
          · rw [hw]; first
            | exact ih
            | (simp only [w1, w2, w3]; exact ih)
      · have hf' : f = false := by simpa using hf
        have e0 : P.addB l[i] l[k] i k ⟨p, q, r, s, u, v, w, x, f, e⟩ = ⟨P.rn (l[k].lo - l[i].hi) (l[k].at_ - l[i].at_), P.rd (l[k].lo - l[i].hi) (l[k].at_ - l[i].at_), P.rn (l[k].hi - l[i].lo) (l[k].at_ - l[i].at_), P.rd (l[k].hi - l[i].lo) (l[k].at_ - l[i].at_), i, k, i, k, true, e⟩ := by
          rw [hadd, hf']; unfold addB; simp only [Bool.not_false, Bool.true_or, if_true]
        rw [e0] at ih ⊢
        refine LRuns.next (F := F) R86_ok (sh := Sh) (L := fun _ _ => .fail) (LGood.none (by kernel_rfl)) [(decide ((↑k : Int) < (↑(List.map encC l).length : Int)), true),
    (((List.map encC l).getD k V.undef).cells.length == 3 && fitP [TK.int IntKind.i64, TK.int IntKind.i64, TK.int IntKind.i64] 0 ((List.map encC l).getD k V.undef), true),
    (decide ((↑i : Int) < (↑(List.map encC l).length : Int)), true),
    (((List.map encC l).getD i V.undef).cells.length == 3 && fitP [TK.int IntKind.i64, TK.int IntKind.i64, TK.int IntKind.i64] 0 ((List.map encC l).getD i V.undef), true),
    (IntKind.i64.wrap (Fd.ca l k - Fd.ca l i) == 0, false),
    (decide (IntKind.i64.wrap (Fd.ca l k - Fd.ca l i) ≤ 0), false),
    (decide (-1000000000000000 ≤ IntKind.i64.wrap (Fd.cl l k - Fd.ch l i)), true),
    (decide (IntKind.i64.wrap (Fd.cl l k - Fd.ch l i) ≤ 1000000000000000), true),
    (decide (0 < IntKind.i64.wrap (Fd.ca l k - Fd.ca l i)), true),
    (decide (IntKind.i64.wrap (Fd.ca l k - Fd.ca l i) ≤ 1000000000000000), true),
    (decide (-1000000000000000 ≤ IntKind.i64.wrap (Fd.ch l k - Fd.cl l i)), true),
    (decide (IntKind.i64.wrap (Fd.ch l k - Fd.cl l i) ≤ 1000000000000000), true),
    (!f, true)] [2, 0, 2, 3, 0, 4, 5, 6, 6, 6, 6, 6, 6, 6, 6, 6, 6, 6, 6, 1, 7, 0, 2, 3, 0, 4, 5, 8, 9, 10, 11, 0, 2, 3, 0, 4, 5, 12, 13, 10, 11, 14, 14, 14, 14, 14, 0, 14, 14, 14, 14, 14, 0] (τ' := { env := [(0, V.sl n (List.map encC l)), (2, V.ptr 0 0), (5, V.ptr 1 0), (6, V.bool true), (7, V.bool e), (8, V.int IntKind.i64 (↑i : Int)), (9, V.int IntKind.i64 (IntKind.i64.wrap ((↑k : Int) + 1)))], heap := [B.cells [V.int IntKind.i64 0, V.int IntKind.i64 0, V.int IntKind.i64 0, V.int IntKind.i64 0, V.int IntKind.i64 0, V.int IntKind.i64 0, V.int IntKind.i64 0, V.int IntKind.i64 0], B.cells [V.int IntKind.i64 (P.rn (IntKind.i64.wrap (Fd.cl l k - Fd.ch l i)) (IntKind.i64.wrap (Fd.ca l k - Fd.ca l i))), V.int IntKind.i64 (P.rd (IntKind.i64.wrap (Fd.cl l k - Fd.ch l i)) (IntKind.i64.wrap (Fd.ca l k - Fd.ca l i))), V.int IntKind.i64 (P.rn (IntKind.i64.wrap (Fd.ch l k - Fd.cl l i)) (IntKind.i64.wrap (Fd.ca l k - Fd.ca l i))), V.int IntKind.i64 (P.rd (IntKind.i64.wrap (Fd.ch l k - Fd.cl l i)) (IntKind.i64.wrap (Fd.ca l k - Fd.ca l i))), V.int IntKind.i64 (↑i : Int), V.int IntKind.i64 (↑k : Int), V.int IntKind.i64 (↑i : Int), V.int IntKind.i64 (↑k : Int)]] }) (by kernel_rfl) ?_ ?_
        · refine ⟨?_, ?_, ?_, ?_, ?_, ?_, ?_, ?_, ?_, ?_, ?_, ?_, ?_, trivial⟩
          have h5 := trivial
          have h6 := trivial
          all_goals first
            | (simp; omega)
            | (simp [encC, fitP, fld, leafFits, V.cells, hk, hi]; done)
            | (simp only [w1, w2, w3, decide_eq_true_eq, decide_eq_false_iff_not, beq_iff_eq, beq_eq_false_iff_ne, ne_eq]; omega)
            | (rw [hf]; rfl)
            | (rw [hf']; rfl)
            | (simp only [w1, w2, w3]; exact h5)
            | (simp only [w1, w2, w3]; exact h6)
            | (simp only [w1, w2, w3]; simp; omega)
        · rw [hw]; first
            | exact ih
            | (simp only [w1, w2, w3]; exact ih)
    · have h5 := trivial
      have h6 := trivial
      have f5 := trivial
      have f6 := trivial
      have gl := cl_at l i hi
      have gh := ch_at l k hk
      by_cases c2 : l[i].at_ = l[k].at_
      · by_cases c3 : l[i].lo > l[k].hi
        · have hA : stepB l i k ⟨p, q, r, s, u, v, w, x, f, e⟩ = ⟨p, q, r, s, u, v, w, x, f, true⟩ := by unfold stepB; rw [si, sk, if_neg c1, if_pos ⟨c2, c3⟩]
          rw [hA] at ih ⊢
          refine LRuns.next (F := F) R86_ok (sh := Sh) (L := fun _ _ => .fail) (LGood.none (by kernel_rfl)) [(decide ((↑k : Int) < (↑(List.map encC l).length : Int)), true),
    (((List.map encC l).getD k V.undef).cells.length == 3 && fitP [TK.int IntKind.i64, TK.int IntKind.i64, TK.int IntKind.i64] 0 ((List.map encC l).getD k V.undef), true),
    (decide ((↑i : Int) < (↑(List.map encC l).length : Int)), true),
    (((List.map encC l).getD i V.undef).cells.length == 3 && fitP [TK.int IntKind.i64, TK.int IntKind.i64, TK.int IntKind.i64] 0 ((List.map encC l).getD i V.undef), true),
    (IntKind.i64.wrap (Fd.ca l k - Fd.ca l i) == 0, true),
    (decide (Fd.cl l i > Fd.ch l k), true),
    (decide (IntKind.i64.wrap (Fd.ca l k - Fd.ca l i) ≤ 0), true)] [2, 0, 2, 3, 0, 4, 5, 6, 6, 6, 0, 4, 5, 6, 6, 6, 6, 6, 0, 2, 3, 6, 6, 6, 6, 7, 8] (τ' := { env := [(0, V.sl n (List.map encC l)), (2, V.ptr 0 0), (5, V.ptr 1 0), (6, V.bool f), (7, V.bool true), (8, V.int IntKind.i64 (↑i : Int)), (9, V.int IntKind.i64 (IntKind.i64.wrap ((↑k : Int) + 1)))], heap := [B.cells [V.int IntKind.i64 0, V.int IntKind.i64 0, V.int IntKind.i64 0, V.int IntKind.i64 0, V.int IntKind.i64 0, V.int IntKind.i64 0, V.int IntKind.i64 0, V.int IntKind.i64 0], B.cells [V.int IntKind.i64 p, V.int IntKind.i64 q, V.int IntKind.i64 r, V.int IntKind.i64 s, V.int IntKind.i64 u, V.int IntKind.i64 v, V.int IntKind.i64 w, V.int IntKind.i64 x]] }) (by kernel_rfl) ?_ ?_
          · refine ⟨?_, ?_, ?_, ?_, ?_, ?_, ?_, trivial⟩
            all_goals first
            | (simp; omega)
            | (simp [encC, fitP, fld, leafFits, V.cells, hk, hi]; done)
            | (simp only [w1, w2, w3, decide_eq_true_eq, decide_eq_false_iff_not, beq_iff_eq, beq_eq_false_iff_ne, ne_eq]; omega)
            | (rw [hf]; rfl)
            | (rw [hf']; rfl)
            | (simp only [w1, w2, w3]; exact h5)
            | (simp only [w1, w2, w3]; exact h6)
            | (simp only [w1, w2, w3]; simp; omega)
          · rw [hw]; exact ih
        · have hA : stepB l i k ⟨p, q, r, s, u, v, w, x, f, e⟩ = ⟨p, q, r, s, u, v, w, x, f, e⟩ := by unfold stepB; rw [si, sk, if_neg c1, if_neg (fun h => c3 h.2)]
          rw [hA] at ih ⊢
          refine LRuns.next (F := F) R86_ok (sh := Sh) (L := fun _ _ => .fail) (LGood.none (by kernel_rfl)) [(decide ((↑k : Int) < (↑(List.map encC l).length : Int)), true),
    (((List.map encC l).getD k V.undef).cells.length == 3 && fitP [TK.int IntKind.i64, TK.int IntKind.i64, TK.int IntKind.i64] 0 ((List.map encC l).getD k V.undef), true),
    (decide ((↑i : Int) < (↑(List.map encC l).length : Int)), true),
    (((List.map encC l).getD i V.undef).cells.length == 3 && fitP [TK.int IntKind.i64, TK.int IntKind.i64, TK.int IntKind.i64] 0 ((List.map encC l).getD i V.undef), true),
    (IntKind.i64.wrap (Fd.ca l k - Fd.ca l i) == 0, true),
    (decide (Fd.cl l i > Fd.ch l k), false),
    (decide (IntKind.i64.wrap (Fd.ca l k - Fd.ca l i) ≤ 0), true)] [2, 0, 2, 3, 0, 4, 5, 6, 6, 6, 0, 4, 5, 6, 6, 6, 6, 6, 0, 2, 3, 6, 6, 6, 6, 7, 8] (τ' := { env := [(0, V.sl n (List.map encC l)), (2, V.ptr 0 0), (5, V.ptr 1 0), (6, V.bool f), (7, V.bool e), (8, V.int IntKind.i64 (↑i : Int)), (9, V.int IntKind.i64 (IntKind.i64.wrap ((↑k : Int) + 1)))], heap := [B.cells [V.int IntKind.i64 0, V.int IntKind.i64 0, V.int IntKind.i64 0, V.int IntKind.i64 0, V.int IntKind.i64 0, V.int IntKind.i64 0, V.int IntKind.i64 0, V.int IntKind.i64 0], B.cells [V.int IntKind.i64 p, V.int IntKind.i64 q, V.int IntKind.i64 r, V.int IntKind.i64 s, V.int IntKind.i64 u, V.int IntKind.i64 v, V.int IntKind.i64 w, V.int IntKind.i64 x]] }) (by kernel_rfl) ?_ ?_
          · refine ⟨?_, ?_, ?_, ?_, ?_, ?_, ?_, trivial⟩
            all_goals first
            | (simp; omega)
            | (simp [encC, fitP, fld, leafFits, V.cells, hk, hi]; done)
            | (simp only [w1, w2, w3, decide_eq_true_eq, decide_eq_false_iff_not, beq_iff_eq, beq_eq_false_iff_ne, ne_eq]; omega)
            | (rw [hf]; rfl)
            | (rw [hf']; rfl)
            | (simp only [w1, w2, w3]; exact h5)
            | (simp only [w1, w2, w3]; exact h6)
            | (simp only [w1, w2, w3]; simp; omega)
          · rw [hw]; exact ih
      · have hA : stepB l i k ⟨p, q, r, s, u, v, w, x, f, e⟩ = ⟨p, q, r, s, u, v, w, x, f, e⟩ := by unfold stepB; rw [si, sk, if_neg c1, if_neg (fun h => c2 h.1)]
        rw [hA] at ih ⊢
        refine LRuns.next (F := F) R86_ok (sh := Sh) (L := fun _ _ => .fail) (LGood.none (by kernel_rfl)) [(decide ((↑k : Int) < (↑(List.map encC l).length : Int)), true),
    (((List.map encC l).getD k V.undef).cells.length == 3 && fitP [TK.int IntKind.i64, TK.int IntKind.i64, TK.int IntKind.i64] 0 ((List.map encC l).getD k V.undef), true),
    (decide ((↑i : Int) < (↑(List.map encC l).length : Int)), true),
    (((List.map encC l).getD i V.undef).cells.length == 3 && fitP [TK.int IntKind.i64, TK.int IntKind.i64, TK.int IntKind.i64] 0 ((List.map encC l).getD i V.undef), true),
    (IntKind.i64.wrap (Fd.ca l k - Fd.ca l i) == 0, false),
    (decide (IntKind.i64.wrap (Fd.ca l k - Fd.ca l i) ≤ 0), true)] [2, 0, 2, 3, 0, 4, 5, 6, 6, 6, 6, 6, 6, 6, 6, 6, 6, 6, 6, 1, 7] (τ' := { env := [(0, V.sl n (List.map encC l)), (2, V.ptr 0 0), (5, V.ptr 1 0), (6, V.bool f), (7, V.bool e), (8, V.int IntKind.i64 (↑i : Int)), (9, V.int IntKind.i64 (IntKind.i64.wrap ((↑k : Int) + 1)))], heap := [B.cells [V.int IntKind.i64 0, V.int IntKind.i64 0, V.int IntKind.i64 0, V.int IntKind.i64 0, V.int IntKind.i64 0, V.int IntKind.i64 0, V.int IntKind.i64 0, V.int IntKind.i64 0], B.cells [V.int IntKind.i64 p, V.int IntKind.i64 q, V.int IntKind.i64 r, V.int IntKind.i64 s, V.int IntKind.i64 u, V.int IntKind.i64 v, V.int IntKind.i64 w, V.int IntKind.i64 x]] }) (by kernel_rfl) ?_ ?_
        · refine ⟨?_, ?_, ?_, ?_, ?_, ?_, trivial⟩
          all_goals first
            | (simp; omega)
            | (simp [encC, fitP, fld, leafFits, V.cells, hk, hi]; done)
            | (simp only [w1, w2, w3, decide_eq_true_eq, decide_eq_false_iff_not, beq_iff_eq, beq_eq_false_iff_ne, ne_eq]; omega)
            | (rw [hf]; rfl)
            | (rw [hf']; rfl)
            | (simp only [w1, w2, w3]; exact h5)
            | (simp only [w1, w2, w3]; exact h6)
            | (simp only [w1, w2, w3]; simp; omega)
        · rw [hw]; exact ih
theorem ro_loop {n : Bool} {l : List Chk} (hl : l.length ≤ 1000) (hc : ∀ c ∈ l, OkC c) : ∀ (d i : Nat) (b : Bd), i + d = l.length → OkB b →
    LRuns (vstep T (vlim T F) lplim fi53.cx 2 (lb fi53 0)) (roS n l i b) (.exit 0, ⟨(roS n l l.length (allB l d i b)).env ++ [(22, .bool false)], (roS n l l.length (allB l d i b)).heap⟩)
  | 0, i, b, hd, hb => by
    have hi : i = l.length := by omega
    subst hi
    have := LRuns.last (F := F) R86_ok (sh := Sh) (L := loopsIs []) (n := 2) (b := lb fi53 0) (cx := fi53.cx) (τ := roS n l l.length b) (LGood.is (l := []) (fun _ _ x hx => by cases hx)) [(decide ((l.length : Int) < ((l.map encC).length : Int)), false)] [2]
      (r := (.exit 0, ⟨(roS n l l.length b).env ++ [(22, .bool (decide ((l.length : Int) < ((l.map encC).length : Int))))], (roS n l l.length b).heap⟩)) (by kernel_rfl) (by simp) ⟨by simp, trivial⟩
    simpa [allB] using this
  | d + 1, i, b, hd, hb => by
    have hi : i < l.length := by omega
    have hin := ri_loop (n := n) hl hc hi l.length 0 b (by omega) hb
    have hb' := restB_ok hc hi l.length 0 b (by omega) hb
    have ih := ro_loop (n := n) hl hc d (i + 1) (restB l i l.length 0 b) (by omega) hb'
    have hw : IntKind.i64.wrap ((i : Int) + 1) = ((i + 1 : Nat) : Int) := by rw [i64in (by omega) (by omega)]; rfl
    simp only [allB]
    generalize restB l i l.length 0 b = c at *
    refine LRuns.next (F := F) R86_ok (sh := Sh) (L := loopsIs [(10, riS n l i 0 b, (.exit 2, ⟨(riS n l i l.length c).env ++ [(28, .bool false)], (riS n l i l.length c).heap⟩))]) (LGood.one (b := lb fi53 1) (by kernel_rfl) (by exact hin)) [(decide ((↑i : Int) < (↑(List.map encC l).length : Int)), true),
    (is { env := [(0, V.sl n (List.map encC l)), (2, V.ptr 0 0), (5, V.ptr 1 0), (6, V.bool b.9), (7, V.bool b.10), (8, V.int IntKind.i64 (↑i : Int)), (9, V.int IntKind.i64 0)], heap := [B.cells [V.int IntKind.i64 0, V.int IntKind.i64 0, V.int IntKind.i64 0, V.int IntKind.i64 0, V.int IntKind.i64 0, V.int IntKind.i64 0, V.int IntKind.i64 0, V.int IntKind.i64 0], B.cells [V.int IntKind.i64 b.1, V.int IntKind.i64 b.2, V.int IntKind.i64 b.3, V.int IntKind.i64 b.4, V.int IntKind.i64 b.5, V.int IntKind.i64 b.6, V.int IntKind.i64 b.7, V.int IntKind.i64 b.8]] } { env := [(0, V.sl n (List.map encC l)), (2, V.ptr 0 0), (5, V.ptr 1 0), (6, V.bool b.9), (7, V.bool b.10), (8, V.int IntKind.i64 (↑i : Int)), (9, V.int IntKind.i64 0)], heap := [B.cells [V.int IntKind.i64 0, V.int IntKind.i64 0, V.int IntKind.i64 0, V.int IntKind.i64 0, V.int IntKind.i64 0, V.int IntKind.i64 0, V.int IntKind.i64 0, V.int IntKind.i64 0], B.cells [V.int IntKind.i64 b.1, V.int IntKind.i64 b.2, V.int IntKind.i64 b.3, V.int IntKind.i64 b.4, V.int IntKind.i64 b.5, V.int IntKind.i64 b.6, V.int IntKind.i64 b.7, V.int IntKind.i64 b.8]] }, true)] [2, 3] (τ' := roS n l (IntKind.i64.wrap ((i : Int) + 1)) c) (by kernel_rfl) ⟨by simp; omega, is_eq (by simp [riS]), trivial⟩ ?_
    rw [hw]; exact ih
theorem ra_runs (n : Bool) (l : List Chk) : Runs T F 53 [.sl n (l.map encC)] [] (.tup [.agg (auV l), .int .i64 (P.auE l)], []) := by
  by_cases h0 : P.chkE l = 0
  · obtain ⟨hl, hc⟩ := chkE_zero.1 h0
    have h1 : OkB {} := ⟨by decide, by decide, by decide, by decide⟩
    have hr := ro_loop (n := n) (by omega) hc l.length 0 {} (by omega) h1
    have hB := allB_ok hc l.length 0 {} (by omega) h1
    have hV : auV l = audV l := by rw [audV_eq]; simp only [auV, P.au, if_pos h0]
    have hE : P.auE l = audE l := by simp only [P.auE, if_pos h0]; rfl
    rw [hV, hE]
    unfold audV audE audB
    generalize allB l l.length 0 {} = b at *
    obtain ⟨p, q, r, s, u, v, w, x, f, e⟩ := b
    obtain ⟨b1, b2, b3, b4⟩ := hB
    simp only at b1 b2 b3 b4
    have p1 := prod_in (a := r) (b := q) b3 b2
    have p2 := prod_in (a := p) (b := s) b1 b4
    have hL : LGood T (vlim T F) lplim fi53.cx (loopsIs [(7, roS n l 0 {}, (.exit 0, ⟨(roS n l l.length ⟨p, q, r, s, u, v, w, x, f, e⟩).env ++ [(22, .bool false)], (roS n l l.length ⟨p, q, r, s, u, v, w, x, f, e⟩).heap⟩))]) fi53.body := by
      refine LGood.is fun c hc x hx hf => ?_
      simp only [List.mem_singleton] at hx
      subst hx
      have e : loopsOf fi53.body = [lb fi53 0, lb fi53 1] := by kernel_rfl
      have f1 : Nat.beq (firstRegion (lb fi53 1)) 7 = false := by kernel_rfl
      rw [e] at hc
      simp only [List.mem_cons, List.not_mem_nil, or_false] at hc
      rcases hc with rfl | rfl
      · exact hr
      · simp only at hf; rw [hf] at f1; simp at f1
    simp only
    by_cases c1 : f = false
    · have hq : (if f = false then (4 : Int) else if e = true ∨ P.cmp p q r s > 0 then 12 else 0) = 4 := if_pos c1
      rw [hq, if_neg (by decide)]
      exact Runs.way (F := F) (sh := Sh) (S := R86) R86_ok (fi := fi53) (by kernel_rfl) hL [(eqB (List.map encC l) (List.map encC (List.map decC (List.map encC l))), true),
    (P.chkE (List.map decC (List.map encC l)) != 0, false),
    (is { env := [(0, V.sl n (List.map encC l)), (2, V.ptr 0 0), (5, V.ptr 1 0), (6, V.bool false), (7, V.bool false), (8, V.int IntKind.i64 0)], heap := [B.cells [V.int IntKind.i64 0, V.int IntKind.i64 0, V.int IntKind.i64 0, V.int IntKind.i64 0, V.int IntKind.i64 0, V.int IntKind.i64 0, V.int IntKind.i64 0, V.int IntKind.i64 0], B.cells [V.int IntKind.i64 0, V.int IntKind.i64 0, V.int IntKind.i64 0, V.int IntKind.i64 0, V.int IntKind.i64 0, V.int IntKind.i64 0, V.int IntKind.i64 0, V.int IntKind.i64 0]] } { env := [(0, V.sl n (List.map encC l)), (2, V.ptr 0 0), (5, V.ptr 1 0), (6, V.bool false), (7, V.bool false), (8, V.int IntKind.i64 0)], heap := [B.cells [V.int IntKind.i64 0, V.int IntKind.i64 0, V.int IntKind.i64 0, V.int IntKind.i64 0, V.int IntKind.i64 0, V.int IntKind.i64 0, V.int IntKind.i64 0, V.int IntKind.i64 0], B.cells [V.int IntKind.i64 0, V.int IntKind.i64 0, V.int IntKind.i64 0, V.int IntKind.i64 0, V.int IntKind.i64 0, V.int IntKind.i64 0, V.int IntKind.i64 0, V.int IntKind.i64 0]] }, true),
    (!f, true)] [2, 3, 4, 5] (by kernel_rfl) ⟨eqB_eq (by rw [dec_enc]), by rw [dec_enc]; simp [h0], is_self _, by rw [c1]; rfl, trivial⟩
    · have c1' : f = true := by simpa using c1
      by_cases c2 : e = true
      · have hq : (if f = false then (4 : Int) else if e = true ∨ P.cmp p q r s > 0 then 12 else 0) = 12 := by rw [if_neg c1, if_pos (.inl c2)]
        rw [hq, if_neg (by decide)]
        exact Runs.way (F := F) (sh := Sh) (S := R86) R86_ok (fi := fi53) (by kernel_rfl) hL [(eqB (List.map encC l) (List.map encC (List.map decC (List.map encC l))), true),
    (P.chkE (List.map decC (List.map encC l)) != 0, false),
    (is { env := [(0, V.sl n (List.map encC l)), (2, V.ptr 0 0), (5, V.ptr 1 0), (6, V.bool false), (7, V.bool false), (8, V.int IntKind.i64 0)], heap := [B.cells [V.int IntKind.i64 0, V.int IntKind.i64 0, V.int IntKind.i64 0, V.int IntKind.i64 0, V.int IntKind.i64 0, V.int IntKind.i64 0, V.int IntKind.i64 0, V.int IntKind.i64 0], B.cells [V.int IntKind.i64 0, V.int IntKind.i64 0, V.int IntKind.i64 0, V.int IntKind.i64 0, V.int IntKind.i64 0, V.int IntKind.i64 0, V.int IntKind.i64 0, V.int IntKind.i64 0]] } { env := [(0, V.sl n (List.map encC l)), (2, V.ptr 0 0), (5, V.ptr 1 0), (6, V.bool false), (7, V.bool false), (8, V.int IntKind.i64 0)], heap := [B.cells [V.int IntKind.i64 0, V.int IntKind.i64 0, V.int IntKind.i64 0, V.int IntKind.i64 0, V.int IntKind.i64 0, V.int IntKind.i64 0, V.int IntKind.i64 0, V.int IntKind.i64 0], B.cells [V.int IntKind.i64 0, V.int IntKind.i64 0, V.int IntKind.i64 0, V.int IntKind.i64 0, V.int IntKind.i64 0, V.int IntKind.i64 0, V.int IntKind.i64 0, V.int IntKind.i64 0]] }, true),
    (!f, false),
    (e, true)] [2, 3, 4, 5, 6, 6, 6, 6, 6, 6, 0] (by kernel_rfl) ⟨eqB_eq (by rw [dec_enc]), by rw [dec_enc]; simp [h0], is_self _, by rw [c1']; rfl, c2, trivial⟩
      · have c2' : e = false := by simpa using c2
        have hbl := bl_cmp r s p q
        by_cases c3 : P.cmp p q r s > 0
        · have hq : (if f = false then (4 : Int) else if e = true ∨ P.cmp p q r s > 0 then 12 else 0) = 12 := by rw [if_neg c1, if_pos (.inr c3)]
          rw [hq, if_neg (by decide)]
          rw [decide_eq_true c3] at hbl
          exact Runs.way (F := F) (sh := Sh) (S := R86) R86_ok (fi := fi53) (by kernel_rfl) hL [(eqB (List.map encC l) (List.map encC (List.map decC (List.map encC l))), true),
    (P.chkE (List.map decC (List.map encC l)) != 0, false),
    (is { env := [(0, V.sl n (List.map encC l)), (2, V.ptr 0 0), (5, V.ptr 1 0), (6, V.bool false), (7, V.bool false), (8, V.int IntKind.i64 0)], heap := [B.cells [V.int IntKind.i64 0, V.int IntKind.i64 0, V.int IntKind.i64 0, V.int IntKind.i64 0, V.int IntKind.i64 0, V.int IntKind.i64 0, V.int IntKind.i64 0, V.int IntKind.i64 0], B.cells [V.int IntKind.i64 0, V.int IntKind.i64 0, V.int IntKind.i64 0, V.int IntKind.i64 0, V.int IntKind.i64 0, V.int IntKind.i64 0, V.int IntKind.i64 0, V.int IntKind.i64 0]] } { env := [(0, V.sl n (List.map encC l)), (2, V.ptr 0 0), (5, V.ptr 1 0), (6, V.bool false), (7, V.bool false), (8, V.int IntKind.i64 0)], heap := [B.cells [V.int IntKind.i64 0, V.int IntKind.i64 0, V.int IntKind.i64 0, V.int IntKind.i64 0, V.int IntKind.i64 0, V.int IntKind.i64 0, V.int IntKind.i64 0, V.int IntKind.i64 0], B.cells [V.int IntKind.i64 0, V.int IntKind.i64 0, V.int IntKind.i64 0, V.int IntKind.i64 0, V.int IntKind.i64 0, V.int IntKind.i64 0, V.int IntKind.i64 0, V.int IntKind.i64 0]] }, true),
    (!f, false),
    (e, false),
    (decide (-9000000000000000000 ≤ r * q), true),
    (decide (r * q ≤ 9000000000000000000), true),
    (decide (-9000000000000000000 ≤ p * s), true),
    (decide (p * s ≤ 9000000000000000000), true),
    (P.bl r s p q, true)] [2, 3, 4, 5, 6, 6, 6, 6, 6, 7, 8, 9, 10, 6, 11] (by kernel_rfl) ⟨eqB_eq (by rw [dec_enc]), by rw [dec_enc]; simp [h0], is_self _, by rw [c1']; rfl, c2', decide_eq_true p1.1, decide_eq_true p1.2, decide_eq_true p2.1, decide_eq_true p2.2, hbl.symm, trivial⟩
        · have hq : (if f = false then (4 : Int) else if e = true ∨ P.cmp p q r s > 0 then 12 else 0) = 0 := by rw [if_neg c1, if_neg (fun h => h.elim c2 c3)]
          rw [hq, if_pos rfl]
          rw [decide_eq_false c3] at hbl
          exact Runs.way (F := F) (sh := Sh) (S := R86) R86_ok (fi := fi53) (by kernel_rfl) hL [(eqB (List.map encC l) (List.map encC (List.map decC (List.map encC l))), true),
    (P.chkE (List.map decC (List.map encC l)) != 0, false),
    (is { env := [(0, V.sl n (List.map encC l)), (2, V.ptr 0 0), (5, V.ptr 1 0), (6, V.bool false), (7, V.bool false), (8, V.int IntKind.i64 0)], heap := [B.cells [V.int IntKind.i64 0, V.int IntKind.i64 0, V.int IntKind.i64 0, V.int IntKind.i64 0, V.int IntKind.i64 0, V.int IntKind.i64 0, V.int IntKind.i64 0, V.int IntKind.i64 0], B.cells [V.int IntKind.i64 0, V.int IntKind.i64 0, V.int IntKind.i64 0, V.int IntKind.i64 0, V.int IntKind.i64 0, V.int IntKind.i64 0, V.int IntKind.i64 0, V.int IntKind.i64 0]] } { env := [(0, V.sl n (List.map encC l)), (2, V.ptr 0 0), (5, V.ptr 1 0), (6, V.bool false), (7, V.bool false), (8, V.int IntKind.i64 0)], heap := [B.cells [V.int IntKind.i64 0, V.int IntKind.i64 0, V.int IntKind.i64 0, V.int IntKind.i64 0, V.int IntKind.i64 0, V.int IntKind.i64 0, V.int IntKind.i64 0, V.int IntKind.i64 0], B.cells [V.int IntKind.i64 0, V.int IntKind.i64 0, V.int IntKind.i64 0, V.int IntKind.i64 0, V.int IntKind.i64 0, V.int IntKind.i64 0, V.int IntKind.i64 0, V.int IntKind.i64 0]] }, true),
    (!f, false),
    (e, false),
    (decide (-9000000000000000000 ≤ r * q), true),
    (decide (r * q ≤ 9000000000000000000), true),
    (decide (-9000000000000000000 ≤ p * s), true),
    (decide (p * s ≤ 9000000000000000000), true),
    (P.bl r s p q, false)] [2, 3, 4, 5, 6, 6, 6, 6, 6, 7, 8, 9, 10, 6, 11] (by kernel_rfl) ⟨eqB_eq (by rw [dec_enc]), by rw [dec_enc]; simp [h0], is_self _, by rw [c1']; rfl, c2', decide_eq_true p1.1, decide_eq_true p1.2, decide_eq_true p2.1, decide_eq_true p2.2, hbl.symm, trivial⟩
  · have e1 : auV l = zero8 := by simp only [auV, P.au, if_neg h0]; rfl
    have e2 : P.auE l = P.chkE ((l.map encC).map decC) := by rw [dec_enc]; simp only [P.auE, if_neg h0]
    rw [e1, e2]
    exact Runs.way (F := F) (sh := Sh) (S := R86) R86_ok (fi := fi53) (by kernel_rfl) (L := fun _ _ => .fail) (fun _ _ _ _ h => by cases h) [(eqB (List.map encC l) (List.map encC (List.map decC (List.map encC l))), true),
    (P.chkE (List.map decC (List.map encC l)) != 0, true)] [2, 3] (by kernel_rfl) ⟨eqB_eq (by rw [dec_enc]), by rw [dec_enc]; simpa using h0, trivial⟩
noncomputable def raS : List V → Heap → Tr (V × Heap) := fun a H => match a, H with
  | [.sl _ xs], [] => .must (eqB xs ((xs.map decC).map encC)) (.ret (.tup [.agg (auV (xs.map decC)), .int .i64 (P.auE (xs.map decC))], []))
  | _, _ => .fail
theorem raS_ok : ∀ a H r, (raS a H).run = some r → Runs T F 53 a H r := by
  intro a H r h
  unfold raS at h
  split at h
  · rename_i m xs
    obtain ⟨h0, h⟩ := Tr.must_some h
    have hr := ret_some h
    clear h
    subst hr
    have h0 := of_eqB h0
    generalize xs.map decC = l at *
    subst h0
    exact ra_runs m l
  · cases h
noncomputable def R53 : Vm.Spec := R86.add 53 raS
theorem R53_ok : Vm.Good (vlim T F) R53 := R86_ok.add raS_ok
end Go.Proofs.Ytgmdkjiflhklaaa
