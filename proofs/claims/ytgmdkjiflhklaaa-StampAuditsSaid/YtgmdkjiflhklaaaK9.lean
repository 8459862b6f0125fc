/- K9: the reference's Keeps and Choose. -/
import Derived.Test.YtgmdkjiflhklaaaK8
namespace Go.Proofs.Ytgmdkjiflhklaaa
open Go Go.Vm
def rkS (n : Bool) (l : List Chk) (a d b e k : Int) : St := ⟨[(0, V.sl n (l.map encC)), (4, .ptr 0 0), (5, .ptr 1 0), (9, .int .i64 k)], kHeap a d b e⟩
def rcS (n : Bool) (l : List Chk) (b e x y k : Int) : St := ⟨[(0, V.sl n (l.map encC)), (4, .ptr 0 0), (5, .ptr 1 0), (10, .ptr 3 0), (11, .ptr 4 0), (12, .int .i64 k)], [.cells [.int .i64 0, .int .i64 0], .cells [.int .i64 0, .int .i64 0], .cells (auV l), .cells [.int .i64 b, .int .i64 e], .cells [.int .i64 x, .int .i64 y]]⟩
theorem rk_loop (n : Bool) (l : List Chk) (hl : l.length ≤ 40) (hc : ∀ c ∈ l, OkC c) {a d b e : Int} (ha : P.low a d 30000000000000 = true) (hb : P.low b e 300000000 = true) : ∀ (m k : Nat), k + m = l.length →
    (P.keep a d b e (l.drop k) = true → LRuns (vstep T (vlim T F) lplim fi55.cx 2 (lb fi55 0)) (rkS n l a d b e k) (.exit 0, ⟨(rkS n l a d b e l.length).env ++ [(27, .bool false)], kHeap a d b e⟩)) ∧
    (P.keep a d b e (l.drop k) = false → LRuns (vstep T (vlim T F) lplim fi55.cx 2 (lb fi55 0)) (rkS n l a d b e k) (.ret, ⟨[(6, .bool false), (7, .int .i64 0)], kHeap a d b e⟩))
  | 0, k, hd => by
    have hk : k = l.length := by omega
    subst hk
    rw [List.drop_length]
    refine ⟨fun _ => ?_, fun h => by cases h⟩
    have := LRuns.last (F := F) R53_ok (sh := Sh) (L := fun _ _ => .fail) (n := 2) (b := lb fi55 0) (cx := fi55.cx) (τ := rkS n l a d b e l.length) (LGood.none (by kernel_rfl)) [(decide ((l.length : Int) < ((l.map encC).length : Int)), false)] [2]
      (r := (.exit 0, ⟨(rkS n l a d b e l.length).env ++ [(27, .bool (decide ((l.length : Int) < ((l.map encC).length : Int))))], kHeap a d b e⟩)) (by kernel_rfl) (by simp) ⟨by simp, trivial⟩
    simpa using this
  | m + 1, k, hd => by
    have hk : k < l.length := by omega
    have ih := rk_loop n l hl hc ha hb m (k + 1) (by omega)
    have hw : IntKind.i64.wrap ((k : Int) + 1) = ((k + 1 : Nat) : Int) := by rw [i64in (by omega) (by omega)]; rfl
    have ga := ca_at l k hk
    have gl := cl_at l k hk
    have gh := ch_at l k hk
    obtain ⟨w1, w2, w3⟩ := keepW ha hb (hc l[k] (List.getElem_mem _))
    rw [← ga] at w1
    rw [← gl] at w2
    rw [← gh] at w3
    have w1' : Fd.ph (a * e) (b * Fd.ca l k) d = a * e + b * Fd.ca l k * d := w1
    rw [List.drop_eq_getElem_cons hk]
    have hb1 : P.keep a d b e (l[k] :: l.drop (k + 1)) = (!(decide (a * e + b * Fd.ca l k * d < Fd.cl l k * d * e) || decide (a * e + b * Fd.ca l k * d > Fd.ch l k * d * e)) && P.keep a d b e (l.drop (k + 1))) := by rw [ga, gl, gh]; rfl
    rw [hb1]
    by_cases h1 : a * e + b * Fd.ca l k * d < Fd.cl l k * d * e
    · rw [decide_eq_true h1]
      refine ⟨fun h => by simp at h, fun _ => ?_⟩
      exact LRuns.last (F := F) R53_ok (sh := Sh) (L := fun _ _ => .fail) (LGood.none (by kernel_rfl)) [(decide ((↑k : Int) < (↑(List.map encC l).length : Int)), true),
    (((List.map encC l).getD k V.undef).cells.length == 3 && fitP [TK.int IntKind.i64, TK.int IntKind.i64, TK.int IntKind.i64] 0 ((List.map encC l).getD k V.undef), true),
    (decide (Fd.ph (a * e) (b * Fd.ca l k) d ≥ IntKind.i64.wrap (IntKind.i64.wrap (Fd.cl l k * d) * e)), false)] [2, 0, 2, 3, 0, 2, 3, 0, 2, 3, 4, 4, 4, 4, 0] (by kernel_rfl) (by simp) ⟨(by simp; omega), (by simp [encC, fitP, fld, leafFits, V.cells, hk]), by rw [w1', w2]; exact decide_eq_false (by omega), trivial⟩
    · rw [decide_eq_false h1, Bool.false_or]
      by_cases h2 : a * e + b * Fd.ca l k * d > Fd.ch l k * d * e
      · rw [decide_eq_true h2]
        refine ⟨fun h => by simp at h, fun _ => ?_⟩
        exact LRuns.last (F := F) R53_ok (sh := Sh) (L := fun _ _ => .fail) (LGood.none (by kernel_rfl)) [(decide ((↑k : Int) < (↑(List.map encC l).length : Int)), true),
    (((List.map encC l).getD k V.undef).cells.length == 3 && fitP [TK.int IntKind.i64, TK.int IntKind.i64, TK.int IntKind.i64] 0 ((List.map encC l).getD k V.undef), true),
    (decide (Fd.ph (a * e) (b * Fd.ca l k) d ≥ IntKind.i64.wrap (IntKind.i64.wrap (Fd.cl l k * d) * e)), true),
    (!decide (Fd.ph (a * e) (b * Fd.ca l k) d ≤ IntKind.i64.wrap (IntKind.i64.wrap (Fd.ch l k * d) * e)), true)] [2, 0, 2, 3, 0, 2, 3, 0, 2, 3, 4, 4, 4, 4, 5] (by kernel_rfl) (by simp) ⟨(by simp; omega), (by simp [encC, fitP, fld, leafFits, V.cells, hk]), by rw [w1', w2]; exact decide_eq_true (by omega), by rw [w1', w3]; simp; omega, trivial⟩
      · rw [decide_eq_false h2, Bool.not_false, Bool.true_and]
        have hn : ∀ r, LRuns (vstep T (vlim T F) lplim fi55.cx 2 (lb fi55 0)) (rkS n l a d b e (k + 1 : Nat)) r → LRuns (vstep T (vlim T F) lplim fi55.cx 2 (lb fi55 0)) (rkS n l a d b e k) r := fun r hr => by
          refine LRuns.next (F := F) R53_ok (sh := Sh) (L := fun _ _ => .fail) (LGood.none (by kernel_rfl)) [(decide ((↑k : Int) < (↑(List.map encC l).length : Int)), true),
    (((List.map encC l).getD k V.undef).cells.length == 3 && fitP [TK.int IntKind.i64, TK.int IntKind.i64, TK.int IntKind.i64] 0 ((List.map encC l).getD k V.undef), true),
    (decide (Fd.ph (a * e) (b * Fd.ca l k) d ≥ IntKind.i64.wrap (IntKind.i64.wrap (Fd.cl l k * d) * e)), true),
    (!decide (Fd.ph (a * e) (b * Fd.ca l k) d ≤ IntKind.i64.wrap (IntKind.i64.wrap (Fd.ch l k * d) * e)), false)] [2, 0, 2, 3, 0, 2, 3, 0, 2, 3, 4, 4, 4, 4, 5] (τ' := rkS n l a d b e (IntKind.i64.wrap ((k : Int) + 1))) (by kernel_rfl) ⟨(by simp; omega), (by simp [encC, fitP, fld, leafFits, V.cells, hk]), by rw [w1', w2]; exact decide_eq_true (by omega), by rw [w1', w3]; simp; omega, trivial⟩ ?_
          rw [hw]; exact hr
        exact ⟨fun h => hn _ (ih.1 h), fun h => hn _ (ih.2 h)⟩
theorem rk_runs (n : Bool) (l : List Chk) (a d b e : Int) : Runs T F 55 [.sl n (l.map encC), .agg [.int .i64 a, .int .i64 d], .agg [.int .i64 b, .int .i64 e]] [] (.tup [.bool (P.ke l a d b e), .int .i64 (P.keE l a d b e)], []) := by
  have e3 : P.chkE ((l.map encC).map decC) = P.chkE l := by rw [dec_enc]
  by_cases h0 : P.chkE l = 0
  · by_cases h1 : P.low a d 30000000000000 = true
    · by_cases h2 : P.low b e 300000000 = true
      · have e1 : P.keE l a d b e = 0 := by simp [P.keE, h0, h1, h2]
        have e2 : P.ke l a d b e = P.keep a d b e l := by rw [P.ke, e1]; simp
        obtain ⟨hl, hc⟩ := chkE_zero.1 h0
        have hq := rk_loop n l hl hc h1 h2 l.length 0 (by omega)
        rw [List.drop_zero, Int.natCast_zero] at hq
        rw [e1, e2]
        cases hk : P.keep a d b e l with
        | true => exact Runs.way (F := F) (sh := Sh) (S := R53) R53_ok (fi := fi55) (by kernel_rfl) (LGood.one (b := lb fi55 0) (k := 7) (σ0 := rkS n l a d b e 0) (by kernel_rfl) (hq.1 hk)) [(eqB (List.map encC l) (List.map encC (List.map decC (List.map encC l))), true),
    (P.chkE (List.map decC (List.map encC l)) != 0, false),
    (!P.low a d 30000000000000, false),
    (!P.low b e 300000000, false),
    (is { env := [(0, V.sl n (List.map encC l)), (4, V.ptr 0 0), (5, V.ptr 1 0), (9, V.int IntKind.i64 0)], heap := [B.cells [V.int IntKind.i64 a, V.int IntKind.i64 d], B.cells [V.int IntKind.i64 b, V.int IntKind.i64 e]] } { env := [(0, V.sl n (List.map encC l)), (4, V.ptr 0 0), (5, V.ptr 1 0), (9, V.int IntKind.i64 0)], heap := [B.cells [V.int IntKind.i64 a, V.int IntKind.i64 d], B.cells [V.int IntKind.i64 b, V.int IntKind.i64 e]] }, true)] [2, 3, 0, 0, 4, 4, 0, 0, 4, 4, 5, 6] (by kernel_rfl) ⟨eqB_eq (by rw [dec_enc]), by rw [e3]; simp [h0], by simp [h1], by simp [h2], is_eq (by simp), trivial⟩
        | false => exact Runs.way (F := F) (sh := Sh) (S := R53) R53_ok (fi := fi55) (by kernel_rfl) (LGood.one (b := lb fi55 0) (k := 7) (σ0 := rkS n l a d b e 0) (by kernel_rfl) (hq.2 hk)) [(eqB (List.map encC l) (List.map encC (List.map decC (List.map encC l))), true),
    (P.chkE (List.map decC (List.map encC l)) != 0, false),
    (!P.low a d 30000000000000, false),
    (!P.low b e 300000000, false),
    (is { env := [(0, V.sl n (List.map encC l)), (4, V.ptr 0 0), (5, V.ptr 1 0), (9, V.int IntKind.i64 0)], heap := [B.cells [V.int IntKind.i64 a, V.int IntKind.i64 d], B.cells [V.int IntKind.i64 b, V.int IntKind.i64 e]] } { env := [(0, V.sl n (List.map encC l)), (4, V.ptr 0 0), (5, V.ptr 1 0), (9, V.int IntKind.i64 0)], heap := [B.cells [V.int IntKind.i64 a, V.int IntKind.i64 d], B.cells [V.int IntKind.i64 b, V.int IntKind.i64 e]] }, true)] [2, 3, 0, 0, 4, 4, 0, 0, 4, 4, 5, 6] (by kernel_rfl) ⟨eqB_eq (by rw [dec_enc]), by rw [e3]; simp [h0], by simp [h1], by simp [h2], is_eq (by simp), trivial⟩
      · have e1 : P.keE l a d b e = 1 := by simp [P.keE, h0, h2]
        have e2 : P.ke l a d b e = false := by simp [P.ke, e1]
        rw [e1, e2]
        exact Runs.way (F := F) (sh := Sh) (S := R53) (L := fun _ _ => .fail) R53_ok (fi := fi55) (by kernel_rfl) (fun _ _ _ _ h => by cases h) [(eqB (List.map encC l) (List.map encC (List.map decC (List.map encC l))), true),
    (P.chkE (List.map decC (List.map encC l)) != 0, false),
    (!P.low a d 30000000000000, false),
    (!P.low b e 300000000, true)] [2, 3, 0, 0, 4, 4, 0, 0, 4, 4, 5] (by kernel_rfl) ⟨eqB_eq (by rw [dec_enc]), by rw [e3]; simp [h0], by simp [h1], by simp [h2], trivial⟩
    · have e1 : P.keE l a d b e = 1 := by simp [P.keE, h0, h1]
      have e2 : P.ke l a d b e = false := by simp [P.ke, e1]
      rw [e1, e2]
      exact Runs.way (F := F) (sh := Sh) (S := R53) (L := fun _ _ => .fail) R53_ok (fi := fi55) (by kernel_rfl) (fun _ _ _ _ h => by cases h) [(eqB (List.map encC l) (List.map encC (List.map decC (List.map encC l))), true),
    (P.chkE (List.map decC (List.map encC l)) != 0, false),
    (!P.low a d 30000000000000, true)] [2, 3, 0, 0, 4, 4, 4, 4, 0] (by kernel_rfl) ⟨eqB_eq (by rw [dec_enc]), by rw [e3]; simp [h0], by simp [h1], trivial⟩
  · have e1 : P.keE l a d b e = P.chkE ((l.map encC).map decC) := by rw [e3]; simp [P.keE, h0]
    have e2 : P.ke l a d b e = false := by simp [P.ke, P.keE, h0]
    rw [e1, e2]
    exact Runs.way (F := F) (sh := Sh) (S := R53) (L := fun _ _ => .fail) R53_ok (fi := fi55) (by kernel_rfl) (fun _ _ _ _ h => by cases h) [(eqB (List.map encC l) (List.map encC (List.map decC (List.map encC l))), true),
    (P.chkE (List.map decC (List.map encC l)) != 0, true)] [2, 3] (by kernel_rfl) ⟨eqB_eq (by rw [dec_enc]), by rw [e3]; simpa using h0, trivial⟩
theorem bl_frac {M v e : Int} (he : 0 < e) : P.bl (P.rn M e) (P.rd M e) (P.rn v e) (P.rd v e) = decide (M < v) := by
  obtain ⟨m1, m2⟩ := rn_rd (n := M) he
  obtain ⟨v1, v2⟩ := rn_rd (n := v) he
  generalize P.rn M e = a at *
  generalize P.rd M e = b at *
  generalize P.rn v e = c at *
  generalize P.rd v e = d at *
  rw [Bool.eq_iff_iff]
  simp only [P.bl, decide_eq_true_eq]
  have h1 : a * d * e = M * (b * d) := by rw [Int.mul_right_comm, m1, Int.mul_assoc]
  have h2 : c * b * e = v * (b * d) := by rw [Int.mul_right_comm, v1, Int.mul_assoc, Int.mul_comm d b]
  have hp : 0 < b * d := Int.mul_pos m2 v2
  constructor
  · intro h
    have := Int.mul_lt_mul_of_pos_right h he
    rw [h1, h2] at this
    exact Int.lt_of_mul_lt_mul_right this (Int.le_of_lt hp)
  · intro h
    have := Int.mul_lt_mul_of_pos_right h hp
    rw [← h1, ← h2] at this
    exact Int.lt_of_mul_lt_mul_right this (Int.le_of_lt he)
theorem rm_loop (n : Bool) (l : List Chk) (hl : l.length ≤ 40) (hc : ∀ c ∈ l, OkC c) {b e : Int} (h0 : 1 ≤ e) (h1 : e ≤ 100000) (hb : b.natAbs ≤ 200000000) : ∀ (m k : Nat) (a : Int), 0 < k → k + m = l.length → a.natAbs ≤ 30000000000000 →
    LRuns (vstep T (vlim T F) lplim fi54.cx 5 (lb fi54 0)) (rcS n l b e (P.rn a e) (P.rd a e) k) (.exit 0, ⟨(rcS n l b e (P.rn (P.mx b e (l.drop k) a) e) (P.rd (P.mx b e (l.drop k) a) e) l.length).env ++ [(54, .bool false)], (rcS n l b e (P.rn (P.mx b e (l.drop k) a) e) (P.rd (P.mx b e (l.drop k) a) e) 0).heap⟩)
  | 0, k, a, hk0, hd, ha => by
    have hk : k = l.length := by omega
    subst hk
    rw [List.drop_length]
    have := LRuns.last (F := F) R53_ok (sh := Sh) (L := fun _ _ => .fail) (n := 5) (b := lb fi54 0) (cx := fi54.cx) (τ := rcS n l b e (P.rn a e) (P.rd a e) l.length) (LGood.none (by kernel_rfl)) [(decide ((l.length : Int) < ((l.map encC).length : Int)), false)] [2]
      (r := (.exit 0, ⟨(rcS n l b e (P.rn a e) (P.rd a e) l.length).env ++ [(54, .bool (decide ((l.length : Int) < ((l.map encC).length : Int))))], (rcS n l b e (P.rn a e) (P.rd a e) 0).heap⟩)) (by kernel_rfl) (by simp) ⟨by simp, trivial⟩
    simpa [P.mx] using this
  | m + 1, k, a, hk0, hd, ha => by
    have hk : k < l.length := by omega
    have hw : IntKind.i64.wrap ((k : Int) + 1) = ((k + 1 : Nat) : Int) := by rw [i64in (by omega) (by omega)]; rfl
    have ga := ca_at l k hk
    have gl := cl_at l k hk
    obtain ⟨hm, hv⟩ := mx_w h0 h1 hb (hc l[k] (List.getElem_mem _))
    rw [← ga, ← gl] at hm hv
    have ih := rm_loop n l hl hc h0 h1 hb m (k + 1) (max a (l[k].lo * e - b * l[k].at_)) (by omega) (by omega) (by rw [← ga, ← gl]; omega)
    rw [List.drop_eq_getElem_cons hk, mx_cons]
    rw [← ga, ← gl] at ih ⊢
    have t1 := tdiv_abs a (P.gcd a e)
    have t2 := tdiv_abs e (P.gcd a e)
    have t3 := tdiv_abs (Fd.cl l k * e - b * Fd.ca l k) (P.gcd (Fd.cl l k * e - b * Fd.ca l k) e)
    have t4 := tdiv_abs e (P.gcd (Fd.cl l k * e - b * Fd.ca l k) e)
    have p1 := mulb (x := P.rn a e) (y := P.rd (Fd.cl l k * e - b * Fd.ca l k) e) (A := 30000000000000) (B := 100000) (by unfold P.rn; omega) (by unfold P.rd; omega)
    have p2 := mulb (x := P.rn (Fd.cl l k * e - b * Fd.ca l k) e) (y := P.rd a e) (A := 30000000000000) (B := 100000) (by unfold P.rn; omega) (by unfold P.rd; omega)
    simp only [Int.reduceMul, Int.reduceNeg] at p1 p2
    generalize hvv : Fd.cl l k * e - b * Fd.ca l k = v at *
    by_cases hav : a < v
    · have hmax : max a v = v := by omega
      rw [hmax] at ih ⊢
      refine LRuns.next (F := F) R53_ok (sh := Sh) (L := fun _ _ => .fail) (LGood.none (by kernel_rfl)) [(decide ((↑k : Int) < (↑(List.map encC l).length : Int)), true),
    (((List.map encC l).getD k V.undef).cells.length == 3 && fitP [TK.int IntKind.i64, TK.int IntKind.i64, TK.int IntKind.i64] 0 ((List.map encC l).getD k V.undef), true),
    (decide (-1000000000000000 ≤ IntKind.i64.wrap (IntKind.i64.wrap (Fd.cl l k * e) - IntKind.i64.wrap (b * Fd.ca l k))), true),
    (decide (IntKind.i64.wrap (IntKind.i64.wrap (Fd.cl l k * e) - IntKind.i64.wrap (b * Fd.ca l k)) ≤ 1000000000000000), true),
    (decide (0 < e), true),
    (decide (e ≤ 1000000000000000), true),
    ((↑k : Int) == 0, false),
    (decide (-9000000000000000000 ≤ P.rn a e * P.rd (IntKind.i64.wrap (IntKind.i64.wrap (Fd.cl l k * e) - IntKind.i64.wrap (b * Fd.ca l k))) e), true),
    (decide (P.rn a e * P.rd (IntKind.i64.wrap (IntKind.i64.wrap (Fd.cl l k * e) - IntKind.i64.wrap (b * Fd.ca l k))) e ≤ 9000000000000000000), true),
    (decide (-9000000000000000000 ≤ P.rn (IntKind.i64.wrap (IntKind.i64.wrap (Fd.cl l k * e) - IntKind.i64.wrap (b * Fd.ca l k))) e * P.rd a e), true),
    (decide (P.rn (IntKind.i64.wrap (IntKind.i64.wrap (Fd.cl l k * e) - IntKind.i64.wrap (b * Fd.ca l k))) e * P.rd a e ≤ 9000000000000000000), true),
    (P.bl (P.rn a e) (P.rd a e) (P.rn (IntKind.i64.wrap (IntKind.i64.wrap (Fd.cl l k * e) - IntKind.i64.wrap (b * Fd.ca l k))) e) (P.rd (IntKind.i64.wrap (IntKind.i64.wrap (Fd.cl l k * e) - IntKind.i64.wrap (b * Fd.ca l k))) e), true)] [2, 0, 2, 3, 0, 2, 3, 4, 5, 6, 7, 8, 8, 8, 9, 10, 11, 12, 8, 13] (τ' := rcS n l b e (P.rn (IntKind.i64.wrap (IntKind.i64.wrap (Fd.cl l k * e) - IntKind.i64.wrap (b * Fd.ca l k))) e) (P.rd (IntKind.i64.wrap (IntKind.i64.wrap (Fd.cl l k * e) - IntKind.i64.wrap (b * Fd.ca l k))) e) (IntKind.i64.wrap ((k : Int) + 1))) (by kernel_rfl) ?_ ?_
      · refine ⟨?_, ?_, ?_, ?_, ?_, ?_, ?_, ?_, ?_, ?_, ?_, ?_, trivial⟩
        all_goals first
          | (simp; omega)
          | (simp [encC, fitP, fld, leafFits, V.cells, hk]; done)
          | (rw [hm]; exact decide_eq_true (by omega))
          | (exact decide_eq_true (by omega))
          | (rw [hm, bl_frac (by omega)]; exact decide_eq_true (by omega))
          | (rw [hm, bl_frac (by omega)]; exact decide_eq_false (by omega))
      · rw [hw, hm]; exact ih
    · have hmax : max a v = a := by omega
      rw [hmax] at ih ⊢
      refine LRuns.next (F := F) R53_ok (sh := Sh) (L := fun _ _ => .fail) (LGood.none (by kernel_rfl)) [(decide ((↑k : Int) < (↑(List.map encC l).length : Int)), true),
    (((List.map encC l).getD k V.undef).cells.length == 3 && fitP [TK.int IntKind.i64, TK.int IntKind.i64, TK.int IntKind.i64] 0 ((List.map encC l).getD k V.undef), true),
    (decide (-1000000000000000 ≤ IntKind.i64.wrap (IntKind.i64.wrap (Fd.cl l k * e) - IntKind.i64.wrap (b * Fd.ca l k))), true),
    (decide (IntKind.i64.wrap (IntKind.i64.wrap (Fd.cl l k * e) - IntKind.i64.wrap (b * Fd.ca l k)) ≤ 1000000000000000), true),
    (decide (0 < e), true),
    (decide (e ≤ 1000000000000000), true),
    ((↑k : Int) == 0, false),
    (decide (-9000000000000000000 ≤ P.rn a e * P.rd (IntKind.i64.wrap (IntKind.i64.wrap (Fd.cl l k * e) - IntKind.i64.wrap (b * Fd.ca l k))) e), true),
    (decide (P.rn a e * P.rd (IntKind.i64.wrap (IntKind.i64.wrap (Fd.cl l k * e) - IntKind.i64.wrap (b * Fd.ca l k))) e ≤ 9000000000000000000), true),
    (decide (-9000000000000000000 ≤ P.rn (IntKind.i64.wrap (IntKind.i64.wrap (Fd.cl l k * e) - IntKind.i64.wrap (b * Fd.ca l k))) e * P.rd a e), true),
    (decide (P.rn (IntKind.i64.wrap (IntKind.i64.wrap (Fd.cl l k * e) - IntKind.i64.wrap (b * Fd.ca l k))) e * P.rd a e ≤ 9000000000000000000), true),
    (P.bl (P.rn a e) (P.rd a e) (P.rn (IntKind.i64.wrap (IntKind.i64.wrap (Fd.cl l k * e) - IntKind.i64.wrap (b * Fd.ca l k))) e) (P.rd (IntKind.i64.wrap (IntKind.i64.wrap (Fd.cl l k * e) - IntKind.i64.wrap (b * Fd.ca l k))) e), false)] [2, 0, 2, 3, 0, 2, 3, 4, 5, 6, 7, 8, 8, 8, 9, 10, 11, 12, 8, 13] (τ' := rcS n l b e (P.rn a e) (P.rd a e) (IntKind.i64.wrap ((k : Int) + 1))) (by kernel_rfl) ?_ ?_
      · refine ⟨?_, ?_, ?_, ?_, ?_, ?_, ?_, ?_, ?_, ?_, ?_, ?_, trivial⟩
        all_goals first
          | (simp; omega)
          | (simp [encC, fitP, fld, leafFits, V.cells, hk]; done)
          | (rw [hm]; exact decide_eq_true (by omega))
          | (exact decide_eq_true (by omega))
          | (rw [hm, bl_frac (by omega)]; exact decide_eq_true (by omega))
          | (rw [hm, bl_frac (by omega)]; exact decide_eq_false (by omega))
      · rw [hw]; exact ih
theorem rm_first (n : Bool) (l : List Chk) (hl : l.length ≤ 40) (hc : ∀ c ∈ l, OkC c) (hne : 0 < l.length) {b e : Int} (h0 : 1 ≤ e) (h1 : e ≤ 100000) (hb : b.natAbs ≤ 200000000) (a : Int) (ha : a = P.mx b e l ((l.headD ⟨0, 0, 0⟩).lo * e - b * (l.headD ⟨0, 0, 0⟩).at_)) :
    LRuns (vstep T (vlim T F) lplim fi54.cx 5 (lb fi54 0)) (rcS n l b e 0 0 0) (.exit 0, ⟨(rcS n l b e (P.rn a e) (P.rd a e) l.length).env ++ [(54, .bool false)], (rcS n l b e (P.rn a e) (P.rd a e) 0).heap⟩) := by
  have hk : 0 < l.length := hne
  have ga := ca_at l 0 hk
  have gl := cl_at l 0 hk
  obtain ⟨hm, hv⟩ := mx_w h0 h1 hb (hc l[0] (List.getElem_mem _))
  have ih := rm_loop n l hl hc h0 h1 hb (l.length - 1) 1 (l[0].lo * e - b * l[0].at_) (by omega) (by omega) hv
  have hq : P.mx b e (l.drop 1) (l[0].lo * e - b * l[0].at_) = a := by
    rw [ha]
    cases l with
    | nil => simp at hne
    | cons c l =>
      simp only [List.headD_cons, mx_cons, List.drop_succ_cons, List.drop_zero, List.getElem_cons_zero]
      congr 1; omega
  rw [hq] at ih
  rw [← ga, ← gl] at hm hv ih
  refine LRuns.next (F := F) R53_ok (sh := Sh) (L := fun _ _ => .fail) (LGood.none (by kernel_rfl)) [(decide (0 < (↑(List.map encC l).length : Int)), true),
    (((List.map encC l).getD 0 V.undef).cells.length == 3 && fitP [TK.int IntKind.i64, TK.int IntKind.i64, TK.int IntKind.i64] 0 ((List.map encC l).getD 0 V.undef), true),
    (decide (-1000000000000000 ≤ IntKind.i64.wrap (IntKind.i64.wrap (Fd.cl l 0 * e) - IntKind.i64.wrap (b * Fd.ca l 0))), true),
    (decide (IntKind.i64.wrap (IntKind.i64.wrap (Fd.cl l 0 * e) - IntKind.i64.wrap (b * Fd.ca l 0)) ≤ 1000000000000000), true),
    (decide (0 < e), true),
    (decide (e ≤ 1000000000000000), true)] [2, 0, 2, 3, 0, 2, 3, 4, 5, 6, 7, 0, 0, 0, 0, 0] (τ' := rcS n l b e (P.rn (IntKind.i64.wrap (IntKind.i64.wrap (Fd.cl l 0 * e) - IntKind.i64.wrap (b * Fd.ca l 0))) e) (P.rd (IntKind.i64.wrap (IntKind.i64.wrap (Fd.cl l 0 * e) - IntKind.i64.wrap (b * Fd.ca l 0))) e) 1) (by kernel_rfl) ?_ ?_
  · refine ⟨?_, ?_, ?_, ?_, ?_, ?_, trivial⟩
    all_goals first
          | (simp; omega)
          | (simp [encC, fitP, fld, leafFits, V.cells, hk]; done)
          | (rw [hm]; exact decide_eq_true (by omega))
          | (exact decide_eq_true (by omega))
          | (rw [hm, bl_frac (by omega)]; exact decide_eq_true (by omega))
          | (rw [hm, bl_frac (by omega)]; exact decide_eq_false (by omega))
  · rw [hm]; exact ih
theorem rco_runs (n : Bool) (l : List Chk) (r : Int) : Runs T F 54 [.sl n (l.map encC), .int .i64 r] [] (.tup [.agg [.int .i64 (P.co l r 0), .int .i64 (P.co l r 1)], .agg [.int .i64 (P.co l r 2), .int .i64 (P.co l r 3)], .int .i64 (P.coE l r)], []) := by
  have e3 : P.chkE ((l.map encC).map decC) = P.chkE l := by rw [dec_enc]
  by_cases h0 : P.chkE l = 0
  · obtain ⟨hl, hok⟩ := chkE_zero.1 h0
    by_cases h1 : r < -1000000
    · have e : P.coE l r = 6 := by simp only [P.coE, if_pos h0, if_pos (Or.inl h1 : r < -1000000 ∨ r > 1000000)]
      have e1 : ∀ j, P.co l r j = 0 := fun j => by simp only [P.co, e]; rfl
      rw [e1, e1, e1, e1, e]
      exact Runs.way (F := F) (sh := Sh) (S := R53) (L := fun _ _ => .fail) R53_ok (fi := fi54) (by kernel_rfl) (fun _ _ _ _ h => by cases h) [(eqB (List.map encC l) (List.map encC (List.map decC (List.map encC l))), true),
    (P.chkE (List.map decC (List.map encC l)) != 0, false),
    (decide (r ≥ -1000000), false)] [2, 3, 4, 4, 4, 4, 0] (by kernel_rfl) ⟨eqB_eq (by rw [dec_enc]), by rw [e3]; simp [h0], decide_eq_false (by omega), trivial⟩
    by_cases h2 : r > 1000000
    · have e : P.coE l r = 6 := by simp only [P.coE, if_pos h0, if_pos (Or.inr h2 : r < -1000000 ∨ r > 1000000)]
      have e1 : ∀ j, P.co l r j = 0 := fun j => by simp only [P.co, e]; rfl
      rw [e1, e1, e1, e1, e]
      exact Runs.way (F := F) (sh := Sh) (S := R53) (L := fun _ _ => .fail) R53_ok (fi := fi54) (by kernel_rfl) (fun _ _ _ _ h => by cases h) [(eqB (List.map encC l) (List.map encC (List.map decC (List.map encC l))), true),
    (P.chkE (List.map decC (List.map encC l)) != 0, false),
    (decide (r ≥ -1000000), true),
    (!decide (r ≤ 1000000), true)] [2, 3, 4, 4, 4, 4, 5] (by kernel_rfl) ⟨eqB_eq (by rw [dec_enc]), by rw [e3]; simp [h0], decide_eq_true (by omega), by simp; omega, trivial⟩
    have hE' : P.coE l r = P.auE l := by simp only [P.coE, if_pos h0, if_neg (show ¬ (r < -1000000 ∨ r > 1000000) by omega)]
    by_cases hE : P.auE l = 0
    · have hz : audE l = 0 := by
        have := hE
        simp only [P.auE, if_pos h0] at this
        exact this
      have hcb := cb_ok (r := r) ⟨by omega, by omega⟩ hok hz
      have hfr := au_fr hok ((audB_inv l).fd.2 ((audE_zero l).1 hz).1)
      obtain ⟨f1, f2, f3, -⟩ := hfr.1
      obtain ⟨g1, g2, g3, -⟩ := hfr.2
      have hau : ∀ j, P.au l j = P.av l j := fun j => by simp only [P.au, if_pos h0]
      have hav : P.av l 0 = (audB l).lN ∧ P.av l 1 = (audB l).lD ∧ P.av l 2 = (audB l).mN ∧ P.av l 3 = (audB l).mD := by
        unfold P.av; rw [hz]; exact ⟨rfl, rfl, rfl, rfl⟩
      have hne : 0 < l.length := by
        obtain ⟨⟨x, y, ⟨hx, _⟩, _⟩, _⟩ := (audE_zero l).1 hz
        exact List.length_pos_of_mem hx
      have p1 := mulb (x := r) (y := (audB l).lD) (A := 1000000) (B := 100000) ⟨by omega, by omega⟩ ⟨by omega, by omega⟩
      have p2 := mulb (x := r) (y := (audB l).mD) (A := 1000000) (B := 100000) ⟨by omega, by omega⟩ ⟨by omega, by omega⟩
      simp only [Int.reduceMul, Int.reduceNeg] at p1 p2
      have hcE : P.coE l r = 0 := by rw [hE', hE]
      have hco : P.co l r 0 = P.rn (P.ca l r) (P.cb l r).2 ∧ P.co l r 1 = P.rd (P.ca l r) (P.cb l r).2 ∧ P.co l r 2 = (P.cb l r).1 ∧ P.co l r 3 = (P.cb l r).2 := by
        simp only [P.co, if_pos hcE]; exact ⟨trivial, trivial, trivial, trivial⟩
      rw [hco.1, hco.2.1, hco.2.2.1, hco.2.2.2, hcE]
      have hw := rm_first n l hl hok hne hcb.d0 hcb.d1 hcb.n0 (P.ca l r) rfl
      have hL := LGood.one (c := fi54.body) (b := lb fi54 0) (k := 16) (σ0 := rcS n l (P.cb l r).1 (P.cb l r).2 0 0 0) (by kernel_rfl) hw
      generalize hxx : P.rn (P.ca l r) (P.cb l r).2 = x at *
      generalize hyy : P.rd (P.ca l r) (P.cb l r).2 = y at *
      have hd3 := bl_cmp' r 1 (audB l).lN (audB l).lD
      have hd4 := bl_cmp (audB l).mN (audB l).mD r 1
      by_cases h3 : P.cmp r 1 (audB l).lN (audB l).lD < 0
      · have hb : P.cb l r = ((audB l).lN, (audB l).lD) := by simp only [P.cb, if_pos h3]
        have hb3 : P.bl r 1 (audB l).lN (audB l).lD = true := by rw [← hd3]; exact decide_eq_true h3
        have hb4 := trivial
        rw [hb] at hL ⊢
        simp only at hL ⊢
        refine Runs.way (F := F) (sh := Sh) (S := R53) R53_ok (fi := fi54) (by kernel_rfl) hL [(eqB (List.map encC l) (List.map encC (List.map decC (List.map encC l))), true),
    (P.chkE (List.map decC (List.map encC l)) != 0, false),
    (decide (r ≥ -1000000), true),
    (!decide (r ≤ 1000000), false),
    (P.auE (List.map decC (List.map encC l)) != 0, false),
    (decide (-9000000000000000000 ≤ r * P.au (List.map decC (List.map encC l)) 1), true),
    (decide (r * P.au (List.map decC (List.map encC l)) 1 ≤ 9000000000000000000), true),
    (decide (-9000000000000000000 ≤ P.au (List.map decC (List.map encC l)) 0 * 1), true),
    (decide (P.au (List.map decC (List.map encC l)) 0 * 1 ≤ 9000000000000000000), true),
    (P.bl r 1 (P.au (List.map decC (List.map encC l)) 0) (P.au (List.map decC (List.map encC l)) 1), true),
    (is { env := [(0, V.sl n (List.map encC l)), (4, V.ptr 0 0), (5, V.ptr 1 0), (10, V.ptr 3 0), (11, V.ptr 4 0), (12, V.int IntKind.i64 0)], heap := [B.cells [V.int IntKind.i64 0, V.int IntKind.i64 0], B.cells [V.int IntKind.i64 0, V.int IntKind.i64 0], B.cells [V.int IntKind.i64 (P.au (List.map decC (List.map encC l)) 0), V.int IntKind.i64 (P.au (List.map decC (List.map encC l)) 1), V.int IntKind.i64 (P.au (List.map decC (List.map encC l)) 2), V.int IntKind.i64 (P.au (List.map decC (List.map encC l)) 3), V.int IntKind.i64 (P.au (List.map decC (List.map encC l)) 4), V.int IntKind.i64 (P.au (List.map decC (List.map encC l)) 5), V.int IntKind.i64 (P.au (List.map decC (List.map encC l)) 6), V.int IntKind.i64 (P.au (List.map decC (List.map encC l)) 7)], B.cells [V.int IntKind.i64 (P.au (List.map decC (List.map encC l)) 0), V.int IntKind.i64 (P.au (List.map decC (List.map encC l)) 1)], B.cells [V.int IntKind.i64 0, V.int IntKind.i64 0]] } { env := [(0, V.sl n (List.map encC l)), (4, V.ptr 0 0), (5, V.ptr 1 0), (10, V.ptr 3 0), (11, V.ptr 4 0), (12, V.int IntKind.i64 0)], heap := [B.cells [V.int IntKind.i64 0, V.int IntKind.i64 0], B.cells [V.int IntKind.i64 0, V.int IntKind.i64 0], B.cells [V.int IntKind.i64 (P.au l 0), V.int IntKind.i64 (P.au l 1), V.int IntKind.i64 (P.au l 2), V.int IntKind.i64 (P.au l 3), V.int IntKind.i64 (P.au l 4), V.int IntKind.i64 (P.au l 5), V.int IntKind.i64 (P.au l 6), V.int IntKind.i64 (P.au l 7)], B.cells [V.int IntKind.i64 (audB l).1, V.int IntKind.i64 (audB l).2], B.cells [V.int IntKind.i64 0, V.int IntKind.i64 0]] }, true)] [2, 3, 4, 4, 4, 4, 5, 2, 6, 7, 8, 9, 10, 11, 12] (by kernel_rfl) ?_
        rw [dec_enc]; simp only [hau, hav.1, hav.2.1, hav.2.2.1, hav.2.2.2]
        refine ⟨?_, ?_, ?_, ?_, ?_, ?_, ?_, ?_, ?_, ?_, ?_, trivial⟩
        all_goals first
            | exact eqB_eq rfl
            | exact hb3
            | exact hb4
            | exact is_eq (by simp)
            | (simp [h0]; done)
            | (simp [hE]; done)
            | (simp; omega)
      · have hb3 : P.bl r 1 (audB l).lN (audB l).lD = false := by rw [← hd3]; exact decide_eq_false h3
        by_cases h4 : P.cmp r 1 (audB l).mN (audB l).mD > 0
        · have hb : P.cb l r = ((audB l).mN, (audB l).mD) := by simp only [P.cb, if_neg h3, if_pos h4]
          have hb4 : P.bl (audB l).mN (audB l).mD r 1 = true := by rw [← hd4]; exact decide_eq_true h4
          rw [hb] at hL ⊢
          simp only at hL ⊢
          refine Runs.way (F := F) (sh := Sh) (S := R53) R53_ok (fi := fi54) (by kernel_rfl) hL [(eqB (List.map encC l) (List.map encC (List.map decC (List.map encC l))), true),
    (P.chkE (List.map decC (List.map encC l)) != 0, false),
    (decide (r ≥ -1000000), true),
    (!decide (r ≤ 1000000), false),
    (P.auE (List.map decC (List.map encC l)) != 0, false),
    (decide (-9000000000000000000 ≤ r * P.au (List.map decC (List.map encC l)) 1), true),
    (decide (r * P.au (List.map decC (List.map encC l)) 1 ≤ 9000000000000000000), true),
    (decide (-9000000000000000000 ≤ P.au (List.map decC (List.map encC l)) 0 * 1), true),
    (decide (P.au (List.map decC (List.map encC l)) 0 * 1 ≤ 9000000000000000000), true),
    (P.bl r 1 (P.au (List.map decC (List.map encC l)) 0) (P.au (List.map decC (List.map encC l)) 1), false),
    (decide (-9000000000000000000 ≤ P.au (List.map decC (List.map encC l)) 2 * 1), true),
    (decide (P.au (List.map decC (List.map encC l)) 2 * 1 ≤ 9000000000000000000), true),
    (decide (-9000000000000000000 ≤ r * P.au (List.map decC (List.map encC l)) 3), true),
    (decide (r * P.au (List.map decC (List.map encC l)) 3 ≤ 9000000000000000000), true),
    (P.bl (P.au (List.map decC (List.map encC l)) 2) (P.au (List.map decC (List.map encC l)) 3) r 1, true),
    (is { env := [(0, V.sl n (List.map encC l)), (4, V.ptr 0 0), (5, V.ptr 1 0), (10, V.ptr 3 0), (11, V.ptr 4 0), (12, V.int IntKind.i64 0)], heap := [B.cells [V.int IntKind.i64 0, V.int IntKind.i64 0], B.cells [V.int IntKind.i64 0, V.int IntKind.i64 0], B.cells [V.int IntKind.i64 (P.au (List.map decC (List.map encC l)) 0), V.int IntKind.i64 (P.au (List.map decC (List.map encC l)) 1), V.int IntKind.i64 (P.au (List.map decC (List.map encC l)) 2), V.int IntKind.i64 (P.au (List.map decC (List.map encC l)) 3), V.int IntKind.i64 (P.au (List.map decC (List.map encC l)) 4), V.int IntKind.i64 (P.au (List.map decC (List.map encC l)) 5), V.int IntKind.i64 (P.au (List.map decC (List.map encC l)) 6), V.int IntKind.i64 (P.au (List.map decC (List.map encC l)) 7)], B.cells [V.int IntKind.i64 (P.au (List.map decC (List.map encC l)) 2), V.int IntKind.i64 (P.au (List.map decC (List.map encC l)) 3)], B.cells [V.int IntKind.i64 0, V.int IntKind.i64 0]] } { env := [(0, V.sl n (List.map encC l)), (4, V.ptr 0 0), (5, V.ptr 1 0), (10, V.ptr 3 0), (11, V.ptr 4 0), (12, V.int IntKind.i64 0)], heap := [B.cells [V.int IntKind.i64 0, V.int IntKind.i64 0], B.cells [V.int IntKind.i64 0, V.int IntKind.i64 0], B.cells [V.int IntKind.i64 (P.au l 0), V.int IntKind.i64 (P.au l 1), V.int IntKind.i64 (P.au l 2), V.int IntKind.i64 (P.au l 3), V.int IntKind.i64 (P.au l 4), V.int IntKind.i64 (P.au l 5), V.int IntKind.i64 (P.au l 6), V.int IntKind.i64 (P.au l 7)], B.cells [V.int IntKind.i64 (audB l).3, V.int IntKind.i64 (audB l).4], B.cells [V.int IntKind.i64 0, V.int IntKind.i64 0]] }, true)] [2, 3, 4, 4, 4, 4, 5, 2, 6, 7, 8, 9, 10, 11, 12, 13, 14, 15, 16, 17] (by kernel_rfl) ?_
          rw [dec_enc]; simp only [hau, hav.1, hav.2.1, hav.2.2.1, hav.2.2.2]
          refine ⟨?_, ?_, ?_, ?_, ?_, ?_, ?_, ?_, ?_, ?_, ?_, ?_, ?_, ?_, ?_, ?_, trivial⟩
          all_goals first
            | exact eqB_eq rfl
            | exact hb3
            | exact hb4
            | exact is_eq (by simp)
            | (simp [h0]; done)
            | (simp [hE]; done)
            | (simp; omega)
        · have hb : P.cb l r = (r, 1) := by simp only [P.cb, if_neg h3, if_neg h4]
          have hb4 : P.bl (audB l).mN (audB l).mD r 1 = false := by rw [← hd4]; exact decide_eq_false h4
          rw [hb] at hL ⊢
          simp only at hL ⊢
          refine Runs.way (F := F) (sh := Sh) (S := R53) R53_ok (fi := fi54) (by kernel_rfl) hL [(eqB (List.map encC l) (List.map encC (List.map decC (List.map encC l))), true),
    (P.chkE (List.map decC (List.map encC l)) != 0, false),
    (decide (r ≥ -1000000), true),
    (!decide (r ≤ 1000000), false),
    (P.auE (List.map decC (List.map encC l)) != 0, false),
    (decide (-9000000000000000000 ≤ r * P.au (List.map decC (List.map encC l)) 1), true),
    (decide (r * P.au (List.map decC (List.map encC l)) 1 ≤ 9000000000000000000), true),
    (decide (-9000000000000000000 ≤ P.au (List.map decC (List.map encC l)) 0 * 1), true),
    (decide (P.au (List.map decC (List.map encC l)) 0 * 1 ≤ 9000000000000000000), true),
    (P.bl r 1 (P.au (List.map decC (List.map encC l)) 0) (P.au (List.map decC (List.map encC l)) 1), false),
    (decide (-9000000000000000000 ≤ P.au (List.map decC (List.map encC l)) 2 * 1), true),
    (decide (P.au (List.map decC (List.map encC l)) 2 * 1 ≤ 9000000000000000000), true),
    (decide (-9000000000000000000 ≤ r * P.au (List.map decC (List.map encC l)) 3), true),
    (decide (r * P.au (List.map decC (List.map encC l)) 3 ≤ 9000000000000000000), true),
    (P.bl (P.au (List.map decC (List.map encC l)) 2) (P.au (List.map decC (List.map encC l)) 3) r 1, false),
    (is { env := [(0, V.sl n (List.map encC l)), (4, V.ptr 0 0), (5, V.ptr 1 0), (10, V.ptr 3 0), (11, V.ptr 4 0), (12, V.int IntKind.i64 0)], heap := [B.cells [V.int IntKind.i64 0, V.int IntKind.i64 0], B.cells [V.int IntKind.i64 0, V.int IntKind.i64 0], B.cells [V.int IntKind.i64 (P.au (List.map decC (List.map encC l)) 0), V.int IntKind.i64 (P.au (List.map decC (List.map encC l)) 1), V.int IntKind.i64 (P.au (List.map decC (List.map encC l)) 2), V.int IntKind.i64 (P.au (List.map decC (List.map encC l)) 3), V.int IntKind.i64 (P.au (List.map decC (List.map encC l)) 4), V.int IntKind.i64 (P.au (List.map decC (List.map encC l)) 5), V.int IntKind.i64 (P.au (List.map decC (List.map encC l)) 6), V.int IntKind.i64 (P.au (List.map decC (List.map encC l)) 7)], B.cells [V.int IntKind.i64 r, V.int IntKind.i64 1], B.cells [V.int IntKind.i64 0, V.int IntKind.i64 0]] } { env := [(0, V.sl n (List.map encC l)), (4, V.ptr 0 0), (5, V.ptr 1 0), (10, V.ptr 3 0), (11, V.ptr 4 0), (12, V.int IntKind.i64 0)], heap := [B.cells [V.int IntKind.i64 0, V.int IntKind.i64 0], B.cells [V.int IntKind.i64 0, V.int IntKind.i64 0], B.cells [V.int IntKind.i64 (P.au l 0), V.int IntKind.i64 (P.au l 1), V.int IntKind.i64 (P.au l 2), V.int IntKind.i64 (P.au l 3), V.int IntKind.i64 (P.au l 4), V.int IntKind.i64 (P.au l 5), V.int IntKind.i64 (P.au l 6), V.int IntKind.i64 (P.au l 7)], B.cells [V.int IntKind.i64 r, V.int IntKind.i64 1], B.cells [V.int IntKind.i64 0, V.int IntKind.i64 0]] }, true)] [2, 3, 4, 4, 4, 4, 5, 2, 6, 7, 8, 9, 10, 11, 12, 13, 14, 15, 16, 17] (by kernel_rfl) ?_
          rw [dec_enc]; simp only [hau, hav.1, hav.2.1, hav.2.2.1, hav.2.2.2]
          refine ⟨?_, ?_, ?_, ?_, ?_, ?_, ?_, ?_, ?_, ?_, ?_, ?_, ?_, ?_, ?_, ?_, trivial⟩
          all_goals first
            | exact eqB_eq rfl
            | exact hb3
            | exact hb4
            | exact is_eq (by simp)
            | (simp [h0]; done)
            | (simp [hE]; done)
            | (simp; omega)
    · have e1 : ∀ j, P.co l r j = 0 := fun j => by simp only [P.co, hE', if_neg hE]
      have e2 : P.auE l = P.auE ((l.map encC).map decC) := by rw [dec_enc]
      rw [e1, e1, e1, e1, hE', e2]
      exact Runs.way (F := F) (sh := Sh) (S := R53) (L := fun _ _ => .fail) R53_ok (fi := fi54) (by kernel_rfl) (fun _ _ _ _ h => by cases h) [(eqB (List.map encC l) (List.map encC (List.map decC (List.map encC l))), true),
    (P.chkE (List.map decC (List.map encC l)) != 0, false),
    (decide (r ≥ -1000000), true),
    (!decide (r ≤ 1000000), false),
    (P.auE (List.map decC (List.map encC l)) != 0, true)] [2, 3, 4, 4, 4, 4, 5, 2, 6] (by kernel_rfl) ⟨eqB_eq (by rw [dec_enc]), by rw [e3]; simp [h0], decide_eq_true (by omega), by simp; omega, by rw [← e2]; simpa using hE, trivial⟩
  · have e : P.coE l r = P.chkE ((l.map encC).map decC) := by rw [dec_enc]; simp only [P.coE, if_neg h0]
    have e1 : ∀ j, P.co l r j = 0 := fun j => by
      have : ¬ P.coE l r = 0 := by simp only [P.coE, if_neg h0]; exact h0
      simp only [P.co, if_neg this]
    rw [e1, e1, e1, e1, e]
    exact Runs.way (F := F) (sh := Sh) (S := R53) (L := fun _ _ => .fail) R53_ok (fi := fi54) (by kernel_rfl) (fun _ _ _ _ h => by cases h) [(eqB (List.map encC l) (List.map encC (List.map decC (List.map encC l))), true),
    (P.chkE (List.map decC (List.map encC l)) != 0, true)] [2, 3] (by kernel_rfl) ⟨eqB_eq (by rw [dec_enc]), by rw [e3]; simpa using h0, trivial⟩
noncomputable def rkeS : List V → Heap → Tr (V × Heap) := fun a H => match a, H with
  | [.sl _ xs, .agg [.int .i64 a, .int .i64 d], .agg [.int .i64 b, .int .i64 e]], [] => .must (eqB xs ((xs.map decC).map encC)) (.ret (.tup [.bool (P.ke (xs.map decC) a d b e), .int .i64 (P.keE (xs.map decC) a d b e)], []))
  | _, _ => .fail
theorem rkeS_ok : ∀ a H r, (rkeS a H).run = some r → Runs T F 55 a H r := by
  intro a H r h
  unfold rkeS at h
  split at h
  · rename_i m xs a d b e
    obtain ⟨h0, h⟩ := Tr.must_some h
    have hr := ret_some h
    clear h
    subst hr
    have h0 := of_eqB h0
    generalize xs.map decC = l at *
    subst h0
    exact rk_runs m l a d b e
  · cases h
noncomputable def rcoS : List V → Heap → Tr (V × Heap) := fun a H => match a, H with
  | [.sl _ xs, .int .i64 r], [] => .must (eqB xs ((xs.map decC).map encC)) (.ret (.tup [.agg [.int .i64 (P.co (xs.map decC) r 0), .int .i64 (P.co (xs.map decC) r 1)], .agg [.int .i64 (P.co (xs.map decC) r 2), .int .i64 (P.co (xs.map decC) r 3)], .int .i64 (P.coE (xs.map decC) r)], []))
  | _, _ => .fail
theorem rcoS_ok : ∀ a H r, (rcoS a H).run = some r → Runs T F 54 a H r := by
  intro a H r h
  unfold rcoS at h
  split at h
  · rename_i m xs r
    obtain ⟨h0, h⟩ := Tr.must_some h
    have hr := ret_some h
    clear h
    subst hr
    have h0 := of_eqB h0
    generalize xs.map decC = l at *
    subst h0
    exact rco_runs m l r
  · cases h
/-- All of them. -/
noncomputable def RAll : Vm.Spec := ((R53.add 55 rkeS).add 54 rcoS).add 26 coS
theorem RAll_ok : Vm.Good (vlim T F) RAll := ((R53_ok.add rkeS_ok).add rcoS_ok).add coS_ok
end Go.Proofs.Ytgmdkjiflhklaaa
