/- K2: Audit, of any checks; Keeps, of any checks and fractions. -/
import Derived.Test.YtgmdkjiflhklaaaK1
namespace Go.Proofs.Ytgmdkjiflhklaaa
open Go Go.Vm
noncomputable def W40 : Vm.Spec := W44.add 40 chkdS
theorem W40_ok : Vm.Good (vlim T F) W40 := W44_ok.add chkdS_ok
noncomputable def W85 : Vm.Spec := W40.add 85 gcdS
theorem W85_ok : Vm.Good (vlim T F) W85 := W40_ok.add gcdS_ok
noncomputable def W51 : Vm.Spec := W85.add 51 (inl T Sh W85 0 0 fi51)
theorem W51_ok : Vm.Good (vlim T F) W51 := W85_ok.inl (by kernel_rfl) 0 0 (by kernel_rfl)
/-  -/
/-- Audit of any checks. -/
def P.auE (l : List Chk) : Int := if P.chkE l = 0 then audE l else P.chkE l
def P.au (l : List Chk) (j : Nat) : Int := if P.chkE l = 0 then P.av l j else 0
def auV (l : List Chk) : List V := [.int .i64 (P.au l 0), .int .i64 (P.au l 1), .int .i64 (P.au l 2), .int .i64 (P.au l 3), .int .i64 (P.au l 4), .int .i64 (P.au l 5), .int .i64 (P.au l 6), .int .i64 (P.au l 7)]
theorem chkE_zero {l : List Chk} : P.chkE l = 0 ↔ l.length ≤ 40 ∧ ∀ c ∈ l, OkC c := by
  unfold P.chkE chkE
  by_cases h : l.length > 40
  · rw [if_pos h]; constructor
    · intro h; cases h
    · intro h; omega
  · rw [if_neg h]
    by_cases ho : l.all okCb = true
    · rw [if_pos ho]
      exact ⟨fun _ => ⟨by omega, fun c hc => okCb_iff.1 (List.all_eq_true.1 ho c hc)⟩, fun _ => rfl⟩
    · rw [if_neg ho]; constructor
      · intro h; cases h
      · intro h; exact absurd (List.all_eq_true.2 fun c hc => okCb_iff.2 (h.2 c hc)) ho
theorem au_runs (n : Bool) (l : List Chk) (hc : ∀ c ∈ l, InC c) : Runs T F 13 [.sl n (l.map encC)] [] (.tup [.agg (auV l), .int .i64 (P.auE l)], []) := by
  by_cases h0 : P.chkE l = 0
  · have h := chkE_zero.1 h0
    have := audit_runs (n := n) h.1 h.2
    rw [audV_eq] at this
    have e1 : auV l = [.int .i64 (P.av l 0), .int .i64 (P.av l 1), .int .i64 (P.av l 2), .int .i64 (P.av l 3), .int .i64 (P.av l 4), .int .i64 (P.av l 5), .int .i64 (P.av l 6), .int .i64 (P.av l 7)] := by simp only [auV, P.au, if_pos h0]
    have e2 : P.auE l = audE l := by simp only [P.auE, if_pos h0]; rfl
    rw [e1, e2]; exact this
  · have e1 : auV l = [.int .i64 0, .int .i64 0, .int .i64 0, .int .i64 0, .int .i64 0, .int .i64 0, .int .i64 0, .int .i64 0] := by simp only [auV, P.au, if_neg h0]
    have e2 : P.auE l = P.chkE ((l.map encC).map decC) := by rw [dec_enc]; simp only [P.auE, if_neg h0]
    rw [e1, e2]
    have e3 : P.chkE ((l.map encC).map decC) = P.chkE l := by rw [dec_enc]
    refine Runs.way (F := F) (sh := Sh) (S := W40) (L := fun _ _ => .fail) W40_ok (fi := fi13) (by kernel_rfl) (fun _ _ _ _ h => by cases h) [(eqB (List.map encC l) (List.map encC (List.map decC (List.map encC l))), true),
    ((List.map decC (List.map encC l)).all inCb, true),
    (P.chkE (List.map decC (List.map encC l)) != 0, true)] [2, 3, 4] (by kernel_rfl) ⟨eqB_eq (by rw [dec_enc]), by rw [dec_enc]; exact List.all_eq_true.2 fun c h => inCb_iff.2 (hc c h), by rw [e3]; simpa using h0, trivial⟩
noncomputable def auS : List V → Heap → Tr (V × Heap) := fun a H => match a, H with
  | [.sl _ xs], [] => .must (eqB xs ((xs.map decC).map encC)) (.must ((xs.map decC).all inCb) (.ret (.tup [.agg (auV (xs.map decC)), .int .i64 (P.auE (xs.map decC))], [])))
  | _, _ => .fail
theorem auS_ok : ∀ a H r, (auS a H).run = some r → Runs T F 13 a H r := by
  intro a H r h
  unfold auS at h
  split at h
  · rename_i m xs
    obtain ⟨h0, h⟩ := Tr.must_some h
    obtain ⟨h1, h⟩ := Tr.must_some h
    have hr := ret_some h
    clear h
    subst hr
    have h0 := of_eqB h0
    generalize xs.map decC = l at *
    subst h0
    exact au_runs m l fun c hc => inCb_iff.1 (List.all_eq_true.1 h1 c hc)
  · cases h
/-- Whether a fraction is in lowest terms, up to a limit. -/
def P.low (a d m : Int) : Bool := decide (1 ≤ d) && decide (d ≤ 100000) && decide (-m ≤ a) && decide (a ≤ m) && decide (Int.gcd a d = 1)
theorem low_iff {a d m : Int} : P.low a d m = true ↔ (1 ≤ d ∧ d ≤ 100000 ∧ -m ≤ a ∧ a ≤ m ∧ Int.gcd a d = 1) := by simp [P.low, and_assoc]
theorem lo_runs (a d m : Int) (h0 : 0 ≤ m) (h1 : m ≤ 1000000000000000000) : Runs T F 50 [.agg [.int .i64 a, .int .i64 d], .int .i64 m] [] (.bool (P.low a d m), []) := by
  have hm : IntKind.i64.wrap (0 - m) = -m := by rw [i64in (by omega) (by omega)]; omega
  by_cases a1 : 1 ≤ d
  · by_cases a2 : d ≤ 100000
    · by_cases a3 : -m ≤ a
      · by_cases a4 : a ≤ m
        · have e : P.low a d m = (P.gcd a d == 1) := by
            rw [Bool.eq_iff_iff, low_iff]
            unfold P.gcd
            simp only [beq_iff_eq]
            omega
          rw [e]
          exact Runs.way (F := F) (sh := Sh) (S := W85) (L := fun _ _ => .fail) W85_ok (fi := fi50) (by kernel_rfl) (fun _ _ _ _ h => by cases h) [(decide (d ≥ 1), true),
    (decide (d ≤ 100000), true),
    (decide (a ≥ IntKind.i64.wrap (0 - m)), true),
    (decide (a ≤ m), true),
    (decide (-1000000000000000000 ≤ a), true),
    (decide (a ≤ 1000000000000000000), true),
    (decide (-1000000000000000000 ≤ d), true),
    (decide (d ≤ 1000000000000000000), true)] [2, 2, 2, 2, 3, 3, 3, 3, 3, 3, 4, 4, 4, 4, 4, 5, 5, 5, 5, 5, 6, 7, 8, 9, 5, 5] (by kernel_rfl) ⟨by simp; omega, by simp; omega, by rw [hm]; simp; omega, by simp; omega, by simp; omega, by simp; omega, by simp; omega, by simp; omega, trivial⟩
        · have e : P.low a d m = false := by rw [Bool.eq_false_iff, Ne, low_iff]; omega
          rw [e]
          exact Runs.way (F := F) (sh := Sh) (S := W85) (L := fun _ _ => .fail) W85_ok (fi := fi50) (by kernel_rfl) (fun _ _ _ _ h => by cases h) [(decide (d ≥ 1), true),
    (decide (d ≤ 100000), true),
    (decide (a ≥ IntKind.i64.wrap (0 - m)), true),
    (decide (a ≤ m), false)] [2, 2, 2, 2, 3, 3, 3, 3, 3, 3, 4, 4, 4, 4, 4, 5, 5, 5, 5, 5, 5, 5] (by kernel_rfl) ⟨by simp; omega, by simp; omega, by rw [hm]; simp; omega, by simp; omega, trivial⟩
      · have e : P.low a d m = false := by rw [Bool.eq_false_iff, Ne, low_iff]; omega
        rw [e]
        exact Runs.way (F := F) (sh := Sh) (S := W85) (L := fun _ _ => .fail) W85_ok (fi := fi50) (by kernel_rfl) (fun _ _ _ _ h => by cases h) [(decide (d ≥ 1), true),
    (decide (d ≤ 100000), true),
    (decide (a ≥ IntKind.i64.wrap (0 - m)), false)] [2, 2, 2, 2, 3, 3, 3, 3, 3, 3, 4, 4, 4, 4, 4, 1, 1, 1, 1, 1, 1, 1] (by kernel_rfl) ⟨by simp; omega, by simp; omega, by rw [hm]; simp; omega, trivial⟩
    · have e : P.low a d m = false := by rw [Bool.eq_false_iff, Ne, low_iff]; omega
      rw [e]
      exact Runs.way (F := F) (sh := Sh) (S := W85) (L := fun _ _ => .fail) W85_ok (fi := fi50) (by kernel_rfl) (fun _ _ _ _ h => by cases h) [(decide (d ≥ 1), true),
    (decide (d ≤ 100000), false)] [2, 2, 2, 2, 3, 3, 3, 3, 3, 3, 1, 1, 1, 1, 1, 1, 1, 1, 1, 1, 1, 1] (by kernel_rfl) ⟨by simp; omega, by simp; omega, trivial⟩
  · have e : P.low a d m = false := by rw [Bool.eq_false_iff, Ne, low_iff]; omega
    rw [e]
    exact Runs.way (F := F) (sh := Sh) (S := W85) (L := fun _ _ => .fail) W85_ok (fi := fi50) (by kernel_rfl) (fun _ _ _ _ h => by cases h) [(decide (d ≥ 1), false)] [2, 2, 2, 2, 1, 1, 1, 1, 1, 1, 1, 1, 1, 1, 1, 1, 1, 1, 1, 1, 1, 1] (by kernel_rfl) ⟨by simp; omega, trivial⟩
def loS : List V → Heap → Tr (V × Heap) := fun a H => match a, H with
  | [.agg [.int .i64 a, .int .i64 d], .int .i64 m], [] => .must (decide (0 ≤ m)) (.must (decide (m ≤ 1000000000000000000)) (.ret (.bool (P.low a d m), [])))
  | _, _ => .fail
theorem loS_ok : ∀ a H r, (loS a H).run = some r → Runs T F 50 a H r := by
  intro a H r h
  unfold loS at h
  split at h
  · obtain ⟨h0, h⟩ := Tr.must_some h
    obtain ⟨h1, h⟩ := Tr.must_some h
    have hr := ret_some h
    clear h
    subst hr
    simp only [decide_eq_true_eq] at h0 h1
    exact lo_runs _ _ _ h0 h1
  · cases h
noncomputable def W50 : Vm.Spec := (W51.add 13 auS).add 50 loS
theorem W50_ok : Vm.Good (vlim T F) W50 := (W51_ok.add auS_ok).add loS_ok
def kHeap (a d b e : Int) : Heap := [.cells [.int .i64 a, .int .i64 d], .cells [.int .i64 b, .int .i64 e]]
def kSt (n : Bool) (l : List Chk) (a d b e k : Int) : St := ⟨[(0, .sl n (l.map encC)), (1, .clo (.func 51) [] [.ptr 0 0, .ptr 1 0]), (7, .int .i64 l.length), (8, .int .i64 k)], kHeap a d b e⟩
/-- Whether a clock does not keep a check. -/
def badK (a d b e : Int) (c : Chk) : Bool := decide (a * e + b * c.at_ * d < c.lo * d * e) || decide (a * e + b * c.at_ * d > c.hi * d * e)
def P.bad (a d b e : Int) : List Chk → Int → Int
  | [], _ => -1
  | c :: l, k => if badK a d b e c then k else P.bad a d b e l (k + 1)
def kEnd (n : Bool) (l : List Chk) (a d b e k : Int) : Ex × St := if k < 0 then (.exit 0, ⟨(kSt n l a d b e l.length).env ++ [(9, .bool false)], kHeap a d b e⟩) else (.ret, ⟨[(4, .int .i64 k)], kHeap a d b e⟩)
theorem mulb {x y A B : Int} (h1 : -A ≤ x ∧ x ≤ A) (h2 : -B ≤ y ∧ y ≤ B) : -(A * B) ≤ x * y ∧ x * y ≤ A * B := by
  have k1 : x.natAbs * y.natAbs ≤ A.natAbs * B.natAbs := Nat.mul_le_mul (by omega) (by omega)
  have k2 : (x * y).natAbs = x.natAbs * y.natAbs := Int.natAbs_mul x y
  have k3 : (A * B).natAbs = A.natAbs * B.natAbs := Int.natAbs_mul A B
  have k4 : 0 ≤ A * B := Int.mul_nonneg (by omega) (by omega)
  omega
theorem keepW {a d b e : Int} (ha : P.low a d 30000000000000 = true) (hb : P.low b e 300000000 = true) {c : Chk} (hc : OkC c) :
    IntKind.i64.wrap (IntKind.i64.wrap (a * e) + IntKind.i64.wrap (IntKind.i64.wrap (b * c.at_) * d)) = a * e + b * c.at_ * d ∧
    IntKind.i64.wrap (IntKind.i64.wrap (c.lo * d) * e) = c.lo * d * e ∧ IntKind.i64.wrap (IntKind.i64.wrap (c.hi * d) * e) = c.hi * d * e := by
  obtain ⟨a1, a2, a3, a4, -⟩ := low_iff.1 ha
  obtain ⟨b1, b2, b3, b4, -⟩ := low_iff.1 hb
  obtain ⟨c0, c1, c2, c3, c4⟩ := hc
  have m1 := mulb (x := a) (y := e) (A := 30000000000000) (B := 100000) ⟨by omega, by omega⟩ ⟨by omega, by omega⟩
  have m2 := mulb (x := b) (y := c.at_) (A := 300000000) (B := 100000) ⟨by omega, by omega⟩ ⟨by omega, by omega⟩
  have m3 := mulb (x := b * c.at_) (y := d) (A := 300000000 * 100000) (B := 100000) m2 ⟨by omega, by omega⟩
  have m4 := mulb (x := c.lo) (y := d) (A := 100000000) (B := 100000) ⟨by omega, by omega⟩ ⟨by omega, by omega⟩
  have m5 := mulb (x := c.lo * d) (y := e) (A := 100000000 * 100000) (B := 100000) m4 ⟨by omega, by omega⟩
  have m6 := mulb (x := c.hi) (y := d) (A := 100000000) (B := 100000) ⟨by omega, by omega⟩ ⟨by omega, by omega⟩
  have m7 := mulb (x := c.hi * d) (y := e) (A := 100000000 * 100000) (B := 100000) m6 ⟨by omega, by omega⟩
  simp only [Int.reduceMul, Int.reduceNeg] at m1 m2 m3 m4 m5 m6 m7
  refine ⟨?_, ?_, ?_⟩ <;> simp (disch := omega) only [i64in]
theorem k_loop (n : Bool) (l : List Chk) (hl : l.length ≤ 40) (hc : ∀ c ∈ l, OkC c) {a d b e : Int} (ha : P.low a d 30000000000000 = true) (hb : P.low b e 300000000 = true) : ∀ (m k : Nat), k + m = l.length →
    LRuns (vstep T (vlim T F) lplim fi57.cx 2 (lb fi57 0)) (kSt n l a d b e k) (kEnd n l a d b e (P.bad a d b e (l.drop k) k))
  | 0, k, hd => by
    have hk : k = l.length := by omega
    subst hk
    rw [List.drop_length]
    have := LRuns.last (F := F) W51_ok (sh := Sh) (L := fun _ _ => .fail) (n := 2) (b := lb fi57 0) (cx := fi57.cx) (τ := kSt n l a d b e l.length) (LGood.none (by kernel_rfl)) [(decide ((l.length : Int) < (l.length : Int)), false)] [2]
      (r := (.exit 0, ⟨(kSt n l a d b e l.length).env ++ [(9, .bool (decide ((l.length : Int) < (l.length : Int))))], kHeap a d b e⟩)) (by kernel_rfl) (by simp) ⟨by simp, trivial⟩
    simpa [P.bad, kEnd] using this
  | m + 1, k, hd => by
    have hk : k < l.length := by omega
    have ih := k_loop n l hl hc ha hb m (k + 1) (by omega)
    have hw : IntKind.i64.wrap ((k : Int) + 1) = ((k + 1 : Nat) : Int) := by rw [i64in (by omega) (by omega)]; rfl
    have ga := ca_at l k hk
    have gl := cl_at l k hk
    have gh := ch_at l k hk
    obtain ⟨w1, w2, w3⟩ := keepW ha hb (hc l[k] (List.getElem_mem _))
    rw [← ga] at w1
    rw [← gl] at w2
    rw [← gh] at w3
    rw [List.drop_eq_getElem_cons hk]
    have hb1 : badK a d b e l[k] = (decide (a * e + b * Fd.ca l k * d < Fd.cl l k * d * e) || decide (a * e + b * Fd.ca l k * d > Fd.ch l k * d * e)) := by rw [ga, gl, gh]; rfl
    simp only [P.bad]
    rw [hb1]
    have he : kEnd n l a d b e k = (.ret, ⟨[(4, .int .i64 k)], kHeap a d b e⟩) := by unfold kEnd; rw [if_neg (by omega)]
    by_cases h1 : a * e + b * Fd.ca l k * d < Fd.cl l k * d * e
    · rw [decide_eq_true h1, Bool.true_or, if_pos rfl, he]
      exact LRuns.last (F := F) W51_ok (sh := Sh) (L := fun _ _ => .fail) (LGood.none (by kernel_rfl)) [(decide ((↑k : Int) < (↑l.length : Int)), true),
    (decide ((↑k : Int) < (↑(List.map encC l).length : Int)), true),
    (((List.map encC l).getD k V.undef).cells.length == 3 && fitP [TK.int IntKind.i64, TK.int IntKind.i64, TK.int IntKind.i64] 0 ((List.map encC l).getD k V.undef), true),
    (decide (IntKind.i64.wrap (IntKind.i64.wrap (a * e) + IntKind.i64.wrap (IntKind.i64.wrap (b * Fd.ca l k) * d)) < IntKind.i64.wrap (IntKind.i64.wrap (Fd.cl l k * d) * e)), true)] [2, 0, 3, 4, 5, 5, 5, 5, 5, 5, 5, 5, 5, 5, 5, 0] (by kernel_rfl) (by simp) ⟨(by simp; omega), (by simp; omega), (by simp [encC, fitP, fld, leafFits, V.cells, hk]), by rw [w1, w2]; exact decide_eq_true h1, trivial⟩
    · rw [decide_eq_false h1, Bool.false_or]
      by_cases h2 : a * e + b * Fd.ca l k * d > Fd.ch l k * d * e
      · rw [decide_eq_true h2, if_pos rfl, he]
        exact LRuns.last (F := F) W51_ok (sh := Sh) (L := fun _ _ => .fail) (LGood.none (by kernel_rfl)) [(decide ((↑k : Int) < (↑l.length : Int)), true),
    (decide ((↑k : Int) < (↑(List.map encC l).length : Int)), true),
    (((List.map encC l).getD k V.undef).cells.length == 3 && fitP [TK.int IntKind.i64, TK.int IntKind.i64, TK.int IntKind.i64] 0 ((List.map encC l).getD k V.undef), true),
    (decide (IntKind.i64.wrap (IntKind.i64.wrap (a * e) + IntKind.i64.wrap (IntKind.i64.wrap (b * Fd.ca l k) * d)) < IntKind.i64.wrap (IntKind.i64.wrap (Fd.cl l k * d) * e)), false),
    (decide (IntKind.i64.wrap (IntKind.i64.wrap (a * e) + IntKind.i64.wrap (IntKind.i64.wrap (b * Fd.ca l k) * d)) > IntKind.i64.wrap (IntKind.i64.wrap (Fd.ch l k * d) * e)), true)] [2, 0, 3, 4, 5, 5, 5, 5, 5, 5, 5, 5, 5, 5, 5, 6] (by kernel_rfl) (by simp) ⟨(by simp; omega), (by simp; omega), (by simp [encC, fitP, fld, leafFits, V.cells, hk]), by rw [w1, w2]; exact decide_eq_false h1, by rw [w1, w3]; exact decide_eq_true h2, trivial⟩
      · rw [decide_eq_false h2, if_neg (by simp)]
        refine LRuns.next (F := F) W51_ok (sh := Sh) (L := fun _ _ => .fail) (LGood.none (by kernel_rfl)) [(decide ((↑k : Int) < (↑l.length : Int)), true),
    (decide ((↑k : Int) < (↑(List.map encC l).length : Int)), true),
    (((List.map encC l).getD k V.undef).cells.length == 3 && fitP [TK.int IntKind.i64, TK.int IntKind.i64, TK.int IntKind.i64] 0 ((List.map encC l).getD k V.undef), true),
    (decide (IntKind.i64.wrap (IntKind.i64.wrap (a * e) + IntKind.i64.wrap (IntKind.i64.wrap (b * Fd.ca l k) * d)) < IntKind.i64.wrap (IntKind.i64.wrap (Fd.cl l k * d) * e)), false),
    (decide (IntKind.i64.wrap (IntKind.i64.wrap (a * e) + IntKind.i64.wrap (IntKind.i64.wrap (b * Fd.ca l k) * d)) > IntKind.i64.wrap (IntKind.i64.wrap (Fd.ch l k * d) * e)), false)] [2, 0, 3, 4, 5, 5, 5, 5, 5, 5, 5, 5, 5, 5, 5, 6] (τ' := kSt n l a d b e (IntKind.i64.wrap ((k : Int) + 1))) (by kernel_rfl) ⟨(by simp; omega), (by simp; omega), (by simp [encC, fitP, fld, leafFits, V.cells, hk]), by rw [w1, w2]; exact decide_eq_false h1, by rw [w1, w3]; exact decide_eq_false h2, trivial⟩ ?_
        rw [hw]; exact ih
theorem bad_neg (a d b e : Int) : ∀ (l : List Chk) (k : Int), 0 ≤ k → P.bad a d b e l k < 0 → P.bad a d b e l k = -1
  | [], k, _, _ => rfl
  | x :: l, k, h, h1 => by
    simp only [P.bad] at h1 ⊢
    by_cases hx : badK a d b e x = true
    · rw [if_pos hx] at h1; omega
    · rw [if_neg hx] at h1 ⊢; exact bad_neg a d b e l (k + 1) (by omega) h1
theorem bad_cons (a d b e : Int) (c : Chk) (l : List Chk) (k : Int) : P.bad a d b e (c :: l) k = if badK a d b e c then k else P.bad a d b e l (k + 1) := rfl
/-- Whether a clock keeps checks. -/
def P.keep (a d b e : Int) (l : List Chk) : Bool := l.all fun c => !badK a d b e c
theorem bad_keep (a d b e : Int) : ∀ (l : List Chk) (k : Int), 0 ≤ k → (decide (P.bad a d b e l k ≥ 0) = !P.keep a d b e l)
  | [], k, _ => by simp [P.bad, P.keep]
  | x :: l, k, h => by
    have ih := bad_keep a d b e l (k + 1) (by omega)
    rw [bad_cons]
    by_cases hx : badK a d b e x = true
    · rw [if_pos hx]
      simp [P.keep, hx, h]
    · rw [if_neg hx, ih]; simp [P.keep, hx]
theorem keep_iff {a d b e : Int} {l : List Chk} : P.keep a d b e l = true ↔ ∀ c ∈ l, c.lo * d * e ≤ a * e + b * c.at_ * d ∧ a * e + b * c.at_ * d ≤ c.hi * d * e := by
  simp only [P.keep, List.all_eq_true, Bool.not_eq_true', badK, Bool.or_eq_false_iff, decide_eq_false_iff_not]
  exact ⟨fun h c hc => by have := h c hc; omega, fun h c hc => by have := h c hc; omega⟩
noncomputable def idxK : List V → Heap → Tr (V × Heap) := fun a H => match a, H with
  | [.sl _ xs, .clo (.func 51) [] [.ptr 0 0, .ptr 1 0]], [.cells [.int .i64 a, .int .i64 d], .cells [.int .i64 b, .int .i64 e]] =>
    .must (eqB xs ((xs.map decC).map encC)) (.must (P.chkE (xs.map decC) == 0) (.must (P.low a d 30000000000000) (.must (P.low b e 300000000) (.ret (.int .i64 (P.bad a d b e (xs.map decC) 0), kHeap a d b e)))))
  | _, _ => .fail
theorem idxK_ok : ∀ a H r, (idxK a H).run = some r → Runs T F 57 a H r := by
  intro a H r h
  unfold idxK at h
  split at h
  · rename_i n xs a d b e
    obtain ⟨h0, h⟩ := Tr.must_some h
    obtain ⟨h1, h⟩ := Tr.must_some h
    obtain ⟨h2, h⟩ := Tr.must_some h
    obtain ⟨h3, h⟩ := Tr.must_some h
    have hr := ret_some h; clear h; subst hr
    have h0 := of_eqB h0
    generalize xs.map decC = l at *
    subst h0
    have hq : P.chkE l = 0 := by simpa using h1
    obtain ⟨hl, hc⟩ := chkE_zero.1 hq
    have hw := k_loop n l hl hc h2 h3 l.length 0 (by omega)
    rw [List.drop_zero, Int.natCast_zero] at hw
    have hL := LGood.one (c := fi57.body) (b := lb fi57 0) (k := 2) (σ0 := kSt n l a d b e 0) (by kernel_rfl) (by exact hw)
    unfold kEnd at hL
    by_cases hk : P.bad a d b e l 0 < 0
    · rw [if_pos hk] at hL
      rw [bad_neg a d b e l 0 (by omega) hk]
      exact Runs.way (F := F) (sh := Sh) (S := W51) W51_ok (fi := fi57) (by kernel_rfl) hL [(is { env := [(0, V.sl n (List.map encC l)), (1, V.clo (Fn.func 51) [] [V.ptr 0 0, V.ptr 1 0]), (7, V.int IntKind.i64 (↑(List.map encC l).length : Int)), (8, V.int IntKind.i64 0)], heap := [B.cells [V.int IntKind.i64 a, V.int IntKind.i64 d], B.cells [V.int IntKind.i64 b, V.int IntKind.i64 e]] } { env := [(0, V.sl n (List.map encC l)), (1, V.clo (Fn.func 51) [] [V.ptr 0 0, V.ptr 1 0]), (7, V.int IntKind.i64 (↑l.length : Int)), (8, V.int IntKind.i64 0)], heap := [B.cells [V.int IntKind.i64 a, V.int IntKind.i64 d], B.cells [V.int IntKind.i64 b, V.int IntKind.i64 e]] }, true)] [2] (by kernel_rfl) ⟨is_eq (by simp [kSt, kHeap]), trivial⟩
    · rw [if_neg hk] at hL
      generalize P.bad a d b e l 0 = k at *
      exact Runs.way (F := F) (sh := Sh) (S := W51) W51_ok (fi := fi57) (by kernel_rfl) hL [(is { env := [(0, V.sl n (List.map encC l)), (1, V.clo (Fn.func 51) [] [V.ptr 0 0, V.ptr 1 0]), (7, V.int IntKind.i64 (↑(List.map encC l).length : Int)), (8, V.int IntKind.i64 0)], heap := [B.cells [V.int IntKind.i64 a, V.int IntKind.i64 d], B.cells [V.int IntKind.i64 b, V.int IntKind.i64 e]] } { env := [(0, V.sl n (List.map encC l)), (1, V.clo (Fn.func 51) [] [V.ptr 0 0, V.ptr 1 0]), (7, V.int IntKind.i64 (↑l.length : Int)), (8, V.int IntKind.i64 0)], heap := [B.cells [V.int IntKind.i64 a, V.int IntKind.i64 d], B.cells [V.int IntKind.i64 b, V.int IntKind.i64 e]] }, true)] [2] (by kernel_rfl) ⟨is_eq (by simp [kSt, kHeap]), trivial⟩
  · cases h
noncomputable def W57 : Vm.Spec := W50.add 57 idxK
theorem W57_ok : Vm.Good (vlim T F) W57 := W50_ok.add idxK_ok
noncomputable def W24 : Vm.Spec := W57.add 24 (inl T Sh W57 0 0 fi24)
theorem W24_ok : Vm.Good (vlim T F) W24 := W57_ok.inl (by kernel_rfl) 0 0 (by kernel_rfl)
/-- Keeps: the error; whether all are kept. -/
def P.keE (l : List Chk) (a d b e : Int) : Int := if P.chkE l = 0 then (if P.low a d 30000000000000 && P.low b e 300000000 then 0 else 1) else P.chkE l
def P.ke (l : List Chk) (a d b e : Int) : Bool := decide (P.keE l a d b e = 0) && P.keep a d b e l
theorem ke_runs (n : Bool) (l : List Chk) (a d b e : Int) (hc : ∀ c ∈ l, InC c) : Runs T F 19 [.sl n (l.map encC), .agg [.int .i64 a, .int .i64 d], .agg [.int .i64 b, .int .i64 e]] [] (.tup [.bool (P.ke l a d b e), .int .i64 (P.keE l a d b e)], []) := by
  have e3 : P.chkE ((l.map encC).map decC) = P.chkE l := by rw [dec_enc]
  by_cases h0 : P.chkE l = 0
  · by_cases h1 : P.low a d 30000000000000 = true
    · by_cases h2 : P.low b e 300000000 = true
      · have e1 : P.keE l a d b e = 0 := by simp [P.keE, h0, h1, h2]
        have e2 : P.ke l a d b e = !(decide (P.bad a d b e ((l.map encC).map decC) 0 ≥ 0)) := by rw [dec_enc, bad_keep _ _ _ _ _ _ (by omega), P.ke, e1]; simp
        rw [e1, e2]
        exact Runs.way (F := F) (sh := Sh) (S := W24) (L := fun _ _ => .fail) W24_ok (fi := fi19) (by kernel_rfl) (fun _ _ _ _ h => by cases h) [(eqB (List.map encC l) (List.map encC (List.map decC (List.map encC l))), true),
    ((List.map decC (List.map encC l)).all inCb, true),
    (P.chkE (List.map decC (List.map encC l)) != 0, false),
    (!P.low a d 30000000000000, false),
    (!P.low b e 300000000, false),
    (P.chkE (List.map decC (List.map encC l)) == 0, true),
    (P.low a d 30000000000000, true),
    (P.low b e 300000000, true)] [2, 3, 4, 0, 0, 5, 5, 0, 0, 5, 5, 6, 2, 7, 8, 9] (by kernel_rfl) ⟨eqB_eq (by rw [dec_enc]), by rw [dec_enc]; exact List.all_eq_true.2 fun c h => inCb_iff.2 (hc c h), by rw [e3]; simp [h0], by simp [h1], by simp [h2], by rw [e3]; simp [h0], h1, h2, trivial⟩
      · have e1 : P.keE l a d b e = 1 := by simp [P.keE, h0, h2]
        have e2 : P.ke l a d b e = false := by simp [P.ke, e1]
        rw [e1, e2]
        exact Runs.way (F := F) (sh := Sh) (S := W24) (L := fun _ _ => .fail) W24_ok (fi := fi19) (by kernel_rfl) (fun _ _ _ _ h => by cases h) [(eqB (List.map encC l) (List.map encC (List.map decC (List.map encC l))), true),
    ((List.map decC (List.map encC l)).all inCb, true),
    (P.chkE (List.map decC (List.map encC l)) != 0, false),
    (!P.low a d 30000000000000, false),
    (!P.low b e 300000000, true)] [2, 3, 4, 0, 0, 5, 5, 0, 0, 5, 5, 6] (by kernel_rfl) ⟨eqB_eq (by rw [dec_enc]), by rw [dec_enc]; exact List.all_eq_true.2 fun c h => inCb_iff.2 (hc c h), by rw [e3]; simp [h0], by simp [h1], by simp [h2], trivial⟩
    · have e1 : P.keE l a d b e = 1 := by simp [P.keE, h0, h1]
      have e2 : P.ke l a d b e = false := by simp [P.ke, e1]
      rw [e1, e2]
      exact Runs.way (F := F) (sh := Sh) (S := W24) (L := fun _ _ => .fail) W24_ok (fi := fi19) (by kernel_rfl) (fun _ _ _ _ h => by cases h) [(eqB (List.map encC l) (List.map encC (List.map decC (List.map encC l))), true),
    ((List.map decC (List.map encC l)).all inCb, true),
    (P.chkE (List.map decC (List.map encC l)) != 0, false),
    (!P.low a d 30000000000000, true)] [2, 3, 4, 0, 0, 5, 5, 5, 5, 0] (by kernel_rfl) ⟨eqB_eq (by rw [dec_enc]), by rw [dec_enc]; exact List.all_eq_true.2 fun c h => inCb_iff.2 (hc c h), by rw [e3]; simp [h0], by simp [h1], trivial⟩
  · have e1 : P.keE l a d b e = P.chkE ((l.map encC).map decC) := by rw [e3]; simp [P.keE, h0]
    have e2 : P.ke l a d b e = false := by simp [P.ke, P.keE, h0]
    rw [e1, e2]
    exact Runs.way (F := F) (sh := Sh) (S := W24) (L := fun _ _ => .fail) W24_ok (fi := fi19) (by kernel_rfl) (fun _ _ _ _ h => by cases h) [(eqB (List.map encC l) (List.map encC (List.map decC (List.map encC l))), true),
    ((List.map decC (List.map encC l)).all inCb, true),
    (P.chkE (List.map decC (List.map encC l)) != 0, true)] [2, 3, 4] (by kernel_rfl) ⟨eqB_eq (by rw [dec_enc]), by rw [dec_enc]; exact List.all_eq_true.2 fun c h => inCb_iff.2 (hc c h), by rw [e3]; simpa using h0, trivial⟩
noncomputable def keS : List V → Heap → Tr (V × Heap) := fun a H => match a, H with
  | [.sl _ xs, .agg [.int .i64 a, .int .i64 d], .agg [.int .i64 b, .int .i64 e]], [] => .must (eqB xs ((xs.map decC).map encC)) (.must ((xs.map decC).all inCb) (.ret (.tup [.bool (P.ke (xs.map decC) a d b e), .int .i64 (P.keE (xs.map decC) a d b e)], [])))
  | _, _ => .fail
theorem keS_ok : ∀ a H r, (keS a H).run = some r → Runs T F 19 a H r := by
  intro a H r h
  unfold keS at h
  split at h
  · rename_i m xs a d b e
    obtain ⟨h0, h⟩ := Tr.must_some h
    obtain ⟨h1, h⟩ := Tr.must_some h
    have hr := ret_some h
    clear h
    subst hr
    have h0 := of_eqB h0
    generalize xs.map decC = l at *
    subst h0
    exact ke_runs m l a d b e fun c hc => inCb_iff.1 (List.all_eq_true.1 h1 c hc)
  · cases h
/-- Audit and Keeps for callers. -/
noncomputable def WAK : Vm.Spec := W24.add 19 keS
theorem WAK_ok : Vm.Good (vlim T F) WAK := W24_ok.add keS_ok
end Go.Proofs.Ytgmdkjiflhklaaa
