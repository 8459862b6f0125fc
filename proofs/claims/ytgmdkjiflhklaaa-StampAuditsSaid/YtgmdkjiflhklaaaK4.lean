/- K4: Choose. -/
import Derived.Test.YtgmdkjiflhklaaaK3
namespace Go.Proofs.Ytgmdkjiflhklaaa
open Go Go.Vm
noncomputable def WC : Vm.Spec := ((WAK.add 42 cmpS).add 58 ratioS)
theorem WC_ok : Vm.Good (vlim T F) WC := (WAK_ok.add cmpS_ok).add ratioS_ok
def cHeap (l : List Chk) (b e : Int) : Heap := [.cells [.int .i64 0, .int .i64 0], .cells [.int .i64 0, .int .i64 0], .cells (auV l), .cells [.int .i64 b, .int .i64 e]]
def cSt (n : Bool) (l : List Chk) (b e a k : Int) : St := ⟨[(4, .ptr 0 0), (5, .ptr 1 0), (10, .ptr 3 0), (11, .int .i64 a), (70, .sl n (l.map encC)), (71, .int .i64 l.length), (72, .int .i64 k)], cHeap l b e⟩
/-- A fraction in lowest terms, of checks. -/
structure FrP (n d : Int) : Prop where
  n0 : n.natAbs ≤ 200000000
  d0 : 1 ≤ d
  d1 : d ≤ 100000
  g : Int.gcd n d = 1
theorem gcd_rn {n d : Int} (hd : 0 < d) : Int.gcd (P.rn n d) (P.rd n d) = 1 := by
  have hg : 0 < P.gcd n d := by
    unfold P.gcd
    have : 0 < Int.gcd n d := Int.gcd_pos_of_ne_zero_right n (by omega)
    omega
  obtain ⟨n', hn⟩ : P.gcd n d ∣ n := Int.gcd_dvd_left ..
  obtain ⟨d', hd'⟩ : P.gcd n d ∣ d := Int.gcd_dvd_right ..
  have e1 : P.rn n d = n' := by unfold P.rn; conv => lhs; lhs; rw [hn]
                                exact Int.mul_tdiv_cancel_left _ (by omega)
  have e2 : P.rd n d = d' := by unfold P.rd; conv => lhs; lhs; rw [hd']
                                exact Int.mul_tdiv_cancel_left _ (by omega)
  rw [e1, e2]
  have e3 : Int.gcd n d = (P.gcd n d).natAbs * Int.gcd n' d' := by
    have := Int.gcd_mul_left (P.gcd n d) n' d'
    rw [← hn, ← hd'] at this
    exact this
  have e4 : (P.gcd n d).natAbs = Int.gcd n d := by unfold P.gcd; rfl
  rw [e4] at e3
  have h0 : 0 < Int.gcd n d := by rw [← e4]; omega
  exact Nat.eq_of_mul_eq_mul_left h0 (by omega)
theorem FrP.of {n d : Int} (hn : n.natAbs ≤ 200000000) (h0 : 1 ≤ d) (h1 : d ≤ 100000) : FrP (P.rn n d) (P.rd n d) := by
  have t1 := tdiv_abs n (P.gcd n d)
  have t2 := tdiv_abs d (P.gcd n d)
  have := (rn_rd (n := n) (d := d) (by omega)).2
  exact ⟨by unfold P.rn; omega, by omega, by unfold P.rd at *; omega, gcd_rn (by omega)⟩
theorem addB_fr {x y : Chk} {i k : Int} {b : Bd} (hx : OkC x) (hy : OkC y) (hxy : x.at_ < y.at_) (hb : b.fd = true → FrP b.lN b.lD ∧ FrP b.mN b.mD) : FrP (addB x y i k b).lN (addB x y i k b).lD ∧ FrP (addB x y i k b).mN (addB x y i k b).mD := by
  obtain ⟨x0, x1, x2, x3, x4⟩ := hx
  obtain ⟨y0, y1, y2, y3, y4⟩ := hy
  have f1 : FrP (P.rn (y.lo - x.hi) (y.at_ - x.at_)) (P.rd (y.lo - x.hi) (y.at_ - x.at_)) := .of (by omega) (by omega) (by omega)
  have f2 : FrP (P.rn (y.hi - x.lo) (y.at_ - x.at_)) (P.rd (y.hi - x.lo) (y.at_ - x.at_)) := .of (by omega) (by omega) (by omega)
  unfold addB
  simp only
  constructor
  · by_cases h : (!b.fd || decide (P.cmp (P.rn (y.lo - x.hi) (y.at_ - x.at_)) (P.rd (y.lo - x.hi) (y.at_ - x.at_)) b.lN b.lD > 0)) = true
    · rw [if_pos h, if_pos h]; exact f1
    · rw [if_neg h, if_neg h]
      simp only [Bool.or_eq_true, not_or] at h
      exact (hb (by simpa using h.1)).1
  · by_cases h : (!b.fd || decide (P.cmp (P.rn (y.hi - x.lo) (y.at_ - x.at_)) (P.rd (y.hi - x.lo) (y.at_ - x.at_)) b.mN b.mD < 0)) = true
    · rw [if_pos h, if_pos h]; exact f2
    · rw [if_neg h, if_neg h]
      simp only [Bool.or_eq_true, not_or] at h
      exact (hb (by simpa using h.1)).2
theorem stepB_fr {l : List Chk} (hc : ∀ c ∈ l, OkC c) {i k : Nat} (hi : i < l.length) (hk : k < l.length) {b : Bd} (hb : b.fd = true → FrP b.lN b.lD ∧ FrP b.mN b.mD) : (stepB l i k b).fd = true → FrP (stepB l i k b).lN (stepB l i k b).lD ∧ FrP (stepB l i k b).mN (stepB l i k b).mD := by
  unfold stepB
  rw [chk_at l i hi, chk_at l k hk]
  by_cases h : l[i].at_ < l[k].at_
  · rw [if_pos h]
    intro _
    exact addB_fr (hc _ (List.getElem_mem _)) (hc _ (List.getElem_mem _)) h hb
  · rw [if_neg h]
    split
    · exact hb
    · exact hb
theorem restB_fr {l : List Chk} (hc : ∀ c ∈ l, OkC c) {i : Nat} (hi : i < l.length) : ∀ (d k : Nat) (b : Bd), k + d ≤ l.length → (b.fd = true → FrP b.lN b.lD ∧ FrP b.mN b.mD) → ((restB l i d k b).fd = true → FrP (restB l i d k b).lN (restB l i d k b).lD ∧ FrP (restB l i d k b).mN (restB l i d k b).mD)
  | 0, _, _, _, hb => hb
  | d + 1, k, b, hd, hb => restB_fr hc hi d (k + 1) _ (by omega) (stepB_fr hc hi (by omega) hb)
theorem allB_fr {l : List Chk} (hc : ∀ c ∈ l, OkC c) : ∀ (d i : Nat) (b : Bd), i + d ≤ l.length → (b.fd = true → FrP b.lN b.lD ∧ FrP b.mN b.mD) → ((allB l d i b).fd = true → FrP (allB l d i b).lN (allB l d i b).lD ∧ FrP (allB l d i b).mN (allB l d i b).mD)
  | 0, _, _, _, hb => hb
  | d + 1, i, b, hd, hb => allB_fr hc d (i + 1) _ (by omega) (restB_fr hc (by omega) l.length 0 b (by omega) hb)
/-- **What Audit tells is in lowest terms, within its limits.** -/
theorem au_fr {l : List Chk} (hc : ∀ c ∈ l, OkC c) (h : (audB l).fd = true) : FrP (audB l).lN (audB l).lD ∧ FrP (audB l).mN (audB l).mD :=
  allB_fr hc l.length 0 {} (by simp) (fun h => by cases h) h
/-- The greatest of the numbers that lower ends ask for. -/
def P.mx (b e : Int) : List Chk → Int → Int
  | [], a => a
  | c :: l, a => P.mx b e l (max a (c.lo * e - b * c.at_))
theorem mx_cons (b e : Int) (c : Chk) (l : List Chk) (a : Int) : P.mx b e (c :: l) a = P.mx b e l (max a (c.lo * e - b * c.at_)) := rfl
theorem mx_ge (b e : Int) : ∀ (l : List Chk) (a : Int), a ≤ P.mx b e l a ∧ ∀ c ∈ l, c.lo * e - b * c.at_ ≤ P.mx b e l a
  | [], a => ⟨Int.le_refl _, by simp⟩
  | c :: l, a => by
    have ih := mx_ge b e l (max a (c.lo * e - b * c.at_))
    rw [mx_cons]
    refine ⟨by omega, fun x hx => ?_⟩
    rcases List.mem_cons.1 hx with rfl | hx
    · omega
    · exact ih.2 x hx
theorem mx_mem (b e : Int) : ∀ (l : List Chk) (a : Int), P.mx b e l a = a ∨ ∃ c ∈ l, P.mx b e l a = c.lo * e - b * c.at_
  | [], a => .inl rfl
  | c :: l, a => by
    rw [mx_cons]
    rcases mx_mem b e l (max a (c.lo * e - b * c.at_)) with h | ⟨x, hx, h⟩
    · rw [h]
      by_cases hm : c.lo * e - b * c.at_ ≤ a
      · left; omega
      · right; exact ⟨c, by simp, by omega⟩
    · right; exact ⟨x, by simp [hx], h⟩
theorem mx_w {b e : Int} (h0 : 1 ≤ e) (h1 : e ≤ 100000) (hb : b.natAbs ≤ 200000000) {c : Chk} (hc : OkC c) : IntKind.i64.wrap (IntKind.i64.wrap (c.lo * e) - IntKind.i64.wrap (b * c.at_)) = c.lo * e - b * c.at_ ∧ (c.lo * e - b * c.at_).natAbs ≤ 30000000000000 := by
  obtain ⟨c0, c1, c2, c3, c4⟩ := hc
  have m1 := mulb (x := c.lo) (y := e) (A := 100000000) (B := 100000) ⟨by omega, by omega⟩ ⟨by omega, by omega⟩
  have m2 := mulb (x := b) (y := c.at_) (A := 200000000) (B := 100000) ⟨by omega, by omega⟩ ⟨by omega, by omega⟩
  simp only [Int.reduceMul, Int.reduceNeg] at m1 m2
  refine ⟨?_, by omega⟩
  simp (disch := omega) only [i64in]
theorem mx_loop (n : Bool) (l : List Chk) (hl : l.length ≤ 40) (hc : ∀ c ∈ l, OkC c) {b e : Int} (h0 : 1 ≤ e) (h1 : e ≤ 100000) (hb : b.natAbs ≤ 200000000) : ∀ (m k : Nat) (a : Int), k + m = l.length →
    LRuns (vstep T (vlim T F) lplim fi26.cx 4 (lb fi26 0)) (cSt n l b e a k) (.exit 0, ⟨(cSt n l b e (P.mx b e (l.drop k) a) l.length).env ++ [(73, .bool false)], cHeap l b e⟩)
  | 0, k, a, hd => by
    have hk : k = l.length := by omega
    subst hk
    rw [List.drop_length]
    have := LRuns.last (F := F) WC_ok (sh := Sh) (L := fun _ _ => .fail) (n := 4) (b := lb fi26 0) (cx := fi26.cx) (τ := cSt n l b e a l.length) (LGood.none (by kernel_rfl)) [(decide ((l.length : Int) < (l.length : Int)), false)] [2]
      (r := (.exit 0, ⟨(cSt n l b e a l.length).env ++ [(73, .bool (decide ((l.length : Int) < (l.length : Int))))], cHeap l b e⟩)) (by kernel_rfl) (by simp) ⟨by simp, trivial⟩
    simpa [P.mx] using this
  | m + 1, k, a, hd => by
    have hk : k < l.length := by omega
    have ih := mx_loop n l hl hc h0 h1 hb m (k + 1) (max a (l[k].lo * e - b * l[k].at_)) (by omega)
    have hw : IntKind.i64.wrap ((k : Int) + 1) = ((k + 1 : Nat) : Int) := by rw [i64in (by omega) (by omega)]; rfl
    have ga := ca_at l k hk
    have gl := cl_at l k hk
    have hm := (mx_w h0 h1 hb (hc l[k] (List.getElem_mem _))).1
    rw [List.drop_eq_getElem_cons hk, mx_cons]
    refine LRuns.next (F := F) WC_ok (sh := Sh) (L := fun _ _ => .fail) (LGood.none (by kernel_rfl)) [(decide ((↑k : Int) < (↑l.length : Int)), true),
    (decide ((↑k : Int) < (↑(List.map encC l).length : Int)), true),
    (((List.map encC l).getD k V.undef).cells.length == 3 && fitP [TK.int IntKind.i64, TK.int IntKind.i64, TK.int IntKind.i64] 0 ((List.map encC l).getD k V.undef), true)] [2, 0, 3, 4] (τ' := cSt n l b e (Fd.imax a (IntKind.i64.wrap (IntKind.i64.wrap (Fd.cl l k * e) - IntKind.i64.wrap (b * Fd.ca l k)))) (IntKind.i64.wrap ((k : Int) + 1))) (by kernel_rfl) ⟨(by simp; omega), (by simp; omega), (by simp [encC, fitP, fld, leafFits, V.cells, hk]), trivial⟩ ?_
    rw [hw, ga, gl, hm, imax_eq]; exact ih
/-- The slope that Choose takes; the number with it. -/
def P.cb (l : List Chk) (r : Int) : Int × Int := if P.cmp r 1 (audB l).lN (audB l).lD < 0 then ((audB l).lN, (audB l).lD) else if P.cmp r 1 (audB l).mN (audB l).mD > 0 then ((audB l).mN, (audB l).mD) else (r, 1)
def P.ca (l : List Chk) (r : Int) : Int := P.mx (P.cb l r).1 (P.cb l r).2 l ((l.headD ⟨0, 0, 0⟩).lo * (P.cb l r).2 - (P.cb l r).1 * (l.headD ⟨0, 0, 0⟩).at_)
/-- Choose: the error; what it returns. -/
def P.coE (l : List Chk) (r : Int) : Int := if P.chkE l = 0 then (if r < -1000000 ∨ r > 1000000 then 6 else P.auE l) else P.chkE l
def P.co (l : List Chk) (r : Int) (j : Nat) : Int := if P.coE l r = 0 then (match j with | 0 => P.rn (P.ca l r) (P.cb l r).2 | 1 => P.rd (P.ca l r) (P.cb l r).2 | 2 => (P.cb l r).1 | _ => (P.cb l r).2) else 0
theorem cb_ok {l : List Chk} {r : Int} (hr : -1000000 ≤ r ∧ r ≤ 1000000) (hc : ∀ c ∈ l, OkC c) (hz : audE l = 0) : FrP (P.cb l r).1 (P.cb l r).2 := by
  have hf : (audB l).fd = true := (audB_inv l).fd.2 ((audE_zero l).1 hz).1
  have h := au_fr hc hf
  unfold P.cb
  split
  · exact h.1
  · split
    · exact h.2
    · exact ⟨by simp only; omega, by simp, by simp, by simp⟩
theorem ca_le {l : List Chk} {r : Int} (hr : -1000000 ≤ r ∧ r ≤ 1000000) (hc : ∀ c ∈ l, OkC c) (hz : audE l = 0) : (P.ca l r).natAbs ≤ 30000000000000 := by
  have h := cb_ok hr hc hz
  obtain ⟨⟨x, y, ⟨hx, _⟩, _⟩, _⟩ := (audE_zero l).1 hz
  match l, hc, hx with
  | c0 :: l, hc, _ =>
    unfold P.ca
    rcases mx_mem (P.cb (c0 :: l) r).1 (P.cb (c0 :: l) r).2 (c0 :: l) (((c0 :: l).headD ⟨0, 0, 0⟩).lo * (P.cb (c0 :: l) r).2 - (P.cb (c0 :: l) r).1 * ((c0 :: l).headD ⟨0, 0, 0⟩).at_) with e | ⟨c, hm, e⟩
    · rw [e]; exact (mx_w h.d0 h.d1 h.n0 (hc c0 (by simp))).2
    · rw [e]; exact (mx_w h.d0 h.d1 h.n0 (hc c hm)).2
theorem co_runs (n : Bool) (l : List Chk) (r : Int) (hc : ∀ c ∈ l, InC c) : Runs T F 26 [.sl n (l.map encC), .int .i64 r] [] (.tup [.agg [.int .i64 (P.co l r 0), .int .i64 (P.co l r 1)], .agg [.int .i64 (P.co l r 2), .int .i64 (P.co l r 3)], .int .i64 (P.coE l r)], []) := by
  have e3 : P.chkE ((l.map encC).map decC) = P.chkE l := by rw [dec_enc]
  by_cases h0 : P.chkE l = 0
  · obtain ⟨hl, hok⟩ := chkE_zero.1 h0
    by_cases h1 : r < -1000000
    · have e : P.coE l r = 6 := by simp only [P.coE, if_pos h0, if_pos (Or.inl h1 : r < -1000000 ∨ r > 1000000)]
      have e1 : ∀ j, P.co l r j = 0 := fun j => by simp only [P.co, e]; rfl
      rw [e1, e1, e1, e1, e]
      exact Runs.way (F := F) (sh := Sh) (S := WC) WC_ok (fi := fi26) (by kernel_rfl) (L := fun _ _ => .fail) (fun _ _ _ _ h => by cases h) [(eqB (List.map encC l) (List.map encC (List.map decC (List.map encC l))), true),
    ((List.map decC (List.map encC l)).all inCb, true),
    (P.chkE (List.map decC (List.map encC l)) != 0, false),
    (decide (r < -1000000), true)] [2, 3, 4, 5, 5, 5, 0] (by kernel_rfl) ⟨eqB_eq (by rw [dec_enc]), by rw [dec_enc]; exact List.all_eq_true.2 fun c h => inCb_iff.2 (hc c h), by rw [e3]; simp [h0], decide_eq_true h1, trivial⟩
    by_cases h2 : r > 1000000
    · have e : P.coE l r = 6 := by simp only [P.coE, if_pos h0, if_pos (Or.inr h2 : r < -1000000 ∨ r > 1000000)]
      have e1 : ∀ j, P.co l r j = 0 := fun j => by simp only [P.co, e]; rfl
      rw [e1, e1, e1, e1, e]
      exact Runs.way (F := F) (sh := Sh) (S := WC) WC_ok (fi := fi26) (by kernel_rfl) (L := fun _ _ => .fail) (fun _ _ _ _ h => by cases h) [(eqB (List.map encC l) (List.map encC (List.map decC (List.map encC l))), true),
    ((List.map decC (List.map encC l)).all inCb, true),
    (P.chkE (List.map decC (List.map encC l)) != 0, false),
    (decide (r < -1000000), false),
    (decide (r > 1000000), true)] [2, 3, 4, 5, 5, 5, 6] (by kernel_rfl) ⟨eqB_eq (by rw [dec_enc]), by rw [dec_enc]; exact List.all_eq_true.2 fun c h => inCb_iff.2 (hc c h), by rw [e3]; simp [h0], decide_eq_false h1, decide_eq_true h2, trivial⟩
    have hE' : P.coE l r = P.auE l := by simp only [P.coE, if_pos h0, if_neg (show ¬ (r < -1000000 ∨ r > 1000000) by omega)]
    by_cases hE : P.auE l = 0
    · have hz : audE l = 0 := by
        have := hE
        simp only [P.auE, if_pos h0] at this
        exact this
      have hcb := cb_ok (r := r) ⟨by omega, by omega⟩ hok hz
      have hca := ca_le (r := r) ⟨by omega, by omega⟩ hok hz
      have hfr := au_fr hok ((audB_inv l).fd.2 ((audE_zero l).1 hz).1)
      obtain ⟨f1, f2, f3, -⟩ := hfr.1
      obtain ⟨g1, g2, g3, -⟩ := hfr.2
      have hau : ∀ j, P.au l j = P.av l j := fun j => by simp only [P.au, if_pos h0]
      have hav : P.av l 0 = (audB l).lN ∧ P.av l 1 = (audB l).lD ∧ P.av l 2 = (audB l).mN ∧ P.av l 3 = (audB l).mD := by
        unfold P.av; rw [hz]; exact ⟨rfl, rfl, rfl, rfl⟩
      have hlm : ¬ P.cmp (audB l).lN (audB l).lD (audB l).mN (audB l).mD > 0 := by
        intro h
        have : audE l = 12 := by
          unfold audE
          rw [if_neg (by rw [(audB_inv l).fd.2 ((audE_zero l).1 hz).1]; simp), if_pos (.inr h)]
        omega
      have hne : 0 < l.length := by
        obtain ⟨⟨x, y, ⟨hx, _⟩, _⟩, _⟩ := (audE_zero l).1 hz
        exact List.length_pos_of_mem hx
      have p1 := mulb (x := r) (y := (audB l).lD) (A := 1000000) (B := 100000) ⟨by omega, by omega⟩ ⟨by omega, by omega⟩
      have p2 := mulb (x := r) (y := (audB l).mD) (A := 1000000) (B := 100000) ⟨by omega, by omega⟩ ⟨by omega, by omega⟩
      have p3 := mulb (x := (audB l).lN) (y := (audB l).mD) (A := 200000000) (B := 100000) ⟨by omega, by omega⟩ ⟨by omega, by omega⟩
      have p4 := mulb (x := (audB l).mN) (y := (audB l).lD) (A := 200000000) (B := 100000) ⟨by omega, by omega⟩ ⟨by omega, by omega⟩
      simp only [Int.reduceMul, Int.reduceNeg] at p1 p2 p3 p4
      have e0 : ∀ j, P.co l r j = (match j with | 0 => P.rn (P.ca l r) (P.cb l r).2 | 1 => P.rd (P.ca l r) (P.cb l r).2 | 2 => (P.cb l r).1 | _ => (P.cb l r).2) := fun j => by simp only [P.co, hE', if_pos hE]
      rw [e0, e0, e0, e0, hE', hE]
      simp only
      have hw := mx_loop n l hl hok hcb.d0 hcb.d1 hcb.n0 l.length 0 ((l.headD ⟨0, 0, 0⟩).lo * (P.cb l r).2 - (P.cb l r).1 * (l.headD ⟨0, 0, 0⟩).at_) (by omega)
      rw [List.drop_zero, Int.natCast_zero] at hw
      have hL := LGood.one (c := fi26.body) (b := lb fi26 0) (k := 16) (σ0 := cSt n l (P.cb l r).1 (P.cb l r).2 ((l.headD ⟨0, 0, 0⟩).lo * (P.cb l r).2 - (P.cb l r).1 * (l.headD ⟨0, 0, 0⟩).at_) 0) (by kernel_rfl) hw
      have hfst : IntKind.i64.wrap (IntKind.i64.wrap (Fd.cl l 0 * (P.cb l r).2) - IntKind.i64.wrap ((P.cb l r).1 * Fd.ca l 0)) = (l.headD ⟨0, 0, 0⟩).lo * (P.cb l r).2 - (P.cb l r).1 * (l.headD ⟨0, 0, 0⟩).at_ := by
        have q1 := ca_at l 0 hne
        have q2 := cl_at l 0 hne
        have q3 : l.headD ⟨0, 0, 0⟩ = l[0] := by cases l with
          | nil => simp at hne
          | cons c l => rfl
        rw [q1, q2, q3]
        exact (mx_w hcb.d0 hcb.d1 hcb.n0 (hok _ (List.getElem_mem _))).1
      change LGood T (vlim T F) lplim fi26.cx (loopsIs [(16, cSt n l (P.cb l r).1 (P.cb l r).2 ((l.headD ⟨0, 0, 0⟩).lo * (P.cb l r).2 - (P.cb l r).1 * (l.headD ⟨0, 0, 0⟩).at_) 0, (.exit 0, ⟨(cSt n l (P.cb l r).1 (P.cb l r).2 (P.ca l r) l.length).env ++ [(73, .bool false)], cHeap l (P.cb l r).1 (P.cb l r).2⟩))]) fi26.body at hL
      have hd0 := hcb.d0
      have hd1 := hcb.d1
      generalize hA : P.ca l r = a at *
      generalize hA0 : (l.headD ⟨0, 0, 0⟩).lo * (P.cb l r).2 - (P.cb l r).1 * (l.headD ⟨0, 0, 0⟩).at_ = a0 at *
      by_cases h3 : P.cmp r 1 (audB l).lN (audB l).lD < 0
      · have hb : P.cb l r = ((audB l).lN, (audB l).lD) := by simp only [P.cb, if_pos h3]
        generalize P.cb l r = be at *
        obtain ⟨b, e⟩ := be
        simp only at *
        injection hb with hb1 hb2
        refine Runs.way (F := F) (sh := Sh) (S := WC) WC_ok (fi := fi26) (by kernel_rfl) hL [(eqB (List.map encC l) (List.map encC (List.map decC (List.map encC l))), true),
    ((List.map decC (List.map encC l)).all inCb, true),
    (P.chkE (List.map decC (List.map encC l)) != 0, false),
    (decide (r < -1000000), false),
    (decide (r > 1000000), false),
    (P.auE (List.map decC (List.map encC l)) != 0, false),
    (decide (-9000000000000000000 ≤ r * P.au (List.map decC (List.map encC l)) 1), true),
    (decide (r * P.au (List.map decC (List.map encC l)) 1 ≤ 9000000000000000000), true),
    (decide (-9000000000000000000 ≤ P.au (List.map decC (List.map encC l)) 0 * 1), true),
    (decide (P.au (List.map decC (List.map encC l)) 0 * 1 ≤ 9000000000000000000), true),
    (decide (P.cmp r 1 (P.au (List.map decC (List.map encC l)) 0) (P.au (List.map decC (List.map encC l)) 1) < 0), true),
    (decide (-9000000000000000000 ≤ P.au (List.map decC (List.map encC l)) 0 * P.au (List.map decC (List.map encC l)) 3), true),
    (decide (P.au (List.map decC (List.map encC l)) 0 * P.au (List.map decC (List.map encC l)) 3 ≤ 9000000000000000000), true),
    (decide (-9000000000000000000 ≤ P.au (List.map decC (List.map encC l)) 2 * P.au (List.map decC (List.map encC l)) 1), true),
    (decide (P.au (List.map decC (List.map encC l)) 2 * P.au (List.map decC (List.map encC l)) 1 ≤ 9000000000000000000), true),
    (decide (P.cmp (P.au (List.map decC (List.map encC l)) 0) (P.au (List.map decC (List.map encC l)) 1) (P.au (List.map decC (List.map encC l)) 2) (P.au (List.map decC (List.map encC l)) 3) > 0), false),
    (decide (0 < (↑(List.map encC l).length : Int)), true),
    (((List.map encC l).getD 0 V.undef).cells.length == 3 && fitP [TK.int IntKind.i64, TK.int IntKind.i64, TK.int IntKind.i64] 0 ((List.map encC l).getD 0 V.undef), true),
    (is { env := [(4, V.ptr 0 0), (5, V.ptr 1 0), (10, V.ptr 3 0), (11, V.int IntKind.i64 (IntKind.i64.wrap (IntKind.i64.wrap (Fd.cl l 0 * P.au (List.map decC (List.map encC l)) 1) - IntKind.i64.wrap (P.au (List.map decC (List.map encC l)) 0 * Fd.ca l 0)))), (70, V.sl n (List.map encC l)), (71, V.int IntKind.i64 (↑(List.map encC l).length : Int)), (72, V.int IntKind.i64 0)], heap := [B.cells [V.int IntKind.i64 0, V.int IntKind.i64 0], B.cells [V.int IntKind.i64 0, V.int IntKind.i64 0], B.cells [V.int IntKind.i64 (P.au (List.map decC (List.map encC l)) 0), V.int IntKind.i64 (P.au (List.map decC (List.map encC l)) 1), V.int IntKind.i64 (P.au (List.map decC (List.map encC l)) 2), V.int IntKind.i64 (P.au (List.map decC (List.map encC l)) 3), V.int IntKind.i64 (P.au (List.map decC (List.map encC l)) 4), V.int IntKind.i64 (P.au (List.map decC (List.map encC l)) 5), V.int IntKind.i64 (P.au (List.map decC (List.map encC l)) 6), V.int IntKind.i64 (P.au (List.map decC (List.map encC l)) 7)], B.cells [V.int IntKind.i64 (P.au (List.map decC (List.map encC l)) 0), V.int IntKind.i64 (P.au (List.map decC (List.map encC l)) 1)]] } { env := [(4, V.ptr 0 0), (5, V.ptr 1 0), (10, V.ptr 3 0), (11, V.int IntKind.i64 a0), (70, V.sl n (List.map encC l)), (71, V.int IntKind.i64 (↑l.length : Int)), (72, V.int IntKind.i64 0)], heap := [B.cells [V.int IntKind.i64 0, V.int IntKind.i64 0], B.cells [V.int IntKind.i64 0, V.int IntKind.i64 0], B.cells [V.int IntKind.i64 (P.au l 0), V.int IntKind.i64 (P.au l 1), V.int IntKind.i64 (P.au l 2), V.int IntKind.i64 (P.au l 3), V.int IntKind.i64 (P.au l 4), V.int IntKind.i64 (P.au l 5), V.int IntKind.i64 (P.au l 6), V.int IntKind.i64 (P.au l 7)], B.cells [V.int IntKind.i64 b, V.int IntKind.i64 e]] }, true),
    (decide (-1000000000000000 ≤ a), true),
    (decide (a ≤ 1000000000000000), true),
    (decide (0 < e), true),
    (decide (e ≤ 1000000000000000), true)] [2, 3, 4, 5, 5, 5, 6, 2, 3, 7, 8, 9, 10, 11, 12, 13, 14, 15, 16, 17, 0, 18, 19, 0, 18, 19, 20, 21, 22, 23, 24] (by kernel_rfl) ?_
        rw [dec_enc]; simp only [hau, hav.1, hav.2.1, hav.2.2.1, hav.2.2.2]
        refine ⟨?_, ?_, ?_, ?_, ?_, ?_, ?_, ?_, ?_, ?_, ?_, ?_, ?_, ?_, ?_, ?_, ?_, ?_, ?_, ?_, ?_, ?_, ?_, trivial⟩
        all_goals first
            | exact eqB_eq rfl
            | exact List.all_eq_true.2 fun c h => inCb_iff.2 (hc c h)
            | exact decide_eq_true h3
            | exact decide_eq_false h3
            | exact decide_eq_true h4
            | exact decide_eq_false h4
            | exact decide_eq_false hlm
            | exact is_eq (by rw [← hfst, hb1, hb2, List.length_map])
            | (simp [h0]; done)
            | (simp [hE]; done)
            | (simp; omega)
            | (simp [encC, fitP, fld, leafFits, V.cells, hne]; done)
      · by_cases h4 : P.cmp r 1 (audB l).mN (audB l).mD > 0
        · have hb : P.cb l r = ((audB l).mN, (audB l).mD) := by simp only [P.cb, if_neg h3, if_pos h4]
          generalize P.cb l r = be at *
          obtain ⟨b, e⟩ := be
          simp only at *
          injection hb with hb1 hb2
          refine Runs.way (F := F) (sh := Sh) (S := WC) WC_ok (fi := fi26) (by kernel_rfl) hL [(eqB (List.map encC l) (List.map encC (List.map decC (List.map encC l))), true),
    ((List.map decC (List.map encC l)).all inCb, true),
    (P.chkE (List.map decC (List.map encC l)) != 0, false),
    (decide (r < -1000000), false),
    (decide (r > 1000000), false),
    (P.auE (List.map decC (List.map encC l)) != 0, false),
    (decide (-9000000000000000000 ≤ r * P.au (List.map decC (List.map encC l)) 1), true),
    (decide (r * P.au (List.map decC (List.map encC l)) 1 ≤ 9000000000000000000), true),
    (decide (-9000000000000000000 ≤ P.au (List.map decC (List.map encC l)) 0 * 1), true),
    (decide (P.au (List.map decC (List.map encC l)) 0 * 1 ≤ 9000000000000000000), true),
    (decide (P.cmp r 1 (P.au (List.map decC (List.map encC l)) 0) (P.au (List.map decC (List.map encC l)) 1) < 0), false),
    (decide (-9000000000000000000 ≤ r * P.au (List.map decC (List.map encC l)) 3), true),
    (decide (r * P.au (List.map decC (List.map encC l)) 3 ≤ 9000000000000000000), true),
    (decide (-9000000000000000000 ≤ P.au (List.map decC (List.map encC l)) 2 * 1), true),
    (decide (P.au (List.map decC (List.map encC l)) 2 * 1 ≤ 9000000000000000000), true),
    (decide (P.cmp r 1 (P.au (List.map decC (List.map encC l)) 2) (P.au (List.map decC (List.map encC l)) 3) > 0), true),
    (decide (0 < (↑(List.map encC l).length : Int)), true),
    (((List.map encC l).getD 0 V.undef).cells.length == 3 && fitP [TK.int IntKind.i64, TK.int IntKind.i64, TK.int IntKind.i64] 0 ((List.map encC l).getD 0 V.undef), true),
    (is { env := [(4, V.ptr 0 0), (5, V.ptr 1 0), (10, V.ptr 3 0), (11, V.int IntKind.i64 (IntKind.i64.wrap (IntKind.i64.wrap (Fd.cl l 0 * P.au (List.map decC (List.map encC l)) 3) - IntKind.i64.wrap (P.au (List.map decC (List.map encC l)) 2 * Fd.ca l 0)))), (70, V.sl n (List.map encC l)), (71, V.int IntKind.i64 (↑(List.map encC l).length : Int)), (72, V.int IntKind.i64 0)], heap := [B.cells [V.int IntKind.i64 0, V.int IntKind.i64 0], B.cells [V.int IntKind.i64 0, V.int IntKind.i64 0], B.cells [V.int IntKind.i64 (P.au (List.map decC (List.map encC l)) 0), V.int IntKind.i64 (P.au (List.map decC (List.map encC l)) 1), V.int IntKind.i64 (P.au (List.map decC (List.map encC l)) 2), V.int IntKind.i64 (P.au (List.map decC (List.map encC l)) 3), V.int IntKind.i64 (P.au (List.map decC (List.map encC l)) 4), V.int IntKind.i64 (P.au (List.map decC (List.map encC l)) 5), V.int IntKind.i64 (P.au (List.map decC (List.map encC l)) 6), V.int IntKind.i64 (P.au (List.map decC (List.map encC l)) 7)], B.cells [V.int IntKind.i64 (P.au (List.map decC (List.map encC l)) 2), V.int IntKind.i64 (P.au (List.map decC (List.map encC l)) 3)]] } { env := [(4, V.ptr 0 0), (5, V.ptr 1 0), (10, V.ptr 3 0), (11, V.int IntKind.i64 a0), (70, V.sl n (List.map encC l)), (71, V.int IntKind.i64 (↑l.length : Int)), (72, V.int IntKind.i64 0)], heap := [B.cells [V.int IntKind.i64 0, V.int IntKind.i64 0], B.cells [V.int IntKind.i64 0, V.int IntKind.i64 0], B.cells [V.int IntKind.i64 (P.au l 0), V.int IntKind.i64 (P.au l 1), V.int IntKind.i64 (P.au l 2), V.int IntKind.i64 (P.au l 3), V.int IntKind.i64 (P.au l 4), V.int IntKind.i64 (P.au l 5), V.int IntKind.i64 (P.au l 6), V.int IntKind.i64 (P.au l 7)], B.cells [V.int IntKind.i64 b, V.int IntKind.i64 e]] }, true),
    (decide (-1000000000000000 ≤ a), true),
    (decide (a ≤ 1000000000000000), true),
    (decide (0 < e), true),
    (decide (e ≤ 1000000000000000), true)] [2, 3, 4, 5, 5, 5, 6, 2, 3, 7, 8, 9, 10, 11, 12, 13, 14, 15, 16, 17, 0, 18, 19, 0, 18, 19, 20, 21, 22, 23, 24] (by kernel_rfl) ?_
          rw [dec_enc]; simp only [hau, hav.1, hav.2.1, hav.2.2.1, hav.2.2.2]
          refine ⟨?_, ?_, ?_, ?_, ?_, ?_, ?_, ?_, ?_, ?_, ?_, ?_, ?_, ?_, ?_, ?_, ?_, ?_, ?_, ?_, ?_, ?_, ?_, trivial⟩
          all_goals first
            | exact eqB_eq rfl
            | exact List.all_eq_true.2 fun c h => inCb_iff.2 (hc c h)
            | exact decide_eq_true h3
            | exact decide_eq_false h3
            | exact decide_eq_true h4
            | exact decide_eq_false h4
            | exact decide_eq_false hlm
            | exact is_eq (by rw [← hfst, hb1, hb2, List.length_map])
            | (simp [h0]; done)
            | (simp [hE]; done)
            | (simp; omega)
            | (simp [encC, fitP, fld, leafFits, V.cells, hne]; done)
        · have hb : P.cb l r = (r, 1) := by simp only [P.cb, if_neg h3, if_neg h4]
          generalize P.cb l r = be at *
          obtain ⟨b, e⟩ := be
          simp only at *
          injection hb with hb1 hb2
          refine Runs.way (F := F) (sh := Sh) (S := WC) WC_ok (fi := fi26) (by kernel_rfl) hL [(eqB (List.map encC l) (List.map encC (List.map decC (List.map encC l))), true),
    ((List.map decC (List.map encC l)).all inCb, true),
    (P.chkE (List.map decC (List.map encC l)) != 0, false),
    (decide (r < -1000000), false),
    (decide (r > 1000000), false),
    (P.auE (List.map decC (List.map encC l)) != 0, false),
    (decide (-9000000000000000000 ≤ r * P.au (List.map decC (List.map encC l)) 1), true),
    (decide (r * P.au (List.map decC (List.map encC l)) 1 ≤ 9000000000000000000), true),
    (decide (-9000000000000000000 ≤ P.au (List.map decC (List.map encC l)) 0 * 1), true),
    (decide (P.au (List.map decC (List.map encC l)) 0 * 1 ≤ 9000000000000000000), true),
    (decide (P.cmp r 1 (P.au (List.map decC (List.map encC l)) 0) (P.au (List.map decC (List.map encC l)) 1) < 0), false),
    (decide (-9000000000000000000 ≤ r * P.au (List.map decC (List.map encC l)) 3), true),
    (decide (r * P.au (List.map decC (List.map encC l)) 3 ≤ 9000000000000000000), true),
    (decide (-9000000000000000000 ≤ P.au (List.map decC (List.map encC l)) 2 * 1), true),
    (decide (P.au (List.map decC (List.map encC l)) 2 * 1 ≤ 9000000000000000000), true),
    (decide (P.cmp r 1 (P.au (List.map decC (List.map encC l)) 2) (P.au (List.map decC (List.map encC l)) 3) > 0), false),
    (decide (0 < (↑(List.map encC l).length : Int)), true),
    (((List.map encC l).getD 0 V.undef).cells.length == 3 && fitP [TK.int IntKind.i64, TK.int IntKind.i64, TK.int IntKind.i64] 0 ((List.map encC l).getD 0 V.undef), true),
    (is { env := [(4, V.ptr 0 0), (5, V.ptr 1 0), (10, V.ptr 3 0), (11, V.int IntKind.i64 (IntKind.i64.wrap (IntKind.i64.wrap (Fd.cl l 0 * 1) - IntKind.i64.wrap (r * Fd.ca l 0)))), (70, V.sl n (List.map encC l)), (71, V.int IntKind.i64 (↑(List.map encC l).length : Int)), (72, V.int IntKind.i64 0)], heap := [B.cells [V.int IntKind.i64 0, V.int IntKind.i64 0], B.cells [V.int IntKind.i64 0, V.int IntKind.i64 0], B.cells [V.int IntKind.i64 (P.au (List.map decC (List.map encC l)) 0), V.int IntKind.i64 (P.au (List.map decC (List.map encC l)) 1), V.int IntKind.i64 (P.au (List.map decC (List.map encC l)) 2), V.int IntKind.i64 (P.au (List.map decC (List.map encC l)) 3), V.int IntKind.i64 (P.au (List.map decC (List.map encC l)) 4), V.int IntKind.i64 (P.au (List.map decC (List.map encC l)) 5), V.int IntKind.i64 (P.au (List.map decC (List.map encC l)) 6), V.int IntKind.i64 (P.au (List.map decC (List.map encC l)) 7)], B.cells [V.int IntKind.i64 r, V.int IntKind.i64 1]] } { env := [(4, V.ptr 0 0), (5, V.ptr 1 0), (10, V.ptr 3 0), (11, V.int IntKind.i64 a0), (70, V.sl n (List.map encC l)), (71, V.int IntKind.i64 (↑l.length : Int)), (72, V.int IntKind.i64 0)], heap := [B.cells [V.int IntKind.i64 0, V.int IntKind.i64 0], B.cells [V.int IntKind.i64 0, V.int IntKind.i64 0], B.cells [V.int IntKind.i64 (P.au l 0), V.int IntKind.i64 (P.au l 1), V.int IntKind.i64 (P.au l 2), V.int IntKind.i64 (P.au l 3), V.int IntKind.i64 (P.au l 4), V.int IntKind.i64 (P.au l 5), V.int IntKind.i64 (P.au l 6), V.int IntKind.i64 (P.au l 7)], B.cells [V.int IntKind.i64 b, V.int IntKind.i64 e]] }, true),
    (decide (-1000000000000000 ≤ a), true),
    (decide (a ≤ 1000000000000000), true),
    (decide (0 < e), true),
    (decide (e ≤ 1000000000000000), true)] [2, 3, 4, 5, 5, 5, 6, 2, 3, 7, 8, 9, 10, 11, 12, 13, 14, 15, 16, 17, 0, 18, 19, 0, 18, 19, 20, 21, 22, 23, 24] (by kernel_rfl) ?_
          rw [dec_enc]; simp only [hau, hav.1, hav.2.1, hav.2.2.1, hav.2.2.2]
          refine ⟨?_, ?_, ?_, ?_, ?_, ?_, ?_, ?_, ?_, ?_, ?_, ?_, ?_, ?_, ?_, ?_, ?_, ?_, ?_, ?_, ?_, ?_, ?_, trivial⟩
          all_goals first
            | exact eqB_eq rfl
            | exact List.all_eq_true.2 fun c h => inCb_iff.2 (hc c h)
            | exact decide_eq_true h3
            | exact decide_eq_false h3
            | exact decide_eq_true h4
            | exact decide_eq_false h4
            | exact decide_eq_false hlm
            | exact is_eq (by rw [← hfst, hb1, hb2, List.length_map])
            | (simp [h0]; done)
            | (simp [hE]; done)
            | (simp; omega)
            | (simp [encC, fitP, fld, leafFits, V.cells, hne]; done)
    · have e1 : ∀ j, P.co l r j = 0 := fun j => by simp only [P.co, hE', if_neg hE]
      have e2 : P.auE l = P.auE ((l.map encC).map decC) := by rw [dec_enc]
      rw [e1, e1, e1, e1, hE', e2]
      exact Runs.way (F := F) (sh := Sh) (S := WC) WC_ok (fi := fi26) (by kernel_rfl) (L := fun _ _ => .fail) (fun _ _ _ _ h => by cases h) [(eqB (List.map encC l) (List.map encC (List.map decC (List.map encC l))), true),
    ((List.map decC (List.map encC l)).all inCb, true),
    (P.chkE (List.map decC (List.map encC l)) != 0, false),
    (decide (r < -1000000), false),
    (decide (r > 1000000), false),
    (P.auE (List.map decC (List.map encC l)) != 0, true)] [2, 3, 4, 5, 5, 5, 6, 2, 3, 7] (by kernel_rfl) ⟨eqB_eq (by rw [dec_enc]), by rw [dec_enc]; exact List.all_eq_true.2 fun c h => inCb_iff.2 (hc c h), by rw [e3]; simp [h0], decide_eq_false h1, decide_eq_false h2, by rw [← e2]; simpa using hE, trivial⟩
  · have e : P.coE l r = P.chkE ((l.map encC).map decC) := by rw [dec_enc]; simp only [P.coE, if_neg h0]
    have e1 : ∀ j, P.co l r j = 0 := fun j => by
      have : ¬ P.coE l r = 0 := by simp only [P.coE, if_neg h0]; exact h0
      simp only [P.co, if_neg this]
    rw [e1, e1, e1, e1, e]
    exact Runs.way (F := F) (sh := Sh) (S := WC) WC_ok (fi := fi26) (by kernel_rfl) (L := fun _ _ => .fail) (fun _ _ _ _ h => by cases h) [(eqB (List.map encC l) (List.map encC (List.map decC (List.map encC l))), true),
    ((List.map decC (List.map encC l)).all inCb, true),
    (P.chkE (List.map decC (List.map encC l)) != 0, true)] [2, 3, 4] (by kernel_rfl) ⟨eqB_eq (by rw [dec_enc]), by rw [dec_enc]; exact List.all_eq_true.2 fun c h => inCb_iff.2 (hc c h), by rw [e3]; simpa using h0, trivial⟩
noncomputable def coS : List V → Heap → Tr (V × Heap) := fun a H => match a, H with
  | [.sl _ xs, .int .i64 r], [] => .must (eqB xs ((xs.map decC).map encC)) (.must ((xs.map decC).all inCb) (.ret (.tup [.agg [.int .i64 (P.co (xs.map decC) r 0), .int .i64 (P.co (xs.map decC) r 1)], .agg [.int .i64 (P.co (xs.map decC) r 2), .int .i64 (P.co (xs.map decC) r 3)], .int .i64 (P.coE (xs.map decC) r)], [])))
  | _, _ => .fail
theorem coS_ok : ∀ a H r, (coS a H).run = some r → Runs T F 26 a H r := by
  intro a H r h
  unfold coS at h
  split at h
  · rename_i m xs r
    obtain ⟨h0, h⟩ := Tr.must_some h
    obtain ⟨h1, h⟩ := Tr.must_some h
    have hr := ret_some h
    clear h
    subst hr
    have h0 := of_eqB h0
    generalize xs.map decC = l at *
    subst h0
    exact co_runs m l r fun c hc => inCb_iff.1 (List.all_eq_true.1 h1 c hc)
  · cases h
end Go.Proofs.Ytgmdkjiflhklaaa
