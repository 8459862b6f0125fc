/- K6: the law StampClock over V. -/
import Derived.Test.YtgmdkjiflhklaaaK5
namespace Go.Proofs.Ytgmdkjiflhklaaa
open Go Go.Vm
theorem hlm_of {l : List Chk} (hz : audE l = 0) : (audB l).lN * (audB l).mD ≤ (audB l).mN * (audB l).lD := by
  have hf := (audB_inv l).fd.2 ((audE_zero l).1 hz).1
  unfold audE at hz
  rw [if_neg (by rw [hf]; simp)] at hz
  split at hz
  · cases hz
  · rename_i h
    have : ¬ P.cmp (audB l).lN (audB l).lD (audB l).mN (audB l).mD > 0 := fun hq => h (.inr hq)
    rw [cmp_pos] at this
    omega
theorem cb_between {l : List Chk} (r : Int) (hz : audE l = 0) : (audB l).lN * (P.cb l r).2 ≤ (P.cb l r).1 * (audB l).lD ∧ (P.cb l r).1 * (audB l).mD ≤ (audB l).mN * (P.cb l r).2 := by
  have hm := hlm_of hz
  unfold P.cb
  by_cases h3 : P.cmp r 1 (audB l).lN (audB l).lD < 0
  · rw [if_pos h3]; exact ⟨Int.le_refl _, hm⟩
  · rw [if_neg h3]
    by_cases h4 : P.cmp r 1 (audB l).mN (audB l).mD > 0
    · rw [if_pos h4]; exact ⟨hm, Int.le_refl _⟩
    · rw [if_neg h4]
      rw [cmp_neg] at h3
      rw [cmp_pos] at h4
      simp only
      omega
theorem cb_rate {l : List Chk} {r : Int} (h1 : (audB l).lN ≤ r * (audB l).lD) (h2 : r * (audB l).mD ≤ (audB l).mN) : P.cb l r = (r, 1) := by
  unfold P.cb
  rw [if_neg (by rw [cmp_neg]; omega), if_neg (by rw [cmp_pos]; omega)]
/-- **What Choose returns keeps the checks.** -/
theorem co_keeps {l : List Chk} {r : Int} (hr : -1000000 ≤ r ∧ r ≤ 1000000) (hc : ∀ c ∈ l, OkC c) (hz : audE l = 0) :
    P.keep (P.rn (P.ca l r) (P.cb l r).2) (P.rd (P.ca l r) (P.cb l r).2) (P.cb l r).1 (P.cb l r).2 l = true := by
  have hi := audB_inv l
  obtain ⟨h2, hem, -⟩ := (audE_zero l).1 hz
  have hf := hi.fd.2 h2
  obtain ⟨p1, p2⟩ := hi.pos hf
  obtain ⟨q1, q2⟩ := cb_between r hz
  have hcb := cb_ok hr hc hz
  have hd0 := hcb.d0
  have hl : 0 < l.length := by
    obtain ⟨x, y, ⟨hx, _⟩, _⟩ := h2
    exact List.length_pos_of_mem hx
  have hmem : ∃ c' ∈ l, P.ca l r = c'.lo * (P.cb l r).2 - (P.cb l r).1 * c'.at_ := by
    unfold P.ca
    rcases mx_mem (P.cb l r).1 (P.cb l r).2 l ((l.headD ⟨0, 0, 0⟩).lo * (P.cb l r).2 - (P.cb l r).1 * (l.headD ⟨0, 0, 0⟩).at_) with e | h
    · refine ⟨l[0], List.getElem_mem _, ?_⟩
      rw [e]
      cases l with
      | nil => simp at hl
      | cons c l => rfl
    · exact h
  have hge := (mx_ge (P.cb l r).1 (P.cb l r).2 l ((l.headD ⟨0, 0, 0⟩).lo * (P.cb l r).2 - (P.cb l r).1 * (l.headD ⟨0, 0, 0⟩).at_)).2
  change ∀ c ∈ l, c.lo * (P.cb l r).2 - (P.cb l r).1 * c.at_ ≤ P.ca l r at hge
  generalize P.ca l r = A at *
  generalize (P.cb l r).1 = b at *
  generalize (P.cb l r).2 = e at *
  obtain ⟨e1, e2⟩ := rn_rd (n := A) (d := e) (by omega)
  generalize P.rn A e = a at *
  generalize P.rd A e = d at *
  rw [keep_iff]
  intro c hcl
  have k1 : c.lo * e ≤ A + b * c.at_ := by have := hge c hcl; omega
  have k2 : A + b * c.at_ ≤ c.hi * e := by
    obtain ⟨c', hc', hA⟩ := hmem
    have goal : (c'.lo - c.hi) * e ≤ b * (c'.at_ - c.at_) := by
      rcases Int.lt_trichotomy c.at_ c'.at_ with h | h | h
      · exact frac_trans (b := c'.at_ - c.at_) (by omega) p1 (by omega) (hi.lmax hf c c' ⟨hcl, hc'⟩ h) q1
      · have : c'.lo ≤ c.hi := by
          rcases Int.lt_or_le c.hi c'.lo with h' | h'
          · exact absurd ⟨c', c, ⟨hc', hcl⟩, h.symm, h'⟩ hem
          · exact h'
        have h0 : (c.hi - c'.lo) * e ≥ 0 := Int.mul_nonneg (by omega) (by omega)
        rw [h, Int.sub_self, Int.mul_zero]
        rw [Int.sub_mul] at h0 ⊢
        omega
      · have := frac_trans (b := e) (by omega) p2 (by omega) q2 (hi.mmin hf c' c ⟨hc', hcl⟩ h)
        rw [Int.sub_mul, Int.mul_sub] at this ⊢
        omega
    rw [Int.sub_mul, Int.mul_sub] at goal
    omega
  have k3 := Int.mul_le_mul_of_nonneg_right k1 (Int.le_of_lt e2)
  have k4 := Int.mul_le_mul_of_nonneg_right k2 (Int.le_of_lt e2)
  rw [Int.add_mul] at k3 k4
  rw [e1]
  have m1 : c.lo * d * e = c.lo * e * d := Int.mul_right_comm ..
  have m2 : c.hi * d * e = c.hi * e * d := Int.mul_right_comm ..
  omega
/-- **No line that is steeper than the greatest slope keeps them.** -/
theorem steep {l : List Chk} (hz : audE l = 0) {s : Int} (h : (audB l).mN < s * (audB l).mD) (a : Int) : P.keep a 1 s 1 l = false := by
  have hi := audB_inv l
  have hf := hi.fd.2 ((audE_zero l).1 hz).1
  obtain ⟨p1, p2⟩ := hi.pos hf
  obtain ⟨x, y, ⟨hx, hy⟩, hxy, e⟩ := hi.mmem hf
  rw [Bool.eq_false_iff, Ne, keep_iff]
  intro hk
  have k1 := (hk x hx).1
  have k2 := (hk y hy).2
  simp only [Int.mul_one] at k1 k2
  have k3 : s * (y.at_ - x.at_) ≤ y.hi - x.lo := by rw [Int.mul_sub]; omega
  have k4 := Int.mul_le_mul_of_nonneg_right k3 (Int.le_of_lt p2)
  have k5 : ((audB l).mN + 1) * (y.at_ - x.at_) ≤ s * (audB l).mD * (y.at_ - x.at_) := Int.mul_le_mul_of_nonneg_right (by omega) (by omega)
  rw [Int.add_mul, e] at k5
  have k6 : s * (audB l).mD * (y.at_ - x.at_) = s * (y.at_ - x.at_) * (audB l).mD := Int.mul_right_comm ..
  omega
theorem tdiv_gt {n d : Int} (hd : 1 ≤ d) : n < (n.tdiv d + 2) * d := by
  have h1 := Int.mul_tdiv_add_tmod n d
  have h2 := Int.tmod_lt_of_pos n (show 0 < d by omega)
  rw [Int.mul_comm] at h1
  rw [Int.add_mul]
  omega
theorem fr_low {n d : Int} (h : FrP n d) : P.low n d 300000000 = true := by
  obtain ⟨h1, h2, h3, h4⟩ := h
  exact low_iff.2 ⟨h2, h3, by omega, by omega, h4⟩
theorem aud_none {l : List Chk} (h : ¬ ∃ x y, (x ∈ l ∧ y ∈ l) ∧ x.at_ < y.at_) : audE l = 4 ∧ P.sameAt l = true := by
  constructor
  · unfold audE
    rw [if_pos]
    have : ¬ (audB l).fd = true := fun hq => h ((audB_inv l).fd.1 hq)
    simpa using this
  · unfold P.sameAt
    refine List.all_eq_true.2 fun c hc => ?_
    cases l with
    | nil => cases hc
    | cons z l =>
      have h1 : ¬ c.at_ < z.at_ := fun hq => h ⟨c, z, ⟨hc, by simp⟩, hq⟩
      have h2 : ¬ z.at_ < c.at_ := fun hq => h ⟨z, c, ⟨by simp, hc⟩, hq⟩
      show decide (c.at_ = z.at_) = true
      exact decide_eq_true (by omega)
theorem eqv2 (a b c d : Int) : cellsEqv [V.int IntKind.i64 a, V.int IntKind.i64 b] [V.int IntKind.i64 c, V.int IntKind.i64 d] = (a == c && b == d) := by
  simp [cellsEqv, cellEqv]
noncomputable def clkS (n : Bool) (bs : List Int) (a b : Int) (l : List Chk) : List V → Heap → Tr (V × Heap) := fun a' H => match a', H with
  | [.sl m xs, .int .i16 x, .int .i16 y], [] => .must (m == n) (.must (eqB xs (bs.map encB)) (.must (decide (x = a)) (.must (decide (y = b)) (.ret (.ex 3 l.isEmpty (l.map encC), [])))))
  | _, _ => .fail
noncomputable def W8 (n : Bool) (bs : List Int) (a b : Int) (l : List Chk) : Vm.Spec := (W24n.add 23 (clkS n bs a b l)).add 12 awakeS
theorem W8_ok {n : Bool} {bs : List Int} {a b : Int} {l : List Chk} (h : Runs T F 23 [V.sl n (List.map encB bs), .int .i16 a, .int .i16 b] [] (.ex 3 l.isEmpty (l.map encC), [])) : Vm.Good (vlim T F) (W8 n bs a b l) := by
  refine (W24n_ok.add fun a' H r hr => ?_).add fun a H r h => ?_
  · unfold clkS at hr
    split at hr
    · obtain ⟨h0, hr⟩ := Tr.must_some hr
      obtain ⟨h1, hr⟩ := Tr.must_some hr
      obtain ⟨h2, hr⟩ := Tr.must_some hr
      obtain ⟨h3, hr⟩ := Tr.must_some hr
      have hq := ret_some hr; clear hr; subst hq
      have h1 := of_eqB h1
      simp only [decide_eq_true_eq, beq_iff_eq] at h0 h2 h3
      subst h0; subst h1; subst h2; subst h3
      exact h
    · cases hr
  · unfold awakeS at h
    split at h
    · have := ret_some h; subst this
      exact ⟨60, awake_v⟩
    · cases h
theorem clock_runs (n : Bool) (bs : List Int) (a b r o : Int) (ha : -32768 ≤ a ∧ a ≤ 32767) (hb : -32768 ≤ b ∧ b ≤ 32767) (hr : -32768 ≤ r ∧ r ≤ 32767) (ho : 0 ≤ o ∧ o ≤ 255) (l : List Chk) (hl : l.length ≤ 15) (t : Int) (hg : Gr (KQ a b) 0 30 l t)
    (hclk : Runs T F 23 [V.sl n (List.map encB bs), .int .i16 a, .int .i16 b] [] (.ex 3 l.isEmpty (l.map encC), [])) :
    Runs T F 8 [V.sl n (List.map encB bs), .int .i16 a, .int .i16 b, .int .i16 r, .int .u8 o] [] (.bool true, []) := by
  have hq := hg.all (by omega)
  have hB := hg.bound
  have hok : ∀ c ∈ l, OkC c := fun c hc => by
    obtain ⟨⟨k1, k2, k3, k4⟩, k5, k6⟩ := hq.2 c hc
    exact ⟨k5, by omega, k1, k4, by omega⟩
  have h0 : P.chkE l = 0 := chkE_zero.2 ⟨by omega, hok⟩
  have hin : (l.all inCb) = true := List.all_eq_true.2 fun c hc => inCb_iff.2 (hok c hc).inC
  have hE : P.auE l = audE l := by simp only [P.auE, if_pos h0]; rfl
  by_cases h2 : ∃ x y, (x ∈ l ∧ y ∈ l) ∧ x.at_ < y.at_
  · obtain ⟨hz, l1, l2⟩ := line_zero (l := l) a b 4 (by omega) (fun c hc => by have := (hq.2 c hc).1; unfold KQ at this; omega) h2
    rw [hz] at hE
    have hfr := au_fr hok ((audB_inv l).fd.2 h2)
    obtain ⟨f1, f2, f3, f4⟩ := hfr.1
    obtain ⟨g1, g2, g3, g4⟩ := hfr.2
    have hau : ∀ j, P.au l j = P.av l j := fun j => by simp only [P.au, if_pos h0]
    have hav : P.av l 0 = (audB l).lN ∧ P.av l 1 = (audB l).lD ∧ P.av l 2 = (audB l).mN ∧ P.av l 3 = (audB l).mD := by
      unfold P.av; rw [hz]; exact ⟨rfl, rfl, rfl, rfl⟩
    have hcE : P.coE l r = 0 := by simp only [P.coE, if_pos h0, if_neg (show ¬ (r < -1000000 ∨ r > 1000000) by omega)]; exact hE
    have hco : P.co l r 0 = P.rn (P.ca l r) (P.cb l r).2 ∧ P.co l r 1 = P.rd (P.ca l r) (P.cb l r).2 ∧ P.co l r 2 = (P.cb l r).1 ∧ P.co l r 3 = (P.cb l r).2 := by
      simp only [P.co, if_pos hcE]; exact ⟨trivial, trivial, trivial, trivial⟩
    have hcb := cb_ok (r := r) ⟨by omega, by omega⟩ hok hz
    have hca := ca_le (r := r) ⟨by omega, by omega⟩ hok hz
    have hk := co_keeps (r := r) ⟨by omega, by omega⟩ hok hz
    obtain ⟨q1, q2⟩ := cb_between r hz
    have hrate := cb_rate (l := l) (r := r)
    have hxl : P.low (P.rn (P.ca l r) (P.cb l r).2) (P.rd (P.ca l r) (P.cb l r).2) 30000000000000 = true := by
      have t1 := tdiv_abs (P.ca l r) (P.gcd (P.ca l r) (P.cb l r).2)
      have t2 := tdiv_abs (P.cb l r).2 (P.gcd (P.ca l r) (P.cb l r).2)
      have d0 := hcb.d0
      have d1 := hcb.d1
      have := (rn_rd (n := P.ca l r) (d := (P.cb l r).2) (by omega)).2
      exact low_iff.2 ⟨by omega, by unfold P.rd at *; omega, by unfold P.rn; omega, by unfold P.rn; omega, gcd_rn (by omega)⟩
    have hyl := fr_low hcb
    have hd0 := hcb.d0
    have hd1 := hcb.d1
    have hn0 := hcb.n0
    have hkE1 : P.keE l (P.rn (P.ca l r) (P.cb l r).2) (P.rd (P.ca l r) (P.cb l r).2) (P.cb l r).1 (P.cb l r).2 = 0 := by simp only [P.keE, if_pos h0, hxl, hyl]; rfl
    have hk1 : P.ke l (P.rn (P.ca l r) (P.cb l r).2) (P.rd (P.ca l r) (P.cb l r).2) (P.cb l r).1 (P.cb l r).2 = true := by simp only [P.ke, hkE1, hk]; rfl
    have hne : 0 < l.length := by
      obtain ⟨x, y, ⟨hx, _⟩, _⟩ := h2
      exact List.length_pos_of_mem hx
    -- the steep slope
    have hgt := tdiv_gt (n := (audB l).mN) g2
    have hta := tdiv_abs (audB l).mN (audB l).mD
    have wo : IntKind.i64.wrap o = o := i64in (by omega) (by omega)
    have wr : IntKind.i64.wrap r = r := i64in (by omega) (by omega)
    have wb : IntKind.i64.wrap b = b := i64in (by omega) (by omega)
    have hom : o.tmod 3 = o % 3 := Int.tmod_eq_emod_of_nonneg ho.1
    have hon : o.tmod (l.length : Int) = o % (l.length : Int) := Int.tmod_eq_emod_of_nonneg ho.1
    have hj0 : 0 ≤ o % (l.length : Int) := Int.emod_nonneg _ (by omega)
    have hj1 : o % (l.length : Int) < l.length := Int.emod_lt_of_pos _ (by omega)
    have hjn : (o % (l.length : Int)).toNat < l.length := by omega
    have hj : ((o % (l.length : Int)).toNat : Int) = o % (l.length : Int) := by omega
    have gj := ca_at l (o % (l.length : Int)).toNat hjn
    have ghj := ch_at l (o % (l.length : Int)).toNat hjn
    have hcj := hok l[(o % (l.length : Int)).toNat] (List.getElem_mem _)
    generalize l[(o % (l.length : Int)).toNat] = cj at *
    have hs0 : IntKind.i64.wrap (IntKind.i64.wrap (IntKind.i64.wrap ((audB l).mN.tdiv (audB l).mD) + 2) + IntKind.i64.wrap (o % 3)) = (audB l).mN.tdiv (audB l).mD + 2 + o % 3 := by simp (disch := omega) only [i64in]
    have hst : (audB l).mN < ((audB l).mN.tdiv (audB l).mD + 2 + o % 3) * (audB l).mD := by
      have : 0 ≤ (o % 3) * (audB l).mD := Int.mul_nonneg (by omega) (by omega)
      rw [Int.add_mul]; omega
    have hsb : -200000005 ≤ (audB l).mN.tdiv (audB l).mD + 2 + o % 3 ∧ (audB l).mN.tdiv (audB l).mD + 2 + o % 3 ≤ 200000005 := by omega
    generalize (audB l).mN.tdiv (audB l).mD + 2 + o % 3 = s at *
    obtain ⟨cj0, cj1, cj2, cj3, cj4⟩ := hcj
    have m1 := mulb (x := s) (y := cj.at_) (A := 200000005) (B := 100000) ⟨by omega, by omega⟩ ⟨by omega, by omega⟩
    simp only [Int.reduceMul, Int.reduceNeg] at m1
    have hw1 : IntKind.i64.wrap (cj.hi - IntKind.i64.wrap (s * cj.at_)) = cj.hi - s * cj.at_ := by simp (disch := omega) only [i64in]
    have hkE2 : P.keE l (cj.hi - s * cj.at_) 1 s 1 = 0 := by
      simp only [P.keE, if_pos h0, low_one (a := cj.hi - s * cj.at_) (m := 30000000000000) ⟨by omega, by omega⟩, low_one (a := s) (m := 300000000) ⟨by omega, by omega⟩]; rfl
    have hk2 : P.ke l (cj.hi - s * cj.at_) 1 s 1 = false := by simp only [P.ke, hkE2, steep hz hst]; rfl
    -- products
    have m2 := mulb (x := b) (y := (audB l).lD) (A := 32768) (B := 100000) ⟨by omega, by omega⟩ ⟨by omega, by omega⟩
    have m3 := mulb (x := b) (y := (audB l).mD) (A := 32768) (B := 100000) ⟨by omega, by omega⟩ ⟨by omega, by omega⟩
    have m4 := mulb (x := r) (y := (audB l).lD) (A := 32768) (B := 100000) ⟨by omega, by omega⟩ ⟨by omega, by omega⟩
    have m5 := mulb (x := r) (y := (audB l).mD) (A := 32768) (B := 100000) ⟨by omega, by omega⟩ ⟨by omega, by omega⟩
    have m6 := mulb (x := (P.cb l r).1) (y := (audB l).lD) (A := 200000000) (B := 100000) ⟨by omega, by omega⟩ ⟨by omega, by omega⟩
    have m7 := mulb (x := (P.cb l r).1) (y := (audB l).mD) (A := 200000000) (B := 100000) ⟨by omega, by omega⟩ ⟨by omega, by omega⟩
    have m8 := mulb (x := (audB l).lN) (y := (P.cb l r).2) (A := 200000000) (B := 100000) ⟨by omega, by omega⟩ ⟨by omega, by omega⟩
    have m9 := mulb (x := (audB l).mN) (y := (P.cb l r).2) (A := 200000000) (B := 100000) ⟨by omega, by omega⟩ ⟨by omega, by omega⟩
    simp only [Int.reduceMul, Int.reduceNeg] at m2 m3 m4 m5 m6 m7 m8 m9
    have v1 : IntKind.i64.wrap ((audB l).lN * 4) = (audB l).lN * 4 := i64in (by omega) (by omega)
    have v2 : IntKind.i64.wrap ((audB l).mN * 4) = (audB l).mN * 4 := i64in (by omega) (by omega)
    have v3 : IntKind.i64.wrap (b * (audB l).lD) = b * (audB l).lD := i64in (by omega) (by omega)
    have v4 : IntKind.i64.wrap (b * (audB l).mD) = b * (audB l).mD := i64in (by omega) (by omega)
    have v5 : IntKind.i64.wrap (r * (audB l).lD) = r * (audB l).lD := i64in (by omega) (by omega)
    have v6 : IntKind.i64.wrap (r * (audB l).mD) = r * (audB l).mD := i64in (by omega) (by omega)
    have v7 : IntKind.i64.wrap ((P.cb l r).1 * (audB l).lD) = (P.cb l r).1 * (audB l).lD := i64in (by omega) (by omega)
    have v8 : IntKind.i64.wrap ((P.cb l r).1 * (audB l).mD) = (P.cb l r).1 * (audB l).mD := i64in (by omega) (by omega)
    have v9 : IntKind.i64.wrap ((audB l).lN * (P.cb l r).2) = (audB l).lN * (P.cb l r).2 := i64in (by omega) (by omega)
    have v10 : IntKind.i64.wrap ((audB l).mN * (P.cb l r).2) = (audB l).mN * (P.cb l r).2 := i64in (by omega) (by omega)
    by_cases hi1 : (audB l).lN ≤ r * (audB l).lD
    · have hins : decide (r * (audB l).mD ≤ (audB l).mN) = ((P.cb l r).1 == r && (P.cb l r).2 == 1) := by
        rw [Bool.eq_iff_iff]
        simp only [decide_eq_true_eq, Bool.and_eq_true, beq_iff_eq]
        constructor
        · intro h; rw [hrate hi1 h]; exact ⟨rfl, rfl⟩
        · rintro ⟨h, h'⟩; rw [h, h'] at q2; omega
      refine Runs.way (F := F) (sh := Sh) (S := W8 n bs a b l) (W8_ok hclk) (L := fun _ _ => .fail) (fi := fi8) (by kernel_rfl) (fun _ _ _ _ h => by cases h) [(n == n, true),
    (eqB (List.map encB bs) (List.map encB bs), true),
    (decide (a = a), true),
    (decide (b = b), true),
    (eqB (List.map encC l) (List.map encC (List.map decC (List.map encC l))), true),
    ((List.map decC (List.map encC l)).all inCb, true),
    (P.auE (List.map decC (List.map encC l)) == 4, false),
    (P.auE (List.map decC (List.map encC l)) != 0, false),
    (decide (P.au (List.map decC (List.map encC l)) 1 < 1), false),
    (decide (P.au (List.map decC (List.map encC l)) 3 < 1), false),
    (decide (IntKind.i64.wrap (P.au (List.map decC (List.map encC l)) 0 * 4) > IntKind.i64.wrap (IntKind.i64.wrap b * P.au (List.map decC (List.map encC l)) 1)), false),
    (decide (IntKind.i64.wrap (P.au (List.map decC (List.map encC l)) 2 * 4) < IntKind.i64.wrap (IntKind.i64.wrap b * P.au (List.map decC (List.map encC l)) 3)), false),
    (P.coE (List.map decC (List.map encC l)) (IntKind.i64.wrap r) != 0, false),
    (P.keE (List.map decC (List.map encC l)) (P.co (List.map decC (List.map encC l)) (IntKind.i64.wrap r) 0) (P.co (List.map decC (List.map encC l)) (IntKind.i64.wrap r) 1) (P.co (List.map decC (List.map encC l)) (IntKind.i64.wrap r) 2) (P.co (List.map decC (List.map encC l)) (IntKind.i64.wrap r) 3) != 0, false),
    (!P.ke (List.map decC (List.map encC l)) (P.co (List.map decC (List.map encC l)) (IntKind.i64.wrap r) 0) (P.co (List.map decC (List.map encC l)) (IntKind.i64.wrap r) 1) (P.co (List.map decC (List.map encC l)) (IntKind.i64.wrap r) 2) (P.co (List.map decC (List.map encC l)) (IntKind.i64.wrap r) 3), false),
    (decide (IntKind.i64.wrap (P.co (List.map decC (List.map encC l)) (IntKind.i64.wrap r) 2 * P.au (List.map decC (List.map encC l)) 1) < IntKind.i64.wrap (P.au (List.map decC (List.map encC l)) 0 * P.co (List.map decC (List.map encC l)) (IntKind.i64.wrap r) 3)), false),
    (decide (IntKind.i64.wrap (P.co (List.map decC (List.map encC l)) (IntKind.i64.wrap r) 2 * P.au (List.map decC (List.map encC l)) 3) > IntKind.i64.wrap (P.au (List.map decC (List.map encC l)) 2 * P.co (List.map decC (List.map encC l)) (IntKind.i64.wrap r) 3)), false),
    (decide (P.au (List.map decC (List.map encC l)) 0 ≤ IntKind.i64.wrap (IntKind.i64.wrap r * P.au (List.map decC (List.map encC l)) 1)), true),
    (!decide (IntKind.i64.wrap (IntKind.i64.wrap r * P.au (List.map decC (List.map encC l)) 3) ≤ P.au (List.map decC (List.map encC l)) 2) == cellsEqv [V.int IntKind.i64 (P.co (List.map decC (List.map encC l)) (IntKind.i64.wrap r) 2), V.int IntKind.i64 (P.co (List.map decC (List.map encC l)) (IntKind.i64.wrap r) 3)] [V.int IntKind.i64 (IntKind.i64.wrap r), V.int IntKind.i64 1], false),
    (!decide (P.au (List.map decC (List.map encC l)) 3 = 0), true),
    (!decide ((↑(List.map encC l).length : Int) = 0), true),
    (decide (0 ≤ (IntKind.i64.wrap o).tmod (↑(List.map encC l).length : Int)), true),
    (decide ((IntKind.i64.wrap o).tmod (↑(List.map encC l).length : Int) < (↑(List.map encC l).length : Int)), true),
    (decide (((IntKind.i64.wrap o).tmod (↑(List.map encC l).length : Int)).toNat < (List.map encC l).length), true),
    (fitP [TK.int IntKind.i64, TK.int IntKind.i64, TK.int IntKind.i64] 0 ((List.map encC l).getD ((IntKind.i64.wrap o).tmod (↑(List.map encC l).length : Int)).toNat V.undef), true),
    (P.keE (List.map decC (List.map encC l)) (IntKind.i64.wrap (Fd.ch l ((IntKind.i64.wrap o).tmod (↑(List.map encC l).length : Int)).toNat - IntKind.i64.wrap (IntKind.i64.wrap (IntKind.i64.wrap (IntKind.i64.wrap ((P.au (List.map decC (List.map encC l)) 2).tdiv (P.au (List.map decC (List.map encC l)) 3)) + 2) + IntKind.i64.wrap (o.tmod 3)) * Fd.ca l ((IntKind.i64.wrap o).tmod (↑(List.map encC l).length : Int)).toNat))) 1 (IntKind.i64.wrap (IntKind.i64.wrap (IntKind.i64.wrap ((P.au (List.map decC (List.map encC l)) 2).tdiv (P.au (List.map decC (List.map encC l)) 3)) + 2) + IntKind.i64.wrap (o.tmod 3))) 1 == 0, true),
    (!P.ke (List.map decC (List.map encC l)) (IntKind.i64.wrap (Fd.ch l ((IntKind.i64.wrap o).tmod (↑(List.map encC l).length : Int)).toNat - IntKind.i64.wrap (IntKind.i64.wrap (IntKind.i64.wrap (IntKind.i64.wrap ((P.au (List.map decC (List.map encC l)) 2).tdiv (P.au (List.map decC (List.map encC l)) 3)) + 2) + IntKind.i64.wrap (o.tmod 3)) * Fd.ca l ((IntKind.i64.wrap o).tmod (↑(List.map encC l).length : Int)).toNat))) 1 (IntKind.i64.wrap (IntKind.i64.wrap (IntKind.i64.wrap ((P.au (List.map decC (List.map encC l)) 2).tdiv (P.au (List.map decC (List.map encC l)) 3)) + 2) + IntKind.i64.wrap (o.tmod 3))) 1, true)] [2, 3, 4, 5, 6, 7, 0, 8, 9, 9, 9, 9, 9, 10, 10, 10, 10, 10, 11, 11, 11, 11, 11, 11, 11, 11, 11, 11, 11, 11, 12, 12, 12, 12, 12, 12, 12, 12, 12, 12, 12, 12, 13, 6, 7, 0, 14, 6, 7, 0, 15, 15, 15, 16, 17, 17, 17, 17, 17, 17, 17, 17, 17, 17, 17, 17, 17, 17, 18, 19, 19, 19, 19, 19, 19, 19, 19, 19, 19, 19, 20, 21, 0, 22, 23, 24, 25, 26, 6, 7, 0, 27, 27, 27, 28, 28] (by kernel_rfl) ?_
      simp only [dec_enc, List.length_map, wo, wr, wb, hom, hon, hau, hav.1, hav.2.1, hav.2.2.1, hav.2.2.2, hco.1, hco.2.1, hco.2.2.1, hco.2.2.2, hE, hcE, hkE1, hk1, hs0, gj, ghj, hw1, hkE2, hk2, v1, v2, v3, v4, v5, v6, v7, v8, v9, v10, eqv2]
      refine ⟨?_, ?_, ?_, ?_, ?_, ?_, ?_, ?_, ?_, ?_, ?_, ?_, ?_, ?_, ?_, ?_, ?_, ?_, ?_, ?_, ?_, ?_, ?_, ?_, ?_, ?_, ?_, trivial⟩
      all_goals first
        | exact eqB_eq rfl
        | exact hin
        | rfl
        | (simp; done)
        | (simp; omega)
        | (rw [hins]; simp; done)
        | (simp; exact fun h => by rw [h] at hne; simp at hne)
        | (simp [encC, fitP, fld, leafFits, V.cells, hjn]; done)
    · have hins : ((P.cb l r).1 == r && (P.cb l r).2 == 1) = false := by
        rw [Bool.eq_false_iff, Ne, Bool.and_eq_true, beq_iff_eq, beq_iff_eq]
        rintro ⟨h, h'⟩; rw [h, h'] at q1; omega
      refine Runs.way (F := F) (sh := Sh) (S := W8 n bs a b l) (W8_ok hclk) (L := fun _ _ => .fail) (fi := fi8) (by kernel_rfl) (fun _ _ _ _ h => by cases h) [(n == n, true),
    (eqB (List.map encB bs) (List.map encB bs), true),
    (decide (a = a), true),
    (decide (b = b), true),
    (eqB (List.map encC l) (List.map encC (List.map decC (List.map encC l))), true),
    ((List.map decC (List.map encC l)).all inCb, true),
    (P.auE (List.map decC (List.map encC l)) == 4, false),
    (P.auE (List.map decC (List.map encC l)) != 0, false),
    (decide (P.au (List.map decC (List.map encC l)) 1 < 1), false),
    (decide (P.au (List.map decC (List.map encC l)) 3 < 1), false),
    (decide (IntKind.i64.wrap (P.au (List.map decC (List.map encC l)) 0 * 4) > IntKind.i64.wrap (IntKind.i64.wrap b * P.au (List.map decC (List.map encC l)) 1)), false),
    (decide (IntKind.i64.wrap (P.au (List.map decC (List.map encC l)) 2 * 4) < IntKind.i64.wrap (IntKind.i64.wrap b * P.au (List.map decC (List.map encC l)) 3)), false),
    (P.coE (List.map decC (List.map encC l)) (IntKind.i64.wrap r) != 0, false),
    (P.keE (List.map decC (List.map encC l)) (P.co (List.map decC (List.map encC l)) (IntKind.i64.wrap r) 0) (P.co (List.map decC (List.map encC l)) (IntKind.i64.wrap r) 1) (P.co (List.map decC (List.map encC l)) (IntKind.i64.wrap r) 2) (P.co (List.map decC (List.map encC l)) (IntKind.i64.wrap r) 3) != 0, false),
    (!P.ke (List.map decC (List.map encC l)) (P.co (List.map decC (List.map encC l)) (IntKind.i64.wrap r) 0) (P.co (List.map decC (List.map encC l)) (IntKind.i64.wrap r) 1) (P.co (List.map decC (List.map encC l)) (IntKind.i64.wrap r) 2) (P.co (List.map decC (List.map encC l)) (IntKind.i64.wrap r) 3), false),
    (decide (IntKind.i64.wrap (P.co (List.map decC (List.map encC l)) (IntKind.i64.wrap r) 2 * P.au (List.map decC (List.map encC l)) 1) < IntKind.i64.wrap (P.au (List.map decC (List.map encC l)) 0 * P.co (List.map decC (List.map encC l)) (IntKind.i64.wrap r) 3)), false),
    (decide (IntKind.i64.wrap (P.co (List.map decC (List.map encC l)) (IntKind.i64.wrap r) 2 * P.au (List.map decC (List.map encC l)) 3) > IntKind.i64.wrap (P.au (List.map decC (List.map encC l)) 2 * P.co (List.map decC (List.map encC l)) (IntKind.i64.wrap r) 3)), false),
    (decide (P.au (List.map decC (List.map encC l)) 0 ≤ IntKind.i64.wrap (IntKind.i64.wrap r * P.au (List.map decC (List.map encC l)) 1)), false),
    (!false == cellsEqv [V.int IntKind.i64 (P.co (List.map decC (List.map encC l)) (IntKind.i64.wrap r) 2), V.int IntKind.i64 (P.co (List.map decC (List.map encC l)) (IntKind.i64.wrap r) 3)] [V.int IntKind.i64 (IntKind.i64.wrap r), V.int IntKind.i64 1], false),
    (!decide (P.au (List.map decC (List.map encC l)) 3 = 0), true),
    (!decide ((↑(List.map encC l).length : Int) = 0), true),
    (decide (0 ≤ (IntKind.i64.wrap o).tmod (↑(List.map encC l).length : Int)), true),
    (decide ((IntKind.i64.wrap o).tmod (↑(List.map encC l).length : Int) < (↑(List.map encC l).length : Int)), true),
    (decide (((IntKind.i64.wrap o).tmod (↑(List.map encC l).length : Int)).toNat < (List.map encC l).length), true),
    (fitP [TK.int IntKind.i64, TK.int IntKind.i64, TK.int IntKind.i64] 0 ((List.map encC l).getD ((IntKind.i64.wrap o).tmod (↑(List.map encC l).length : Int)).toNat V.undef), true),
    (P.keE (List.map decC (List.map encC l)) (IntKind.i64.wrap (Fd.ch l ((IntKind.i64.wrap o).tmod (↑(List.map encC l).length : Int)).toNat - IntKind.i64.wrap (IntKind.i64.wrap (IntKind.i64.wrap (IntKind.i64.wrap ((P.au (List.map decC (List.map encC l)) 2).tdiv (P.au (List.map decC (List.map encC l)) 3)) + 2) + IntKind.i64.wrap (o.tmod 3)) * Fd.ca l ((IntKind.i64.wrap o).tmod (↑(List.map encC l).length : Int)).toNat))) 1 (IntKind.i64.wrap (IntKind.i64.wrap (IntKind.i64.wrap ((P.au (List.map decC (List.map encC l)) 2).tdiv (P.au (List.map decC (List.map encC l)) 3)) + 2) + IntKind.i64.wrap (o.tmod 3))) 1 == 0, true),
    (!P.ke (List.map decC (List.map encC l)) (IntKind.i64.wrap (Fd.ch l ((IntKind.i64.wrap o).tmod (↑(List.map encC l).length : Int)).toNat - IntKind.i64.wrap (IntKind.i64.wrap (IntKind.i64.wrap (IntKind.i64.wrap ((P.au (List.map decC (List.map encC l)) 2).tdiv (P.au (List.map decC (List.map encC l)) 3)) + 2) + IntKind.i64.wrap (o.tmod 3)) * Fd.ca l ((IntKind.i64.wrap o).tmod (↑(List.map encC l).length : Int)).toNat))) 1 (IntKind.i64.wrap (IntKind.i64.wrap (IntKind.i64.wrap ((P.au (List.map decC (List.map encC l)) 2).tdiv (P.au (List.map decC (List.map encC l)) 3)) + 2) + IntKind.i64.wrap (o.tmod 3))) 1, true)] [2, 3, 4, 5, 6, 7, 0, 8, 9, 9, 9, 9, 9, 10, 10, 10, 10, 10, 11, 11, 11, 11, 11, 11, 11, 11, 11, 11, 11, 11, 12, 12, 12, 12, 12, 12, 12, 12, 12, 12, 12, 12, 13, 6, 7, 0, 14, 6, 7, 0, 15, 15, 15, 16, 17, 17, 17, 17, 17, 17, 17, 17, 17, 17, 17, 17, 17, 17, 18, 19, 19, 19, 19, 19, 19, 19, 19, 19, 19, 19, 20, 21, 0, 22, 23, 24, 25, 26, 6, 7, 0, 27, 27, 27, 28, 28] (by kernel_rfl) ?_
      simp only [dec_enc, List.length_map, wo, wr, wb, hom, hon, hau, hav.1, hav.2.1, hav.2.2.1, hav.2.2.2, hco.1, hco.2.1, hco.2.2.1, hco.2.2.2, hE, hcE, hkE1, hk1, hs0, gj, ghj, hw1, hkE2, hk2, v1, v2, v3, v4, v5, v6, v7, v8, v9, v10, eqv2]
      refine ⟨?_, ?_, ?_, ?_, ?_, ?_, ?_, ?_, ?_, ?_, ?_, ?_, ?_, ?_, ?_, ?_, ?_, ?_, ?_, ?_, ?_, ?_, ?_, ?_, ?_, ?_, ?_, trivial⟩
      all_goals first
        | exact eqB_eq rfl
        | exact hin
        | rfl
        | (simp; done)
        | (simp; omega)
        | (rw [hins]; simp; done)
        | (simp; exact fun h => by rw [h] at hne; simp at hne)
        | (simp [encC, fitP, fld, leafFits, V.cells, hjn]; done)
  · obtain ⟨h4, hs⟩ := aud_none h2
    rw [h4] at hE
    refine Runs.way (F := F) (sh := Sh) (S := W8 n bs a b l) (W8_ok hclk) (L := fun _ _ => .fail) (fi := fi8) (by kernel_rfl) (fun _ _ _ _ h => by cases h) [(n == n, true),
    (eqB (List.map encB bs) (List.map encB bs), true),
    (decide (a = a), true),
    (decide (b = b), true),
    (eqB (List.map encC l) (List.map encC (List.map decC (List.map encC l))), true),
    ((List.map decC (List.map encC l)).all inCb, true),
    (P.auE (List.map decC (List.map encC l)) == 4, true),
    ((l.isEmpty) == l.isEmpty, true),
    (eqB (List.map encC l) (List.map encC l), true),
    (decide ((List.map encC l).length ≤ 40), true),
    (P.sameAt (List.map decC (List.map encC l)), true)] [2, 3, 4, 5, 6, 7, 0, 8, 9, 10, 6, 11, 12, 0, 0] (by kernel_rfl) ?_
    rw [dec_enc, hE, hs]
    exact ⟨by simp, eqB_eq rfl, by simp, by simp, eqB_eq rfl, hin, rfl, by simp, eqB_eq rfl, by simp; omega, rfl, trivial⟩
theorem lawStampClock : ∀ xs, AllV T 8 [22, 54, 54, 54, 5] xs → ∃ k, vcall T F k 8 xs [] = some (.bool true, []) := by
  intro xs hxs
  obtain ⟨v, xs, rfl, hv, hxs⟩ := allV_cons hxs
  obtain ⟨va, xs, rfl, hva, hxs⟩ := allV_cons hxs
  obtain ⟨vb, xs, rfl, hvb, hxs⟩ := allV_cons hxs
  obtain ⟨vr, xs, rfl, hvr, hxs⟩ := allV_cons hxs
  obtain ⟨vo, xs, rfl, hvo, hxs⟩ := allV_cons hxs
  obtain rfl := allV_nil hxs
  obtain ⟨n, bs, rfl, hb, hbl, _⟩ := hasV_ints (i := { kind := .slice 5, size := 1, bytes := 24, zero := .sl true [], leaves := [] }) (j := { kind := .int .u8, size := 1, bytes := 1, zero := .int .u8 0, leaves := [] }) (by kernel_rfl) rfl (by kernel_rfl) rfl hv
  obtain ⟨a, rfl, ha⟩ := hasV_int (i := { kind := .int .i16, size := 1, bytes := 2, zero := .int .i16 0, leaves := [] }) (by kernel_rfl) rfl hva
  obtain ⟨b, rfl, hb2⟩ := hasV_int (i := { kind := .int .i16, size := 1, bytes := 2, zero := .int .i16 0, leaves := [] }) (by kernel_rfl) rfl hvb
  obtain ⟨r, rfl, hr⟩ := hasV_int (i := { kind := .int .i16, size := 1, bytes := 2, zero := .int .i16 0, leaves := [] }) (by kernel_rfl) rfl hvr
  obtain ⟨o, rfl, ho⟩ := hasV_int (i := { kind := .int .u8, size := 1, bytes := 1, zero := .int .u8 0, leaves := [] }) (by kernel_rfl) rfl hvo
  have hb' : ∀ x ∈ bs, 0 ≤ x ∧ x ≤ 255 := fun x hx => by
    have := hb x hx
    simp [Lit.wf, IntKind.min, IntKind.max, IntKind.signed, IntKind.bits] at this
    exact this
  simp [Lit.wf, IntKind.min, IntKind.max, IntKind.signed, IntKind.bits] at ha hb2 hr ho
  obtain ⟨l, t, i, z, hl, hg, hr'⟩ := clk_loop n bs hb' a b ⟨by omega, by omega⟩ ⟨by omega, by omega⟩ 15 0 [] 0 rfl rfl .nil
  have hL := LGood.one (c := fi23.body) (b := lb fi23 0) (k := 4) (σ0 := pSt n bs a b [] 0 0) (by kernel_rfl) hr'
  have hclk : Runs T F 23 [V.sl n (List.map encB bs), .int .i16 a, .int .i16 b] [] (.ex 3 l.isEmpty (l.map encC), []) := by
    exact Runs.way (F := F) (sh := Sh) (S := noSpec) Vm.Good.no (fi := fi23) (by kernel_rfl) hL [(is { env := [(0, V.sl n (List.map encB bs)), (1, V.int IntKind.i16 a), (2, V.int IntKind.i16 b), (7, V.ex 3 true []), (8, V.int IntKind.i64 0), (9, V.int IntKind.i64 0)], heap := [] } { env := [(0, V.sl n (List.map encB bs)), (1, V.int IntKind.i16 a), (2, V.int IntKind.i16 b), (7, V.ex 3 true []), (8, V.int IntKind.i64 0), (9, V.int IntKind.i64 0)], heap := [] }, true)] [2] (by kernel_rfl) ⟨is_self _, trivial⟩
  exact clock_runs n bs a b r o ⟨by omega, by omega⟩ ⟨by omega, by omega⟩ ⟨by omega, by omega⟩ ⟨by omega, by omega⟩ l hl t hg hclk
end Go.Proofs.Ytgmdkjiflhklaaa
