/- B5: what Audit tells, in plain numbers: the least and the greatest slope of all pairs. -/
import Derived.Test.YtgmdkjiflhklaaaB4
namespace Go.Proofs.Ytgmdkjiflhklaaa
open Go Go.Vm

theorem rn_rd {n d : Int} (hd : 0 < d) : P.rn n d * d = n * P.rd n d ∧ 0 < P.rd n d := by
  have hg : 0 < P.gcd n d := by
    unfold P.gcd
    have : 0 < Int.gcd n d := Int.gcd_pos_of_ne_zero_right n (by omega)
    omega
  obtain ⟨n', hn⟩ : P.gcd n d ∣ n := Int.gcd_dvd_left ..
  obtain ⟨d', hd'⟩ : P.gcd n d ∣ d := Int.gcd_dvd_right ..
  have e1 : P.rn n d = n' := by unfold P.rn; conv => lhs; lhs; rw [hn]
                                exact Int.mul_tdiv_cancel_left _ (by omega)
  have e2 : P.rd n d = d' := by unfold P.rd; conv => lhs; lhs; rw [hd']
                                exact Int.mul_tdiv_cancel_left _ (by omega)
  generalize P.gcd n d = g at *
  rw [e1, e2]
  subst hn
  refine ⟨?_, ?_⟩
  · rw [hd', Int.mul_left_comm, Int.mul_assoc]
  · rw [hd'] at hd
    rcases Int.lt_or_le 0 d' with h | h
    · exact h
    · have := Int.mul_le_mul_of_nonneg_left h (Int.le_of_lt hg)
      rw [Int.mul_zero] at this
      omega

theorem frac_trans {a b c d e f : Int} (hb : 0 < b) (hd : 0 < d) (hf : 0 < f) (h1 : a * d ≤ c * b) (h2 : c * f ≤ e * d) : a * f ≤ e * b := by
  have k1 := Int.mul_le_mul_of_nonneg_right h1 (Int.le_of_lt hf)
  have k2 := Int.mul_le_mul_of_nonneg_right h2 (Int.le_of_lt hb)
  have e1 : a * d * f = a * f * d := Int.mul_right_comm a d f
  have e2 : c * b * f = c * f * b := Int.mul_right_comm c b f
  have e3 : e * d * b = e * b * d := Int.mul_right_comm e d b
  refine Int.le_of_mul_le_mul_right ?_ hd
  rw [← e1, ← e3]
  rw [e2] at k1
  exact Int.le_trans k1 k2

theorem cmp_pos {a b c d : Int} : P.cmp a b c d > 0 ↔ c * b < a * d := by
  unfold P.cmp
  split
  · omega
  · split <;> omega
theorem cmp_neg {a b c d : Int} : P.cmp a b c d < 0 ↔ a * d < c * b := by
  unfold P.cmp
  split
  · omega
  · split <;> omega

/-- What is known of the collected slopes, once some pairs were looked at. -/
structure Inv (S : Chk → Chk → Prop) (b : Bd) : Prop where
  fd : b.fd = true ↔ ∃ x y, S x y ∧ x.at_ < y.at_
  em : b.em = true ↔ ∃ x y, S x y ∧ x.at_ = y.at_ ∧ x.lo > y.hi
  pos : b.fd = true → 0 < b.lD ∧ 0 < b.mD
  lmem : b.fd = true → ∃ x y, S x y ∧ x.at_ < y.at_ ∧ b.lN * (y.at_ - x.at_) = (y.lo - x.hi) * b.lD
  lmax : b.fd = true → ∀ x y, S x y → x.at_ < y.at_ → (y.lo - x.hi) * b.lD ≤ b.lN * (y.at_ - x.at_)
  mmem : b.fd = true → ∃ x y, S x y ∧ x.at_ < y.at_ ∧ b.mN * (y.at_ - x.at_) = (y.hi - x.lo) * b.mD
  mmin : b.fd = true → ∀ x y, S x y → x.at_ < y.at_ → b.mN * (y.at_ - x.at_) ≤ (y.hi - x.lo) * b.mD

theorem Inv.congr {S S' : Chk → Chk → Prop} {b : Bd} (h : Inv S b) (e : ∀ x y, S x y ↔ S' x y) : Inv S' b := by
  have : S = S' := by funext x y; exact propext (e x y)
  rw [← this]; exact h

def plus (S : Chk → Chk → Prop) (u v : Chk) : Chk → Chk → Prop := fun x y => S x y ∨ (x = u ∧ y = v)

theorem Inv.add {S : Chk → Chk → Prop} {b : Bd} (h : Inv S b) {u v : Chk} {i k : Int} (huv : u.at_ < v.at_) : Inv (plus S u v) (addB u v i k b) := by
  have hd : 0 < v.at_ - u.at_ := by omega
  obtain ⟨q1, q2⟩ := rn_rd (n := v.lo - u.hi) hd
  obtain ⟨q3, q4⟩ := rn_rd (n := v.hi - u.lo) hd
  have hfd : (addB u v i k b).fd = true := rfl
  have hem : (addB u v i k b).em = b.em := rfl
  -- the least slope
  have hl : 0 < (addB u v i k b).lD ∧ (∃ x y, plus S u v x y ∧ x.at_ < y.at_ ∧ (addB u v i k b).lN * (y.at_ - x.at_) = (y.lo - x.hi) * (addB u v i k b).lD) ∧
      ∀ x y, plus S u v x y → x.at_ < y.at_ → (y.lo - x.hi) * (addB u v i k b).lD ≤ (addB u v i k b).lN * (y.at_ - x.at_) := by
    by_cases hp : (!b.fd || decide (P.cmp (P.rn (v.lo - u.hi) (v.at_ - u.at_)) (P.rd (v.lo - u.hi) (v.at_ - u.at_)) b.lN b.lD > 0)) = true
    · have e1 : (addB u v i k b).lN = P.rn (v.lo - u.hi) (v.at_ - u.at_) := by simp only [addB, hp, if_true]
      have e2 : (addB u v i k b).lD = P.rd (v.lo - u.hi) (v.at_ - u.at_) := by simp only [addB, hp, if_true]
      rw [e1, e2]
      refine ⟨q2, ⟨u, v, .inr ⟨rfl, rfl⟩, huv, q1⟩, fun x y hs hxy => ?_⟩
      rcases hs with hs | ⟨rfl, rfl⟩
      · have hfd' : b.fd = true := h.fd.2 ⟨x, y, hs, hxy⟩
        simp only [hfd', Bool.not_true, Bool.false_or, decide_eq_true_eq, cmp_pos] at hp
        exact frac_trans (by omega) (h.pos hfd').1 q2 (h.lmax hfd' x y hs hxy) (Int.le_of_lt hp)
      · rw [q1]; exact Int.le_refl _
    · have hfd' : b.fd = true := by
        cases hb : b.fd with
        | true => rfl
        | false => rw [hb] at hp; simp at hp
      have hp' : P.rn (v.lo - u.hi) (v.at_ - u.at_) * b.lD ≤ b.lN * P.rd (v.lo - u.hi) (v.at_ - u.at_) := by
        simp only [hfd', Bool.not_true, Bool.false_or, decide_eq_true_eq, cmp_pos] at hp
        omega
      have e1 : (addB u v i k b).lN = b.lN := by simp only [addB, hp, if_false, Bool.false_eq_true]
      have e2 : (addB u v i k b).lD = b.lD := by simp only [addB, hp, if_false, Bool.false_eq_true]
      rw [e1, e2]
      obtain ⟨x0, y0, s0, a0, m0⟩ := h.lmem hfd'
      refine ⟨(h.pos hfd').1, ⟨x0, y0, .inl s0, a0, m0⟩, fun x y hs hxy => ?_⟩
      rcases hs with hs | ⟨rfl, rfl⟩
      · exact h.lmax hfd' x y hs hxy
      · exact frac_trans hd q2 (h.pos hfd').1 (Int.le_of_eq q1.symm) hp'
  have hm : 0 < (addB u v i k b).mD ∧ (∃ x y, plus S u v x y ∧ x.at_ < y.at_ ∧ (addB u v i k b).mN * (y.at_ - x.at_) = (y.hi - x.lo) * (addB u v i k b).mD) ∧
      ∀ x y, plus S u v x y → x.at_ < y.at_ → (addB u v i k b).mN * (y.at_ - x.at_) ≤ (y.hi - x.lo) * (addB u v i k b).mD := by
    by_cases hp : (!b.fd || decide (P.cmp (P.rn (v.hi - u.lo) (v.at_ - u.at_)) (P.rd (v.hi - u.lo) (v.at_ - u.at_)) b.mN b.mD < 0)) = true
    · have e1 : (addB u v i k b).mN = P.rn (v.hi - u.lo) (v.at_ - u.at_) := by simp only [addB, hp, if_true]
      have e2 : (addB u v i k b).mD = P.rd (v.hi - u.lo) (v.at_ - u.at_) := by simp only [addB, hp, if_true]
      rw [e1, e2]
      refine ⟨q4, ⟨u, v, .inr ⟨rfl, rfl⟩, huv, q3⟩, fun x y hs hxy => ?_⟩
      rcases hs with hs | ⟨rfl, rfl⟩
      · have hfd' : b.fd = true := h.fd.2 ⟨x, y, hs, hxy⟩
        simp only [hfd', Bool.not_true, Bool.false_or, decide_eq_true_eq, cmp_neg] at hp
        exact frac_trans q4 (h.pos hfd').2 (by omega) (Int.le_of_lt hp) (h.mmin hfd' x y hs hxy)
      · rw [q3]; exact Int.le_refl _
    · have hfd' : b.fd = true := by
        cases hb : b.fd with
        | true => rfl
        | false => rw [hb] at hp; simp at hp
      have hp' : b.mN * P.rd (v.hi - u.lo) (v.at_ - u.at_) ≤ P.rn (v.hi - u.lo) (v.at_ - u.at_) * b.mD := by
        simp only [hfd', Bool.not_true, Bool.false_or, decide_eq_true_eq, cmp_neg] at hp
        omega
      have e1 : (addB u v i k b).mN = b.mN := by simp only [addB, hp, if_false, Bool.false_eq_true]
      have e2 : (addB u v i k b).mD = b.mD := by simp only [addB, hp, if_false, Bool.false_eq_true]
      rw [e1, e2]
      obtain ⟨x0, y0, s0, a0, m0⟩ := h.mmem hfd'
      refine ⟨(h.pos hfd').2, ⟨x0, y0, .inl s0, a0, m0⟩, fun x y hs hxy => ?_⟩
      rcases hs with hs | ⟨rfl, rfl⟩
      · exact h.mmin hfd' x y hs hxy
      · exact frac_trans (h.pos hfd').2 q4 hd hp' (Int.le_of_eq q3)
  refine ⟨⟨fun _ => ⟨u, v, .inr ⟨rfl, rfl⟩, huv⟩, fun _ => hfd⟩, ?_, fun _ => ⟨hl.1, hm.1⟩, fun _ => hl.2.1, fun _ => hl.2.2, fun _ => hm.2.1, fun _ => hm.2.2⟩
  rw [hem, h.em]
  constructor
  · rintro ⟨x, y, hs, h1, h2⟩; exact ⟨x, y, .inl hs, h1, h2⟩
  · rintro ⟨x, y, hs | ⟨rfl, rfl⟩, h1, h2⟩
    · exact ⟨x, y, hs, h1, h2⟩
    · omega

theorem Inv.step {S : Chk → Chk → Prop} {b : Bd} (h : Inv S b) (l : List Chk) (i k : Nat) : Inv (plus S (chk l i) (chk l k)) (stepB l i k b) := by
  unfold stepB
  split
  · rename_i hlt; exact h.add hlt
  · rename_i hnlt
    have keep : ∀ x y, plus S (chk l i) (chk l k) x y → x.at_ < y.at_ → S x y := by
      rintro x y (hs | ⟨rfl, rfl⟩) hxy
      · exact hs
      · exact absurd hxy hnlt
    have fdx : (∃ x y, S x y ∧ x.at_ < y.at_) ↔ ∃ x y, plus S (chk l i) (chk l k) x y ∧ x.at_ < y.at_ :=
      ⟨fun ⟨x, y, hs, hxy⟩ => ⟨x, y, .inl hs, hxy⟩, fun ⟨x, y, hs, hxy⟩ => ⟨x, y, keep x y hs hxy, hxy⟩⟩
    have lm : b.fd = true → ∃ x y, plus S (chk l i) (chk l k) x y ∧ x.at_ < y.at_ ∧ b.lN * (y.at_ - x.at_) = (y.lo - x.hi) * b.lD := fun hf => by
      obtain ⟨x, y, hs, r⟩ := h.lmem hf; exact ⟨x, y, .inl hs, r⟩
    have mm : b.fd = true → ∃ x y, plus S (chk l i) (chk l k) x y ∧ x.at_ < y.at_ ∧ b.mN * (y.at_ - x.at_) = (y.hi - x.lo) * b.mD := fun hf => by
      obtain ⟨x, y, hs, r⟩ := h.mmem hf; exact ⟨x, y, .inl hs, r⟩
    split
    · rename_i hem
      refine ⟨by rw [← fdx]; exact h.fd, ⟨fun _ => ⟨_, _, .inr ⟨rfl, rfl⟩, hem.1, hem.2⟩, fun _ => rfl⟩, h.pos, lm, fun hf x y hs hxy => h.lmax hf x y (keep x y hs hxy) hxy, mm, fun hf x y hs hxy => h.mmin hf x y (keep x y hs hxy) hxy⟩
    · rename_i hnem
      refine ⟨by rw [← fdx]; exact h.fd, ?_, h.pos, lm, fun hf x y hs hxy => h.lmax hf x y (keep x y hs hxy) hxy, mm, fun hf x y hs hxy => h.mmin hf x y (keep x y hs hxy) hxy⟩
      rw [h.em]
      constructor
      · rintro ⟨x, y, hs, r⟩; exact ⟨x, y, .inl hs, r⟩
      · rintro ⟨x, y, hs | ⟨rfl, rfl⟩, r⟩
        · exact ⟨x, y, hs, r⟩
        · exact absurd r hnem

theorem Inv.rest (l : List Chk) (i : Nat) : ∀ (d k : Nat) {S : Chk → Chk → Prop} {b : Bd}, Inv S b → Inv (fun x y => S x y ∨ (x = chk l i ∧ ∃ j : Nat, k ≤ j ∧ j < k + d ∧ y = chk l j)) (restB l i d k b)
  | 0, k, S, b, h => h.congr fun x y => ⟨.inl, fun hq => hq.elim id fun ⟨_, j, h1, h2, _⟩ => absurd h2 (by omega)⟩
  | d + 1, k, S, b, h => (Inv.rest l i d (k + 1) (h.step l i k)).congr fun x y => by
    constructor
    · rintro ((hs | ⟨rfl, rfl⟩) | ⟨rfl, j, h1, h2, rfl⟩)
      · exact .inl hs
      · exact .inr ⟨rfl, k, Nat.le_refl _, by omega, rfl⟩
      · exact .inr ⟨rfl, j, by omega, by omega, rfl⟩
    · rintro (hs | ⟨rfl, j, h1, h2, rfl⟩)
      · exact .inl (.inl hs)
      · by_cases hj : j = k
        · subst hj; exact .inl (.inr ⟨rfl, rfl⟩)
        · exact .inr ⟨rfl, j, by omega, by omega, rfl⟩
theorem Inv.all (l : List Chk) : ∀ (d i : Nat) {S : Chk → Chk → Prop} {b : Bd}, Inv S b → Inv (fun x y => S x y ∨ ∃ m j : Nat, i ≤ m ∧ m < i + d ∧ j < l.length ∧ x = chk l m ∧ y = chk l j) (allB l d i b)
  | 0, i, S, b, h => h.congr fun x y => ⟨.inl, fun hq => hq.elim id fun ⟨m, j, h1, h2, _⟩ => absurd h2 (by omega)⟩
  | d + 1, i, S, b, h => (Inv.all l d (i + 1) (Inv.rest l i l.length 0 h)).congr fun x y => by
    constructor
    · rintro ((hs | ⟨rfl, j, h1, h2, rfl⟩) | ⟨m, j, h1, h2, h3, rfl, rfl⟩)
      · exact .inl hs
      · exact .inr ⟨i, j, Nat.le_refl _, by omega, by omega, rfl, rfl⟩
      · exact .inr ⟨m, j, by omega, by omega, h3, rfl, rfl⟩
    · rintro (hs | ⟨m, j, h1, h2, h3, rfl, rfl⟩)
      · exact .inl (.inl hs)
      · by_cases hm : m = i
        · subst hm; exact .inl (.inr ⟨rfl, j, by omega, by omega, rfl⟩)
        · exact .inr ⟨m, j, by omega, by omega, h3, rfl, rfl⟩

/-- **What Audit has collected** of all pairs. -/
theorem audB_inv (l : List Chk) : Inv (fun x y => x ∈ l ∧ y ∈ l) (audB l) := by
  have h0 : Inv (fun _ _ => False) {} := by
    refine ⟨?_, ?_, ?_, ?_, ?_, ?_, ?_⟩ <;> simp
  refine (Inv.all l l.length 0 h0).congr fun x y => ?_
  constructor
  · rintro (hs | ⟨m, j, h1, h2, h3, rfl, rfl⟩)
    · exact hs.elim
    · rw [chk_at l m (by omega), chk_at l j h3]
      exact ⟨List.getElem_mem _, List.getElem_mem _⟩
  · rintro ⟨hx, hy⟩
    obtain ⟨m, hm, rfl⟩ := List.mem_iff_getElem.1 hx
    obtain ⟨j, hj, rfl⟩ := List.mem_iff_getElem.1 hy
    exact .inr ⟨m, j, by omega, by omega, hj, (chk_at l m hm).symm, (chk_at l j hj).symm⟩

/-- **When Audit finds nothing wrong.** -/
theorem audE_zero (l : List Chk) : audE l = 0 ↔ (∃ x y, (x ∈ l ∧ y ∈ l) ∧ x.at_ < y.at_) ∧ (¬ ∃ x y, (x ∈ l ∧ y ∈ l) ∧ x.at_ = y.at_ ∧ x.lo > y.hi) ∧
    ∀ x y, x ∈ l → y ∈ l → x.at_ < y.at_ → ∀ u v, u ∈ l → v ∈ l → u.at_ < v.at_ → (y.lo - x.hi) * (v.at_ - u.at_) ≤ (v.hi - u.lo) * (y.at_ - x.at_) := by
  have h := audB_inv l
  unfold audE
  by_cases hf : (audB l).fd = true
  · rw [if_neg (by rw [hf]; simp)]
    obtain ⟨p1, p2⟩ := h.pos hf
    by_cases he : (audB l).em = true
    · rw [if_pos (.inl he)]
      constructor
      · intro hq; cases hq
      · rintro ⟨_, hq, _⟩; exact absurd (h.em.1 he) hq
    · by_cases hc : P.cmp (audB l).lN (audB l).lD (audB l).mN (audB l).mD > 0
      · rw [if_pos (.inr hc)]
        constructor
        · intro hq; cases hq
        · rintro ⟨_, _, hq⟩
          obtain ⟨x, y, ⟨hx, hy⟩, hxy, e1⟩ := h.lmem hf
          obtain ⟨u, v, ⟨hu, hv⟩, huv, e2⟩ := h.mmem hf
          have := hq x y hx hy hxy u v hu hv huv
          rw [cmp_pos] at hc
          have k1 : (audB l).lN * (v.at_ - u.at_) ≤ (v.hi - u.lo) * (audB l).lD := frac_trans p1 (by omega) (by omega) (Int.le_of_eq e1) this
          have k2 : (audB l).lN * (audB l).mD ≤ (audB l).mN * (audB l).lD := frac_trans p1 (by omega) p2 k1 (Int.le_of_eq e2.symm)
          omega
      · rw [if_neg (fun hq => hq.elim he hc)]
        refine ⟨fun _ => ⟨h.fd.1 hf, fun hq => he (h.em.2 hq), fun x y hx hy hxy u v hu hv huv => ?_⟩, fun _ => rfl⟩
        rw [cmp_pos] at hc
        have k1 := h.lmax hf x y ⟨hx, hy⟩ hxy
        have k2 := h.mmin hf u v ⟨hu, hv⟩ huv
        have k3 : (y.lo - x.hi) * (audB l).mD ≤ (audB l).mN * (y.at_ - x.at_) := frac_trans (by omega) p1 p2 k1 (by omega)
        exact frac_trans (by omega) p2 (by omega) k3 k2
  · have hf' : (audB l).fd = false := by simpa using hf
    rw [if_pos hf']
    constructor
    · intro hq; cases hq
    · rintro ⟨hq, _⟩; exact absurd (h.fd.2 hq) hf
end Go.Proofs.Ytgmdkjiflhklaaa
