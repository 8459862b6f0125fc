/- B9: StampFours: four checks tell all, in plain numbers. -/
import Derived.Test.YtgmdkjiflhklaaaB8
namespace Go.Proofs.Ytgmdkjiflhklaaa
open Go Go.Vm

theorem Grow.lt {l : List Chk} {a : Int} (h : Grow l a) : (∀ c ∈ l, c.at_ ≤ a ∧ 0 < c.at_ ∧ -30 ≤ c.lo ∧ c.lo ≤ c.hi ∧ c.hi ≤ 100) ∧ ∀ (i j : Nat) (hi : i < l.length) (hj : j < l.length), i < j → l[i].at_ < l[j].at_ := by
  induction h with
  | nil => exact ⟨by simp, fun i j hi => by simp at hi⟩
  | @snoc l a c hg h1 h2 h3 h4 h5 ih =>
    obtain ⟨i1, i2⟩ := ih
    have hb := hg.bound
    refine ⟨fun x hx => ?_, fun i j hi hj hij => ?_⟩
    · rcases List.mem_append.1 hx with hx | hx
      · obtain ⟨a1, a2, a3⟩ := i1 x hx; exact ⟨by omega, a2, a3⟩
      · simp only [List.mem_singleton] at hx; subst hx; exact ⟨Int.le_refl _, by omega, h3, h4, h5⟩
    · have hil : i < l.length := by simp at hj; omega
      rw [List.getElem_append_left hil]
      by_cases hjl : j < l.length
      · rw [List.getElem_append_left hjl]; exact i2 i j hil hjl hij
      · have : j = l.length := by simp at hj; omega
        subst this
        have := (i1 l[i] (List.getElem_mem _)).1
        simp; omega
theorem Grow.ok {l : List Chk} {a : Int} (h : Grow l a) (hl : l.length ≤ 8) : ∀ c ∈ l, OkC c := fun c hc => by
  obtain ⟨h1, h2, h3, h4, h5⟩ := h.lt.1 c hc
  have := h.bound
  exact ⟨by omega, by omega, by omega, by omega, h4⟩
/-- Of one second, one check. -/
theorem Grow.same {l : List Chk} {a : Int} (h : Grow l a) {x y : Chk} (hx : x ∈ l) (hy : y ∈ l) (e : x.at_ = y.at_) : x = y := by
  obtain ⟨i, hi, rfl⟩ := List.mem_iff_getElem.1 hx
  obtain ⟨j, hj, rfl⟩ := List.mem_iff_getElem.1 hy
  rcases Nat.lt_trichotomy i j with hij | hij | hij
  · have := h.lt.2 i j hi hj hij; omega
  · subst hij; rfl
  · have := h.lt.2 j i hj hi hij; omega

theorem audE_cases (l : List Chk) (h : ∃ x y, (x ∈ l ∧ y ∈ l) ∧ x.at_ < y.at_) : audE l = 0 ∨ audE l = 12 := by
  have hf := (audB_inv l).fd.2 h
  unfold audE
  rw [if_neg (by rw [hf]; simp)]
  split
  · exact .inr rfl
  · exact .inl rfl
theorem mono_zero {l o : List Chk} {a : Int} (hg : Grow l a) (ho : ∀ c ∈ o, c ∈ l) (hf : ∃ x y, (x ∈ o ∧ y ∈ o) ∧ x.at_ < y.at_) (h : audE l = 0) : audE o = 0 := by
  obtain ⟨_, _, h3⟩ := (audE_zero l).1 h
  refine (audE_zero o).2 ⟨hf, ?_, fun x y hx hy hxy u v hu hv huv => h3 x y (ho x hx) (ho y hy) hxy u v (ho u hu) (ho v hv) huv⟩
  rintro ⟨x, y, ⟨hx, hy⟩, e, hlo⟩
  have := hg.same (ho x hx) (ho y hy) e
  subst this
  have := (hg.lt.1 x (ho x hx)).2.2.2.1
  omega

theorem subF_two (s : Nat) (l : List Chk) : ∀ k, k ≤ l.length → 1 ≤ (subF s l k).length → ∃ j, j < k ∧ s.testBit j = true
  | 0, _, h => by simp [subF] at h
  | k + 1, hk, h => by
    by_cases hb : s.testBit k = true
    · exact ⟨k, by omega, hb⟩
    · have hb' : s.testBit k = false := by simpa using hb
      simp only [subF, hb', Bool.false_eq_true, if_false, List.append_nil] at h
      obtain ⟨j, h1, h2⟩ := subF_two s l k (by omega) h
      exact ⟨j, by omega, h2⟩
theorem subF_pair (s : Nat) (l : List Chk) : ∀ k, k ≤ l.length → 2 ≤ (subF s l k).length → ∃ i j, i < j ∧ j < k ∧ s.testBit i = true ∧ s.testBit j = true
  | 0, _, h => by simp [subF] at h
  | k + 1, hk, h => by
    by_cases hb : s.testBit k = true
    · simp only [subF, hb, if_true, List.length_append, List.length_singleton] at h
      obtain ⟨j, h1, h2⟩ := subF_two s l k (by omega) (by omega)
      exact ⟨j, k, h1, by omega, h2, hb⟩
    · have hb' : s.testBit k = false := by simpa using hb
      simp only [subF, hb', Bool.false_eq_true, if_false, List.append_nil] at h
      obtain ⟨i, j, h1, h2, h3, h4⟩ := subF_pair s l k (by omega) h
      exact ⟨i, j, h1, by omega, h3, h4⟩
theorem sub_found {l : List Chk} {a : Int} (hg : Grow l a) {s : Nat} (h : 2 ≤ (subF s l l.length).length) : ∃ x y, (x ∈ subF s l l.length ∧ y ∈ subF s l l.length) ∧ x.at_ < y.at_ := by
  obtain ⟨i, j, h1, h2, h3, h4⟩ := subF_pair s l l.length (Nat.le_refl _) h
  exact ⟨l[i], l[j], ⟨subF_in s l _ (Nat.le_refl _) i (by omega) (by omega) h3, subF_in s l _ (Nat.le_refl _) j h2 h2 h4⟩, hg.lt.2 i j (by omega) h2 h1⟩
theorem sub_sub {l : List Chk} {s : Nat} : ∀ c ∈ subF s l l.length, c ∈ l := fun c hc => by
  obtain ⟨j, h, _, _, rfl⟩ := subF_mem s l _ (Nat.le_refl _) c hc
  exact List.getElem_mem _

theorem subF_or (s i : Nat) (l : List Chk) : ∀ k, (subF (s ||| 2 ^ i) l k).length ≤ (subF s l k).length + (if i < k then 1 else 0)
  | 0 => by simp [subF]
  | k + 1 => by
    have ih := subF_or s i l k
    have hb : (s ||| 2 ^ i).testBit k = (s.testBit k || decide (i = k)) := by rw [Nat.testBit_or, Nat.testBit_two_pow]
    simp only [subF, hb, List.length_append]
    by_cases hik : i = k
    · subst hik
      rw [if_neg (Nat.lt_irrefl i)] at ih
      simp only [decide_true, Bool.or_true, if_true, List.length_singleton]
      rw [if_pos (Nat.lt_succ_self i)]
      split <;> simp <;> omega
    · simp only [hik, decide_false, Bool.or_false]
      by_cases hlt : i < k
      · have e : (if i < k + 1 then 1 else 0) = (1 : Nat) := if_pos (by omega)
        rw [if_pos hlt] at ih; rw [e]; omega
      · have e : (if i < k + 1 then 1 else 0) = (0 : Nat) := if_neg (by omega)
        rw [if_neg hlt] at ih; rw [e]; omega
theorem subF_zero (l : List Chk) : ∀ k, subF 0 l k = []
  | 0 => rfl
  | k + 1 => by simp [subF, subF_zero l k]

/-- **If all together fail, some four do.** -/
theorem four_fail {l : List Chk} {a : Int} (hg : Grow l a) (h2 : 2 ≤ l.length) (h : audE l ≠ 0) : ∃ s, s < 2 ^ l.length ∧ 2 ≤ (subF s l l.length).length ∧ (subF s l l.length).length ≤ 4 ∧ audE (subF s l l.length) ≠ 0 := by
  have hn : ¬ ∀ x y, x ∈ l → y ∈ l → x.at_ < y.at_ → ∀ u v, u ∈ l → v ∈ l → u.at_ < v.at_ → (y.lo - x.hi) * (v.at_ - u.at_) ≤ (v.hi - u.lo) * (y.at_ - x.at_) := fun hq => h ((audE_zero l).2 ⟨⟨l[0], l[1], ⟨List.getElem_mem _, List.getElem_mem _⟩, hg.lt.2 0 1 (by omega) (by omega) (by omega)⟩, by
    rintro ⟨x, y, ⟨hx, hy⟩, e, hlo⟩
    have := hg.same hx hy e
    subst this
    have := (hg.lt.1 x hx).2.2.2.1
    omega, hq⟩)
  simp only [Classical.not_forall] at hn
  obtain ⟨x, y, hx, hy, hxy, u, v, hu, hv, huv, hbad⟩ := hn
  obtain ⟨i1, k1, rfl⟩ := List.mem_iff_getElem.1 hx
  obtain ⟨i2, k2, rfl⟩ := List.mem_iff_getElem.1 hy
  obtain ⟨i3, k3, rfl⟩ := List.mem_iff_getElem.1 hu
  obtain ⟨i4, k4, rfl⟩ := List.mem_iff_getElem.1 hv
  have hbit : ∀ j, ((((0 ||| 2 ^ i1) ||| 2 ^ i2) ||| 2 ^ i3) ||| 2 ^ i4).testBit j = (decide (i1 = j) || decide (i2 = j) || decide (i3 = j) || decide (i4 = j)) := fun j => by
    simp only [Nat.testBit_or, Nat.testBit_two_pow, Nat.zero_testBit, Bool.false_or]
  have hlt : ((((0 ||| 2 ^ i1) ||| 2 ^ i2) ||| 2 ^ i3) ||| 2 ^ i4) < 2 ^ l.length := by
    have p : ∀ i, i < l.length → 2 ^ i < 2 ^ l.length := fun i hi => Nat.pow_lt_pow_right (by omega) hi
    exact Nat.or_lt_two_pow (Nat.or_lt_two_pow (Nat.or_lt_two_pow (Nat.or_lt_two_pow (Nat.pow_pos (by omega)) (p i1 k1)) (p i2 k2)) (p i3 k3)) (p i4 k4)
  have hlen : (subF ((((0 ||| 2 ^ i1) ||| 2 ^ i2) ||| 2 ^ i3) ||| 2 ^ i4) l l.length).length ≤ 4 := by
    have q1 := subF_or 0 i1 l l.length
    have q2 := subF_or (0 ||| 2 ^ i1) i2 l l.length
    have q3 := subF_or ((0 ||| 2 ^ i1) ||| 2 ^ i2) i3 l l.length
    have q4 := subF_or (((0 ||| 2 ^ i1) ||| 2 ^ i2) ||| 2 ^ i3) i4 l l.length
    rw [subF_zero] at q1
    simp only [List.length_nil] at q1
    have b : ∀ i : Nat, (if i < l.length then 1 else 0) ≤ 1 := fun i => by split <;> omega
    have := b i1; have := b i2; have := b i3; have := b i4
    omega
  generalize ((((0 ||| 2 ^ i1) ||| 2 ^ i2) ||| 2 ^ i3) ||| 2 ^ i4) = s at *
  have m1 : l[i1] ∈ subF s l l.length := subF_in s l _ (Nat.le_refl _) i1 k1 k1 (by rw [hbit]; simp)
  have m2 : l[i2] ∈ subF s l l.length := subF_in s l _ (Nat.le_refl _) i2 k2 k2 (by rw [hbit]; simp)
  have m3 : l[i3] ∈ subF s l l.length := subF_in s l _ (Nat.le_refl _) i3 k3 k3 (by rw [hbit]; simp)
  have m4 : l[i4] ∈ subF s l l.length := subF_in s l _ (Nat.le_refl _) i4 k4 k4 (by rw [hbit]; simp)
  refine ⟨s, hlt, ?_, hlen, fun h0 => hbad (((audE_zero _).1 h0).2.2 _ _ m1 m2 hxy _ _ m3 m4 huv)⟩
  match ho : subF s l l.length with
  | [] => rw [ho] at m1; cases m1
  | [c] =>
    rw [ho] at m1 m2
    simp only [List.mem_singleton] at m1 m2
    rw [m1, m2] at hxy
    omega
  | _ :: _ :: _ => simp
end Go.Proofs.Ytgmdkjiflhklaaa
