/- K3: polls: the interval of an offset. -/
import Derived.Test.YtgmdkjiflhklaaaK2
import Derived.Test.YtgmdkjiflhklaaaH2
import Derived.Test.YtgmdkjiflhklaaaA6
namespace Go.Proofs.Ytgmdkjiflhklaaa
open Go Go.Vm
noncomputable def S84 : Vm.Spec := S82.add 84 (inl T Sh S82 0 0 fi84)
theorem S84_ok : Vm.Good (vlim T F) S84 := S82_ok.inl (by kernel_rfl) 0 0 (by kernel_rfl)
noncomputable def S84a : Vm.Spec := S84.add 104 (inl T Sh S84 5 1 fi104)
theorem S84a_ok : Vm.Good (vlim T F) S84a := S84_ok.inl (by kernel_rfl) 5 1 (by kernel_rfl)
noncomputable def S84b : Vm.Spec := S84a.add 81 (inl T Sh S84a 0 0 fi81)
theorem S84b_ok : Vm.Good (vlim T F) S84b := S84a_ok.inl (by kernel_rfl) 0 0 (by kernel_rfl)
noncomputable def S49 : Vm.Spec := S84b.add 49 (inl T Sh S84b 0 0 fi49)
theorem S49_ok : Vm.Good (vlim T F) S49 := S84b_ok.inl (by kernel_rfl) 0 0 (by kernel_rfl)
def betS : List V → Heap → Tr (V × Heap) := fun a H => match a, H with
  | [.agg [.int .i64 t1, .int .i64 t2, .int .i64 t3, .int .i64 t4, .int .i64 o, .int .i64 k]], [] =>
    .must (decide (-1000000000000000 ≤ t1 ∧ t1 ≤ t4 ∧ t4 ≤ 1000000000000000 ∧ -1000000000000000 ≤ t2 ∧ t2 ≤ t3 ∧ t3 ≤ 1000000000000000 ∧ 0 ≤ o ∧ o ≤ 1000000000000 ∧ 0 ≤ k ∧ k ≤ 1000000000000 ∧ t3 - t4 + k ≤ t2 - t1 - o)) (.ret (.tup [.agg [.int .i64 (t3 - t4 + k), .int .i64 (t2 - t1 - o)], .int .i64 0], []))
  | _, _ => .fail
theorem betS_ok : ∀ a H r, (betS a H).run = some r → Runs T F 18 a H r := by
  intro a H r h
  unfold betS at h
  split at h
  · rename_i t1 t2 t3 t4 o k
    obtain ⟨h0, h⟩ := Tr.must_some h
    have hr := ret_some h
    clear h
    subst hr
    simp only [decide_eq_true_eq] at h0
    have e1 : IntKind.i64.wrap (IntKind.i64.wrap (t3 - t4) + k) = t3 - t4 + k := by simp (disch := omega) only [i64in]
    have e2 : IntKind.i64.wrap (IntKind.i64.wrap (t2 - t1) - o) = t2 - t1 - o := by simp (disch := omega) only [i64in]
    rw [← e1, ← e2]
    refine Runs.way (F := F) (sh := Sh) (S := S49) (L := fun _ _ => .fail) S49_ok (fi := fi18) (by kernel_rfl) (fun _ _ _ _ h => by cases h) [(decide (t1 < -1000000000000000), false),
    (decide (t1 > 1000000000000000), false),
    (decide (t2 < -1000000000000000), false),
    (decide (t2 > 1000000000000000), false),
    (decide (t3 < -1000000000000000), false),
    (decide (t3 > 1000000000000000), false),
    (decide (t4 < -1000000000000000), false),
    (decide (t4 > 1000000000000000), false),
    (decide (o < -1000000000000), false),
    (decide (o > 1000000000000), false),
    (decide (k < -1000000000000), false),
    (decide (k > 1000000000000), false),
    (decide (o < 0), false),
    (decide (k < 0), false),
    (decide (t1 > t4), false),
    (decide (t2 > t3), false),
    (decide (IntKind.i64.wrap (IntKind.i64.wrap (t3 - t4) + k) > IntKind.i64.wrap (IntKind.i64.wrap (t2 - t1) - o)), false)] [0, 0, 0, 0, 2, 2, 2, 2, 3, 0, 0, 0, 0, 4, 4, 4, 4, 5, 0, 0, 0, 0, 6, 6, 6, 6, 7, 0, 0, 0, 0, 8, 8, 8, 8, 9, 1, 0, 1, 1, 1, 1, 1, 1, 0, 0, 0, 0, 10, 10, 10, 10, 11, 0, 0, 0, 0, 12, 12, 12, 12, 13, 1, 0, 1, 1, 1, 1, 1, 1, 14, 14, 14, 14, 15, 16, 16, 16, 16, 16, 16, 17, 18] (by kernel_rfl) ?_
    rw [e1, e2]
    refine ⟨?_, ?_, ?_, ?_, ?_, ?_, ?_, ?_, ?_, ?_, ?_, ?_, ?_, ?_, ?_, ?_, ?_, trivial⟩ <;> (simp; omega)
  · cases h
noncomputable def W18 : Vm.Spec := WAK.add 18 betS
theorem W18_ok : Vm.Good (vlim T F) W18 := WAK_ok.add betS_ok
def pSt (n : Bool) (bs : List Int) (a b : Int) (l : List Chk) (t i : Int) : St := ⟨[(0, V.sl n (List.map encB bs)), (1, .int .i16 a), (2, .int .i16 b), (7, V.ex 3 l.isEmpty (l.map encC)), (8, V.int IntKind.i64 t), (9, V.int IntKind.i64 i)], []⟩
def Fd.b0 (bs : List Int) (i : Nat) : Int := intOf (fld 0 ((bs.map encB).getD i V.undef))
def Fd.pt (t x : Int) : Int := IntKind.i64.wrap (t + IntKind.i64.wrap (1 + IntKind.i64.wrap (x.tmod 60)))
def Fd.pn (t : Int) : Int := IntKind.i64.wrap (1000000000 * t)
def Fd.ph (a b t : Int) : Int := IntKind.i64.wrap (IntKind.i64.wrap a + IntKind.i64.wrap (IntKind.i64.wrap b * t))
def Fd.pm (x : Int) : Int := IntKind.i64.wrap (10 * IntKind.i64.wrap x)
def Fd.pq (x y : Int) : Int := x.tmod (IntKind.u8.wrap (IntKind.u8.wrap (y.tdiv 2) + 1))
def Fd.pd (x : Int) : Int := IntKind.i64.wrap (x.tdiv 2)
/-- Checks at seconds that grow by so much at least and at most. -/
inductive Gr (Q : Chk → Prop) (s0 s1 : Int) : List Chk → Int → Prop where
  | nil : Gr Q s0 s1 [] 0
  | snoc {l : List Chk} {t : Int} (c : Chk) (h : Gr Q s0 s1 l t) (h1 : t + s0 ≤ c.at_) (h2 : c.at_ ≤ t + s1) (hq : Q c) : Gr Q s0 s1 (l ++ [c]) c.at_
theorem Gr.bound {Q : Chk → Prop} {s0 s1 : Int} {l : List Chk} {t : Int} (h : Gr Q s0 s1 l t) : s0 * l.length ≤ t ∧ t ≤ s1 * l.length := by
  induction h with
  | nil => simp
  | snoc c h h1 h2 _ ih =>
    rw [List.length_append, List.length_singleton, Int.natCast_add, Int.mul_add, Int.mul_add]
    omega
theorem Gr.all {Q : Chk → Prop} {s0 s1 : Int} {l : List Chk} {t : Int} (h : Gr Q s0 s1 l t) (h0 : 0 ≤ s0) : 0 ≤ t ∧ ∀ c ∈ l, Q c ∧ 0 ≤ c.at_ ∧ c.at_ ≤ t := by
  induction h with
  | nil => simp
  | snoc c h h1 h2 hq ih =>
    refine ⟨by omega, fun x hx => ?_⟩
    rcases List.mem_append.1 hx with hx | hx
    · have := ih.2 x hx; exact ⟨this.1, by omega, by omega⟩
    · rw [List.mem_singleton] at hx; subst hx; exact ⟨hq, by omega, by omega⟩
theorem Gr.two {Q : Chk → Prop} {s0 s1 : Int} {l : List Chk} {t : Int} (h : Gr Q s0 s1 l t) (h0 : 0 < s0) (h2 : 2 ≤ l.length) : ∃ x y, (x ∈ l ∧ y ∈ l) ∧ x.at_ < y.at_ := by
  cases h with
  | nil => simp at h2
  | @snoc l t c h h1 h3 hq =>
    match l, h with
    | [], _ => simp at h2
    | z :: l, h =>
      have := (h.all (by omega)).2 z (by simp)
      exact ⟨z, c, ⟨by simp, by simp⟩, by omega⟩
/-- **A line that is in all intervals.** -/
theorem line_zero {l : List Chk} (a b q : Int) (hq : 0 < q) (h : ∀ c ∈ l, c.lo * q ≤ a + b * c.at_ ∧ a + b * c.at_ ≤ c.hi * q) (h2 : ∃ x y, (x ∈ l ∧ y ∈ l) ∧ x.at_ < y.at_) :
    audE l = 0 ∧ (audB l).lN * q ≤ b * (audB l).lD ∧ b * (audB l).mD ≤ (audB l).mN * q := by
  have hp : ∀ x y, x ∈ l → y ∈ l → (y.lo - x.hi) * q ≤ b * (y.at_ - x.at_) := fun x y hx hy => by
    have k1 := (h y hy).1; have k2 := (h x hx).2
    rw [Int.sub_mul, Int.mul_sub]; omega
  have hr : ∀ x y, x ∈ l → y ∈ l → b * (y.at_ - x.at_) ≤ (y.hi - x.lo) * q := fun x y hx hy => by
    have k1 := (h y hy).2; have k2 := (h x hx).1
    rw [Int.sub_mul, Int.mul_sub]; omega
  have hi := audB_inv l
  have hf := hi.fd.2 h2
  obtain ⟨p1, p2⟩ := hi.pos hf
  refine ⟨(audE_zero l).2 ⟨h2, ?_, fun x y hx hy hxy u v hu hv huv => ?_⟩, ?_, ?_⟩
  · rintro ⟨x, y, ⟨hx, hy⟩, e, hlt⟩
    have k1 := (h x hx).1
    have k2 := (h y hy).2
    rw [e] at k1
    have k3 : (y.hi + 1) * q ≤ x.lo * q := Int.mul_le_mul_of_nonneg_right (by omega) (by omega)
    rw [Int.add_mul] at k3
    omega
  · exact frac_trans (by omega) hq (by omega) (hp x y hx hy) (hr u v hu hv)
  · obtain ⟨x, y, ⟨hx, hy⟩, hxy, e⟩ := hi.lmem hf
    exact frac_trans p1 (by omega) hq (Int.le_of_eq e) (hp x y hx hy)
  · obtain ⟨x, y, ⟨hx, hy⟩, hxy, e⟩ := hi.mmem hf
    exact frac_trans hq (by omega) p2 (hr x y hx hy) (Int.le_of_eq e.symm)
/-- A check that a clock a + b t keeps, of a poll. -/
def PQ (a b : Int) (c : Chk) : Prop := -100000000 ≤ c.lo ∧ c.lo ≤ a + b * c.at_ ∧ a + b * c.at_ ≤ c.hi ∧ c.hi ≤ 100000000
theorem p_end (n : Bool) (bs : List Int) (a b : Int) (l : List Chk) (t : Int) (i : Nat) (h : ¬ (IntKind.i64.wrap ((i : Int) + 3) < bs.length ∧ (i : Int) < 48)) : ∃ z,
    LRuns (vstep T (vlim T F) lplim fi5.cx 0 (lb fi5 0)) (pSt n bs a b l t i) (.exit 0, ⟨(pSt n bs a b l t i).env ++ [(29, .bool z)], []⟩) := by
  by_cases h1 : IntKind.i64.wrap ((i : Int) + 3) < bs.length
  · have h2 : ¬ (i : Int) < 48 := fun h2 => h ⟨h1, h2⟩
    exact ⟨_, LRuns.last (F := F) W18_ok (sh := Sh) (L := fun _ _ => .fail) (LGood.none (by kernel_rfl)) [(decide (IntKind.i64.wrap ((↑i : Int) + 3) < (↑(List.map encB bs).length : Int)), true),
    (decide ((↑i : Int) < 48), false)] [2, 2, 2, 3] (r := (.exit 0, ⟨(pSt n bs a b l t i).env ++ [(29, .bool (decide ((i : Int) < 48)))], []⟩)) (by kernel_rfl) (by simp) ⟨by simpa using h1, by simpa using h2, trivial⟩⟩
  · exact ⟨_, LRuns.last (F := F) W18_ok (sh := Sh) (L := fun _ _ => .fail) (LGood.none (by kernel_rfl)) [(decide (IntKind.i64.wrap ((↑i : Int) + 3) < (↑(List.map encB bs).length : Int)), false)] [2, 2, 2, 1] (r := (.exit 0, ⟨(pSt n bs a b l t i).env ++ [(29, .bool false)], []⟩)) (by kernel_rfl) (by simp) ⟨by simpa using h1, trivial⟩⟩
theorem b0_at (bs : List Int) (k : Nat) (h : k < bs.length) : Fd.b0 bs k = bs[k] := by simp [Fd.b0, encB, h]
theorem p_loop (n : Bool) (bs : List Int) (hb : ∀ x ∈ bs, 0 ≤ x ∧ x ≤ 255) (a b : Int) (ha : -32768 ≤ a ∧ a ≤ 32767) (hbb : -32768 ≤ b ∧ b ≤ 32767) : ∀ (d i : Nat) (l : List Chk) (t : Int), l.length + d = 12 → i = 4 * l.length → Gr (PQ a b) 1 60 l t →
    ∃ l' t' i' z, l'.length ≤ 12 ∧ Gr (PQ a b) 1 60 l' t' ∧ LRuns (vstep T (vlim T F) lplim fi5.cx 0 (lb fi5 0)) (pSt n bs a b l t i) (.exit 0, ⟨(pSt n bs a b l' t' i').env ++ [(29, .bool z)], []⟩)
  | d, i, l, t, hd, hi, hg => by
    by_cases hgo : IntKind.i64.wrap ((i : Int) + 3) < bs.length ∧ (i : Int) < 48
    case neg =>
      obtain ⟨z, hz⟩ := p_end n bs a b l t i hgo
      exact ⟨l, t, i, z, by omega, hg, hz⟩
    obtain ⟨hg1, hg2⟩ := hgo
    match d, hd with
    | 0, hd => omega
    | d + 1, hd =>
    have hw1 : IntKind.i64.wrap ((i : Int) + 1) = ((i + 1 : Nat) : Int) := by rw [i64in (by omega) (by omega)]; rfl
    have hw2 : IntKind.i64.wrap ((i : Int) + 2) = ((i + 2 : Nat) : Int) := by rw [i64in (by omega) (by omega)]; rfl
    have hw3 : IntKind.i64.wrap ((i : Int) + 3) = ((i + 3 : Nat) : Int) := by rw [i64in (by omega) (by omega)]; rfl
    have hw4 : IntKind.i64.wrap ((i : Int) + 4) = ((i + 4 : Nat) : Int) := by rw [i64in (by omega) (by omega)]; rfl
    rw [hw3] at hg1
    have k0 : i < bs.length := by omega
    have k1 : i + 1 < bs.length := by omega
    have k2 : i + 2 < bs.length := by omega
    have k3 : i + 3 < bs.length := by omega
    obtain ⟨b0, b1⟩ := hg.bound
    obtain ⟨p0, q0⟩ := hb bs[i] (List.getElem_mem _)
    obtain ⟨p1, q1⟩ := hb bs[i + 1] (List.getElem_mem _)
    obtain ⟨p2, q2⟩ := hb bs[i + 2] (List.getElem_mem _)
    obtain ⟨p3, q3⟩ := hb bs[i + 3] (List.getElem_mem _)
    have e0 := b0_at bs i k0
    have e1 : Fd.b0 bs (IntKind.i64.wrap ((i : Int) + 1)).toNat = bs[i + 1] := by rw [hw1]; exact b0_at bs (i + 1) k1
    have e2 : Fd.b0 bs (IntKind.i64.wrap ((i : Int) + 2)).toNat = bs[i + 2] := by rw [hw2]; exact b0_at bs (i + 2) k2
    have e3 : Fd.b0 bs (IntKind.i64.wrap ((i : Int) + 3)).toNat = bs[i + 3] := by rw [hw3]; exact b0_at bs (i + 3) k3
    generalize bs[i] = x0 at *
    generalize bs[i + 1] = x1 at *
    generalize bs[i + 2] = x2 at *
    generalize bs[i + 3] = x3 at *
    have f0 : Fd.pt t x0 = t + 1 + x0 % 60 := by
      unfold Fd.pt; rw [Int.tmod_eq_emod_of_nonneg p0]; simp (disch := omega) only [i64in]; omega
    have hT0 : 0 ≤ t + 1 + x0 % 60 := by omega
    have hT1 : t + 1 + x0 % 60 ≤ 720 := by omega
    have hT2 : t + 1 ≤ t + 1 + x0 % 60 := by omega
    have hT3 : t + 1 + x0 % 60 ≤ t + 60 := by omega
    generalize t + 1 + x0 % 60 = t1 at *
    have hm := mulb (x := b) (y := t1) (A := 32768) (B := 720) ⟨by omega, by omega⟩ ⟨by omega, by omega⟩
    simp only [Int.reduceMul, Int.reduceNeg] at hm
    have f1 : Fd.pn t1 = 1000000000 * t1 := by unfold Fd.pn; simp (disch := omega) only [i64in]
    have f2 : Fd.ph a b t1 = a + b * t1 := by unfold Fd.ph; simp (disch := omega) only [i64in]
    have f3 : Fd.pm x1 = 10 * x1 := by unfold Fd.pm; simp (disch := omega) only [i64in]
    have f4 : Fd.pm x2 = 10 * x2 := by unfold Fd.pm; simp (disch := omega) only [i64in]
    have f5 : Fd.pd (10 * x2) = 5 * x2 := by unfold Fd.pd; rw [Int.tdiv_eq_ediv_of_nonneg (by omega)]; simp (disch := omega) only [i64in]; omega
    have u1 : IntKind.u8.wrap (IntKind.u8.wrap (x1.tdiv 2) + 1) = x1 / 2 + 1 := by
      rw [Int.tdiv_eq_ediv_of_nonneg p1]
      have w1 : IntKind.u8.wrap (x1 / 2) = x1 / 2 := Go.IntWalk.u8_in _ ⟨by omega, by omega⟩
      rw [w1]
      exact Go.IntWalk.u8_in _ ⟨by omega, by omega⟩
    have f6 : Fd.pm (Fd.pq x3 x1) = 10 * (x3 % (x1 / 2 + 1)) := by
      unfold Fd.pm Fd.pq
      rw [u1, Int.tmod_eq_emod_of_nonneg p3]
      have m1 : 0 ≤ x3 % (x1 / 2 + 1) := Int.emod_nonneg _ (by omega)
      have m2 : x3 % (x1 / 2 + 1) < x1 / 2 + 1 := Int.emod_lt_of_pos _ (by omega)
      simp (disch := omega) only [i64in]
    have m1 : 0 ≤ x3 % (x1 / 2 + 1) := Int.emod_nonneg _ (by omega)
    have m2 : x3 % (x1 / 2 + 1) < x1 / 2 + 1 := Int.emod_lt_of_pos _ (by omega)
    generalize x3 % (x1 / 2 + 1) = y at *
    generalize hw : b * t1 = w at *
    obtain ⟨l', t', i', z, g1, g2, g3⟩ := p_loop n bs hb a b ha hbb d (i + 4) (l ++ [⟨t1, a + w - 10 * x1 + 10 * y, a + w + 10 * x2 - 5 * x2⟩]) t1 (by simp; omega) (by simp; omega)
      (.snoc ⟨t1, a + w - 10 * x1 + 10 * y, a + w + 10 * x2 - 5 * x2⟩ hg (by simp only; omega) (by simp only; omega) (by unfold PQ; simp only; rw [hw]; omega))
    refine ⟨l', t', i', z, g1, g2, ?_⟩
    refine LRuns.next (F := F) W18_ok (sh := Sh) (L := fun _ _ => .fail) (LGood.none (by kernel_rfl)) [(decide (IntKind.i64.wrap ((↑i : Int) + 3) < (↑(List.map encB bs).length : Int)), true),
    (decide ((↑i : Int) < 48), true),
    (decide ((↑i : Int) < (↑(List.map encB bs).length : Int)), true),
    (((List.map encB bs).getD i V.undef).cells.length == 1 && fitP [TK.int IntKind.u8] 0 ((List.map encB bs).getD i V.undef), true),
    (decide (0 ≤ IntKind.i64.wrap ((↑i : Int) + 1)), true),
    (decide (IntKind.i64.wrap ((↑i : Int) + 1) < (↑(List.map encB bs).length : Int)), true),
    (((List.map encB bs).getD (IntKind.i64.wrap ((↑i : Int) + 1)).toNat V.undef).cells.length == 1 && fitP [TK.int IntKind.u8] 0 ((List.map encB bs).getD (IntKind.i64.wrap ((↑i : Int) + 1)).toNat V.undef), true),
    (decide (0 ≤ IntKind.i64.wrap ((↑i : Int) + 2)), true),
    (decide (IntKind.i64.wrap ((↑i : Int) + 2) < (↑(List.map encB bs).length : Int)), true),
    (((List.map encB bs).getD (IntKind.i64.wrap ((↑i : Int) + 2)).toNat V.undef).cells.length == 1 && fitP [TK.int IntKind.u8] 0 ((List.map encB bs).getD (IntKind.i64.wrap ((↑i : Int) + 2)).toNat V.undef), true),
    (decide (0 ≤ IntKind.i64.wrap ((↑i : Int) + 3)), true),
    (((List.map encB bs).getD (IntKind.i64.wrap ((↑i : Int) + 3)).toNat V.undef).cells.length == 1 && fitP [TK.int IntKind.u8] 0 ((List.map encB bs).getD (IntKind.i64.wrap ((↑i : Int) + 3)).toNat V.undef), true),
    (!decide (IntKind.u8.wrap (IntKind.u8.wrap ((Fd.b0 bs (IntKind.i64.wrap ((↑i : Int) + 1)).toNat).tdiv 2) + 1) = 0), true),
    (decide (-1000000000000000 ≤ IntKind.i64.wrap (Fd.pn (Fd.pt t (Fd.b0 bs i)) + Fd.ph a b (Fd.pt t (Fd.b0 bs i))) ∧ IntKind.i64.wrap (Fd.pn (Fd.pt t (Fd.b0 bs i)) + Fd.ph a b (Fd.pt t (Fd.b0 bs i))) ≤ IntKind.i64.wrap (IntKind.i64.wrap (IntKind.i64.wrap (IntKind.i64.wrap (Fd.pn (Fd.pt t (Fd.b0 bs i)) + Fd.pm (Fd.b0 bs (IntKind.i64.wrap ((↑i : Int) + 1)).toNat)) + 7) + Fd.pm (Fd.b0 bs (IntKind.i64.wrap ((↑i : Int) + 2)).toNat)) + Fd.ph a b (Fd.pt t (Fd.b0 bs i))) ∧ IntKind.i64.wrap (IntKind.i64.wrap (IntKind.i64.wrap (IntKind.i64.wrap (Fd.pn (Fd.pt t (Fd.b0 bs i)) + Fd.pm (Fd.b0 bs (IntKind.i64.wrap ((↑i : Int) + 1)).toNat)) + 7) + Fd.pm (Fd.b0 bs (IntKind.i64.wrap ((↑i : Int) + 2)).toNat)) + Fd.ph a b (Fd.pt t (Fd.b0 bs i))) ≤ 1000000000000000 ∧ -1000000000000000 ≤ IntKind.i64.wrap (Fd.pn (Fd.pt t (Fd.b0 bs i)) + Fd.pm (Fd.b0 bs (IntKind.i64.wrap ((↑i : Int) + 1)).toNat)) ∧ IntKind.i64.wrap (Fd.pn (Fd.pt t (Fd.b0 bs i)) + Fd.pm (Fd.b0 bs (IntKind.i64.wrap ((↑i : Int) + 1)).toNat)) ≤ IntKind.i64.wrap (IntKind.i64.wrap (Fd.pn (Fd.pt t (Fd.b0 bs i)) + Fd.pm (Fd.b0 bs (IntKind.i64.wrap ((↑i : Int) + 1)).toNat)) + 7) ∧ IntKind.i64.wrap (IntKind.i64.wrap (Fd.pn (Fd.pt t (Fd.b0 bs i)) + Fd.pm (Fd.b0 bs (IntKind.i64.wrap ((↑i : Int) + 1)).toNat)) + 7) ≤ 1000000000000000 ∧ 0 ≤ Fd.pm (Fd.pq (Fd.b0 bs (IntKind.i64.wrap ((↑i : Int) + 3)).toNat) (Fd.b0 bs (IntKind.i64.wrap ((↑i : Int) + 1)).toNat)) ∧ Fd.pm (Fd.pq (Fd.b0 bs (IntKind.i64.wrap ((↑i : Int) + 3)).toNat) (Fd.b0 bs (IntKind.i64.wrap ((↑i : Int) + 1)).toNat)) ≤ 1000000000000 ∧ 0 ≤ Fd.pd (Fd.pm (Fd.b0 bs (IntKind.i64.wrap ((↑i : Int) + 2)).toNat)) ∧ Fd.pd (Fd.pm (Fd.b0 bs (IntKind.i64.wrap ((↑i : Int) + 2)).toNat)) ≤ 1000000000000 ∧ IntKind.i64.wrap (IntKind.i64.wrap (Fd.pn (Fd.pt t (Fd.b0 bs i)) + Fd.pm (Fd.b0 bs (IntKind.i64.wrap ((↑i : Int) + 1)).toNat)) + 7) - IntKind.i64.wrap (IntKind.i64.wrap (IntKind.i64.wrap (IntKind.i64.wrap (Fd.pn (Fd.pt t (Fd.b0 bs i)) + Fd.pm (Fd.b0 bs (IntKind.i64.wrap ((↑i : Int) + 1)).toNat)) + 7) + Fd.pm (Fd.b0 bs (IntKind.i64.wrap ((↑i : Int) + 2)).toNat)) + Fd.ph a b (Fd.pt t (Fd.b0 bs i))) + Fd.pd (Fd.pm (Fd.b0 bs (IntKind.i64.wrap ((↑i : Int) + 2)).toNat)) ≤ IntKind.i64.wrap (Fd.pn (Fd.pt t (Fd.b0 bs i)) + Fd.pm (Fd.b0 bs (IntKind.i64.wrap ((↑i : Int) + 1)).toNat)) - IntKind.i64.wrap (Fd.pn (Fd.pt t (Fd.b0 bs i)) + Fd.ph a b (Fd.pt t (Fd.b0 bs i))) - Fd.pm (Fd.pq (Fd.b0 bs (IntKind.i64.wrap ((↑i : Int) + 3)).toNat) (Fd.b0 bs (IntKind.i64.wrap ((↑i : Int) + 1)).toNat))), true),
    (rooms ((List.map encC l).length + 1) 24, true),
    (decide ((List.map encC l).length + 1 < 4611686018427387904), true)] [2, 2, 2, 3, 0, 4, 5, 0, 6, 7, 8, 9, 10, 11, 12, 2, 13, 6, 7, 8, 0, 14, 0, 15, 1, 16, 17, 0] (τ' := { env := [(0, V.sl n (List.map encB bs)), (1, V.int IntKind.i16 a), (2, V.int IntKind.i16 b), (7, V.ex 3 ((l.isEmpty) && false) (List.map encC l ++ [V.agg [V.int IntKind.i64 (Fd.pt t (Fd.b0 bs i)), V.int IntKind.i64 (IntKind.i64.wrap (0 - (IntKind.i64.wrap (Fd.pn (Fd.pt t (Fd.b0 bs i)) + Fd.pm (Fd.b0 bs (IntKind.i64.wrap ((↑i : Int) + 1)).toNat)) - IntKind.i64.wrap (Fd.pn (Fd.pt t (Fd.b0 bs i)) + Fd.ph a b (Fd.pt t (Fd.b0 bs i))) - Fd.pm (Fd.pq (Fd.b0 bs (IntKind.i64.wrap ((↑i : Int) + 3)).toNat) (Fd.b0 bs (IntKind.i64.wrap ((↑i : Int) + 1)).toNat))))), V.int IntKind.i64 (IntKind.i64.wrap (0 - (IntKind.i64.wrap (IntKind.i64.wrap (Fd.pn (Fd.pt t (Fd.b0 bs i)) + Fd.pm (Fd.b0 bs (IntKind.i64.wrap ((↑i : Int) + 1)).toNat)) + 7) - IntKind.i64.wrap (IntKind.i64.wrap (IntKind.i64.wrap (IntKind.i64.wrap (Fd.pn (Fd.pt t (Fd.b0 bs i)) + Fd.pm (Fd.b0 bs (IntKind.i64.wrap ((↑i : Int) + 1)).toNat)) + 7) + Fd.pm (Fd.b0 bs (IntKind.i64.wrap ((↑i : Int) + 2)).toNat)) + Fd.ph a b (Fd.pt t (Fd.b0 bs i))) + Fd.pd (Fd.pm (Fd.b0 bs (IntKind.i64.wrap ((↑i : Int) + 2)).toNat)))))]])), (8, V.int IntKind.i64 (Fd.pt t (Fd.b0 bs i))), (9, V.int IntKind.i64 (IntKind.i64.wrap ((↑i : Int) + 4)))], heap := [] }) (by kernel_rfl) ?_ ?_
    · simp only [e0, e1, e2, e3, f0, f1, f2, f3, f4, f5, f6, u1]
      refine ⟨?_, ?_, ?_, ?_, ?_, ?_, ?_, ?_, ?_, ?_, ?_, ?_, ?_, ?_, ?_, ?_, trivial⟩
      all_goals first
        | (simp only [hw1, hw2, hw3, Int.toNat_natCast]; simp [encB, fitP, fld, leafFits, V.cells, k0, k1, k2, k3]; done)
        | (simp only [hw1, hw2, hw3, List.length_map, decide_eq_true_eq]; omega)
        | (simp [rooms, maxRoom]; omega)
        | (simp (disch := omega) only [i64in]; simp; omega)
    · simp only [e0, e1, e2, e3, f0, f1, f2, f3, f4, f5, f6, hw4]
      have ee : ∀ x, (l ++ [x]).isEmpty = false := by intro x; cases l <;> rfl
      have c1 : IntKind.i64.wrap (0 - (IntKind.i64.wrap (1000000000 * t1 + 10 * x1) - IntKind.i64.wrap (1000000000 * t1 + (a + w)) - 10 * y)) = a + w - 10 * x1 + 10 * y := by simp (disch := omega) only [i64in]; omega
      have c2 : IntKind.i64.wrap (0 - (IntKind.i64.wrap (IntKind.i64.wrap (1000000000 * t1 + 10 * x1) + 7) - IntKind.i64.wrap (IntKind.i64.wrap (IntKind.i64.wrap (IntKind.i64.wrap (1000000000 * t1 + 10 * x1) + 7) + 10 * x2) + (a + w)) + 5 * x2)) = a + w + 10 * x2 - 5 * x2 := by simp (disch := omega) only [i64in]; omega
      rw [c1, c2]
      simpa [pSt, encC, ee] using g3
noncomputable def W5 : Vm.Spec := W18.add 12 awakeS
theorem W5_ok : Vm.Good (vlim T F) W5 := by
  refine W18_ok.add fun a H r h => ?_
  unfold awakeS at h
  split at h
  · have := ret_some h; subst this
    exact ⟨60, awake_v⟩
  · cases h
theorem PQ.ok {a b : Int} {c : Chk} (h : PQ a b c) (h0 : 0 ≤ c.at_) (h1 : c.at_ ≤ 100000) : OkC c := by
  obtain ⟨k1, k2, k3, k4⟩ := h
  exact ⟨h0, h1, k1, k4, by omega⟩
theorem OkC.inC {c : Chk} (h : OkC c) : InC c := by
  obtain ⟨h0, h1, h2, h3, h4⟩ := h
  exact ⟨inI_iff.2 ⟨by omega, by omega⟩, inI_iff.2 ⟨by omega, by omega⟩, inI_iff.2 ⟨by omega, by omega⟩⟩
theorem low_one {a m : Int} (h : -m ≤ a ∧ a ≤ m) : P.low a 1 m = true := low_iff.2 ⟨by omega, by omega, h.1, h.2, by simp⟩
theorem bd_D {l : List Chk} (hl : l.length ≤ 40) (hc : ∀ c ∈ l, OkC c) : OkB (audB l) := allB_ok hc _ _ _ (by simp) ⟨by decide, by decide, by decide, by decide⟩
theorem lawStampPolled : ∀ xs, AllV T 8 [22, 54, 54] xs → ∃ k, vcall T F k 5 xs [] = some (.bool true, []) := by
  intro xs hxs
  obtain ⟨v, xs, rfl, hv, hxs⟩ := allV_cons hxs
  obtain ⟨va, xs, rfl, hva, hxs⟩ := allV_cons hxs
  obtain ⟨vb, xs, rfl, hvb, hxs⟩ := allV_cons hxs
  obtain rfl := allV_nil hxs
  · skip
    obtain ⟨n, bs, rfl, hb, hbl, _⟩ := hasV_ints (i := { kind := .slice 5, size := 1, bytes := 24, zero := .sl true [], leaves := [] }) (j := { kind := .int .u8, size := 1, bytes := 1, zero := .int .u8 0, leaves := [] }) (by kernel_rfl) rfl (by kernel_rfl) rfl hv
    obtain ⟨a, rfl, ha⟩ := hasV_int (i := { kind := .int .i16, size := 1, bytes := 2, zero := .int .i16 0, leaves := [] }) (by kernel_rfl) rfl hva
    obtain ⟨b, rfl, hb2⟩ := hasV_int (i := { kind := .int .i16, size := 1, bytes := 2, zero := .int .i16 0, leaves := [] }) (by kernel_rfl) rfl hvb
    have hb' : ∀ x ∈ bs, 0 ≤ x ∧ x ≤ 255 := fun x hx => by
      have := hb x hx
      simp [Lit.wf, IntKind.min, IntKind.max, IntKind.signed, IntKind.bits] at this
      exact this
    simp [Lit.wf, IntKind.min, IntKind.max, IntKind.signed, IntKind.bits] at ha hb2
    show Runs T F 5 [.sl n (bs.map encB), .int .i16 a, .int .i16 b] [] (.bool true, [])
    obtain ⟨l, t, i, z, hl, hg, hr⟩ := p_loop n bs hb' a b ⟨by omega, by omega⟩ ⟨by omega, by omega⟩ 12 0 [] 0 rfl rfl .nil
    have hL := LGood.one (c := fi5.body) (b := lb fi5 0) (k := 4) (σ0 := pSt n bs a b [] 0 0) (by kernel_rfl) hr
    by_cases h2 : l.length < 2
    · exact Runs.way (F := F) (sh := Sh) (S := W5) W5_ok (fi := fi5) (by kernel_rfl) hL [(is { env := [(0, V.sl n (List.map encB bs)), (1, V.int IntKind.i16 a), (2, V.int IntKind.i16 b), (7, V.ex 3 true []), (8, V.int IntKind.i64 0), (9, V.int IntKind.i64 0)], heap := [] } { env := [(0, V.sl n (List.map encB bs)), (1, V.int IntKind.i16 a), (2, V.int IntKind.i16 b), (7, V.ex 3 true []), (8, V.int IntKind.i64 0), (9, V.int IntKind.i64 0)], heap := [] }, true),
    (decide ((↑(List.map encC l).length : Int) < 2), true)] [2, 3] (by kernel_rfl) ⟨is_self _, by simp; omega, trivial⟩
    · have hq := hg.all (by omega)
      have hB := hg.bound
      have hok : ∀ c ∈ l, OkC c := fun c hc => (hq.2 c hc).1.ok (hq.2 c hc).2.1 (by have := (hq.2 c hc).2.2; omega)
      have hz := line_zero (l := l) a b 1 (by omega) (fun c hc => by have := (hq.2 c hc).1; unfold PQ at this; omega) (hg.two (by omega) (by omega))
      have h0 : P.chkE l = 0 := chkE_zero.2 ⟨by omega, hok⟩
      have hau : ∀ j, P.au l j = P.av l j := fun j => by simp only [P.au, if_pos h0]
      have hav : P.av l 0 = (audB l).lN ∧ P.av l 1 = (audB l).lD ∧ P.av l 2 = (audB l).mN ∧ P.av l 3 = (audB l).mD := by
        unfold P.av; rw [hz.1]; exact ⟨rfl, rfl, rfl, rfl⟩
      have hE : P.auE l = 0 := by simp only [P.auE, if_pos h0]; exact hz.1
      obtain ⟨m1, m2, m3, m4⟩ := bd_D (l := l) (by omega) hok
      have wa : IntKind.i64.wrap a = a := i64in (by omega) (by omega)
      have wb : IntKind.i64.wrap b = b := i64in (by omega) (by omega)
      have n1 := mulb (x := b) (y := (audB l).lD) (A := 32768) (B := 1000000000) ⟨by omega, by omega⟩ ⟨by omega, by omega⟩
      have n2 := mulb (x := b) (y := (audB l).mD) (A := 32768) (B := 1000000000) ⟨by omega, by omega⟩ ⟨by omega, by omega⟩
      simp only [Int.reduceMul, Int.reduceNeg] at n1 n2
      have hk1 : P.keE l a 1 b 1 = 0 := by
        simp only [P.keE, if_pos h0, low_one (a := a) (m := 30000000000000) ⟨by omega, by omega⟩, low_one (a := b) (m := 300000000) ⟨by omega, by omega⟩]; rfl
      have hk2 : P.ke l a 1 b 1 = true := by
        simp only [P.ke, hk1, Bool.and_eq_true, decide_eq_true_eq]
        refine ⟨trivial, keep_iff.2 fun c hc => ?_⟩
        have := (hq.2 c hc).1
        unfold PQ at this
        simp only [Int.mul_one]
        omega
      refine Runs.way (F := F) (sh := Sh) (S := W5) W5_ok (fi := fi5) (by kernel_rfl) hL [(is { env := [(0, V.sl n (List.map encB bs)), (1, V.int IntKind.i16 a), (2, V.int IntKind.i16 b), (7, V.ex 3 true []), (8, V.int IntKind.i64 0), (9, V.int IntKind.i64 0)], heap := [] } { env := [(0, V.sl n (List.map encB bs)), (1, V.int IntKind.i16 a), (2, V.int IntKind.i16 b), (7, V.ex 3 true []), (8, V.int IntKind.i64 0), (9, V.int IntKind.i64 0)], heap := [] }, true),
    (decide ((↑(List.map encC l).length : Int) < 2), false),
    (eqB (List.map encC l) (List.map encC (List.map decC (List.map encC l))), true),
    ((List.map decC (List.map encC l)).all inCb, true),
    (P.auE (List.map decC (List.map encC l)) == 0, true),
    (P.keE (List.map decC (List.map encC l)) (IntKind.i64.wrap a) 1 (IntKind.i64.wrap b) 1 == 0, true),
    (P.ke (List.map decC (List.map encC l)) (IntKind.i64.wrap a) 1 (IntKind.i64.wrap b) 1, true),
    (decide (P.au (List.map decC (List.map encC l)) 0 ≤ IntKind.i64.wrap (IntKind.i64.wrap b * P.au (List.map decC (List.map encC l)) 1)), true),
    (decide (P.au (List.map decC (List.map encC l)) 2 ≥ IntKind.i64.wrap (IntKind.i64.wrap b * P.au (List.map decC (List.map encC l)) 3)), true)] [2, 3, 4, 5, 0, 4, 5, 0, 6, 6, 6, 7, 7, 8, 8, 8, 8, 8, 8, 8, 8, 8, 8, 8, 9, 9, 9, 9, 9, 9, 9, 9, 9, 9, 9, 10, 10] (by kernel_rfl) ?_
      rw [dec_enc, wa, wb, hau, hau, hau, hau, hav.1, hav.2.1, hav.2.2.1, hav.2.2.2, hE, hk1, hk2]
      refine ⟨is_self _, by simp; omega, eqB_eq rfl, List.all_eq_true.2 fun c hc => inCb_iff.2 (hok c hc).inC, rfl, rfl, rfl, ?_, ?_, trivial⟩
      · rw [i64in (by omega) (by omega)]; simpa using hz.2.1
      · rw [i64in (by omega) (by omega)]; simpa using hz.2.2
end Go.Proofs.Ytgmdkjiflhklaaa
