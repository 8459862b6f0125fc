/- K5: StampClock: the checks of a clock. -/
import Derived.Test.YtgmdkjiflhklaaaK4
namespace Go.Proofs.Ytgmdkjiflhklaaa
open Go Go.Vm
noncomputable def coS : List V → Heap → Tr (V × Heap) := fun a H => match a, H with
  | [.sl _ xs, .int .i64 r], [] => .must (eqB xs ((xs.map decC).map encC)) (.must ((xs.map decC).all inCb) (.ret (.tup [.agg [.int .i64 (P.co (xs.map decC) r 0), .int .i64 (P.co (xs.map decC) r 1)], .agg [.int .i64 (P.co (xs.map decC) r 2), .int .i64 (P.co (xs.map decC) r 3)], .int .i64 (P.coE (xs.map decC) r)], [])))
  | _, _ => .fail
theorem coS_ok : ∀ a H r, (coS a H).run = some r → Runs T F 26 a H r := by
  intro a H r h
  unfold coS at h
  split at h
  · rename_i m xs r
    obtain ⟨h0, h⟩ := Tr.must_some h
    obtain ⟨h1, h⟩ := Tr.must_some h
    have hr := ret_some h
    clear h
    subst hr
    have h0 := of_eqB h0
    generalize xs.map decC = l at *
    subst h0
    exact co_runs m l r fun c hc => inCb_iff.1 (List.all_eq_true.1 h1 c hc)
  · cases h
noncomputable def WAll : Vm.Spec := WAK.add 26 coS
theorem WAll_ok : Vm.Good (vlim T F) WAll := WAK_ok.add coS_ok
def Fd.kt (t x : Int) : Int := IntKind.i64.wrap (t + IntKind.i64.wrap (x.tmod 30))
def Fd.k4 (n : Int) : Int := IntKind.i64.wrap (n.tdiv 4)
def Fd.k5 (x : Int) : Int := IntKind.i64.wrap (x.tmod 50)
noncomputable def W25 : Vm.Spec := WAll.add 25 (inl T Sh WAll 0 0 fi25)
theorem W25_ok : Vm.Good (vlim T F) W25 := WAll_ok.inl (by kernel_rfl) 0 0 (by kernel_rfl)
def nSt (n : Bool) (l : List Chk) (k : Int) : St := ⟨[(0, .sl n (l.map encC)), (1, .clo (.func 25) [] [.ptr 0 0]), (7, .int .i64 l.length), (8, .int .i64 k)], [.cells [.sl n (l.map encC)], .dead]⟩
def P.sameAt (l : List Chk) : Bool := l.all fun c => decide (c.at_ = (l.headD ⟨0, 0, 0⟩).at_)
theorem n_loop (n : Bool) (l : List Chk) (hl : l.length ≤ 40) (hs : P.sameAt l = true) : ∀ (m k : Nat), k + m = l.length →
    LRuns (vstep T (vlim T F) lplim fi57.cx 2 (lb fi57 0)) (nSt n l k) (.exit 0, ⟨(nSt n l l.length).env ++ [(9, .bool false)], (nSt n l 0).heap⟩)
  | 0, k, hd => by
    have hk : k = l.length := by omega
    subst hk
    have := LRuns.last (F := F) W25_ok (sh := Sh) (L := fun _ _ => .fail) (n := 2) (b := lb fi57 0) (cx := fi57.cx) (τ := nSt n l l.length) (LGood.none (by kernel_rfl)) [(decide ((l.length : Int) < (l.length : Int)), false)] [2]
      (r := (.exit 0, ⟨(nSt n l l.length).env ++ [(9, .bool (decide ((l.length : Int) < (l.length : Int))))], (nSt n l 0).heap⟩)) (by kernel_rfl) (by simp) ⟨by simp, trivial⟩
    simpa using this
  | m + 1, k, hd => by
    have hk : k < l.length := by omega
    have hne : 0 < l.length := by omega
    have ih := n_loop n l hl hs m (k + 1) (by omega)
    have hw : IntKind.i64.wrap ((k : Int) + 1) = ((k + 1 : Nat) : Int) := by rw [i64in (by omega) (by omega)]; rfl
    have ga := ca_at l k hk
    have g0 := ca_at l 0 hne
    have hq : Fd.ca l k = Fd.ca l 0 := by
      have h := List.all_eq_true.1 hs l[k] (List.getElem_mem _)
      have h' := List.all_eq_true.1 hs l[0] (List.getElem_mem _)
      simp only [decide_eq_true_eq] at h h'
      rw [ga, g0]; omega
    refine LRuns.next (F := F) W25_ok (sh := Sh) (L := fun _ _ => .fail) (LGood.none (by kernel_rfl)) [(decide ((↑k : Int) < (↑l.length : Int)), true),
    (decide ((↑k : Int) < (↑(List.map encC l).length : Int)), true),
    (((List.map encC l).getD k V.undef).cells.length == 3 && fitP [TK.int IntKind.i64, TK.int IntKind.i64, TK.int IntKind.i64] 0 ((List.map encC l).getD k V.undef), true),
    (decide (0 < (↑(List.map encC l).length : Int)), true),
    (((List.map encC l).getD 0 V.undef).cells.length == 3 && fitP [TK.int IntKind.i64, TK.int IntKind.i64, TK.int IntKind.i64] 0 ((List.map encC l).getD 0 V.undef), true),
    (Fd.ca l k != Fd.ca l 0, false)] [2, 0, 3, 4, 0, 5, 6, 7] (τ' := nSt n l (IntKind.i64.wrap ((k : Int) + 1))) (by kernel_rfl) ⟨(by simp; omega), (by simp; omega), (by simp [encC, fitP, fld, leafFits, V.cells, hk]), (by simp; omega), (by simp [encC, fitP, fld, leafFits, V.cells, hne]), by rw [hq]; simp, trivial⟩ ?_
    rw [hw]; exact ih
noncomputable def idxN : List V → Heap → Tr (V × Heap) := fun a H => match a, H with
  | [.sl n xs, .clo (.func 25) [] [.ptr 0 0]], [.cells [.sl n' ys], .dead] => .must (n == n') (.must (eqB ys xs) (.must (eqB xs ((xs.map decC).map encC)) (.must (decide (xs.length ≤ 40)) (.must (P.sameAt (xs.map decC)) (.ret (.int .i64 (-1), [.cells [.sl n' ys], .dead]))))))
  | _, _ => .fail
theorem idxN_ok : ∀ a H r, (idxN a H).run = some r → Runs T F 57 a H r := by
  intro a H r h
  unfold idxN at h
  split at h
  · rename_i n xs n' ys
    obtain ⟨h0, h⟩ := Tr.must_some h
    obtain ⟨h1, h⟩ := Tr.must_some h
    obtain ⟨h2, h⟩ := Tr.must_some h
    obtain ⟨h3, h⟩ := Tr.must_some h
    obtain ⟨h4, h⟩ := Tr.must_some h
    have hr := ret_some h; clear h; subst hr
    have h0 : n = n' := by simpa using h0
    have h1 := of_eqB h1
    have h2 := of_eqB h2
    simp only [decide_eq_true_eq] at h3
    have h3 : (xs.map decC).length ≤ 40 := by simpa using h3
    subst h0
    subst h1
    clear h
    generalize ys.map decC = l at *
    subst h2
    have hw := n_loop n l (by simpa using h3) h4 l.length 0 (by omega)
    have hL := LGood.one (c := fi57.body) (b := lb fi57 0) (k := 2) (σ0 := nSt n l 0) (by kernel_rfl) (by exact hw)
    exact Runs.way (F := F) (sh := Sh) (S := W25) W25_ok (fi := fi57) (by kernel_rfl) hL [(is { env := [(0, V.sl n (List.map encC l)), (1, V.clo (Fn.func 25) [] [V.ptr 0 0]), (7, V.int IntKind.i64 (↑(List.map encC l).length : Int)), (8, V.int IntKind.i64 0)], heap := [B.cells [V.sl n (List.map encC l)], B.dead] } { env := [(0, V.sl n (List.map encC l)), (1, V.clo (Fn.func 25) [] [V.ptr 0 0]), (7, V.int IntKind.i64 (↑l.length : Int)), (8, V.int IntKind.i64 0)], heap := [B.cells [V.sl n (List.map encC l)], B.dead] }, true)] [2] (by kernel_rfl) ⟨is_eq (by simp), trivial⟩
  · cases h
noncomputable def W57n : Vm.Spec := W25.add 57 idxN
theorem W57n_ok : Vm.Good (vlim T F) W57n := W25_ok.add idxN_ok
noncomputable def W24n : Vm.Spec := W57n.add 24 (inl T Sh W57n 0 0 fi24)
theorem W24n_ok : Vm.Good (vlim T F) W24n := W57n_ok.inl (by kernel_rfl) 0 0 (by kernel_rfl)
/-- A check that a clock a/4 + b/4 t keeps. -/
def KQ (a b : Int) (c : Chk) : Prop := -100000000 ≤ c.lo ∧ c.lo * 4 ≤ a + b * c.at_ ∧ a + b * c.at_ ≤ c.hi * 4 ∧ c.hi ≤ 100000000
theorem k_end (n : Bool) (bs : List Int) (a b : Int) (l : List Chk) (t : Int) (i : Nat) (h : ¬ (IntKind.i64.wrap ((i : Int) + 2) < bs.length ∧ (i : Int) < 45)) : ∃ z,
    LRuns (vstep T (vlim T F) lplim fi23.cx 0 (lb fi23 0)) (pSt n bs a b l t i) (.exit 0, ⟨(pSt n bs a b l t i).env ++ [(21, .bool z)], []⟩) := by
  by_cases h1 : IntKind.i64.wrap ((i : Int) + 2) < bs.length
  · have h2 : ¬ (i : Int) < 45 := fun h2 => h ⟨h1, h2⟩
    exact ⟨_, LRuns.last (F := F) Vm.Good.no (sh := Sh) (L := fun _ _ => .fail) (LGood.none (by kernel_rfl)) [(decide (IntKind.i64.wrap ((↑i : Int) + 2) < (↑(List.map encB bs).length : Int)), true),
    (decide ((↑i : Int) < 45), false)] [2, 2, 2, 3] (r := (.exit 0, ⟨(pSt n bs a b l t i).env ++ [(21, .bool (decide ((i : Int) < 45)))], []⟩)) (by kernel_rfl) (by simp) ⟨by simpa using h1, by simpa using h2, trivial⟩⟩
  · exact ⟨_, LRuns.last (F := F) Vm.Good.no (sh := Sh) (L := fun _ _ => .fail) (LGood.none (by kernel_rfl)) [(decide (IntKind.i64.wrap ((↑i : Int) + 2) < (↑(List.map encB bs).length : Int)), false)] [2, 2, 2, 1] (r := (.exit 0, ⟨(pSt n bs a b l t i).env ++ [(21, .bool false)], []⟩)) (by kernel_rfl) (by simp) ⟨by simpa using h1, trivial⟩⟩
theorem clk_loop (n : Bool) (bs : List Int) (hb : ∀ x ∈ bs, 0 ≤ x ∧ x ≤ 255) (a b : Int) (ha : -32768 ≤ a ∧ a ≤ 32767) (hbb : -32768 ≤ b ∧ b ≤ 32767) : ∀ (d i : Nat) (l : List Chk) (t : Int), l.length + d = 15 → i = 3 * l.length → Gr (KQ a b) 0 30 l t →
    ∃ l' t' i' z, l'.length ≤ 15 ∧ Gr (KQ a b) 0 30 l' t' ∧ LRuns (vstep T (vlim T F) lplim fi23.cx 0 (lb fi23 0)) (pSt n bs a b l t i) (.exit 0, ⟨(pSt n bs a b l' t' i').env ++ [(21, .bool z)], []⟩)
  | d, i, l, t, hd, hi, hg => by
    by_cases hgo : IntKind.i64.wrap ((i : Int) + 2) < bs.length ∧ (i : Int) < 45
    case neg =>
      obtain ⟨z, hz⟩ := k_end n bs a b l t i hgo
      exact ⟨l, t, i, z, by omega, hg, hz⟩
    obtain ⟨hg1, hg2⟩ := hgo
    match d, hd with
    | 0, hd => omega
    | d + 1, hd =>
    have hw1 : IntKind.i64.wrap ((i : Int) + 1) = ((i + 1 : Nat) : Int) := by rw [i64in (by omega) (by omega)]; rfl
    have hw2 : IntKind.i64.wrap ((i : Int) + 2) = ((i + 2 : Nat) : Int) := by rw [i64in (by omega) (by omega)]; rfl
    have hw3 : IntKind.i64.wrap ((i : Int) + 3) = ((i + 3 : Nat) : Int) := by rw [i64in (by omega) (by omega)]; rfl
    rw [hw2] at hg1
    have k0 : i < bs.length := by omega
    have k1 : i + 1 < bs.length := by omega
    have k2 : i + 2 < bs.length := by omega
    obtain ⟨b0, b1⟩ := hg.bound
    obtain ⟨p0, q0⟩ := hb bs[i] (List.getElem_mem _)
    obtain ⟨p1, q1⟩ := hb bs[i + 1] (List.getElem_mem _)
    obtain ⟨p2, q2⟩ := hb bs[i + 2] (List.getElem_mem _)
    have e0 := b0_at bs i k0
    have e1 : Fd.b0 bs (IntKind.i64.wrap ((i : Int) + 1)).toNat = bs[i + 1] := by rw [hw1]; exact b0_at bs (i + 1) k1
    have e2 : Fd.b0 bs (IntKind.i64.wrap ((i : Int) + 2)).toNat = bs[i + 2] := by rw [hw2]; exact b0_at bs (i + 2) k2
    generalize bs[i] = x0 at *
    generalize bs[i + 1] = x1 at *
    generalize bs[i + 2] = x2 at *
    have f0 : Fd.kt t x0 = t + x0 % 30 := by
      unfold Fd.kt; rw [Int.tmod_eq_emod_of_nonneg p0]; simp (disch := omega) only [i64in]
    have hT0 : 0 ≤ t + x0 % 30 := by omega
    have hT1 : t + x0 % 30 ≤ 450 := by omega
    have hT2 : t ≤ t + x0 % 30 := by omega
    have hT3 : t + x0 % 30 ≤ t + 30 := by omega
    generalize t + x0 % 30 = t1 at *
    have hm := mulb (x := b) (y := t1) (A := 32768) (B := 450) ⟨by omega, by omega⟩ ⟨by omega, by omega⟩
    simp only [Int.reduceMul, Int.reduceNeg] at hm
    have f2 : Fd.ph a b t1 = a + b * t1 := by unfold Fd.ph; simp (disch := omega) only [i64in]
    generalize hw : b * t1 = w at *
    have hdv : (a + w).tdiv 4 * 4 ≤ a + w + 3 ∧ a + w ≤ (a + w).tdiv 4 * 4 + 3 ∧ -20000000 ≤ (a + w).tdiv 4 ∧ (a + w).tdiv 4 ≤ 20000000 := by
      rcases Int.lt_or_le (a + w) 0 with h | h
      · have : (a + w).tdiv 4 = -((-(a + w)) / 4) := by
          rw [← Int.neg_neg (a + w), Int.neg_tdiv, Int.neg_neg, Int.tdiv_eq_ediv_of_nonneg (by omega)]
        omega
      · rw [Int.tdiv_eq_ediv_of_nonneg h]; omega
    have f3 : Fd.k4 (a + w) = (a + w).tdiv 4 := by unfold Fd.k4; simp (disch := omega) only [i64in]
    generalize (a + w).tdiv 4 = v at *
    have f4 : Fd.k5 x1 = x1 % 50 := by unfold Fd.k5; rw [Int.tmod_eq_emod_of_nonneg p1]; simp (disch := omega) only [i64in]
    have f5 : Fd.k5 x2 = x2 % 50 := by unfold Fd.k5; rw [Int.tmod_eq_emod_of_nonneg p2]; simp (disch := omega) only [i64in]
    obtain ⟨l', t', i', z, g1, g2, g3⟩ := clk_loop n bs hb a b ha hbb d (i + 3) (l ++ [⟨t1, v - 1 - x1 % 50, v + 1 + x2 % 50⟩]) t1 (by simp; omega) (by simp; omega)
      (.snoc ⟨t1, v - 1 - x1 % 50, v + 1 + x2 % 50⟩ hg (by simp only; omega) (by simp only; omega) (by unfold KQ; simp only; rw [hw]; omega))
    refine ⟨l', t', i', z, g1, g2, ?_⟩
    refine LRuns.next (F := F) Vm.Good.no (sh := Sh) (L := fun _ _ => .fail) (LGood.none (by kernel_rfl)) [(decide (IntKind.i64.wrap ((↑i : Int) + 2) < (↑(List.map encB bs).length : Int)), true),
    (decide ((↑i : Int) < 45), true),
    (decide ((↑i : Int) < (↑(List.map encB bs).length : Int)), true),
    (((List.map encB bs).getD i V.undef).cells.length == 1 && fitP [TK.int IntKind.u8] 0 ((List.map encB bs).getD i V.undef), true),
    (decide (0 ≤ IntKind.i64.wrap ((↑i : Int) + 1)), true),
    (decide (IntKind.i64.wrap ((↑i : Int) + 1) < (↑(List.map encB bs).length : Int)), true),
    (((List.map encB bs).getD (IntKind.i64.wrap ((↑i : Int) + 1)).toNat V.undef).cells.length == 1 && fitP [TK.int IntKind.u8] 0 ((List.map encB bs).getD (IntKind.i64.wrap ((↑i : Int) + 1)).toNat V.undef), true),
    (decide (0 ≤ IntKind.i64.wrap ((↑i : Int) + 2)), true),
    (((List.map encB bs).getD (IntKind.i64.wrap ((↑i : Int) + 2)).toNat V.undef).cells.length == 1 && fitP [TK.int IntKind.u8] 0 ((List.map encB bs).getD (IntKind.i64.wrap ((↑i : Int) + 2)).toNat V.undef), true),
    (rooms ((List.map encC l).length + 1) 24, true),
    (decide ((List.map encC l).length + 1 < 4611686018427387904), true)] [2, 2, 2, 3, 0, 4, 5, 0, 0, 6, 7, 8, 0, 0, 9, 2, 10, 0, 11, 12, 0] (τ' := { env := [(0, V.sl n (List.map encB bs)), (1, V.int IntKind.i16 a), (2, V.int IntKind.i16 b), (7, V.ex 3 ((l.isEmpty) && false) (List.map encC l ++ [V.agg [V.int IntKind.i64 (Fd.kt t (Fd.b0 bs i)), V.int IntKind.i64 (IntKind.i64.wrap (IntKind.i64.wrap (Fd.k4 (Fd.ph a b (Fd.kt t (Fd.b0 bs i))) - 1) - Fd.k5 (Fd.b0 bs (IntKind.i64.wrap ((↑i : Int) + 1)).toNat))), V.int IntKind.i64 (IntKind.i64.wrap (IntKind.i64.wrap (Fd.k4 (Fd.ph a b (Fd.kt t (Fd.b0 bs i))) + 1) + Fd.k5 (Fd.b0 bs (IntKind.i64.wrap ((↑i : Int) + 2)).toNat)))]])), (8, V.int IntKind.i64 (Fd.kt t (Fd.b0 bs i))), (9, V.int IntKind.i64 (IntKind.i64.wrap ((↑i : Int) + 3)))], heap := [] }) (by kernel_rfl) ?_ ?_
    · refine ⟨?_, ?_, ?_, ?_, ?_, ?_, ?_, ?_, ?_, ?_, ?_, trivial⟩
      all_goals first
        | (simp only [hw1, hw2, hw3, Int.toNat_natCast]; simp [encB, fitP, fld, leafFits, V.cells, k0, k1, k2]; done)
        | (simp only [hw1, hw2, hw3, List.length_map, decide_eq_true_eq]; omega)
        | (simp [rooms, maxRoom]; omega)
    · simp only [e0, e1, e2, f0, f2, f3, f4, f5, hw3]
      have ee : ∀ x, (l ++ [x]).isEmpty = false := by intro x; cases l <;> rfl
      have c1 : IntKind.i64.wrap (IntKind.i64.wrap (v - 1) - x1 % 50) = v - 1 - x1 % 50 := by simp (disch := omega) only [i64in]
      have c2 : IntKind.i64.wrap (IntKind.i64.wrap (v + 1) + x2 % 50) = v + 1 + x2 % 50 := by simp (disch := omega) only [i64in]
      rw [c1, c2]
      simpa [pSt, encC, ee] using g3
end Go.Proofs.Ytgmdkjiflhklaaa
