/- M5: copies and comparisons of lists of stamps, sides, spans. -/
import Derived.Test.YtgmdkjiflhklaaaM4
import Derived.Test.YtgmdkjiflhklaaaH2
import Derived.Test.YtgmdkjiflhklaaaA6
namespace Go.Proofs.Ytgmdkjiflhklaaa
open Go Go.Vm
noncomputable def cloneS : List V → Heap → Tr (V × Heap) := fun a H => match a, H with
  | [.sl n xs], [] => .must (eqB xs ((xs.map decS).map encS)) (.must (!n || xs.isEmpty) (.must (decide (xs.length ≤ 1000)) (.ret (.ex 5 n xs, []))))
  | _, _ => .fail
theorem cloneS_ok : ∀ a H r, (cloneS a H).run = some r → Runs T F 20 a H r := by
  intro a H r h
  unfold cloneS at h
  split at h
  · rename_i n xs
    obtain ⟨h0, h⟩ := Tr.must_some h
    obtain ⟨h1, h⟩ := Tr.must_some h
    obtain ⟨h2, h⟩ := Tr.must_some h
    have hr := ret_some h
    clear h
    subst hr
    have h0 := of_eqB h0
    simp only [decide_eq_true_eq] at h2
    generalize xs.map decS = l at *
    subst h0
    by_cases hn : n = true
    · subst hn
      have : l = [] := by simpa using h1
      subst this
      exact Runs.way (F := F) (sh := Sh) (S := noSpec) (L := fun _ _ => .fail) Vm.Good.no (fi := fi20) (by kernel_rfl) (LGood.none (by kernel_rfl)) [] [0] (by kernel_rfl) trivial
    · have hn' : V.ex 5 n (l.map encS) = V.ex 5 false ([] ++ l.map encS) := by simp at hn; rw [hn]; rfl
      rw [hn']
      refine Runs.way (F := F) (sh := Sh) (S := noSpec) (L := fun _ _ => .fail) Vm.Good.no (fi := fi20) (by kernel_rfl) (LGood.none (by kernel_rfl)) [(n == true, false),
    (rooms (0 + (List.map encS l).length) 40, true),
    (decide (0 + (List.map encS l).length < 4611686018427387904), true),
    ((List.map encS l).all fun y => y.cells.length == 5, true)] [2, 3, 4, 5] (by kernel_rfl) ⟨by simpa using hn, by simp [rooms, maxRoom] at h2 ⊢; omega, by simp at h2 ⊢; omega, List.all_eq_true.2 fun x hx => ?_, trivial⟩
      obtain ⟨c, _, rfl⟩ := List.mem_map.1 hx
      rfl
  · cases h
noncomputable def clonD : List V → Heap → Tr (V × Heap) := fun a H => match a, H with
  | [.sl n xs], [] => .must (eqB xs ((xs.map decD).map encD)) (.must (!n || xs.isEmpty) (.must (decide (xs.length ≤ 1000)) (.ret (.ex 2 n xs, []))))
  | _, _ => .fail
theorem clonD_ok : ∀ a H r, (clonD a H).run = some r → Runs T F 65 a H r := by
  intro a H r h
  unfold clonD at h
  split at h
  · rename_i n xs
    obtain ⟨h0, h⟩ := Tr.must_some h
    obtain ⟨h1, h⟩ := Tr.must_some h
    obtain ⟨h2, h⟩ := Tr.must_some h
    have hr := ret_some h
    clear h
    subst hr
    have h0 := of_eqB h0
    simp only [decide_eq_true_eq] at h2
    generalize xs.map decD = l at *
    subst h0
    by_cases hn : n = true
    · subst hn
      have : l = [] := by simpa using h1
      subst this
      exact Runs.way (F := F) (sh := Sh) (S := noSpec) (L := fun _ _ => .fail) Vm.Good.no (fi := fi65) (by kernel_rfl) (LGood.none (by kernel_rfl)) [] [0] (by kernel_rfl) trivial
    · have hn' : V.ex 2 n (l.map encD) = V.ex 2 false ([] ++ l.map encD) := by simp at hn; rw [hn]; rfl
      rw [hn']
      refine Runs.way (F := F) (sh := Sh) (S := noSpec) (L := fun _ _ => .fail) Vm.Good.no (fi := fi65) (by kernel_rfl) (LGood.none (by kernel_rfl)) [(n == true, false),
    (rooms (0 + (List.map encD l).length) 16, true),
    (decide (0 + (List.map encD l).length < 4611686018427387904), true),
    ((List.map encD l).all fun y => y.cells.length == 2, true)] [2, 3, 4, 5] (by kernel_rfl) ⟨by simpa using hn, by simp [rooms, maxRoom] at h2 ⊢; omega, by simp at h2 ⊢; omega, List.all_eq_true.2 fun x hx => ?_, trivial⟩
      obtain ⟨c, _, rfl⟩ := List.mem_map.1 hx
      rfl
  · cases h
theorem eqv_P (a0 : Int) (a1 : Int) : cellsEqv [V.int IntKind.i64 a0, V.int IntKind.i64 a1] [V.int IntKind.i64 a0, V.int IntKind.i64 a1] = true := by simp [cellsEqv, cellEqv]
def eSP (n m : Bool) (l : List (Int × Int)) (k : Int) : St := ⟨[(0, V.sl n (l.map encP)), (1, V.sl m (l.map encP)), (12, V.int IntKind.i64 l.length), (13, V.int IntKind.i64 k)], []⟩
theorem eq_loopP (n m : Bool) (l : List (Int × Int)) (hl : l.length ≤ 1000) : ∀ (d k : Nat), k + d = l.length →
    LRuns (vstep T (vlim T F) lplim fi38.cx 0 (lb fi38 0)) (eSP n m l k) (.exit 0, ⟨(eSP n m l l.length).env ++ [(14, .bool false)], []⟩)
  | 0, k, hd => by
    have hk : k = l.length := by omega
    subst hk
    have := LRuns.last (T := T) (F := F) Vm.Good.no (sh := Sh) (L := fun _ _ => .fail) (n := 0) (b := lb fi38 0) (cx := fi38.cx) (τ := eSP n m l l.length) (LGood.none (by kernel_rfl)) [(decide ((l.length : Int) < (l.length : Int)), false)] [2]
      (r := (.exit 0, ⟨(eSP n m l l.length).env ++ [(14, .bool (decide ((l.length : Int) < (l.length : Int))))], []⟩)) (by kernel_rfl) (by simp) ⟨by simp, trivial⟩
    simpa using this
  | d + 1, k, hd => by
    have hk : k < l.length := by omega
    have ih := eq_loopP n m l hl d (k + 1) (by omega)
    refine LRuns.next (F := F) Vm.Good.no (sh := Sh) (L := fun _ _ => .fail) (LGood.none (by kernel_rfl)) [(decide ((↑k : Int) < (↑l.length : Int)), true),
    (decide ((↑k : Int) < (↑(List.map encP l).length : Int)), true),
    (((List.map encP l).getD k V.undef).cells.length == 2 && fitP [TK.int IntKind.i64, TK.int IntKind.i64] 0 ((List.map encP l).getD k V.undef), true),
    (!cellsEqv [V.int IntKind.i64 (Fd.o0 l k), V.int IntKind.i64 (Fd.o1 l k)] [V.int IntKind.i64 (Fd.o0 l k), V.int IntKind.i64 (Fd.o1 l k)], false)] [2, 0, 3, 4, 0, 3, 4, 5] (τ' := eSP n m l (IntKind.i64.wrap ((k : Int) + 1))) (by kernel_rfl) ?_ ?_
    · refine ⟨?_, ?_, ?_, ?_, trivial⟩
      all_goals first
        | (simp; omega)
        | (simp [encP, fitP, fld, leafFits, V.cells, hk]; done)
        | (rw [eqv_P]; rfl)
    · rw [len_wrap (by omega)]; exact ih
noncomputable def eqlP : List V → Heap → Tr (V × Heap) := fun a H => match a, H with
  | [.sl _ xs, .sl _ ys], [] => .must (eqB ys xs) (.must (eqB xs ((xs.map decP).map encP)) (.must (decide (xs.length ≤ 1000)) (.ret (.bool true, []))))
  | _, _ => .fail
theorem eqlP_ok : ∀ a H r, (eqlP a H).run = some r → Runs T F 38 a H r := by
  intro a H r h
  unfold eqlP at h
  split at h
  · rename_i n xs m ys
    obtain ⟨h0, h⟩ := Tr.must_some h
    obtain ⟨h1, h⟩ := Tr.must_some h
    obtain ⟨h2, h⟩ := Tr.must_some h
    have hr := ret_some h
    clear h
    subst hr
    have h0 := of_eqB h0
    have h1 := of_eqB h1
    simp only [decide_eq_true_eq] at h2
    have h3 : (xs.map decP).length ≤ 1000 := by simpa using h2
    subst h0
    clear h2
    generalize ys.map decP = l at *
    subst h1
    have hL := LGood.one (c := fi38.body) (b := lb fi38 0) (k := 4) (σ0 := eSP n m l 0) (by kernel_rfl) (eq_loopP n m l h3 l.length 0 (by omega))
    exact Runs.way (F := F) (sh := Sh) (S := noSpec) Vm.Good.no (fi := fi38) (by kernel_rfl) hL [((↑(List.map encP l).length : Int) != (↑(List.map encP l).length : Int), false),
    (is { env := [(0, V.sl n (List.map encP l)), (1, V.sl m (List.map encP l)), (12, V.int IntKind.i64 (↑(List.map encP l).length : Int)), (13, V.int IntKind.i64 0)], heap := [] } { env := [(0, V.sl n (List.map encP l)), (1, V.sl m (List.map encP l)), (12, V.int IntKind.i64 (↑l.length : Int)), (13, V.int IntKind.i64 0)], heap := [] }, true)] [2, 3] (by kernel_rfl) ⟨by simp, is_eq (by simp [eSP]), trivial⟩
  · cases h
theorem eqv_S (a0 : Int) (a1 : Int) (a2 : Int) (a3 : Int) (a4 : Int) : cellsEqv [V.int IntKind.i64 a0, V.int IntKind.u64 a1, V.int IntKind.i64 a2, V.int IntKind.i64 a3, V.int IntKind.u64 a4] [V.int IntKind.i64 a0, V.int IntKind.u64 a1, V.int IntKind.i64 a2, V.int IntKind.i64 a3, V.int IntKind.u64 a4] = true := by simp [cellsEqv, cellEqv]
def eSS (n m : Bool) (l : List Stp) (k : Int) : St := ⟨[(0, V.sl n (l.map encS)), (1, V.sl m (l.map encS)), (12, V.int IntKind.i64 l.length), (13, V.int IntKind.i64 k)], []⟩
theorem eq_loopS (n m : Bool) (l : List Stp) (hl : l.length ≤ 1000) : ∀ (d k : Nat), k + d = l.length →
    LRuns (vstep T (vlim T F) lplim fi67.cx 0 (lb fi67 0)) (eSS n m l k) (.exit 0, ⟨(eSS n m l l.length).env ++ [(14, .bool false)], []⟩)
  | 0, k, hd => by
    have hk : k = l.length := by omega
    subst hk
    have := LRuns.last (T := T) (F := F) Vm.Good.no (sh := Sh) (L := fun _ _ => .fail) (n := 0) (b := lb fi67 0) (cx := fi67.cx) (τ := eSS n m l l.length) (LGood.none (by kernel_rfl)) [(decide ((l.length : Int) < (l.length : Int)), false)] [2]
      (r := (.exit 0, ⟨(eSS n m l l.length).env ++ [(14, .bool (decide ((l.length : Int) < (l.length : Int))))], []⟩)) (by kernel_rfl) (by simp) ⟨by simp, trivial⟩
    simpa using this
  | d + 1, k, hd => by
    have hk : k < l.length := by omega
    have ih := eq_loopS n m l hl d (k + 1) (by omega)
    refine LRuns.next (F := F) Vm.Good.no (sh := Sh) (L := fun _ _ => .fail) (LGood.none (by kernel_rfl)) [(decide ((↑k : Int) < (↑l.length : Int)), true),
    (decide ((↑k : Int) < (↑(List.map encS l).length : Int)), true),
    (((List.map encS l).getD k V.undef).cells.length == 5 && fitP [TK.int IntKind.i64, TK.int IntKind.u64, TK.int IntKind.i64, TK.int IntKind.i64, TK.int IntKind.u64] 0 ((List.map encS l).getD k V.undef), true),
    (!cellsEqv [V.int IntKind.i64 (Fd.s0 l k), V.int IntKind.u64 (Fd.s1 l k), V.int IntKind.i64 (Fd.s2 l k), V.int IntKind.i64 (Fd.s3 l k), V.int IntKind.u64 (Fd.sn l k)] [V.int IntKind.i64 (Fd.s0 l k), V.int IntKind.u64 (Fd.s1 l k), V.int IntKind.i64 (Fd.s2 l k), V.int IntKind.i64 (Fd.s3 l k), V.int IntKind.u64 (Fd.sn l k)], false)] [2, 0, 3, 4, 0, 3, 4, 5] (τ' := eSS n m l (IntKind.i64.wrap ((k : Int) + 1))) (by kernel_rfl) ?_ ?_
    · refine ⟨?_, ?_, ?_, ?_, trivial⟩
      all_goals first
        | (simp; omega)
        | (simp [encS, fitP, fld, leafFits, V.cells, hk]; done)
        | (rw [eqv_S]; rfl)
    · rw [len_wrap (by omega)]; exact ih
noncomputable def eqlS : List V → Heap → Tr (V × Heap) := fun a H => match a, H with
  | [.sl _ xs, .sl _ ys], [] => .must (eqB ys xs) (.must (eqB xs ((xs.map decS).map encS)) (.must (decide (xs.length ≤ 1000)) (.ret (.bool true, []))))
  | _, _ => .fail
theorem eqlS_ok : ∀ a H r, (eqlS a H).run = some r → Runs T F 67 a H r := by
  intro a H r h
  unfold eqlS at h
  split at h
  · rename_i n xs m ys
    obtain ⟨h0, h⟩ := Tr.must_some h
    obtain ⟨h1, h⟩ := Tr.must_some h
    obtain ⟨h2, h⟩ := Tr.must_some h
    have hr := ret_some h
    clear h
    subst hr
    have h0 := of_eqB h0
    have h1 := of_eqB h1
    simp only [decide_eq_true_eq] at h2
    have h3 : (xs.map decS).length ≤ 1000 := by simpa using h2
    subst h0
    clear h2
    generalize ys.map decS = l at *
    subst h1
    have hL := LGood.one (c := fi67.body) (b := lb fi67 0) (k := 4) (σ0 := eSS n m l 0) (by kernel_rfl) (eq_loopS n m l h3 l.length 0 (by omega))
    exact Runs.way (F := F) (sh := Sh) (S := noSpec) Vm.Good.no (fi := fi67) (by kernel_rfl) hL [((↑(List.map encS l).length : Int) != (↑(List.map encS l).length : Int), false),
    (is { env := [(0, V.sl n (List.map encS l)), (1, V.sl m (List.map encS l)), (12, V.int IntKind.i64 (↑(List.map encS l).length : Int)), (13, V.int IntKind.i64 0)], heap := [] } { env := [(0, V.sl n (List.map encS l)), (1, V.sl m (List.map encS l)), (12, V.int IntKind.i64 (↑l.length : Int)), (13, V.int IntKind.i64 0)], heap := [] }, true)] [2, 3] (by kernel_rfl) ⟨by simp, is_eq (by simp [eSS]), trivial⟩
  · cases h
theorem eqv_D (a0 : Int) (a1 : Bool) : cellsEqv [V.int IntKind.u64 a0, V.bool a1] [V.int IntKind.u64 a0, V.bool a1] = true := by simp [cellsEqv, cellEqv]
def eSD (n m : Bool) (l : List (Int × Bool)) (k : Int) : St := ⟨[(0, V.sl n (l.map encD)), (1, V.sl m (l.map encD)), (12, V.int IntKind.i64 l.length), (13, V.int IntKind.i64 k)], []⟩
theorem eq_loopD (n m : Bool) (l : List (Int × Bool)) (hl : l.length ≤ 1000) : ∀ (d k : Nat), k + d = l.length →
    LRuns (vstep T (vlim T F) lplim fi68.cx 0 (lb fi68 0)) (eSD n m l k) (.exit 0, ⟨(eSD n m l l.length).env ++ [(14, .bool false)], []⟩)
  | 0, k, hd => by
    have hk : k = l.length := by omega
    subst hk
    have := LRuns.last (T := T) (F := F) Vm.Good.no (sh := Sh) (L := fun _ _ => .fail) (n := 0) (b := lb fi68 0) (cx := fi68.cx) (τ := eSD n m l l.length) (LGood.none (by kernel_rfl)) [(decide ((l.length : Int) < (l.length : Int)), false)] [2]
      (r := (.exit 0, ⟨(eSD n m l l.length).env ++ [(14, .bool (decide ((l.length : Int) < (l.length : Int))))], []⟩)) (by kernel_rfl) (by simp) ⟨by simp, trivial⟩
    simpa using this
  | d + 1, k, hd => by
    have hk : k < l.length := by omega
    have ih := eq_loopD n m l hl d (k + 1) (by omega)
    refine LRuns.next (F := F) Vm.Good.no (sh := Sh) (L := fun _ _ => .fail) (LGood.none (by kernel_rfl)) [(decide ((↑k : Int) < (↑l.length : Int)), true),
    (decide ((↑k : Int) < (↑(List.map encD l).length : Int)), true),
    (((List.map encD l).getD k V.undef).cells.length == 2 && fitP [TK.int IntKind.u64, TK.bool] 0 ((List.map encD l).getD k V.undef), true),
    (!cellsEqv [V.int IntKind.u64 (Fd.dh l k), V.bool (Fd.db l k)] [V.int IntKind.u64 (Fd.dh l k), V.bool (Fd.db l k)], false)] [2, 0, 3, 4, 0, 3, 4, 5] (τ' := eSD n m l (IntKind.i64.wrap ((k : Int) + 1))) (by kernel_rfl) ?_ ?_
    · refine ⟨?_, ?_, ?_, ?_, trivial⟩
      all_goals first
        | (simp; omega)
        | (simp [encD, fitP, fld, leafFits, V.cells, hk]; done)
        | (rw [eqv_D]; rfl)
    · rw [len_wrap (by omega)]; exact ih
noncomputable def eqlD : List V → Heap → Tr (V × Heap) := fun a H => match a, H with
  | [.sl _ xs, .sl _ ys], [] => .must (eqB ys xs) (.must (eqB xs ((xs.map decD).map encD)) (.must (decide (xs.length ≤ 1000)) (.ret (.bool true, []))))
  | _, _ => .fail
theorem eqlD_ok : ∀ a H r, (eqlD a H).run = some r → Runs T F 68 a H r := by
  intro a H r h
  unfold eqlD at h
  split at h
  · rename_i n xs m ys
    obtain ⟨h0, h⟩ := Tr.must_some h
    obtain ⟨h1, h⟩ := Tr.must_some h
    obtain ⟨h2, h⟩ := Tr.must_some h
    have hr := ret_some h
    clear h
    subst hr
    have h0 := of_eqB h0
    have h1 := of_eqB h1
    simp only [decide_eq_true_eq] at h2
    have h3 : (xs.map decD).length ≤ 1000 := by simpa using h2
    subst h0
    clear h2
    generalize ys.map decD = l at *
    subst h1
    have hL := LGood.one (c := fi68.body) (b := lb fi68 0) (k := 4) (σ0 := eSD n m l 0) (by kernel_rfl) (eq_loopD n m l h3 l.length 0 (by omega))
    exact Runs.way (F := F) (sh := Sh) (S := noSpec) Vm.Good.no (fi := fi68) (by kernel_rfl) hL [((↑(List.map encD l).length : Int) != (↑(List.map encD l).length : Int), false),
    (is { env := [(0, V.sl n (List.map encD l)), (1, V.sl m (List.map encD l)), (12, V.int IntKind.i64 (↑(List.map encD l).length : Int)), (13, V.int IntKind.i64 0)], heap := [] } { env := [(0, V.sl n (List.map encD l)), (1, V.sl m (List.map encD l)), (12, V.int IntKind.i64 (↑l.length : Int)), (13, V.int IntKind.i64 0)], heap := [] }, true)] [2, 3] (by kernel_rfl) ⟨by simp, is_eq (by simp [eSD]), trivial⟩
  · cases h
def reS (n : Bool) (l o : List Stp) (k : Int) : St := ⟨[(3, V.ex 5 o.isEmpty (o.map encS)), (6, V.sl n (l.map encS)), (7, V.int IntKind.i64 l.length), (8, V.int IntKind.i64 k)], []⟩
theorem re_loop (n : Bool) (l : List Stp) (hl : l.length ≤ 1000) : ∀ (m k : Nat) (o : List Stp), k + m = l.length → o = l.take k →
    LRuns (vstep T (vlim T F) lplim fi59.cx 0 (lb fi59 0)) (reS n l o k) (.exit 0, ⟨(reS n l l l.length).env ++ [(9, .bool false)], []⟩)
  | 0, k, o, hd, ho => by
    have hk : k = l.length := by omega
    subst hk
    rw [List.take_length] at ho
    subst ho
    have := LRuns.last (T := T) (F := F) Vm.Good.no (sh := Sh) (L := fun _ _ => .fail) (n := 0) (b := lb fi59 0) (cx := fi59.cx) (τ := reS n o o o.length) (LGood.none (by kernel_rfl)) [(decide ((o.length : Int) < (o.length : Int)), false)] [2]
      (r := (.exit 0, ⟨(reS n o o o.length).env ++ [(9, .bool (decide ((o.length : Int) < (o.length : Int))))], []⟩)) (by kernel_rfl) (by simp) ⟨by simp, trivial⟩
    simpa using this
  | m + 1, k, o, hd, ho => by
    have hk : k < l.length := by omega
    have ih := re_loop n l hl m (k + 1) (o ++ [l[k]]) (by omega) (by rw [ho]; exact List.take_append_getElem hk)
    have g0 := s0_at l k hk
    have g1 := s1_at l k hk
    have g2 := s2_at l k hk
    have g3 := s3_at l k hk
    have g4 := sn_at l k hk
    have hlo : o.length ≤ 1000 := by rw [ho, List.length_take]; omega
    refine LRuns.next (F := F) Vm.Good.no (sh := Sh) (L := fun _ _ => .fail) (LGood.none (by kernel_rfl)) [(decide ((↑k : Int) < (↑l.length : Int)), true),
    (decide ((↑k : Int) < (↑(List.map encS l).length : Int)), true),
    (((List.map encS l).getD k V.undef).cells.length == 5 && fitP [TK.int IntKind.i64, TK.int IntKind.u64, TK.int IntKind.i64, TK.int IntKind.i64, TK.int IntKind.u64] 0 ((List.map encS l).getD k V.undef), true),
    (rooms ((List.map encS o).length + 1) 40, true),
    (decide ((List.map encS o).length + 1 < 4611686018427387904), true)] [2, 0, 3, 4, 5, 6, 0] (τ' := { env := [(3, V.ex 5 (((o).isEmpty) && false) (List.map encS o ++ [V.agg [V.int IntKind.i64 (Fd.s0 l k), V.int IntKind.u64 (Fd.s1 l k), V.int IntKind.i64 (Fd.s2 l k), V.int IntKind.i64 (Fd.s3 l k), V.int IntKind.u64 (Fd.sn l k)]])), (6, V.sl n (List.map encS l)), (7, V.int IntKind.i64 (↑l.length : Int)), (8, V.int IntKind.i64 (IntKind.i64.wrap ((↑k : Int) + 1)))], heap := [] }) (by kernel_rfl) ?_ ?_
    · refine ⟨?_, ?_, ?_, ?_, ?_, trivial⟩
      all_goals first
        | (simp; omega)
        | (simp [encS, fitP, fld, leafFits, V.cells, hk]; done)
        | (simp [rooms, maxRoom]; omega)
    · rw [len_wrap (by omega), g0, g1, g2, g3, g4]
      have ee : (o ++ [l[k]]).isEmpty = false := by cases o <;> rfl
      simpa [reS, encS, ee] using ih
noncomputable def refS : List V → Heap → Tr (V × Heap) := fun a H => match a, H with
  | [.sl _ xs], [] => .must (eqB xs ((xs.map decS).map encS)) (.must (decide (xs.length ≤ 1000)) (.ret (.ex 5 (xs.map decS).isEmpty ((xs.map decS).map encS), [])))
  | _, _ => .fail
theorem refS_ok : ∀ a H r, (refS a H).run = some r → Runs T F 59 a H r := by
  intro a H r h
  unfold refS at h
  split at h
  · rename_i n xs
    obtain ⟨h0, h⟩ := Tr.must_some h
    obtain ⟨h1, h⟩ := Tr.must_some h
    have hr := ret_some h; clear h; subst hr
    have h0 := of_eqB h0
    simp only [decide_eq_true_eq] at h1
    generalize xs.map decS = l at *
    subst h0
    exact Runs.way (F := F) (sh := Sh) (S := noSpec) Vm.Good.no (fi := fi59) (by kernel_rfl) (LGood.one (b := lb fi59 0) (k := 3) (σ0 := reS n l [] 0) (by kernel_rfl) (re_loop n l (by simpa using h1) l.length 0 [] (by omega) rfl)) [(is { env := [(3, V.ex 5 true []), (6, V.sl n (List.map encS l)), (7, V.int IntKind.i64 (↑(List.map encS l).length : Int)), (8, V.int IntKind.i64 0)], heap := [] } { env := [(3, V.ex 5 true []), (6, V.sl n (List.map encS l)), (7, V.int IntKind.i64 (↑l.length : Int)), (8, V.int IntKind.i64 0)], heap := [] }, true)] [2] (by kernel_rfl) ⟨is_eq (by simp [reS]), trivial⟩
  · cases h
noncomputable def UM : Vm.Spec := ((((((UL.add 20 cloneS).add 65 clonD).add 38 eqlP).add 67 eqlS).add 68 eqlD).add 59 refS).add 12 awakeS
theorem UM_ok : Vm.Good (vlim T F) UM := ((((((UL_ok.add cloneS_ok).add clonD_ok).add eqlP_ok).add eqlS_ok).add eqlD_ok).add refS_ok).add fun a H r h => by
  unfold awakeS at h
  split at h
  · have := ret_some h; subst this
    exact ⟨60, awake_v⟩
  · cases h
end Go.Proofs.Ytgmdkjiflhklaaa
