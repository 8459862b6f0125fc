/- C2: what compares; the reference's Show. -/
import Derived.Test.YtgmdkjiflhklaaaC1
namespace Go.Proofs.Ytgmdkjiflhklaaa
open Go Go.Vm
noncomputable def X96 : Vm.Spec := UM.add 96 (inl T Sh UM 0 0 fi96)
theorem X96_ok : Vm.Good (vlim T F) X96 := UM_ok.inl (by kernel_rfl) 0 0 (by kernel_rfl)
noncomputable def X98 : Vm.Spec := X96.add 98 (inl T Sh X96 0 0 fi98)
theorem X98_ok : Vm.Good (vlim T F) X98 := X96_ok.inl (by kernel_rfl) 0 0 (by kernel_rfl)
def fSS (n m : Bool) (l : List Stp) (k : Int) : St := ⟨[(1, V.sl m (l.map encS)), (2, .clo (.func 96) [] []), (15, V.sl n (l.map encS)), (16, V.int IntKind.i64 l.length), (17, V.int IntKind.i64 k)], []⟩
def fSD (n m : Bool) (l : List (Int × Bool)) (k : Int) : St := ⟨[(1, V.sl m (l.map encD)), (2, .clo (.func 98) [] []), (15, V.sl n (l.map encD)), (16, V.int IntKind.i64 l.length), (17, V.int IntKind.i64 k)], []⟩
def shS (k : Int) (o : List (Int × Bool)) (n : Bool) (l : List Int) : St := ⟨[(1, .int .i64 k), (6, V.ex 2 o.isEmpty (o.map encD)), (7, V.sl n (l.map encU))], []⟩

theorem eqf_S (n m : Bool) (l : List (Stp)) (hl : l.length ≤ 2000) : ∀ (d k : Nat), k + d = l.length →
    LRuns (vstep T (vlim T F) lplim fi95.cx 0 (lb fi95 0)) (fSS n m l k) (.exit 0, ⟨(fSS n m l l.length).env ++ [(18, .bool false)], []⟩)
  | 0, k, hd => by
    have hk : k = l.length := by omega
    subst hk
    have := LRuns.last (F := F) X98_ok (sh := Sh) (L := fun _ _ => .fail) (n := 0) (b := lb fi95 0) (cx := fi95.cx) (τ := fSS n m l l.length) (LGood.none (by kernel_rfl)) [(decide ((l.length : Int) < (l.length : Int)), false)] [2]
      (r := (.exit 0, ⟨(fSS n m l l.length).env ++ [(18, .bool (decide ((l.length : Int) < (l.length : Int))))], []⟩)) (by kernel_rfl) (by simp) ⟨by simp, trivial⟩
    simpa using this
  | d + 1, k, hd => by
    have hk : k < l.length := by omega
    have ih := eqf_S n m l hl d (k + 1) (by omega)
    refine LRuns.next (F := F) X98_ok (sh := Sh) (L := fun _ _ => .fail) (LGood.none (by kernel_rfl)) [(decide ((↑k : Int) < (↑l.length : Int)), true),
    (decide ((↑k : Int) < (↑(List.map encS l).length : Int)), true),
    (((List.map encS l).getD k V.undef).cells.length == 5 && fitP [TK.int IntKind.i64, TK.int IntKind.u64, TK.int IntKind.i64, TK.int IntKind.i64, TK.int IntKind.u64] 0 ((List.map encS l).getD k V.undef), true),
    (!cellsEqv [V.int IntKind.i64 (Fd.s0 l k), V.int IntKind.u64 (Fd.s1 l k), V.int IntKind.i64 (Fd.s2 l k), V.int IntKind.i64 (Fd.s3 l k), V.int IntKind.u64 (Fd.sn l k)] [V.int IntKind.i64 (Fd.s0 l k), V.int IntKind.u64 (Fd.s1 l k), V.int IntKind.i64 (Fd.s2 l k), V.int IntKind.i64 (Fd.s3 l k), V.int IntKind.u64 (Fd.sn l k)], false)] [2, 0, 3, 4, 0, 3, 4, 5] (τ' := fSS n m l (IntKind.i64.wrap ((k : Int) + 1))) (by kernel_rfl) ?_ ?_
    · refine ⟨?_, ?_, ?_, ?_, trivial⟩
      all_goals first
        | (simp; omega)
        | (simp [encS, fitP, fld, leafFits, V.cells, hk]; done)
        | (rw [eqv_S]; rfl)
    · rw [len_wrap (by omega)]; exact ih
noncomputable def eqFS : List V → Heap → Tr (V × Heap) := fun a H => match a, H with
  | [.sl _ xs, .sl _ ys, .clo (.func 96) [] []], [] => .must (eqB ys xs) (.must (eqB xs ((xs.map decS).map encS)) (.must (decide (xs.length ≤ 2000)) (.ret (.bool true, []))))
  | _, _ => .fail
theorem eqFS_ok : ∀ a H r, (eqFS a H).run = some r → Runs T F 95 a H r := by
  intro a H r h
  unfold eqFS at h
  split at h
  · rename_i n xs m ys
    obtain ⟨h0, h⟩ := Tr.must_some h
    obtain ⟨h1, h⟩ := Tr.must_some h
    obtain ⟨h2, h⟩ := Tr.must_some h
    have hr := ret_some h
    clear h
    subst hr
    have h0 := of_eqB h0
    have h1 := of_eqB h1
    simp only [decide_eq_true_eq] at h2
    have h3 : (xs.map decS).length ≤ 2000 := by simpa using h2
    subst h0
    clear h2
    generalize ys.map decS = l at *
    subst h1
    have hL := LGood.one (c := fi95.body) (b := lb fi95 0) (k := 4) (σ0 := fSS n m l 0) (by kernel_rfl) (eqf_S n m l h3 l.length 0 (by omega))
    exact Runs.way (F := F) (sh := Sh) (S := X98) X98_ok (fi := fi95) (by kernel_rfl) hL [((↑(List.map encS l).length : Int) != (↑(List.map encS l).length : Int), false),
    (is { env := [(1, V.sl m (List.map encS l)), (2, V.clo (Fn.func 96) [] []), (15, V.sl n (List.map encS l)), (16, V.int IntKind.i64 (↑(List.map encS l).length : Int)), (17, V.int IntKind.i64 0)], heap := [] } { env := [(1, V.sl m (List.map encS l)), (2, V.clo (Fn.func 96) [] []), (15, V.sl n (List.map encS l)), (16, V.int IntKind.i64 (↑l.length : Int)), (17, V.int IntKind.i64 0)], heap := [] }, true)] [2, 3] (by kernel_rfl) ⟨by simp, is_eq (by simp [fSS]), trivial⟩
  · cases h

theorem eqf_D (n m : Bool) (l : List (Int × Bool)) (hl : l.length ≤ 2000) : ∀ (d k : Nat), k + d = l.length →
    LRuns (vstep T (vlim T F) lplim fi97.cx 0 (lb fi97 0)) (fSD n m l k) (.exit 0, ⟨(fSD n m l l.length).env ++ [(18, .bool false)], []⟩)
  | 0, k, hd => by
    have hk : k = l.length := by omega
    subst hk
    have := LRuns.last (F := F) X98_ok (sh := Sh) (L := fun _ _ => .fail) (n := 0) (b := lb fi97 0) (cx := fi97.cx) (τ := fSD n m l l.length) (LGood.none (by kernel_rfl)) [(decide ((l.length : Int) < (l.length : Int)), false)] [2]
      (r := (.exit 0, ⟨(fSD n m l l.length).env ++ [(18, .bool (decide ((l.length : Int) < (l.length : Int))))], []⟩)) (by kernel_rfl) (by simp) ⟨by simp, trivial⟩
    simpa using this
  | d + 1, k, hd => by
    have hk : k < l.length := by omega
    have ih := eqf_D n m l hl d (k + 1) (by omega)
    refine LRuns.next (F := F) X98_ok (sh := Sh) (L := fun _ _ => .fail) (LGood.none (by kernel_rfl)) [(decide ((↑k : Int) < (↑l.length : Int)), true),
    (decide ((↑k : Int) < (↑(List.map encD l).length : Int)), true),
    (((List.map encD l).getD k V.undef).cells.length == 2 && fitP [TK.int IntKind.u64, TK.bool] 0 ((List.map encD l).getD k V.undef), true),
    (!cellsEqv [V.int IntKind.u64 (Fd.dh l k), V.bool (Fd.db l k)] [V.int IntKind.u64 (Fd.dh l k), V.bool (Fd.db l k)], false)] [2, 0, 3, 4, 0, 3, 4, 5] (τ' := fSD n m l (IntKind.i64.wrap ((k : Int) + 1))) (by kernel_rfl) ?_ ?_
    · refine ⟨?_, ?_, ?_, ?_, trivial⟩
      all_goals first
        | (simp; omega)
        | (simp [encD, fitP, fld, leafFits, V.cells, hk]; done)
        | (rw [eqv_D]; rfl)
    · rw [len_wrap (by omega)]; exact ih
noncomputable def eqFD : List V → Heap → Tr (V × Heap) := fun a H => match a, H with
  | [.sl _ xs, .sl _ ys, .clo (.func 98) [] []], [] => .must (eqB ys xs) (.must (eqB xs ((xs.map decD).map encD)) (.must (decide (xs.length ≤ 2000)) (.ret (.bool true, []))))
  | _, _ => .fail
theorem eqFD_ok : ∀ a H r, (eqFD a H).run = some r → Runs T F 97 a H r := by
  intro a H r h
  unfold eqFD at h
  split at h
  · rename_i n xs m ys
    obtain ⟨h0, h⟩ := Tr.must_some h
    obtain ⟨h1, h⟩ := Tr.must_some h
    obtain ⟨h2, h⟩ := Tr.must_some h
    have hr := ret_some h
    clear h
    subst hr
    have h0 := of_eqB h0
    have h1 := of_eqB h1
    simp only [decide_eq_true_eq] at h2
    have h3 : (xs.map decD).length ≤ 2000 := by simpa using h2
    subst h0
    clear h2
    generalize ys.map decD = l at *
    subst h1
    have hL := LGood.one (c := fi97.body) (b := lb fi97 0) (k := 4) (σ0 := fSD n m l 0) (by kernel_rfl) (eqf_D n m l h3 l.length 0 (by omega))
    exact Runs.way (F := F) (sh := Sh) (S := X98) X98_ok (fi := fi97) (by kernel_rfl) hL [((↑(List.map encD l).length : Int) != (↑(List.map encD l).length : Int), false),
    (is { env := [(1, V.sl m (List.map encD l)), (2, V.clo (Fn.func 98) [] []), (15, V.sl n (List.map encD l)), (16, V.int IntKind.i64 (↑(List.map encD l).length : Int)), (17, V.int IntKind.i64 0)], heap := [] } { env := [(1, V.sl m (List.map encD l)), (2, V.clo (Fn.func 98) [] []), (15, V.sl n (List.map encD l)), (16, V.int IntKind.i64 (↑l.length : Int)), (17, V.int IntKind.i64 0)], heap := [] }, true)] [2, 3] (by kernel_rfl) ⟨by simp, is_eq (by simp [fSD]), trivial⟩
  · cases h
noncomputable def X97 : Vm.Spec := (X98.add 95 eqFS).add 97 eqFD
theorem X97_ok : Vm.Good (vlim T F) X97 := (X98_ok.add eqFS_ok).add eqFD_ok
theorem sh_loop : ∀ (f : Nat) (row : List Int) (k : Nat) (o : List (Int × Bool)) (n : Bool), row.length ≤ f → row.length ≤ 1000 → k < row.length → o.length + row.length ≤ 2000 → n = false → ∃ k' z n',
    LRuns (vstep T (vlim T F) lplim fi72.cx 0 (lb fi72 0)) (shS k o n row) (.exit 0, ⟨(shS k' (o ++ P.sidesN f row k) n' z).env ++ [(18, .bool false)], []⟩)
  | 0, row, k, o, n, hf, hl, hk, ho, hn => by omega
  | f + 1, row, k, o, n, hf, hl, hk, ho, hn => by
    subst hn
    by_cases h : row.length > 1
    case neg =>
      refine ⟨k, row, false, ?_⟩
      have e0 : P.sidesN (f + 1) row k = [] := by simp only [P.sidesN]; rw [if_pos (by omega)]
      rw [e0, List.append_nil]
      have := LRuns.last (F := F) UM_ok (sh := Sh) (L := fun _ _ => .fail) (n := 0) (b := lb fi72 0) (cx := fi72.cx) (τ := shS k o false row) (LGood.none (by kernel_rfl)) [(decide (((List.map encU row).length : Int) > 1), false)] [2]
        (r := (.exit 0, ⟨(shS k o false row).env ++ [(18, .bool (decide (((List.map encU row).length : Int) > 1)))], []⟩)) (by kernel_rfl) (by simp) ⟨by simp; omega, trivial⟩
      have e : decide (((List.map encU row).length : Int) > 1) = false := by simp; omega
      rwa [e] at this
    have hu := up_len row
    have td := tdiv_two (k := k) (by omega)
    have tm : (k : Int).tmod 2 = ((k % 2 : Nat) : Int) := by rw [Int.tmod_eq_emod_of_nonneg (by omega)]; omega
    have hw1 : IntKind.i64.wrap ((k : Int) + 1) = ((k + 1 : Nat) : Int) := by rw [i64in (by omega) (by omega)]; rfl
    have ee : ∀ x, (o ++ [x]).isEmpty = false := by intro x; cases o <;> rfl
    by_cases h1 : k % 2 = 1
    · have hw0 : IntKind.i64.wrap ((k : Int) - 1) = ((k - 1 : Nat) : Int) := by rw [i64in (by omega) (by omega)]; omega
      have hk1 : k - 1 < row.length := by omega
      have hg := hu_at row (k - 1) hk1
      have hgd : row.getD (k - 1) 0 = row[k - 1] := by rw [List.getD_eq_getElem?_getD, List.getElem?_eq_getElem hk1]; rfl
      have e : P.sidesN (f + 1) row k = (row.getD (k - 1) 0, true) :: P.sidesN f (P.up row) (k / 2) := by
        have e1 : oth k = k - 1 := by unfold oth; rw [if_pos h1]
        simp only [P.sidesN]; rw [if_neg (by omega), e1, if_pos (by omega)]
        simp <;> omega
      obtain ⟨k', z, n', ih⟩ := sh_loop f (P.up row) (k / 2) (o ++ [(row.getD (k - 1) 0, true)]) false (by omega) (by omega) (by omega) (by simp; omega) rfl
      refine ⟨k', z, n', ?_⟩
      rw [e]
      rw [List.append_assoc, List.singleton_append] at ih
      refine LRuns.next (F := F) UM_ok (sh := Sh) (L := fun _ _ => .fail) (LGood.none (by kernel_rfl)) [(decide ((↑(List.map encU row).length : Int) > 1), true),
    ((↑k : Int).tmod 2 == 1, true),
    (decide (0 ≤ IntKind.i64.wrap ((↑k : Int) - 1)), true),
    (decide (IntKind.i64.wrap ((↑k : Int) - 1) < (↑(List.map encU row).length : Int)), true),
    (((List.map encU row).getD (IntKind.i64.wrap ((↑k : Int) - 1)).toNat V.undef).cells.length == 1 && fitP [TK.int IntKind.u64] 0 ((List.map encU row).getD (IntKind.i64.wrap ((↑k : Int) - 1)).toNat V.undef), true),
    (rooms ((List.map encD o).length + 1) 16, true),
    (decide ((List.map encD o).length + 1 < 4611686018427387904), true),
    ((List.map encU row).all isU, true),
    (decide (0 < (List.map encU row).length), true),
    (decide ((List.map encU row).length ≤ 1000), true)] [2, 0, 3, 4, 5, 6, 7, 8, 0, 0, 9, 10, 11, 0] (τ' := { env := [(1, V.int IntKind.i64 (IntKind.i64.wrap ((↑k : Int).tdiv 2))), (6, V.ex 2 (((o).isEmpty) && false) (List.map encD o ++ [V.agg [V.int IntKind.u64 (Fd.hu row (IntKind.i64.wrap ((↑k : Int) - 1)).toNat), V.bool true]])), (7, V.sl false (List.map encU (P.up (List.map intOf (List.map encU row)))))], heap := [] }) (by kernel_rfl) ?_ ?_
      · refine ⟨?_, ?_, ?_, ?_, ?_, ?_, ?_, ?_, ?_, ?_, trivial⟩
        all_goals first
          | exact all_isU _
          | (simp; done)
          | (rw [tm]; simp; omega)
          | (simp only [hw1, List.length_map]; simp; omega)
          | (simp only [hw0, List.length_map]; simp; omega)
          | (simp only [hw0, Int.toNat_natCast]; simp [encU, fitP, fld, leafFits, V.cells, hk1]; done)
          | (simp only [hw1, Int.toNat_natCast]; simp [encU, fitP, fld, leafFits, V.cells, h2]; done)
          | (simp; omega)
          | (simp [rooms, maxRoom]; omega)
      · rw [int_encU, hw0, Int.toNat_natCast, hg, td.2]
        rw [hgd] at ih ⊢
        simpa [shS, encD, ee] using ih
    · by_cases h2 : k + 1 < row.length
      · have hg := hu_at row (k + 1) h2
        have hgd : row.getD (k + 1) 0 = row[k + 1] := by rw [List.getD_eq_getElem?_getD, List.getElem?_eq_getElem h2]; rfl
        have e : P.sidesN (f + 1) row k = (row.getD (k + 1) 0, false) :: P.sidesN f (P.up row) (k / 2) := by
          have e1 : oth k = k + 1 := by unfold oth; rw [if_neg h1]
          simp only [P.sidesN]; rw [if_neg (by omega), e1, if_pos (by omega)]
          simp <;> omega
        obtain ⟨k', z, n', ih⟩ := sh_loop f (P.up row) (k / 2) (o ++ [(row.getD (k + 1) 0, false)]) false (by omega) (by omega) (by omega) (by simp; omega) rfl
        refine ⟨k', z, n', ?_⟩
        rw [e]
        rw [List.append_assoc, List.singleton_append] at ih
        refine LRuns.next (F := F) UM_ok (sh := Sh) (L := fun _ _ => .fail) (LGood.none (by kernel_rfl)) [(decide ((↑(List.map encU row).length : Int) > 1), true),
    ((↑k : Int).tmod 2 == 1, false),
    (decide (IntKind.i64.wrap ((↑k : Int) + 1) < (↑(List.map encU row).length : Int)), true),
    (decide (0 ≤ IntKind.i64.wrap ((↑k : Int) + 1)), true),
    (decide (IntKind.i64.wrap ((↑k : Int) + 1) < (↑(List.map encU row).length : Int)), true),
    (((List.map encU row).getD (IntKind.i64.wrap ((↑k : Int) + 1)).toNat V.undef).cells.length == 1 && fitP [TK.int IntKind.u64] 0 ((List.map encU row).getD (IntKind.i64.wrap ((↑k : Int) + 1)).toNat V.undef), true),
    (rooms ((List.map encD o).length + 1) 16, true),
    (decide ((List.map encD o).length + 1 < 4611686018427387904), true),
    ((List.map encU row).all isU, true),
    (decide (0 < (List.map encU row).length), true),
    (decide ((List.map encU row).length ≤ 1000), true)] [2, 0, 3, 4, 5, 6, 7, 8, 9, 0, 0, 10, 11, 12, 0] (τ' := { env := [(1, V.int IntKind.i64 (IntKind.i64.wrap ((↑k : Int).tdiv 2))), (6, V.ex 2 (((o).isEmpty) && false) (List.map encD o ++ [V.agg [V.int IntKind.u64 (Fd.hu row (IntKind.i64.wrap ((↑k : Int) + 1)).toNat), V.bool false]])), (7, V.sl false (List.map encU (P.up (List.map intOf (List.map encU row)))))], heap := [] }) (by kernel_rfl) ?_ ?_
        · refine ⟨?_, ?_, ?_, ?_, ?_, ?_, ?_, ?_, ?_, ?_, ?_, trivial⟩
          all_goals first
          | exact all_isU _
          | (simp; done)
          | (rw [tm]; simp; omega)
          | (simp only [hw1, List.length_map]; simp; omega)
          | (simp only [hw0, List.length_map]; simp; omega)
          | (simp only [hw0, Int.toNat_natCast]; simp [encU, fitP, fld, leafFits, V.cells, hk1]; done)
          | (simp only [hw1, Int.toNat_natCast]; simp [encU, fitP, fld, leafFits, V.cells, h2]; done)
          | (simp; omega)
          | (simp [rooms, maxRoom]; omega)
        · rw [int_encU, hw1, Int.toNat_natCast, hg, td.2]
          rw [hgd] at ih ⊢
          simpa [shS, encD, ee] using ih
      · have e : P.sidesN (f + 1) row k = P.sidesN f (P.up row) (k / 2) := by
          have e1 : oth k = k + 1 := by unfold oth; rw [if_neg h1]
          simp only [P.sidesN]; rw [if_neg (by omega), e1, if_neg (by omega)]; rfl
        obtain ⟨k', z, n', ih⟩ := sh_loop f (P.up row) (k / 2) o false (by omega) (by omega) (by omega) (by omega) rfl
        refine ⟨k', z, n', ?_⟩
        rw [e]
        refine LRuns.next (F := F) UM_ok (sh := Sh) (L := fun _ _ => .fail) (LGood.none (by kernel_rfl)) [(decide ((↑(List.map encU row).length : Int) > 1), true),
    ((↑k : Int).tmod 2 == 1, false),
    (decide (IntKind.i64.wrap ((↑k : Int) + 1) < (↑(List.map encU row).length : Int)), false),
    ((List.map encU row).all isU, true),
    (decide (0 < (List.map encU row).length), true),
    (decide ((List.map encU row).length ≤ 1000), true)] [2, 0, 3, 4, 0, 5, 6, 7, 0] (τ' := { env := [(1, V.int IntKind.i64 (IntKind.i64.wrap ((↑k : Int).tdiv 2))), (6, V.ex 2 ((o).isEmpty) (List.map encD o)), (7, V.sl false (List.map encU (P.up (List.map intOf (List.map encU row)))))], heap := [] }) (by kernel_rfl) ?_ ?_
        · refine ⟨?_, ?_, ?_, ?_, ?_, ?_, trivial⟩
          all_goals first
          | exact all_isU _
          | (simp; done)
          | (rw [tm]; simp; omega)
          | (simp only [hw1, List.length_map]; simp; omega)
          | (simp only [hw0, List.length_map]; simp; omega)
          | (simp only [hw0, Int.toNat_natCast]; simp [encU, fitP, fld, leafFits, V.cells, hk1]; done)
          | (simp only [hw1, Int.toNat_natCast]; simp [encU, fitP, fld, leafFits, V.cells, h2]; done)
          | (simp; omega)
          | (simp [rooms, maxRoom]; omega)
        · rw [int_encU, td.2]
          exact ih
end Go.Proofs.Ytgmdkjiflhklaaa
