/- C3: Give, Show as they are told to the law. -/
import Derived.Test.YtgmdkjiflhklaaaC2
import Derived.Test.YtgmdkjiflhklaaaL33
namespace Go.Proofs.Ytgmdkjiflhklaaa
open Go Go.Vm
theorem giR_run {key la : Int} {l : List Stp} {cv : V} {doc r b : Int} {rest : Heap} {x : V × Heap} (h : (giR key la l cv doc r b rest).run = some x) : x = giO key la l cv doc r b rest := by
  unfold giR at h
  unfold giO
  by_cases hE : P.gE l r b = 0
  · rw [decide_eq_true hE] at h
    rw [if_pos hE]
    simpa [Tr.run] using h.symm
  · rw [decide_eq_false hE] at h
    rw [if_neg hE]
    simpa [Tr.run] using h.symm
theorem giveS_ok : ∀ a H r, (giveS a H).run = some r → Runs T F 32 a H r := by
  intro a H r h
  unfold giveS at h
  split at h
  · rename_i doc r b key la
    obtain ⟨h0, h⟩ := Tr.must_some h
    rw [giR_run h]
    exact give_a key la doc r b (of_decide_eq_true h0)
  · rename_i doc r b key la
    obtain ⟨h0, h⟩ := Tr.must_some h
    rw [giR_run h]
    exact give_a2 key la doc r b (of_decide_eq_true h0)
  · rename_i doc r b key la xs
    obtain ⟨h0, h⟩ := Tr.must_some h
    obtain ⟨h1, h⟩ := Tr.must_some h
    obtain ⟨h2, h⟩ := Tr.must_some h
    obtain ⟨h3, h⟩ := Tr.must_some h
    obtain ⟨h4, h⟩ := Tr.must_some h
    obtain ⟨h5, h⟩ := Tr.must_some h
    rw [giR_run h]
    have h0 := of_eqB h0
    simp only [decide_eq_true_eq] at h1 h2 h3 h4 h5
    rw [← List.length_map (f := decS)] at h1 h2
    clear h
    generalize xs.map decS = l at *
    subst h0
    exact give_b key la doc r b l h1 h2 h3 h4 h5
  · rename_i doc r b key la xs
    obtain ⟨h0, h⟩ := Tr.must_some h
    obtain ⟨h1, h⟩ := Tr.must_some h
    obtain ⟨h2, h⟩ := Tr.must_some h
    obtain ⟨h3, h⟩ := Tr.must_some h
    obtain ⟨h4, h⟩ := Tr.must_some h
    obtain ⟨h5, h⟩ := Tr.must_some h
    rw [giR_run h]
    have h0 := of_eqB h0
    simp only [decide_eq_true_eq] at h1 h2 h3 h4 h5
    rw [← List.length_map (f := decS)] at h1 h2
    clear h
    generalize xs.map decS = l at *
    subst h0
    exact give_b2 key la doc r b l h1 h2 h3 h4 h5
  · cases h
noncomputable def rgiveS : List V → Heap → Tr (V × Heap) := fun a H => match a, H with
  | [.int .u64 key, .sl true [], .int .u64 doc, .int .i64 r, .int .i64 b], [] =>
    .ask (decide (P.gE [] r b = 0)) (.ret (.tup [.sl false [encS (P.gS key [] doc r b)], .int .i64 0], [])) (.ret (.tup [.sl true [], .int .i64 (P.gE [] r b)], []))
  | [.int .u64 key, .sl false xs, .int .u64 doc, .int .i64 r, .int .i64 b], [] =>
    .must (eqB xs ((xs.map decS).map encS)) (.must (decide (0 < xs.length)) (.must (decide (xs.length < 1000)) (.must (decide (0 ≤ P.llo (xs.map decS))) (.must (decide (P.llo (xs.map decS) ≤ 1000000000000000))
      (.ask (decide (P.gE (xs.map decS) r b = 0)) (.ret (.tup [.sl false (xs ++ [encS (P.gS key (xs.map decS) doc r b)]), .int .i64 0], [])) (.ret (.tup [.sl false xs, .int .i64 (P.gE (xs.map decS) r b)], [])))))))
  | _, _ => .fail
theorem rgiveS_ok : ∀ a H r, (rgiveS a H).run = some r → Runs T F 70 a H r := by
  intro a H r h
  unfold rgiveS at h
  split at h
  · rename_i key doc r b
    have hr := rgive_nil key doc r b
    by_cases hE : P.gE [] r b = 0
    · rw [decide_eq_true hE] at h
      rw [if_pos hE] at hr
      simp only [Tr.run, Option.some.injEq] at h
      subst h
      exact hr
    · rw [decide_eq_false hE] at h
      rw [if_neg hE] at hr
      simp only [Tr.run, Option.some.injEq] at h
      subst h
      exact hr
  · rename_i key xs doc r b
    obtain ⟨h0, h⟩ := Tr.must_some h
    obtain ⟨h1, h⟩ := Tr.must_some h
    obtain ⟨h2, h⟩ := Tr.must_some h
    obtain ⟨h4, h⟩ := Tr.must_some h
    obtain ⟨h5, h⟩ := Tr.must_some h
    have h0 := of_eqB h0
    simp only [decide_eq_true_eq] at h1 h2 h4 h5
    rw [← List.length_map (f := decS)] at h1 h2
    generalize xs.map decS = l at *
    subst h0
    have hr := rgive_ne key doc r b l h1 h2 h4 h5
    by_cases hE : P.gE l r b = 0
    · rw [decide_eq_true hE] at h
      rw [if_pos hE] at hr
      simp only [Tr.run, Option.some.injEq] at h
      subst h
      exact hr
    · rw [decide_eq_false hE] at h
      rw [if_neg hE] at hr
      simp only [Tr.run, Option.some.injEq] at h
      subst h
      exact hr
  · cases h
def P.sdS (l : List Stp) (k : Nat) : List (Int × Bool) := P.sidesN l.length (sgns l) k
def shO (l : List Stp) (k : Int) : V := if 0 ≤ k ∧ k < l.length then .tup [.ex 2 (P.sdS l k.toNat).isEmpty ((P.sdS l k.toNat).map encD), .int .i64 0] else .tup [.ex 2 true [], .int .i64 6]
theorem shw_runs (n : Bool) (l : List Stp) (hl : l.length ≤ 1000) (k : Int) : Runs T F 72 [.sl n (l.map encS), .int .i64 k] [] (shO l k, []) := by
  have hlm : (l.map encS).length = l.length := List.length_map _
  have hs : (sgns l).length = l.length := by simp [sgns]
  have hw : IntKind.i64.wrap (((l.map encS).length : Int) - 1) = (l.length : Int) - 1 := by rw [hlm]; exact i64in (by omega) (by omega)
  unfold shO
  by_cases h0 : k ≥ 0
  · by_cases h1 : k < l.length
    · rw [if_pos ⟨h0, h1⟩]
      obtain ⟨k, rfl⟩ := Int.eq_ofNat_of_zero_le h0
      rw [Int.toNat_natCast]
      obtain ⟨k', z, n', hr⟩ := sh_loop l.length (sgns l) k [] false (by omega) (by omega) (by omega) (by simp; omega) rfl
      rw [List.nil_append] at hr
      change LRuns _ _ (Ex.exit 0, ⟨(shS k' (P.sdS l k) n' z).env ++ _, _⟩) at hr
      have hne : (sgns l).isEmpty = false := by cases l with
        | nil => simp at h1; omega
        | cons x l => rfl
      generalize P.sdS l k = o at *
      refine Runs.way (F := F) (sh := Sh) (S := UM) UM_ok (fi := fi72) (by kernel_rfl) (LGood.one (b := lb fi72 0) (k := 5) (σ0 := shS k [] false (sgns l)) (by kernel_rfl) hr) [(!decide ((↑k : Int) ≤ IntKind.i64.wrap ((↑(List.map encS l).length : Int) - 1)), false),
    (eqB (List.map encS l) (List.map encS (List.map decS (List.map encS l))), true),
    (decide ((List.map encS l).length ≤ 1000), true),
    (is { env := [(1, V.int IntKind.i64 (↑k : Int)), (6, V.ex 2 true []), (7, V.sl ((sgns (List.map decS (List.map encS l))).isEmpty) (List.map encU (List.map (fun s => s.5) (List.map decS (List.map encS l)))))], heap := [] } { env := [(1, V.int IntKind.i64 (↑k : Int)), (6, V.ex 2 true []), (7, V.sl false (List.map encU (List.map (fun s => s.5) l)))], heap := [] }, true)] [0, 0, 0, 0, 2, 3, 4, 5] (by kernel_rfl) ?_
      refine ⟨by rw [hw]; simp; omega, eqB_eq (by rw [decS_enc]), by simp; omega, is_eq ?_, trivial⟩
      simp only [decS_enc]
      rw [hne]
    · rw [if_neg (fun h => h1 h.2)]
      exact Runs.way (F := F) (sh := Sh) (S := UM) (L := fun _ _ => .fail) UM_ok (fi := fi72) (by kernel_rfl) (fun _ _ _ _ h => by cases h) [(decide (k ≥ 0), true),
    (!decide (k ≤ IntKind.i64.wrap ((↑(List.map encS l).length : Int) - 1)), true)] [2, 2, 2, 2, 3] (by kernel_rfl) ⟨by simp; omega, by rw [hw]; simp; omega, trivial⟩
  · rw [if_neg (fun h => h0 h.1)]
    exact Runs.way (F := F) (sh := Sh) (S := UM) (L := fun _ _ => .fail) UM_ok (fi := fi72) (by kernel_rfl) (fun _ _ _ _ h => by cases h) [(decide (k ≥ 0), false)] [2, 2, 2, 2, 0] (by kernel_rfl) ⟨by simp; omega, trivial⟩
noncomputable def shT (xs : List V) (k : Int) (H : Heap) : Tr (V × Heap) :=
  .ask (decide (0 ≤ k ∧ k < xs.length)) (.ret (.tup [.ex 2 (P.sdS (xs.map decS) k.toNat).isEmpty ((P.sdS (xs.map decS) k.toNat).map encD), .int .i64 0], H)) (.ret (.tup [.ex 2 true [], .int .i64 6], H))
theorem shT_run {xs : List V} {k : Int} {H : Heap} {x : V × Heap} (h : (shT xs k H).run = some x) : x = (shO (xs.map decS) k, H) := by
  unfold shT at h
  unfold shO
  rw [List.length_map]
  by_cases hE : 0 ≤ k ∧ k < xs.length
  · rw [decide_eq_true hE] at h
    rw [if_pos hE]
    simpa [Tr.run] using h.symm
  · rw [decide_eq_false hE] at h
    rw [if_neg hE]
    simpa [Tr.run] using h.symm
noncomputable def shwR : List V → Heap → Tr (V × Heap) := fun a H => match a, H with
  | [.sl _ xs, .int .i64 k], [] => .must (eqB xs ((xs.map decS).map encS)) (.must (decide (xs.length ≤ 1000)) (shT xs k []))
  | _, _ => .fail
theorem shwR_ok : ∀ a H r, (shwR a H).run = some r → Runs T F 72 a H r := by
  intro a H r h
  unfold shwR at h
  split at h
  · rename_i n xs k
    obtain ⟨h0, h⟩ := Tr.must_some h
    obtain ⟨h1, h⟩ := Tr.must_some h
    rw [shT_run h]
    have h0 := of_eqB h0
    simp only [decide_eq_true_eq] at h1
    rw [← List.length_map (f := decS)] at h1
    clear h
    generalize xs.map decS = l at *
    subst h0
    exact shw_runs n l h1 k
  · cases h
noncomputable def showP : List V → Heap → Tr (V × Heap) := fun a H => match a, H with
  | [.ptr 0 0, .int .i64 k], [.cells [.int .u64 key, .int .u64 la, .bool true, .sl true []], .dead, .dead, .dead] => shT [] k [.cells [.int .u64 key, .int .u64 la, .bool true, .sl true []], .dead, .dead, .dead]
  | [.ptr 1 0, .int .i64 k], [.dead, .cells [.int .u64 key, .int .u64 la, .bool true, .ex 5 true []], .dead, .dead] => shT [] k [.dead, .cells [.int .u64 key, .int .u64 la, .bool true, .ex 5 true []], .dead, .dead]
  | [.ptr 0 0, .int .i64 k], [.cells [.int .u64 key, .int .u64 la, .bool true, .ex 5 false xs], .dead, .dead, .dead] =>
    .must (eqB xs ((xs.map decS).map encS)) (.must (decide (xs.length ≤ 1000)) (shT xs k [.cells [.int .u64 key, .int .u64 la, .bool true, .ex 5 false xs], .dead, .dead, .dead]))
  | [.ptr 1 0, .int .i64 k], [.dead, .cells [.int .u64 key, .int .u64 la, .bool true, .ex 5 false xs], .dead, .dead] =>
    .must (eqB xs ((xs.map decS).map encS)) (.must (decide (xs.length ≤ 1000)) (shT xs k [.dead, .cells [.int .u64 key, .int .u64 la, .bool true, .ex 5 false xs], .dead, .dead]))
  | _, _ => .fail
theorem win1 (m k : Int) : P.win m [k] = decide (0 ≤ k ∧ k ≤ m) := by
  simp only [P.win, List.all_cons, List.all_nil, Bool.and_true, ← Bool.decide_and]
theorem showN_a (key la k : Int) : Runs T F 33 [.ptr 0 0, .int .i64 k] [.cells [.int .u64 key, .int .u64 la, .bool true, .sl true []], .dead, .dead, .dead] (shO [] k, [.cells [.int .u64 key, .int .u64 la, .bool true, .sl true []], .dead, .dead, .dead]) := by
  unfold shO
  rw [if_neg (by simp <;> omega)]
  exact Runs.way (F := F) (sh := Sh) (S := UM) (L := fun _ _ => .fail) UM_ok (fi := fi33) (by kernel_rfl) (fun _ _ _ _ h => by cases h) [(!P.win (-1) [k], true)] [1, 1, 1, 1, 1, 1, 1, 1, 0, 0, 0, 2] (by kernel_rfl) ⟨by rw [win1]; simp; omega, trivial⟩
theorem showM_a (key la k : Int) (l : List Stp) (hl : l.length ≤ 1000) : Runs T F 33 [.ptr 0 0, .int .i64 k] [.cells [.int .u64 key, .int .u64 la, .bool true, .ex 5 false (l.map encS)], .dead, .dead, .dead] (shO l k, [.cells [.int .u64 key, .int .u64 la, .bool true, .ex 5 false (l.map encS)], .dead, .dead, .dead]) := by
  have hlm : (l.map encS).length = l.length := List.length_map _
  have hw : IntKind.i64.wrap (((l.map encS).length : Int) - 1) = (l.length : Int) - 1 := by rw [hlm]; exact i64in (by omega) (by omega)
  unfold shO
  by_cases h0 : 0 ≤ k ∧ k < l.length
  · rw [if_pos h0]
    obtain ⟨k, rfl⟩ := Int.eq_ofNat_of_zero_le h0.1
    rw [Int.toNat_natCast]
    exact show_runs33 key la l k hl (by omega)
  · rw [if_neg h0]
    exact Runs.way (F := F) (sh := Sh) (S := UM) (L := fun _ _ => .fail) UM_ok (fi := fi33) (by kernel_rfl) (fun _ _ _ _ h => by cases h) [(!P.win (IntKind.i64.wrap ((↑(List.map encS l).length : Int) - 1)) [k], true)] [1, 1, 1, 1, 1, 1, 1, 1, 0, 0, 0, 2] (by kernel_rfl) ⟨by rw [win1, hw]; simp; omega, trivial⟩
theorem showN_b (key la k : Int) : Runs T F 33 [.ptr 1 0, .int .i64 k] [.dead, .cells [.int .u64 key, .int .u64 la, .bool true, .ex 5 true []], .dead, .dead] (shO [] k, [.dead, .cells [.int .u64 key, .int .u64 la, .bool true, .ex 5 true []], .dead, .dead]) := by
  unfold shO
  rw [if_neg (by simp <;> omega)]
  exact Runs.way (F := F) (sh := Sh) (S := UM) (L := fun _ _ => .fail) UM_ok (fi := fi33) (by kernel_rfl) (fun _ _ _ _ h => by cases h) [(!P.win (-1) [k], true)] [1, 1, 1, 1, 1, 1, 1, 1, 0, 0, 0, 2] (by kernel_rfl) ⟨by rw [win1]; simp; omega, trivial⟩
theorem showM_b (key la k : Int) (l : List Stp) (hl : l.length ≤ 1000) : Runs T F 33 [.ptr 1 0, .int .i64 k] [.dead, .cells [.int .u64 key, .int .u64 la, .bool true, .ex 5 false (l.map encS)], .dead, .dead] (shO l k, [.dead, .cells [.int .u64 key, .int .u64 la, .bool true, .ex 5 false (l.map encS)], .dead, .dead]) := by
  have hlm : (l.map encS).length = l.length := List.length_map _
  have hw : IntKind.i64.wrap (((l.map encS).length : Int) - 1) = (l.length : Int) - 1 := by rw [hlm]; exact i64in (by omega) (by omega)
  unfold shO
  by_cases h0 : 0 ≤ k ∧ k < l.length
  · rw [if_pos h0]
    obtain ⟨k, rfl⟩ := Int.eq_ofNat_of_zero_le h0.1
    rw [Int.toNat_natCast]
    exact show_runs33b key la l k hl (by omega)
  · rw [if_neg h0]
    exact Runs.way (F := F) (sh := Sh) (S := UM) (L := fun _ _ => .fail) UM_ok (fi := fi33) (by kernel_rfl) (fun _ _ _ _ h => by cases h) [(!P.win (IntKind.i64.wrap ((↑(List.map encS l).length : Int) - 1)) [k], true)] [1, 1, 1, 1, 1, 1, 1, 1, 0, 0, 0, 2] (by kernel_rfl) ⟨by rw [win1, hw]; simp; omega, trivial⟩
theorem showP_ok : ∀ a H r, (showP a H).run = some r → Runs T F 33 a H r := by
  intro a H r h
  unfold showP at h
  split at h
  · rw [shT_run h]; exact showN_a _ _ _
  · rw [shT_run h]; exact showN_b _ _ _
  · rename_i k key la xs
    obtain ⟨h0, h⟩ := Tr.must_some h
    obtain ⟨h1, h⟩ := Tr.must_some h
    rw [shT_run h]
    have h0 := of_eqB h0
    simp only [decide_eq_true_eq] at h1
    rw [← List.length_map (f := decS)] at h1
    clear h
    generalize xs.map decS = l at *
    subst h0
    exact showM_a key la k l h1
  · rename_i k key la xs
    obtain ⟨h0, h⟩ := Tr.must_some h
    obtain ⟨h1, h⟩ := Tr.must_some h
    rw [shT_run h]
    have h0 := of_eqB h0
    simp only [decide_eq_true_eq] at h1
    rw [← List.length_map (f := decS)] at h1
    clear h
    generalize xs.map decS = l at *
    subst h0
    exact showM_b key la k l h1
  · cases h
noncomputable def XA : Vm.Spec := ((((X97.add 32 giveS).add 70 rgiveS).add 33 showP).add 72 shwR).add 74 rootS
theorem XA_ok : Vm.Good (vlim T F) XA := ((((X97_ok.add giveS_ok).add rgiveS_ok).add showP_ok).add shwR_ok).add rootS_ok
noncomputable def X15 : Vm.Spec := XA.add 15 (inl T Sh XA 0 0 fi15)
theorem X15_ok : Vm.Good (vlim T F) X15 := XA_ok.inl (by kernel_rfl) 0 0 (by kernel_rfl)
noncomputable def X29 : Vm.Spec := X15.add 29 (inl T Sh X15 0 0 fi29)
theorem X29_ok : Vm.Good (vlim T F) X29 := X15_ok.inl (by kernel_rfl) 0 0 (by kernel_rfl)
noncomputable def X31 : Vm.Spec := X29.add 31 (inl T Sh X29 0 0 fi31)
theorem X31_ok : Vm.Good (vlim T F) X31 := X29_ok.inl (by kernel_rfl) 0 0 (by kernel_rfl)
noncomputable def X69 : Vm.Spec := X31.add 69 (inl T Sh X31 0 0 fi69)
theorem X69_ok : Vm.Good (vlim T F) X69 := X31_ok.inl (by kernel_rfl) 0 0 (by kernel_rfl)
noncomputable def X71 : Vm.Spec := X69.add 71 (inl T Sh X69 0 0 fi71)
theorem X71_ok : Vm.Good (vlim T F) X71 := X69_ok.inl (by kernel_rfl) 0 0 (by kernel_rfl)
noncomputable def X73 : Vm.Spec := X71.add 73 (inl T Sh X71 0 0 fi73)
theorem X73_ok : Vm.Good (vlim T F) X73 := X71_ok.inl (by kernel_rfl) 0 0 (by kernel_rfl)
end Go.Proofs.Ytgmdkjiflhklaaa
