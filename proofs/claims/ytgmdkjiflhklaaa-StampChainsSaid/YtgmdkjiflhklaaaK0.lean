/- K0: within, of any list. -/
import Derived.Test.YtgmdkjiflhklaaaA1
namespace Go.Proofs.Ytgmdkjiflhklaaa
open Go Go.Vm
namespace P
/-- Whether all numbers are from 0 to a limit; where the first one is not. -/
def win (m : Int) (l : List Int) : Bool := l.all fun x => decide (0 ≤ x) && decide (x ≤ m)
def fst (m : Int) : List Int → Int → Int
  | [], _ => -1
  | x :: l, k => if 0 ≤ x ∧ x ≤ m then fst m l (k + 1) else k
end P
theorem fst_cons (m x : Int) (l : List Int) (k : Int) : P.fst m (x :: l) k = if 0 ≤ x ∧ x ≤ m then P.fst m l (k + 1) else k := rfl
theorem fst_neg (m : Int) : ∀ (l : List Int) (k : Int), 0 ≤ k → P.fst m l k < 0 → P.fst m l k = -1
  | [], k, _, _ => rfl
  | x :: l, k, h, h1 => by
    rw [fst_cons] at h1 ⊢
    by_cases hx : 0 ≤ x ∧ x ≤ m
    · rw [if_pos hx] at h1 ⊢; exact fst_neg m l (k + 1) (by omega) h1
    · rw [if_neg hx] at h1; omega
theorem fst_win (m : Int) : ∀ (l : List Int) (k : Int), 0 ≤ k → (decide (P.fst m l k ≥ 0) = !P.win m l)
  | [], k, _ => by simp [P.fst, P.win]
  | x :: l, k, h => by
    have ih := fst_win m l (k + 1) (by omega)
    rw [fst_cons]
    by_cases hx : 0 ≤ x ∧ x ≤ m
    · rw [if_pos hx, ih]; simp [P.win, hx.1, hx.2]
    · rw [if_neg hx]
      have hw : P.win m (x :: l) = false := by
        unfold P.win
        simp only [List.all_cons]
        rw [Bool.and_eq_false_iff]
        left
        simp only [Bool.and_eq_false_iff, decide_eq_false_iff_not]
        omega
      rw [hw]; simpa using h
def isI : V → Bool
  | .int .i64 _ => true
  | _ => false
theorem isI_all : ∀ {xs : List V}, xs.all isI = true → xs = (xs.map intOf).map encI
  | [], _ => rfl
  | x :: xs, h => by
    simp only [List.all_cons, Bool.and_eq_true] at h
    obtain ⟨h1, h2⟩ := h
    simp only [List.map_cons]
    rw [← isI_all h2]
    congr 1
    unfold isI at h1
    split at h1
    · rfl
    · cases h1
def wSt (n : Bool) (l : List Int) (m k : Int) : St := ⟨[(0, .sl n (l.map encI)), (1, .clo (.func 82) [] [.ptr 0 0]), (7, .int .i64 l.length), (8, .int .i64 k)], [.cells [.int .i64 m]]⟩
def wEnd (n : Bool) (l : List Int) (m k : Int) : Ex × St := if k < 0 then (.exit 0, ⟨(wSt n l m l.length).env ++ [(9, .bool false)], [.cells [.int .i64 m]]⟩) else (.ret, ⟨[(4, .int .i64 k)], [.cells [.int .i64 m]]⟩)
def Fd.it (l : List Int) (i : Nat) : Int := intOf (fld 0 ((l.map encI).getD i V.undef))
theorem it_at (l : List Int) (k : Nat) (h : k < l.length) : Fd.it l k = l[k] := by simp [Fd.it, encI, h]
theorem w_loop (n : Bool) (l : List Int) (m : Int) (hl : l.length < 2 ^ 62) : ∀ (d k : Nat), k + d = l.length → LRuns (vstep T (vlim T F) lplim fi104.cx 1 (lb fi104 0)) (wSt n l m k) (wEnd n l m (P.fst m (l.drop k) k))
  | 0, k, hd => by
    have hk : k = l.length := by omega
    subst hk
    rw [List.drop_length]
    have := LRuns.last (F := F) S82_ok (sh := Sh) (L := fun _ _ => .fail) (n := 1) (b := lb fi104 0) (cx := fi104.cx) (τ := wSt n l m l.length) (LGood.none (by kernel_rfl)) [(decide ((l.length : Int) < ↑l.length), false)] [2]
      (r := (.exit 0, ⟨(wSt n l m l.length).env ++ [(9, .bool (decide ((l.length : Int) < ↑l.length)))], [.cells [.int .i64 m]]⟩)) (by kernel_rfl) (by simp) ⟨by simp, trivial⟩
    simpa [P.fst, wEnd] using this
  | d + 1, k, hd => by
    have hk : k < l.length := by omega
    have ih := w_loop n l m hl d (k + 1) (by omega)
    have hw : IntKind.i64.wrap ((k : Int) + 1) = ((k + 1 : Nat) : Int) := by rw [i64in (by omega) (by omega)]; rfl
    have hg := it_at l k hk
    rw [List.drop_eq_getElem_cons hk, fst_cons]
    by_cases hx : 0 ≤ l[k] ∧ l[k] ≤ m
    · rw [if_pos hx]
      refine LRuns.next (F := F) S82_ok (sh := Sh) (L := fun _ _ => .fail) (LGood.none (by kernel_rfl)) [(decide ((↑k : Int) < (↑l.length : Int)), true),
    (decide ((↑k : Int) < (↑(List.map encI l).length : Int)), true),
    (((List.map encI l).getD k V.undef).cells.length == 1 && fitP [TK.int IntKind.i64] 0 ((List.map encI l).getD k V.undef), true),
    (decide (Fd.it l k < 0), false),
    (decide (Fd.it l k > m), false)] [2, 0, 3, 4, 5, 5, 5, 5, 6] (τ' := wSt n l m (IntKind.i64.wrap ((k : Int) + 1))) (by kernel_rfl) ?_ ?_
      · refine ⟨?_, ?_, ?_, ?_, ?_, trivial⟩
        all_goals first
          | (simp [encI, fitP, fld, leafFits, V.cells, hk]; done)
          | (simp; omega)
          | (rw [hg]; simp; omega)
      · rw [hw]; exact ih
    · rw [if_neg hx]
      have he : wEnd n l m k = (.ret, ⟨[(4, .int .i64 k)], [.cells [.int .i64 m]]⟩) := by unfold wEnd; rw [if_neg (by omega)]
      rw [he]
      by_cases hx0 : l[k] < 0
      · refine LRuns.last (F := F) S82_ok (sh := Sh) (L := fun _ _ => .fail) (LGood.none (by kernel_rfl)) [(decide ((↑k : Int) < (↑l.length : Int)), true),
    (decide ((↑k : Int) < (↑(List.map encI l).length : Int)), true),
    (((List.map encI l).getD k V.undef).cells.length == 1 && fitP [TK.int IntKind.i64] 0 ((List.map encI l).getD k V.undef), true),
    (decide (Fd.it l k < 0), true)] [2, 0, 3, 4, 5, 5, 5, 5, 0] (by kernel_rfl) (by simp) ?_
        refine ⟨?_, ?_, ?_, ?_, trivial⟩
        all_goals first
          | (simp [encI, fitP, fld, leafFits, V.cells, hk]; done)
          | (simp; omega)
          | (rw [hg]; simp; omega)
      · refine LRuns.last (F := F) S82_ok (sh := Sh) (L := fun _ _ => .fail) (LGood.none (by kernel_rfl)) [(decide ((↑k : Int) < (↑l.length : Int)), true),
    (decide ((↑k : Int) < (↑(List.map encI l).length : Int)), true),
    (((List.map encI l).getD k V.undef).cells.length == 1 && fitP [TK.int IntKind.i64] 0 ((List.map encI l).getD k V.undef), true),
    (decide (Fd.it l k < 0), false),
    (decide (Fd.it l k > m), true)] [2, 0, 3, 4, 5, 5, 5, 5, 6] (by kernel_rfl) (by simp) ?_
        refine ⟨?_, ?_, ?_, ?_, ?_, trivial⟩
        all_goals first
          | (simp [encI, fitP, fld, leafFits, V.cells, hk]; done)
          | (simp; omega)
          | (rw [hg]; simp; omega)
def idxS : List V → Heap → Tr (V × Heap) := fun a H => match a, H with
  | [.sl _ xs, .clo (.func 82) [] [.ptr 0 0]], [.cells [.int .i64 m]] => .must (xs.all isI) (.must (decide (xs.length < 2 ^ 62)) (.ret (.int .i64 (P.fst m (xs.map intOf) 0), [.cells [.int .i64 m]])))
  | _, _ => .fail
theorem idxS_ok : ∀ a H r, (idxS a H).run = some r → Runs T F 104 a H r := by
  intro a H r h
  unfold idxS at h
  split at h
  · rename_i n xs m
    obtain ⟨h1, h⟩ := Tr.must_some h
    obtain ⟨h2, h⟩ := Tr.must_some h
    have hr := ret_some h; clear h; subst hr
    simp only [decide_eq_true_eq] at h2
    have hx := isI_all h1
    rw [← List.length_map (f := intOf)] at h2
    generalize xs.map intOf = l at *
    subst hx
    have hw := w_loop n l m h2 l.length 0 (by omega)
    rw [List.drop_zero, Int.natCast_zero] at hw
    have hL := LGood.one (c := fi104.body) (b := lb fi104 0) (k := 2) (σ0 := wSt n l m 0) (by kernel_rfl) (by exact hw)
    unfold wEnd at hL
    by_cases hk : P.fst m l 0 < 0
    · rw [if_pos hk] at hL
      rw [fst_neg m l 0 (by omega) hk]
      exact Runs.way (F := F) (sh := Sh) (S := S82) S82_ok (fi := fi104) (by kernel_rfl) hL [(is { env := [(0, V.sl n (List.map encI l)), (1, V.clo (Fn.func 82) [] [V.ptr 0 0]), (7, V.int IntKind.i64 (↑(List.map encI l).length : Int)), (8, V.int IntKind.i64 0)], heap := [B.cells [V.int IntKind.i64 m]] } { env := [(0, V.sl n (List.map encI l)), (1, V.clo (Fn.func 82) [] [V.ptr 0 0]), (7, V.int IntKind.i64 (↑l.length : Int)), (8, V.int IntKind.i64 0)], heap := [B.cells [V.int IntKind.i64 m]] }, true)] [2] (by kernel_rfl) ⟨is_eq (by simp [wSt]), trivial⟩
    · rw [if_neg hk] at hL
      exact Runs.way (F := F) (sh := Sh) (S := S82) S82_ok (fi := fi104) (by kernel_rfl) hL [(is { env := [(0, V.sl n (List.map encI l)), (1, V.clo (Fn.func 82) [] [V.ptr 0 0]), (7, V.int IntKind.i64 (↑(List.map encI l).length : Int)), (8, V.int IntKind.i64 0)], heap := [B.cells [V.int IntKind.i64 m]] } { env := [(0, V.sl n (List.map encI l)), (1, V.clo (Fn.func 82) [] [V.ptr 0 0]), (7, V.int IntKind.i64 (↑l.length : Int)), (8, V.int IntKind.i64 0)], heap := [B.cells [V.int IntKind.i64 m]] }, true)] [2] (by kernel_rfl) ⟨is_eq (by simp [wSt]), trivial⟩
  · cases h
noncomputable def S104' : Vm.Spec := S82.add 104 idxS
theorem S104'_ok : Vm.Good (vlim T F) S104' := S82_ok.add idxS_ok
noncomputable def S81' : Vm.Spec := S104'.add 81 (inl T Sh S104' 0 0 fi81)
theorem S81'_ok : Vm.Good (vlim T F) S81' := S104'_ok.inl (by kernel_rfl) 0 0 (by kernel_rfl)
def winS : List V → Heap → Tr (V × Heap) := fun a H => match a, H with
  | [.int .i64 m, .sl _ xs], [] => .must (xs.all isI) (.must (decide (xs.length < 2 ^ 62)) (.ret (.bool (P.win m (xs.map intOf)), [])))
  | _, _ => .fail
theorem winS_ok : ∀ a H r, (winS a H).run = some r → Runs T F 44 a H r := by
  intro a H r h
  unfold winS at h
  split at h
  · rename_i m n xs
    obtain ⟨h1, h⟩ := Tr.must_some h
    obtain ⟨h2, h⟩ := Tr.must_some h
    have hr := ret_some h; clear h; subst hr
    have he : P.win m (xs.map intOf) = !(decide (P.fst m (xs.map intOf) 0 ≥ 0)) := by rw [fst_win m _ 0 (by omega), Bool.not_not]
    rw [he]
    exact Runs.way (F := F) (sh := Sh) (S := S81') (L := fun _ _ => .fail) S81'_ok (fi := fi44) (by kernel_rfl) (LGood.none (by kernel_rfl)) [(xs.all isI, true),
    (decide (xs.length < 4611686018427387904), true)] [2, 3] (by kernel_rfl) ⟨h1, h2, trivial⟩
  · cases h
/-- The small functions of checks, with within as one question. -/
noncomputable def W44 : Vm.Spec := S82.add 44 winS
theorem W44_ok : Vm.Good (vlim T F) W44 := S82_ok.add winS_ok
end Go.Proofs.Ytgmdkjiflhklaaa
