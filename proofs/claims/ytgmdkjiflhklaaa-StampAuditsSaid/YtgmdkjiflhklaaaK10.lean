/- K10: audits: the program and its reference. -/
import Derived.Test.YtgmdkjiflhklaaaK9
import Derived.Test.YtgmdkjiflhklaaaH2
import Derived.Test.YtgmdkjiflhklaaaA6
namespace Go.Proofs.Ytgmdkjiflhklaaa
open Go Go.Vm
theorem eqv_chk (a b c : Int) : cellsEqv [V.int IntKind.i64 a, V.int IntKind.i64 b, V.int IntKind.i64 c] [V.int IntKind.i64 a, V.int IntKind.i64 b, V.int IntKind.i64 c] = true := by simp [cellsEqv, cellEqv]
theorem eqv_two (a b : Int) : cellsEqv [V.int IntKind.i64 a, V.int IntKind.i64 b] [V.int IntKind.i64 a, V.int IntKind.i64 b] = true := by simp [cellsEqv, cellEqv]
theorem eqv_fit (l : List Chk) : cellsEqv (auV l) (auV l) = true := by simp [auV, cellsEqv, cellEqv]
def eS (n m : Bool) (l : List Chk) (k : Int) : St := ⟨[(0, V.sl n (l.map encC)), (1, V.sl m (l.map encC)), (12, V.int IntKind.i64 l.length), (13, V.int IntKind.i64 k)], []⟩
theorem eq_loop (n m : Bool) (l : List Chk) (hl : l.length ≤ 60) : ∀ (d k : Nat), k + d = l.length →
    LRuns (vstep T (vlim T F) lplim fi56.cx 0 (lb fi56 0)) (eS n m l k) (.exit 0, ⟨(eS n m l l.length).env ++ [(14, .bool false)], []⟩)
  | 0, k, hd => by
    have hk : k = l.length := by omega
    subst hk
    have := LRuns.last (T := T) (F := F) Vm.Good.no (sh := Sh) (L := fun _ _ => .fail) (n := 0) (b := lb fi56 0) (cx := fi56.cx) (τ := eS n m l l.length) (LGood.none (by kernel_rfl)) [(decide ((l.length : Int) < (l.length : Int)), false)] [2]
      (r := (.exit 0, ⟨(eS n m l l.length).env ++ [(14, .bool (decide ((l.length : Int) < (l.length : Int))))], []⟩)) (by kernel_rfl) (by simp) ⟨by simp, trivial⟩
    simpa using this
  | d + 1, k, hd => by
    have hk : k < l.length := by omega
    have ih := eq_loop n m l hl d (k + 1) (by omega)
    have hw : IntKind.i64.wrap ((k : Int) + 1) = ((k + 1 : Nat) : Int) := by rw [i64in (by omega) (by omega)]; rfl
    refine LRuns.next (F := F) Vm.Good.no (sh := Sh) (L := fun _ _ => .fail) (LGood.none (by kernel_rfl)) [(decide ((↑k : Int) < (↑l.length : Int)), true),
    (decide ((↑k : Int) < (↑(List.map encC l).length : Int)), true),
    (((List.map encC l).getD k V.undef).cells.length == 3 && fitP [TK.int IntKind.i64, TK.int IntKind.i64, TK.int IntKind.i64] 0 ((List.map encC l).getD k V.undef), true),
    (!cellsEqv [V.int IntKind.i64 (Fd.ca l k), V.int IntKind.i64 (Fd.cl l k), V.int IntKind.i64 (Fd.ch l k)] [V.int IntKind.i64 (Fd.ca l k), V.int IntKind.i64 (Fd.cl l k), V.int IntKind.i64 (Fd.ch l k)], false)] [2, 0, 3, 4, 0, 3, 4, 5] (τ' := eS n m l (IntKind.i64.wrap ((k : Int) + 1))) (by kernel_rfl) ?_ ?_
    · refine ⟨?_, ?_, ?_, ?_, trivial⟩
      all_goals first
        | (simp; omega)
        | (simp [encC, fitP, fld, leafFits, V.cells, hk]; done)
        | (rw [eqv_chk]; rfl)
    · rw [hw]; exact ih
noncomputable def eqlS : List V → Heap → Tr (V × Heap) := fun a H => match a, H with
  | [.sl _ xs, .sl _ ys], [] => .must (eqB ys xs) (.must (eqB xs ((xs.map decC).map encC)) (.must (decide (xs.length ≤ 60)) (.ret (.bool true, []))))
  | _, _ => .fail
theorem eqlS_ok : ∀ a H r, (eqlS a H).run = some r → Runs T F 56 a H r := by
  intro a H r h
  unfold eqlS at h
  split at h
  · rename_i n xs m ys
    obtain ⟨h0, h⟩ := Tr.must_some h
    obtain ⟨h1, h⟩ := Tr.must_some h
    obtain ⟨h2, h⟩ := Tr.must_some h
    have hr := ret_some h
    clear h
    subst hr
    have h0 := of_eqB h0
    have h1 := of_eqB h1
    simp only [decide_eq_true_eq] at h2
    have h3 : (xs.map decC).length ≤ 60 := by simpa using h2
    subst h0
    clear h2
    generalize ys.map decC = l at *
    subst h1
    have hL := LGood.one (c := fi56.body) (b := lb fi56 0) (k := 4) (σ0 := eS n m l 0) (by kernel_rfl) (eq_loop n m l h3 l.length 0 (by omega))
    exact Runs.way (F := F) (sh := Sh) (S := noSpec) Vm.Good.no (fi := fi56) (by kernel_rfl) hL [((↑(List.map encC l).length : Int) != (↑(List.map encC l).length : Int), false),
    (is { env := [(0, V.sl n (List.map encC l)), (1, V.sl m (List.map encC l)), (12, V.int IntKind.i64 (↑(List.map encC l).length : Int)), (13, V.int IntKind.i64 0)], heap := [] } { env := [(0, V.sl n (List.map encC l)), (1, V.sl m (List.map encC l)), (12, V.int IntKind.i64 (↑l.length : Int)), (13, V.int IntKind.i64 0)], heap := [] }, true)] [2, 3] (by kernel_rfl) ⟨by simp, is_eq (by simp [eS]), trivial⟩
  · cases h
noncomputable def cloS : List V → Heap → Tr (V × Heap) := fun a H => match a, H with
  | [.sl n xs], [] => .must (eqB xs ((xs.map decC).map encC)) (.must (!n || xs.isEmpty) (.must (decide (xs.length ≤ 60)) (.ret (.ex 3 n xs, []))))
  | _, _ => .fail
theorem cloS_ok : ∀ a H r, (cloS a H).run = some r → Runs T F 52 a H r := by
  intro a H r h
  unfold cloS at h
  split at h
  · rename_i n xs
    obtain ⟨h0, h⟩ := Tr.must_some h
    obtain ⟨h1, h⟩ := Tr.must_some h
    obtain ⟨h2, h⟩ := Tr.must_some h
    have hr := ret_some h
    clear h
    subst hr
    have h0 := of_eqB h0
    simp only [decide_eq_true_eq] at h2
    generalize xs.map decC = l at *
    subst h0
    by_cases hn : n = true
    · subst hn
      have : l = [] := by simpa using h1
      subst this
      exact Runs.way (F := F) (sh := Sh) (S := noSpec) (L := fun _ _ => .fail) Vm.Good.no (fi := fi52) (by kernel_rfl) (LGood.none (by kernel_rfl)) [] [0] (by kernel_rfl) trivial
    · have hn' : V.ex 3 n (l.map encC) = V.ex 3 false ([] ++ l.map encC) := by simp at hn; rw [hn]; rfl
      rw [hn']
      refine Runs.way (F := F) (sh := Sh) (S := noSpec) (L := fun _ _ => .fail) Vm.Good.no (fi := fi52) (by kernel_rfl) (LGood.none (by kernel_rfl)) [(n == true, false),
    (rooms (0 + (List.map encC l).length) 24, true),
    (decide (0 + (List.map encC l).length < 4611686018427387904), true),
    ((List.map encC l).all fun y => y.cells.length == 3, true)] [2, 3, 4, 5] (by kernel_rfl) ⟨by simpa using hn, by simp [rooms, maxRoom] at h2 ⊢; omega, by simp at h2 ⊢; omega, List.all_eq_true.2 fun x hx => ?_, trivial⟩
      obtain ⟨c, _, rfl⟩ := List.mem_map.1 hx
      rfl
  · cases h
noncomputable def R22 : Vm.Spec := ((RAll.add 52 cloS).add 56 eqlS).add 12 awakeS
theorem R22_ok : Vm.Good (vlim T F) R22 := ((RAll_ok.add cloS_ok).add eqlS_ok).add fun a H r h => by
  unfold awakeS at h
  split at h
  · have := ret_some h; subst this
    exact ⟨60, awake_v⟩
  · cases h
def aS (n : Bool) (l : List Chk) (a d b e r : Int) (o : List Chk) (k : Int) : St := ⟨[(0, V.sl n (List.map encC l)), (3, V.int IntKind.i64 r), (5, V.ptr 0 0), (6, V.ptr 1 0), (9, V.sl n (l.map encC)), (10, V.ex 3 o.isEmpty (o.map encC)), (29, V.sl n (List.map encC l)), (30, V.int IntKind.i64 l.length), (31, V.int IntKind.i64 k)], kHeap a d b e⟩
theorem ref_loop (n : Bool) (l : List Chk) (hl : l.length ≤ 60) (a d b e r : Int) : ∀ (m k : Nat) (o : List Chk), k + m = l.length → o = l.take k →
    LRuns (vstep T (vlim T F) lplim fi22.cx 2 (lb fi22 0)) (aS n l a d b e r o k) (.exit 0, ⟨(aS n l a d b e r l l.length).env ++ [(32, .bool false)], kHeap a d b e⟩)
  | 0, k, o, hd, ho => by
    have hk : k = l.length := by omega
    subst hk
    rw [List.take_length] at ho
    subst ho
    have := LRuns.last (F := F) R22_ok (sh := Sh) (L := fun _ _ => .fail) (n := 2) (b := lb fi22 0) (cx := fi22.cx) (τ := aS n o a d b e r o o.length) (LGood.none (by kernel_rfl)) [(decide ((o.length : Int) < (o.length : Int)), false)] [2]
      (r := (.exit 0, ⟨(aS n o a d b e r o o.length).env ++ [(32, .bool (decide ((o.length : Int) < (o.length : Int))))], kHeap a d b e⟩)) (by kernel_rfl) (by simp) ⟨by simp, trivial⟩
    simpa using this
  | m + 1, k, o, hd, ho => by
    have hk : k < l.length := by omega
    have hw : IntKind.i64.wrap ((k : Int) + 1) = ((k + 1 : Nat) : Int) := by rw [i64in (by omega) (by omega)]; rfl
    have ih := ref_loop n l hl a d b e r m (k + 1) (o ++ [l[k]]) (by omega) (by rw [ho]; exact List.take_append_getElem hk)
    have ga := ca_at l k hk
    have gl := cl_at l k hk
    have gh := ch_at l k hk
    have hlo : o.length ≤ 60 := by rw [ho, List.length_take]; omega
    refine LRuns.next (F := F) R22_ok (sh := Sh) (L := fun _ _ => .fail) (LGood.none (by kernel_rfl)) [(decide ((↑k : Int) < (↑l.length : Int)), true),
    (decide ((↑k : Int) < (↑(List.map encC l).length : Int)), true),
    (((List.map encC l).getD k V.undef).cells.length == 3 && fitP [TK.int IntKind.i64, TK.int IntKind.i64, TK.int IntKind.i64] 0 ((List.map encC l).getD k V.undef), true),
    (rooms ((List.map encC o).length + 1) 24, true),
    (decide ((List.map encC o).length + 1 < 4611686018427387904), true)] [2, 0, 3, 4, 5, 6, 0] (τ' := { env := [(0, V.sl n (List.map encC l)), (3, V.int IntKind.i64 r), (5, V.ptr 0 0), (6, V.ptr 1 0), (9, V.sl n (List.map encC l)), (10, V.ex 3 (((o).isEmpty) && false) (List.map encC o ++ [V.agg [V.int IntKind.i64 (Fd.ca l k), V.int IntKind.i64 (Fd.cl l k), V.int IntKind.i64 (Fd.ch l k)]])), (29, V.sl n (List.map encC l)), (30, V.int IntKind.i64 (↑l.length : Int)), (31, V.int IntKind.i64 (IntKind.i64.wrap ((↑k : Int) + 1)))], heap := [B.cells [V.int IntKind.i64 a, V.int IntKind.i64 d], B.cells [V.int IntKind.i64 b, V.int IntKind.i64 e]] }) (by kernel_rfl) ?_ ?_
    · refine ⟨?_, ?_, ?_, ?_, ?_, trivial⟩
      all_goals first
        | (simp; omega)
        | (simp [encC, fitP, fld, leafFits, V.cells, hk]; done)
        | (simp [rooms, maxRoom]; omega)
    · rw [hw, ga, gl, gh]
      have ee : (o ++ [l[k]]).isEmpty = false := by cases o <;> rfl
      simpa [aS, encC, ee, kHeap] using ih
def bS (n : Bool) (l : List Chk) (a d b e r : Int) (k : Int) : St := ⟨[(0, V.sl n (List.map encC l)), (9, V.sl n (List.map encC l)), (10, V.ex 3 l.isEmpty (List.map encC l)), (91, V.ex 4 false [V.agg [V.int IntKind.i64 a, V.int IntKind.i64 d, V.int IntKind.i64 b, V.int IntKind.i64 e], V.agg [V.int IntKind.i64 (P.co l r 0), V.int IntKind.i64 (P.co l r 1), V.int IntKind.i64 (P.co l r 2), V.int IntKind.i64 (P.co l r 3)]]), (92, V.int IntKind.i64 2), (93, V.int IntKind.i64 k)],
  [.cells [.int .i64 a, .int .i64 d], .cells [.int .i64 b, .int .i64 e], .cells (auV l), .cells (auV l), .cells [.int .i64 (P.co l r 0), .int .i64 (P.co l r 1)], .cells [.int .i64 (P.co l r 2), .int .i64 (P.co l r 3)], .cells [.int .i64 (P.co l r 0), .int .i64 (P.co l r 1)], .cells [.int .i64 (P.co l r 2), .int .i64 (P.co l r 3)]]⟩
theorem pair_loop (n : Bool) (l : List Chk) (hc : ∀ c ∈ l, InC c) (a d b e r : Int) : LRuns (vstep T (vlim T F) lplim fi22.cx 8 (lb fi22 1)) (bS n l a d b e r 0) (.exit 2, ⟨(bS n l a d b e r 2).env ++ [(94, .bool false)], (bS n l a d b e r 2).heap⟩) := by
  have h2 : LRuns (vstep T (vlim T F) lplim fi22.cx 8 (lb fi22 1)) (bS n l a d b e r 2) (.exit 2, ⟨(bS n l a d b e r 2).env ++ [(94, .bool false)], (bS n l a d b e r 2).heap⟩) :=
    LRuns.last (F := F) R22_ok (sh := Sh) (L := fun _ _ => .fail) (LGood.none (by kernel_rfl)) [] [1] (by kernel_rfl) (by simp) trivial
  have h1 : LRuns (vstep T (vlim T F) lplim fi22.cx 8 (lb fi22 1)) (bS n l a d b e r 1) (.exit 2, ⟨(bS n l a d b e r 2).env ++ [(94, .bool false)], (bS n l a d b e r 2).heap⟩) := by
    refine LRuns.next (F := F) R22_ok (sh := Sh) (L := fun _ _ => .fail) (LGood.none (by kernel_rfl)) [(eqB (List.map encC l) (List.map encC (List.map decC (List.map encC l))), true),
    ((List.map decC (List.map encC l)).all inCb, true),
    (!P.ke (List.map decC (List.map encC l)) (P.co l r 0) (P.co l r 1) (P.co l r 2) (P.co l r 3) == P.ke (List.map decC (List.map encC l)) (P.co l r 0) (P.co l r 1) (P.co l r 2) (P.co l r 3), false),
    (P.keE (List.map decC (List.map encC l)) (P.co l r 0) (P.co l r 1) (P.co l r 2) (P.co l r 3) != P.keE (List.map decC (List.map encC l)) (P.co l r 0) (P.co l r 1) (P.co l r 2) (P.co l r 3), false)] [0, 0, 0, 0, 0, 0, 0, 0, 0, 2, 3, 0, 0, 0, 0, 2, 0, 4, 4, 4, 4, 5] (τ' := bS n l a d b e r 2) (by kernel_rfl) ?_ h2
    refine ⟨?_, ?_, ?_, ?_, trivial⟩
    all_goals first
        | exact eqB_eq (by rw [dec_enc])
        | (rw [dec_enc]; exact List.all_eq_true.2 fun c h => inCb_iff.2 (hc c h))
        | (simp; done)
  refine LRuns.next (F := F) R22_ok (sh := Sh) (L := fun _ _ => .fail) (LGood.none (by kernel_rfl)) [(eqB (List.map encC l) (List.map encC (List.map decC (List.map encC l))), true),
    ((List.map decC (List.map encC l)).all inCb, true),
    (!P.ke (List.map decC (List.map encC l)) a d b e == P.ke (List.map decC (List.map encC l)) a d b e, false),
    (P.keE (List.map decC (List.map encC l)) a d b e != P.keE (List.map decC (List.map encC l)) a d b e, false)] [0, 0, 0, 0, 0, 0, 0, 0, 0, 2, 3, 0, 0, 0, 0, 2, 0, 4, 4, 4, 4, 5] (τ' := bS n l a d b e r 1) (by kernel_rfl) ?_ h1
  refine ⟨?_, ?_, ?_, ?_, trivial⟩
  all_goals first
        | exact eqB_eq (by rw [dec_enc])
        | (rw [dec_enc]; exact List.all_eq_true.2 fun c h => inCb_iff.2 (hc c h))
        | (simp; done)
theorem audits_runs (n : Bool) (l : List Chk) (hl : l.length ≤ 60) (hn : n = true → l = []) (hc : ∀ c ∈ l, InC c) (a d b e r : Int) : Runs T F 22 [V.sl n (l.map encC), .agg [.int .i64 a, .int .i64 d], .agg [.int .i64 b, .int .i64 e], .int .i64 r] [] (.bool true, []) := by
  have hr := ref_loop n l hl a d b e r l.length 0 [] (by omega) rfl
  have hp := pair_loop n l hc a d b e r
  have e0 : loopsOf fi22.body = [lb fi22 0, lb fi22 1] := by kernel_rfl
  have f0 : firstRegion (lb fi22 0) = 4 := by kernel_rfl
  have f1 : firstRegion (lb fi22 1) = 17 := by kernel_rfl
  have hL : LGood T (vlim T F) lplim fi22.cx (loopsIs [(4, aS n l a d b e r [] 0, (.exit 0, ⟨(aS n l a d b e r l l.length).env ++ [(32, .bool false)], kHeap a d b e⟩)), (17, bS n l a d b e r 0, (.exit 2, ⟨(bS n l a d b e r 2).env ++ [(94, .bool false)], (bS n l a d b e r 2).heap⟩))]) fi22.body := by
    refine LGood.is fun c hc x hx hf => ?_
    rw [e0] at hc
    simp only [List.mem_cons, List.not_mem_nil, or_false] at hc hx
    rcases hx with rfl | rfl <;> rcases hc with rfl | rfl
    · exact hr
    · simp only at hf; omega
    · simp only at hf; omega
    · exact hp
  refine Runs.way (F := F) (sh := Sh) (S := R22) R22_ok (fi := fi22) (by kernel_rfl) hL [(eqB (List.map encC l) (List.map encC (List.map decC (List.map encC l))), true),
    (!n || (List.map encC l).isEmpty, true),
    (decide ((List.map encC l).length ≤ 60), true),
    (is { env := [(0, V.sl n (List.map encC l)), (3, V.int IntKind.i64 r), (5, V.ptr 0 0), (6, V.ptr 1 0), (9, V.sl n (List.map encC l)), (10, V.ex 3 true []), (29, V.sl n (List.map encC l)), (30, V.int IntKind.i64 (↑(List.map encC l).length : Int)), (31, V.int IntKind.i64 0)], heap := [B.cells [V.int IntKind.i64 a, V.int IntKind.i64 d], B.cells [V.int IntKind.i64 b, V.int IntKind.i64 e]] } { env := [(0, V.sl n (List.map encC l)), (3, V.int IntKind.i64 r), (5, V.ptr 0 0), (6, V.ptr 1 0), (9, V.sl n (List.map encC l)), (10, V.ex 3 true []), (29, V.sl n (List.map encC l)), (30, V.int IntKind.i64 (↑l.length : Int)), (31, V.int IntKind.i64 0)], heap := [B.cells [V.int IntKind.i64 a, V.int IntKind.i64 d], B.cells [V.int IntKind.i64 b, V.int IntKind.i64 e]] }, true),
    ((List.map decC (List.map encC l)).all inCb, true),
    (!cellsEqv [V.int IntKind.i64 (P.au (List.map decC (List.map encC l)) 0), V.int IntKind.i64 (P.au (List.map decC (List.map encC l)) 1), V.int IntKind.i64 (P.au (List.map decC (List.map encC l)) 2), V.int IntKind.i64 (P.au (List.map decC (List.map encC l)) 3), V.int IntKind.i64 (P.au (List.map decC (List.map encC l)) 4), V.int IntKind.i64 (P.au (List.map decC (List.map encC l)) 5), V.int IntKind.i64 (P.au (List.map decC (List.map encC l)) 6), V.int IntKind.i64 (P.au (List.map decC (List.map encC l)) 7)] [V.int IntKind.i64 (P.au (List.map decC (List.map encC l)) 0), V.int IntKind.i64 (P.au (List.map decC (List.map encC l)) 1), V.int IntKind.i64 (P.au (List.map decC (List.map encC l)) 2), V.int IntKind.i64 (P.au (List.map decC (List.map encC l)) 3), V.int IntKind.i64 (P.au (List.map decC (List.map encC l)) 4), V.int IntKind.i64 (P.au (List.map decC (List.map encC l)) 5), V.int IntKind.i64 (P.au (List.map decC (List.map encC l)) 6), V.int IntKind.i64 (P.au (List.map decC (List.map encC l)) 7)], false),
    (P.auE (List.map decC (List.map encC l)) != P.auE (List.map decC (List.map encC l)), false),
    (!cellsEqv [V.int IntKind.i64 (P.co (List.map decC (List.map encC l)) r 0), V.int IntKind.i64 (P.co (List.map decC (List.map encC l)) r 1)] [V.int IntKind.i64 (P.co (List.map decC (List.map encC l)) r 0), V.int IntKind.i64 (P.co (List.map decC (List.map encC l)) r 1)], false),
    (!cellsEqv [V.int IntKind.i64 (P.co (List.map decC (List.map encC l)) r 2), V.int IntKind.i64 (P.co (List.map decC (List.map encC l)) r 3)] [V.int IntKind.i64 (P.co (List.map decC (List.map encC l)) r 2), V.int IntKind.i64 (P.co (List.map decC (List.map encC l)) r 3)], false),
    (P.coE (List.map decC (List.map encC l)) r != P.coE (List.map decC (List.map encC l)) r, false),
    (is { env := [(0, V.sl n (List.map encC l)), (9, V.sl n (List.map encC l)), (10, V.ex 3 ((l).isEmpty) (List.map encC l)), (91, V.ex 4 false [V.agg [V.int IntKind.i64 a, V.int IntKind.i64 d, V.int IntKind.i64 b, V.int IntKind.i64 e], V.agg [V.int IntKind.i64 (P.co (List.map decC (List.map encC l)) r 0), V.int IntKind.i64 (P.co (List.map decC (List.map encC l)) r 1), V.int IntKind.i64 (P.co (List.map decC (List.map encC l)) r 2), V.int IntKind.i64 (P.co (List.map decC (List.map encC l)) r 3)]]), (92, V.int IntKind.i64 2), (93, V.int IntKind.i64 0)], heap := [B.cells [V.int IntKind.i64 a, V.int IntKind.i64 d], B.cells [V.int IntKind.i64 b, V.int IntKind.i64 e], B.cells [V.int IntKind.i64 (P.au (List.map decC (List.map encC l)) 0), V.int IntKind.i64 (P.au (List.map decC (List.map encC l)) 1), V.int IntKind.i64 (P.au (List.map decC (List.map encC l)) 2), V.int IntKind.i64 (P.au (List.map decC (List.map encC l)) 3), V.int IntKind.i64 (P.au (List.map decC (List.map encC l)) 4), V.int IntKind.i64 (P.au (List.map decC (List.map encC l)) 5), V.int IntKind.i64 (P.au (List.map decC (List.map encC l)) 6), V.int IntKind.i64 (P.au (List.map decC (List.map encC l)) 7)], B.cells [V.int IntKind.i64 (P.au (List.map decC (List.map encC l)) 0), V.int IntKind.i64 (P.au (List.map decC (List.map encC l)) 1), V.int IntKind.i64 (P.au (List.map decC (List.map encC l)) 2), V.int IntKind.i64 (P.au (List.map decC (List.map encC l)) 3), V.int IntKind.i64 (P.au (List.map decC (List.map encC l)) 4), V.int IntKind.i64 (P.au (List.map decC (List.map encC l)) 5), V.int IntKind.i64 (P.au (List.map decC (List.map encC l)) 6), V.int IntKind.i64 (P.au (List.map decC (List.map encC l)) 7)], B.cells [V.int IntKind.i64 (P.co (List.map decC (List.map encC l)) r 0), V.int IntKind.i64 (P.co (List.map decC (List.map encC l)) r 1)], B.cells [V.int IntKind.i64 (P.co (List.map decC (List.map encC l)) r 2), V.int IntKind.i64 (P.co (List.map decC (List.map encC l)) r 3)], B.cells [V.int IntKind.i64 (P.co (List.map decC (List.map encC l)) r 0), V.int IntKind.i64 (P.co (List.map decC (List.map encC l)) r 1)], B.cells [V.int IntKind.i64 (P.co (List.map decC (List.map encC l)) r 2), V.int IntKind.i64 (P.co (List.map decC (List.map encC l)) r 3)]] } { env := [(0, V.sl n (List.map encC l)), (9, V.sl n (List.map encC l)), (10, V.ex 3 ((l).isEmpty) (List.map encC l)), (91, V.ex 4 false [V.agg [V.int IntKind.i64 a, V.int IntKind.i64 d, V.int IntKind.i64 b, V.int IntKind.i64 e], V.agg [V.int IntKind.i64 (P.co l r 0), V.int IntKind.i64 (P.co l r 1), V.int IntKind.i64 (P.co l r 2), V.int IntKind.i64 (P.co l r 3)]]), (92, V.int IntKind.i64 2), (93, V.int IntKind.i64 0)], heap := [B.cells [V.int IntKind.i64 a, V.int IntKind.i64 d], B.cells [V.int IntKind.i64 b, V.int IntKind.i64 e], B.cells [V.int IntKind.i64 (P.au l 0), V.int IntKind.i64 (P.au l 1), V.int IntKind.i64 (P.au l 2), V.int IntKind.i64 (P.au l 3), V.int IntKind.i64 (P.au l 4), V.int IntKind.i64 (P.au l 5), V.int IntKind.i64 (P.au l 6), V.int IntKind.i64 (P.au l 7)], B.cells [V.int IntKind.i64 (P.au l 0), V.int IntKind.i64 (P.au l 1), V.int IntKind.i64 (P.au l 2), V.int IntKind.i64 (P.au l 3), V.int IntKind.i64 (P.au l 4), V.int IntKind.i64 (P.au l 5), V.int IntKind.i64 (P.au l 6), V.int IntKind.i64 (P.au l 7)], B.cells [V.int IntKind.i64 (P.co l r 0), V.int IntKind.i64 (P.co l r 1)], B.cells [V.int IntKind.i64 (P.co l r 2), V.int IntKind.i64 (P.co l r 3)], B.cells [V.int IntKind.i64 (P.co l r 0), V.int IntKind.i64 (P.co l r 1)], B.cells [V.int IntKind.i64 (P.co l r 2), V.int IntKind.i64 (P.co l r 3)]] }, true),
    (eqB (List.map encC l) (List.map encC l), true)] [2, 3, 4, 5, 2, 6, 2, 0, 7, 7, 7, 7, 8, 2, 6, 2, 0, 9, 9, 9, 9, 10, 10, 10, 10, 11, 12, 13, 2, 4] (by kernel_rfl) ?_
  rw [dec_enc]
  have q := eqv_fit l
  unfold auV at q
  refine ⟨?_, ?_, ?_, ?_, ?_, ?_, ?_, ?_, ?_, ?_, ?_, ?_, trivial⟩
  all_goals first
    | exact eqB_eq rfl
    | exact List.all_eq_true.2 fun c h => inCb_iff.2 (hc c h)
    | exact is_eq (by simp [aS, bS])
    | (rw [q]; rfl)
    | (rw [eqv_two]; rfl)
    | (simp; done)
    | (simpa using hl)
    | (cases n <;> simp_all)
noncomputable def audsS : List V → Heap → Tr (V × Heap) := fun a H => match a, H with
  | [.sl n xs, .agg [.int .i64 _, .int .i64 _], .agg [.int .i64 _, .int .i64 _], .int .i64 _], [] => .must (eqB xs ((xs.map decC).map encC)) (.must (!n || xs.isEmpty) (.must (decide (xs.length ≤ 60)) (.must ((xs.map decC).all inCb) (.ret (.bool true, [])))))
  | _, _ => .fail
theorem audsS_ok : ∀ a H r, (audsS a H).run = some r → Runs T F 22 a H r := by
  intro a H r h
  unfold audsS at h
  split at h
  · rename_i n xs a d b e r
    obtain ⟨h0, h⟩ := Tr.must_some h
    obtain ⟨h1, h⟩ := Tr.must_some h
    obtain ⟨h2, h⟩ := Tr.must_some h
    obtain ⟨h3, h⟩ := Tr.must_some h
    have hr := ret_some h
    clear h
    subst hr
    have h0 := of_eqB h0
    simp only [decide_eq_true_eq] at h2
    generalize xs.map decC = l at *
    subst h0
    exact audits_runs n l (by simpa using h2) (fun hn => by subst hn; simpa using h1) (fun c hc => inCb_iff.1 (List.all_eq_true.1 h3 c hc)) a d b e r
  · cases h
noncomputable def R7 : Vm.Spec := R22.add 22 audsS
theorem R7_ok : Vm.Good (vlim T F) R7 := R22_ok.add audsS_ok
theorem wf_inI {n : Int} (h : (Lit.int .i64 n).wf = true) : inI n = true := by
  simp [Lit.wf, IntKind.min, IntKind.max, IntKind.signed, IntKind.bits] at h
  exact inI_iff.2 ⟨by omega, by omega⟩
theorem three {α : Type} {cs : List α} (h : cs.length = 3) : ∃ a b c, cs = [a, b, c] := by
  match cs, h with
  | [a, b, c], _ => exact ⟨a, b, c, rfl⟩
theorem two {α : Type} {cs : List α} (h : cs.length = 2) : ∃ a b, cs = [a, b] := by
  match cs, h with
  | [a, b], _ => exact ⟨a, b, rfl⟩
theorem hasV_chk {m : Nat} {v : V} (h : HasV T (m + 2) 25 v) : ∃ c, v = encC c ∧ InC c := by
  obtain ⟨cs, rfl, hl, hf⟩ := hasV_struct (i := { kind := .struct [(0, 3), (1, 3), (2, 3)], size := 3, bytes := 24, zero := .agg [.int .i64 0, .int .i64 0, .int .i64 0], leaves := [.int .i64, .int .i64, .int .i64] }) (by kernel_rfl) rfl h
  obtain ⟨a, b, c, rfl⟩ := three hl
  have t3 : T 3 = some { kind := .int .i64, size := 1, bytes := 8, zero := .int .i64 0, leaves := [] } := by kernel_rfl
  obtain ⟨i1, j1, k1⟩ := hf (0, 3) (by simp)
  obtain ⟨i2, j2, k2⟩ := hf (1, 3) (by simp)
  obtain ⟨i3, j3, k3⟩ := hf (2, 3) (by simp)
  simp only at j1 j2 j3 k1 k2 k3
  rw [t3] at j1 j2 j3
  injection j1 with j1; injection j2 with j2; injection j3 with j3
  subst j1; subst j2; subst j3
  obtain ⟨x, rfl, hx⟩ := hasC_int t3 rfl k1
  obtain ⟨y, rfl, hy⟩ := hasC_int t3 rfl k2
  obtain ⟨z, rfl, hz⟩ := hasC_int t3 rfl k3
  exact ⟨⟨x, y, z⟩, rfl, wf_inI hx, wf_inI hy, wf_inI hz⟩
theorem hasV_ratio {m : Nat} {v : V} (h : HasV T (m + 2) 28 v) : ∃ a d, v = .agg [.int .i64 a, .int .i64 d] := by
  obtain ⟨cs, rfl, hl, hf⟩ := hasV_struct (i := { kind := .struct [(0, 3), (1, 3)], size := 2, bytes := 16, zero := .agg [.int .i64 0, .int .i64 0], leaves := [.int .i64, .int .i64] }) (by kernel_rfl) rfl h
  obtain ⟨a, b, rfl⟩ := two hl
  have t3 : T 3 = some { kind := .int .i64, size := 1, bytes := 8, zero := .int .i64 0, leaves := [] } := by kernel_rfl
  obtain ⟨i1, j1, k1⟩ := hf (0, 3) (by simp)
  obtain ⟨i2, j2, k2⟩ := hf (1, 3) (by simp)
  simp only at j1 j2 k1 k2
  rw [t3] at j1 j2
  injection j1 with j1; injection j2 with j2
  subst j1; subst j2
  obtain ⟨x, rfl, hx⟩ := hasC_int t3 rfl k1
  obtain ⟨y, rfl, hy⟩ := hasC_int t3 rfl k2
  exact ⟨x, y, rfl⟩
theorem lawStampAudits : ∀ xs, AllV T 8 [23, 28, 28, 3] xs → ∃ k, vcall T F k 7 xs [] = some (.bool true, []) := by
  intro xs hxs
  obtain ⟨v, xs, rfl, hv, hxs⟩ := allV_cons hxs
  obtain ⟨va, xs, rfl, hva, hxs⟩ := allV_cons hxs
  obtain ⟨vb, xs, rfl, hvb, hxs⟩ := allV_cons hxs
  obtain ⟨vr, xs, rfl, hvr, hxs⟩ := allV_cons hxs
  obtain rfl := allV_nil hxs
  obtain ⟨n, l, rfl, hc, hl, hn⟩ := hasV_list encC InC (i := { kind := .slice 25, size := 1, bytes := 24, zero := .sl true [], leaves := [] }) (by kernel_rfl) rfl (fun x hx => hasV_chk hx) hv
  obtain ⟨a, d, rfl⟩ := hasV_ratio hva
  obtain ⟨b, e, rfl⟩ := hasV_ratio hvb
  obtain ⟨r, rfl, hr⟩ := hasV_int (i := { kind := .int .i64, size := 1, bytes := 8, zero := .int .i64 0, leaves := [] }) (by kernel_rfl) rfl hvr
  show Runs T F 7 [V.sl n (l.map encC), .agg [.int .i64 a, .int .i64 d], .agg [.int .i64 b, .int .i64 e], .int .i64 r] [] (.bool true, [])
  by_cases h : l.length > 60
  · exact Runs.way (F := F) (sh := Sh) (S := R7) (L := fun _ _ => .fail) R7_ok (fi := fi7) (by kernel_rfl) (fun _ _ _ _ h => by cases h) [(decide ((↑(List.map encC l).length : Int) > 60), true)] [2, 2, 2, 2, 2, 2, 0, 0] (by kernel_rfl) ⟨by simp; omega, trivial⟩
  · refine Runs.way (F := F) (sh := Sh) (S := R7) (L := fun _ _ => .fail) R7_ok (fi := fi7) (by kernel_rfl) (fun _ _ _ _ h => by cases h) [(decide ((↑(List.map encC l).length : Int) > 60), false),
    (eqB (List.map encC l) (List.map encC (List.map decC (List.map encC l))), true),
    (!n || (List.map encC l).isEmpty, true),
    (decide ((List.map encC l).length ≤ 60), true),
    ((List.map decC (List.map encC l)).all inCb, true)] [2, 2, 2, 2, 2, 3, 4, 5, 6, 2, 0, 0] (by kernel_rfl) ?_
    rw [dec_enc]
    refine ⟨?_, ?_, ?_, ?_, ?_, trivial⟩
    all_goals first
      | exact eqB_eq rfl
      | exact List.all_eq_true.2 fun c h => inCb_iff.2 (hc c h)
      | (simp; omega)
      | (cases n <;> simp_all)
end Go.Proofs.Ytgmdkjiflhklaaa
