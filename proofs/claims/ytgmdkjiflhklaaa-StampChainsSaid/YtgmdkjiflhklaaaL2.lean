/- L2: rows of hashes; roots. -/
import Derived.Test.YtgmdkjiflhklaaaL1
import Derived.Test.YtgmdkjiflhklaaaA4
namespace Go.Proofs.Ytgmdkjiflhklaaa
open Go Go.Vm
def pairS : List V → Heap → Tr (V × Heap) := fun a H => match a, H with
  | [.int .u64 a, .int .u64 b], [] => .ret (.int .u64 (P.pair a b), [])
  | _, _ => .fail
theorem pairS_ok : ∀ a H r, (pairS a H).run = some r → Runs T F 78 a H r := by
  intro a H r h
  unfold pairS at h
  split at h
  · have := ret_some h; subst this
    exact Runs.way (F := F) (sh := Sh) (S := S60) (L := fun _ _ => .fail) S60_ok (fi := fi78) (by kernel_rfl) (LGood.none (by kernel_rfl)) [] [] (by kernel_rfl) trivial
  · cases h
def encU (n : Int) : V := .int .u64 n
def Fd.hu (l : List Int) (i : Nat) : Int := intOf (fld 0 ((l.map encU).getD i V.undef))
theorem hu_at (l : List Int) (k : Nat) (h : k < l.length) : Fd.hu l k = l[k] := by simp [Fd.hu, encU, h]
def Fd.sn (l : List Stp) (i : Nat) : Int := intOf (fld 4 ((l.map encS).getD i V.undef))
theorem sn_at (l : List Stp) (k : Nat) (h : k < l.length) : Fd.sn l k = l[k].sgn := by simp [Fd.sn, encS, h]
noncomputable def Q78 : Vm.Spec := S46.add 78 pairS
theorem Q78_ok : Vm.Good (vlim T F) Q78 := S46_ok.add pairS_ok
theorem len_wrap {k : Nat} (h : k < 9223372036854775807) : IntKind.i64.wrap ((k : Int) + 1) = ((k + 1 : Nat) : Int) := by rw [i64in (by omega) (by omega)]; rfl
def sgns (l : List Stp) : List Int := l.map fun s => s.sgn
def sgS (n : Bool) (l : List Stp) (o : List Int) (k : Int) : St := ⟨[(3, V.ex 1 o.isEmpty (o.map encU)), (6, V.sl n (l.map encS)), (7, V.int IntKind.i64 l.length), (8, V.int IntKind.i64 k)], []⟩
theorem sg_loop (n : Bool) (l : List Stp) (hl : l.length ≤ 1000) : ∀ (m k : Nat) (o : List Int), k + m = l.length → o = (sgns l).take k →
    LRuns (vstep T (vlim T F) lplim fi77.cx 0 (lb fi77 0)) (sgS n l o k) (.exit 0, ⟨(sgS n l (sgns l) l.length).env ++ [(9, .bool false)], []⟩)
  | 0, k, o, hd, ho => by
    have hk : k = l.length := by omega
    subst hk
    rw [show l.length = (sgns l).length by simp [sgns], List.take_length] at ho
    subst ho
    have := LRuns.last (F := F) Q78_ok (sh := Sh) (L := fun _ _ => .fail) (n := 0) (b := lb fi77 0) (cx := fi77.cx) (τ := sgS n l (sgns l) l.length) (LGood.none (by kernel_rfl)) [(decide ((l.length : Int) < (l.length : Int)), false)] [2]
      (r := (.exit 0, ⟨(sgS n l (sgns l) l.length).env ++ [(9, .bool (decide ((l.length : Int) < (l.length : Int))))], []⟩)) (by kernel_rfl) (by simp) ⟨by simp, trivial⟩
    simpa using this
  | m + 1, k, o, hd, ho => by
    have hk : k < l.length := by omega
    have hk' : k < (sgns l).length := by simpa [sgns] using hk
    have ih := sg_loop n l hl m (k + 1) (o ++ [(sgns l)[k]]) (by omega) (by rw [ho]; exact List.take_append_getElem hk')
    have ga := sn_at l k hk
    have hlo : o.length ≤ 1000 := by rw [ho, List.length_take]; omega
    have hg : (sgns l)[k] = l[k].sgn := by simp [sgns]
    rw [hg] at ih
    refine LRuns.next (F := F) Q78_ok (sh := Sh) (L := fun _ _ => .fail) (LGood.none (by kernel_rfl)) [(decide ((↑k : Int) < (↑l.length : Int)), true),
    (decide ((↑k : Int) < (↑(List.map encS l).length : Int)), true),
    (((List.map encS l).getD k V.undef).cells.length == 5 && fitP [TK.int IntKind.i64, TK.int IntKind.u64, TK.int IntKind.i64, TK.int IntKind.i64, TK.int IntKind.u64] 0 ((List.map encS l).getD k V.undef), true),
    (rooms ((List.map encU o).length + 1) 8, true),
    (decide ((List.map encU o).length + 1 < 4611686018427387904), true)] [2, 0, 3, 4, 5, 6, 0] (τ' := { env := [(3, V.ex 1 (((o).isEmpty) && false) (List.map encU o ++ [V.int IntKind.u64 (Fd.sn l k)])), (6, V.sl n (List.map encS l)), (7, V.int IntKind.i64 (↑l.length : Int)), (8, V.int IntKind.i64 (IntKind.i64.wrap ((↑k : Int) + 1)))], heap := [] }) (by kernel_rfl) ?_ ?_
    · refine ⟨?_, ?_, ?_, ?_, ?_, trivial⟩
      all_goals first
        | (simp; omega)
        | (simp [encS, fitP, fld, leafFits, V.cells, hk]; done)
        | (simp [rooms, maxRoom]; omega)
    · rw [len_wrap (by omega), ga]
      have ee : ∀ x, (o ++ [x]).isEmpty = false := by intro x; cases o <;> rfl
      simpa [sgS, encU, ee] using ih
def isU : V → Bool
  | .int .u64 _ => true
  | _ => false
theorem isU_all : ∀ {xs : List V}, xs.all isU = true → xs = (xs.map intOf).map encU
  | [], _ => rfl
  | x :: xs, h => by
    simp only [List.all_cons, Bool.and_eq_true] at h
    obtain ⟨h1, h2⟩ := h
    simp only [List.map_cons]
    rw [← isU_all h2]
    congr 1
    unfold isU at h1
    split at h1
    · rfl
    · cases h1
def decS (v : V) : Stp := ⟨intOf (fld 0 v), intOf (fld 1 v), intOf (fld 2 v), intOf (fld 3 v), intOf (fld 4 v)⟩
theorem decS_enc (l : List Stp) : (l.map encS).map decS = l := by
  rw [List.map_map]
  conv => rhs; rw [← List.map_id l]
  exact List.map_congr_left fun c _ => by simp [decS, encS]
/-- The row above a row. -/
def P.up : List Int → List Int
  | a :: b :: l => P.pair a b :: P.up l
  | l => l
theorem up_len : ∀ l : List Int, (P.up l).length = (l.length + 1) / 2
  | [] => rfl
  | [a] => by simp [P.up]
  | a :: b :: l => by simp only [P.up, List.length_cons, up_len l]; omega
theorem sg_runs (n : Bool) (l : List Stp) (hl : l.length ≤ 1000) : Runs T F 77 [.sl n (l.map encS)] [] (.ex 1 (sgns l).isEmpty ((sgns l).map encU), []) :=
  Runs.way (F := F) (sh := Sh) (S := Q78) Q78_ok (fi := fi77) (by kernel_rfl) (LGood.one (b := lb fi77 0) (k := 3) (σ0 := sgS n l [] 0) (by kernel_rfl) (sg_loop n l hl l.length 0 [] (by omega) rfl)) [(is { env := [(3, V.ex 1 true []), (6, V.sl n (List.map encS l)), (7, V.int IntKind.i64 (↑(List.map encS l).length : Int)), (8, V.int IntKind.i64 0)], heap := [] } { env := [(3, V.ex 1 true []), (6, V.sl n (List.map encS l)), (7, V.int IntKind.i64 (↑l.length : Int)), (8, V.int IntKind.i64 0)], heap := [] }, true)] [2] (by kernel_rfl) ⟨is_eq (by simp [sgS]), trivial⟩
noncomputable def sgnsS : List V → Heap → Tr (V × Heap) := fun a H => match a, H with
  | [.sl _ xs], [] => .must (eqB xs ((xs.map decS).map encS)) (.must (decide (xs.length ≤ 1000)) (.ret (.ex 1 (sgns (xs.map decS)).isEmpty ((sgns (xs.map decS)).map encU), [])))
  | _, _ => .fail
theorem sgnsS_ok : ∀ a H r, (sgnsS a H).run = some r → Runs T F 77 a H r := by
  intro a H r h
  unfold sgnsS at h
  split at h
  · rename_i n xs
    obtain ⟨h0, h⟩ := Tr.must_some h
    obtain ⟨h1, h⟩ := Tr.must_some h
    have hr := ret_some h; clear h; subst hr
    have h0 := of_eqB h0
    simp only [decide_eq_true_eq] at h1
    generalize xs.map decS = l at *
    subst h0
    exact sg_runs n l (by simpa using h1)
  · cases h
def pdS (l : List Int) (o : List Int) : St := ⟨[(0, V.sl false (l.map encU)), (3, V.ex 1 o.isEmpty (o.map encU))], []⟩
theorem all_cells (l : List Int) : ((l.map encU).all fun x => x.cells.length == 1) = true := by
  rw [List.all_eq_true]; intro x hx; obtain ⟨c, _, rfl⟩ := List.mem_map.1 hx; rfl
theorem pd_loop : ∀ (m : Nat) (l o : List Int), l.length ≤ m → o.length + l.length ≤ 1000 → ∃ z o', z.length ≤ 1 ∧ o' ++ z = o ++ P.up l ∧ o'.length + z.length ≤ 1000 ∧
    LRuns (vstep T (vlim T F) lplim fi76.cx 0 (lb fi76 0)) (pdS l o) (.exit 0, ⟨(pdS z o').env ++ [(6, .bool false)], []⟩)
  | m, l, o, hm, hl => by
    by_cases h : l.length > 1
    case neg =>
      refine ⟨l, o, by omega, ?_, hl, ?_⟩
      · match l, h with
        | [], _ => rfl
        | [a], _ => simp [P.up]
        | a :: b :: l, h => simp at h
      · have := LRuns.last (F := F) Q78_ok (sh := Sh) (L := fun _ _ => .fail) (n := 0) (b := lb fi76 0) (cx := fi76.cx) (τ := pdS l o) (LGood.none (by kernel_rfl)) [(decide ((↑(List.map encU l).length : Int) > 1), false)] [2] (r := (.exit 0, ⟨(pdS l o).env ++ [(6, .bool (decide (((List.map encU l).length : Int) > 1)))], []⟩)) (by kernel_rfl) (by simp) ⟨by simp; omega, trivial⟩
        have e : decide (((List.map encU l).length : Int) > 1) = false := by simp; omega
        rwa [e] at this
    match m, l, h, hm with
    | 0, l, h, hm => omega
    | m + 1, a :: b :: l', h, hm =>
    simp only [List.length_cons] at hm hl
    obtain ⟨z, o', h1, h2, h3, h4⟩ := pd_loop m l' (o ++ [P.pair a b]) (by omega) (by simp; omega)
    refine ⟨z, o', h1, by rw [h2]; simp [P.up], h3, ?_⟩
    generalize hL : a :: b :: l' = l at *
    have hlen : l.length = l'.length + 2 := by rw [← hL]; rfl
    have g0 : Fd.hu l 0 = a := by rw [← hL]; rfl
    have g1 : Fd.hu l 1 = b := by rw [← hL]; rfl
    have g2 : List.take (((List.map encU l).length : Int).toNat - 2) (List.drop 2 (List.map encU l)) = l'.map encU := by
      rw [← hL]
      simp only [List.map_cons, List.drop_succ_cons, List.drop_zero, List.length_cons]
      rw [List.take_of_length_le]
      simp
      omega
    refine LRuns.next (F := F) Q78_ok (sh := Sh) (L := fun _ _ => .fail) (LGood.none (by kernel_rfl)) [(decide ((↑(List.map encU l).length : Int) > 1), true),
    (decide (0 < (↑(List.map encU l).length : Int)), true),
    (((List.map encU l).getD 0 V.undef).cells.length == 1 && fitP [TK.int IntKind.u64] 0 ((List.map encU l).getD 0 V.undef), true),
    (decide (1 < (↑(List.map encU l).length : Int)), true),
    (((List.map encU l).getD 1 V.undef).cells.length == 1 && fitP [TK.int IntKind.u64] 0 ((List.map encU l).getD 1 V.undef), true),
    (rooms ((List.map encU o).length + 1) 8, true),
    (decide ((List.map encU o).length + 1 < 4611686018427387904), true),
    (decide (2 ≤ (↑(List.map encU l).length : Int)), true),
    (decide ((↑(List.map encU l).length : Int) ≤ (↑(List.map encU l).length : Int)), true),
    ((List.map encU l).all fun x => x.cells.length == 1, true)] [2, 0, 3, 4, 0, 5, 6, 7, 8, 0, 0, 9, 10, 11] (τ' := { env := [(0, V.sl false (List.take ((↑(List.map encU l).length : Int).toNat - 2) (List.drop 2 (List.map encU l)))), (3, V.ex 1 (((o).isEmpty) && false) (List.map encU o ++ [V.int IntKind.u64 (P.pair (Fd.hu l 0) (Fd.hu l 1))]))], heap := [] }) (by kernel_rfl) ?_ ?_
    · refine ⟨?_, ?_, ?_, ?_, ?_, ?_, ?_, ?_, ?_, ?_, trivial⟩
      all_goals first
        | exact all_cells _
        | (simp; done)
        | (simp; omega)
        | (rw [← hL]; simp [encU, fitP, fld, leafFits, V.cells]; done)
        | (simp [rooms, maxRoom]; omega)
    · rw [g0, g1, g2]
      have ee : ∀ x, (o ++ [x]).isEmpty = false := by intro x; cases o <;> rfl
      simpa [pdS, encU, ee] using h4
theorem pd_runs (l : List Int) (h0 : 0 < l.length) (hl : l.length ≤ 1000) : Runs T F 76 [.sl false (l.map encU)] [] (.ex 1 false ((P.up l).map encU), []) := by
  obtain ⟨z, o, h1, h2, h3, h4⟩ := pd_loop l.length l [] (by omega) (by simpa using hl)
  rw [List.nil_append] at h2
  have hL := LGood.one (c := fi76.body) (b := lb fi76 0) (k := 2) (σ0 := pdS l []) (by kernel_rfl) h4
  have hu := up_len l
  have hne : (o.isEmpty && (List.map encU z).isEmpty) = false := by
    rw [← h2, List.length_append] at hu
    cases o with
    | cons _ _ => rfl
    | nil => cases z with
      | cons _ _ => rfl
      | nil => simp at hu; omega
  have e : (V.ex 1 false ((P.up l).map encU)) = V.ex 1 (o.isEmpty && (List.map encU z).isEmpty) (List.map encU o ++ List.map encU z) := by
    rw [hne, ← List.map_append, h2]
  rw [e]
  refine Runs.way (F := F) (sh := Sh) (S := Q78) Q78_ok (fi := fi76) (by kernel_rfl) hL [(is { env := [(0, V.sl false (List.map encU l)), (3, V.ex 1 true [])], heap := [] } { env := [(0, V.sl false (List.map encU l)), (3, V.ex 1 true [])], heap := [] }, true),
    (rooms ((List.map encU o).length + (List.map encU z).length) 8, true),
    (decide ((List.map encU o).length + (List.map encU z).length < 4611686018427387904), true),
    ((List.map encU z).all fun y => y.cells.length == 1, true)] [2, 3, 4, 5] (by kernel_rfl) ⟨is_self _, ?_, ?_, all_cells z, trivial⟩
  · simp [rooms, maxRoom]; omega
  · simp; omega
noncomputable def upS : List V → Heap → Tr (V × Heap) := fun a H => match a, H with
  | [.sl n xs], [] => .must (!n) (.must (xs.all isU) (.must (decide (0 < xs.length)) (.must (decide (xs.length ≤ 1000)) (.ret (.ex 1 false ((P.up (xs.map intOf)).map encU), [])))))
  | _, _ => .fail
theorem upS_ok : ∀ a H r, (upS a H).run = some r → Runs T F 76 a H r := by
  intro a H r h
  unfold upS at h
  split at h
  · rename_i n xs
    obtain ⟨h0, h⟩ := Tr.must_some h
    obtain ⟨h1, h⟩ := Tr.must_some h
    obtain ⟨h2, h⟩ := Tr.must_some h
    obtain ⟨h3, h⟩ := Tr.must_some h
    have hr := ret_some h; clear h; subst hr
    have h0 : n = false := by simpa using h0
    subst h0
    have hx := isU_all h1
    simp only [decide_eq_true_eq] at h2 h3
    rw [← List.length_map (f := intOf)] at h2 h3
    generalize xs.map intOf = l at *
    subst hx
    exact pd_runs l h2 h3
  · cases h
noncomputable def Q76 : Vm.Spec := (Q78.add 77 sgnsS).add 76 upS
theorem Q76_ok : Vm.Good (vlim T F) Q76 := (Q78_ok.add sgnsS_ok).add upS_ok
/-- The root of a row. -/
def P.rootN : Nat → List Int → Int
  | 0, l => l.headD 0
  | n + 1, l => if l.length ≤ 1 then l.headD 0 else P.rootN n (P.up l)
def P.root (l : List Int) : Int := P.rootN l.length l
def rtS (l : List Int) : St := ⟨[(3, V.sl false (l.map encU))], []⟩
theorem int_encU (l : List Int) : (l.map encU).map intOf = l := by
  rw [List.map_map]
  conv => rhs; rw [← List.map_id l]
  exact List.map_congr_left fun c _ => by simp [encU]
theorem all_isU (l : List Int) : ((l.map encU).all isU) = true := by
  rw [List.all_eq_true]; intro x hx; obtain ⟨c, _, rfl⟩ := List.mem_map.1 hx; rfl
theorem rt_loop : ∀ (m : Nat) (l : List Int), l.length ≤ 2 ^ m → 0 < l.length → l.length ≤ 1000 → ∀ f, l.length ≤ f → ∃ z, z.length = 1 ∧ z.headD 0 = P.rootN f l ∧
    LRuns (vstep T (vlim T F) lplim fi74.cx 0 (lb fi74 0)) (rtS l) (.exit 0, ⟨(rtS z).env ++ [(11, .bool false)], []⟩)
  | m, l, hm, h0, hl, f, hf => by
    by_cases h : l.length > 1
    case neg =>
      refine ⟨l, by omega, ?_, ?_⟩
      · match f with
        | 0 => rfl
        | f + 1 => simp only [P.rootN]; rw [if_pos (by omega)]
      · have := LRuns.last (F := F) Q76_ok (sh := Sh) (L := fun _ _ => .fail) (n := 0) (b := lb fi74 0) (cx := fi74.cx) (τ := rtS l) (LGood.none (by kernel_rfl)) [(decide ((↑(List.map encU l).length : Int) > 1), false)] [2] (r := (.exit 0, ⟨(rtS l).env ++ [(11, .bool (decide (((List.map encU l).length : Int) > 1)))], []⟩)) (by kernel_rfl) (by simp) ⟨by simp; omega, trivial⟩
        have e : decide (((List.map encU l).length : Int) > 1) = false := by simp; omega
        rwa [e] at this
    match m, f, hm, hf with
    | 0, f, hm, hf => simp at hm; omega
    | m + 1, 0, hm, hf => omega
    | m + 1, f + 1, hm, hf =>
    have hu := up_len l
    rw [Nat.pow_succ] at hm
    obtain ⟨z, h1, h2, h3⟩ := rt_loop m (P.up l) (by omega) (by omega) (by omega) f (by omega)
    refine ⟨z, h1, ?_, ?_⟩
    · rw [h2]; simp only [P.rootN]; rw [if_neg (by omega)]
    refine LRuns.next (F := F) Q76_ok (sh := Sh) (L := fun _ _ => .fail) (LGood.none (by kernel_rfl)) [(decide ((↑(List.map encU l).length : Int) > 1), true),
    ((List.map encU l).all isU, true),
    (decide (0 < (List.map encU l).length), true),
    (decide ((List.map encU l).length ≤ 1000), true)] [2, 0, 3, 4, 5] (τ' := { env := [(3, V.sl false (List.map encU (P.up (List.map intOf (List.map encU l)))))], heap := [] }) (by kernel_rfl) ⟨by simp; omega, all_isU l, by simp; omega, by simp; omega, trivial⟩ ?_
    rw [int_encU]; exact h3
theorem rt_runs (n : Bool) (l : List Stp) (hl : l.length ≤ 1000) : Runs T F 74 [.sl n (l.map encS)] [] (.int .u64 (P.root (sgns l)), []) := by
  by_cases h0 : l.length = 0
  · have hz : l = [] := List.eq_nil_of_length_eq_zero h0
    have e : P.root (sgns l) = 0 := by rw [hz]; rfl
    rw [e]
    exact Runs.way (F := F) (sh := Sh) (S := Q76) (L := fun _ _ => .fail) Q76_ok (fi := fi74) (by kernel_rfl) (fun _ _ _ _ h => by cases h) [(eqB (List.map encS l) (List.map encS (List.map decS (List.map encS l))), true),
    (decide ((List.map encS l).length ≤ 1000), true),
    ((↑(List.map encU (List.map (fun s => s.5) (List.map decS (List.map encS l)))).length : Int) == 0, true)] [2, 3, 4] (by kernel_rfl) ⟨eqB_eq (by rw [decS_enc]), by simp; omega, by simp [h0], trivial⟩
  · have hs : (sgns l).length = l.length := by simp [sgns]
    obtain ⟨z, h1, h2, h3⟩ := rt_loop 10 (sgns l) (by omega) (by omega) (by omega) (sgns l).length (by omega)
    have hg := hu_at z 0 (by omega)
    have e : P.root (sgns l) = Fd.hu z 0 := by
      rw [hg]
      unfold P.root
      rw [← h2]
      cases z with
      | nil => simp at h1
      | cons x z => rfl
    rw [e]
    have hne : (sgns l).isEmpty = false := by cases l with
      | nil => simp at h0
      | cons x l => rfl
    refine Runs.way (F := F) (sh := Sh) (S := Q76) Q76_ok (fi := fi74) (by kernel_rfl) (LGood.one (b := lb fi74 0) (k := 4) (σ0 := rtS (sgns l)) (by kernel_rfl) h3) [(eqB (List.map encS l) (List.map encS (List.map decS (List.map encS l))), true),
    (decide ((List.map encS l).length ≤ 1000), true),
    ((↑(List.map encU (List.map (fun s => s.5) (List.map decS (List.map encS l)))).length : Int) == 0, false),
    (is { env := [(3, V.sl ((sgns (List.map decS (List.map encS l))).isEmpty) (List.map encU (List.map (fun s => s.5) (List.map decS (List.map encS l)))))], heap := [] } { env := [(3, V.sl false (List.map encU (List.map (fun s => s.5) l)))], heap := [] }, true),
    (decide (0 < (↑(List.map encU z).length : Int)), true),
    (((List.map encU z).getD 0 V.undef).cells.length == 1 && fitP [TK.int IntKind.u64] 0 ((List.map encU z).getD 0 V.undef), true)] [2, 3, 4, 5, 0, 6, 7] (by kernel_rfl) ?_
    rw [decS_enc]
    refine ⟨eqB_eq rfl, by simp; omega, by simp; intro h; simp [h] at h0, is_eq (by rw [hne]), by simp; omega, by simp [encU, fitP, fld, leafFits, V.cells, h1], trivial⟩
noncomputable def rootS : List V → Heap → Tr (V × Heap) := fun a H => match a, H with
  | [.sl _ xs], [] => .must (eqB xs ((xs.map decS).map encS)) (.must (decide (xs.length ≤ 1000)) (.ret (.int .u64 (P.root (sgns (xs.map decS))), [])))
  | _, _ => .fail
theorem rootS_ok : ∀ a H r, (rootS a H).run = some r → Runs T F 74 a H r := by
  intro a H r h
  unfold rootS at h
  split at h
  · rename_i n xs
    obtain ⟨h0, h⟩ := Tr.must_some h
    obtain ⟨h1, h⟩ := Tr.must_some h
    have hr := ret_some h; clear h; subst hr
    have h0 := of_eqB h0
    simp only [decide_eq_true_eq] at h1
    generalize xs.map decS = l at *
    subst h0
    exact rt_runs n l (by simpa using h1)
  · cases h
noncomputable def Q74 : Vm.Spec := Q76.add 74 rootS
theorem Q74_ok : Vm.Good (vlim T F) Q74 := Q76_ok.add rootS_ok
end Go.Proofs.Ytgmdkjiflhklaaa
