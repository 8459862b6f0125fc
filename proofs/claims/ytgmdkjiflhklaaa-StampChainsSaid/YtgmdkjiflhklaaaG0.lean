/- G0: the base for StampChains: out of M1, M2, M4, M5. -/
import Derived.Test.YtgmdkjiflhklaaaL3
import Derived.Test.YtgmdkjiflhklaaaK0
import Derived.Test.YtgmdkjiflhklaaaA6
import Derived.Test.YtgmdkjiflhklaaaH2
namespace Go.Proofs.Ytgmdkjiflhklaaa
open Go Go.Vm
def Fd.s0 (l : List Stp) (i : Nat) : Int := intOf (fld 0 ((l.map encS).getD i V.undef))
def Fd.s1 (l : List Stp) (i : Nat) : Int := intOf (fld 1 ((l.map encS).getD i V.undef))
def Fd.s2 (l : List Stp) (i : Nat) : Int := intOf (fld 2 ((l.map encS).getD i V.undef))
def Fd.s3 (l : List Stp) (i : Nat) : Int := intOf (fld 3 ((l.map encS).getD i V.undef))
theorem s0_at (l : List Stp) (k : Nat) (h : k < l.length) : Fd.s0 l k = l[k].ser := by simp [Fd.s0, encS, h]
theorem s1_at (l : List Stp) (k : Nat) (h : k < l.length) : Fd.s1 l k = l[k].doc := by simp [Fd.s1, encS, h]
theorem s2_at (l : List Stp) (k : Nat) (h : k < l.length) : Fd.s2 l k = l[k].lo := by simp [Fd.s2, encS, h]
theorem s3_at (l : List Stp) (k : Nat) (h : k < l.length) : Fd.s3 l k = l[k].hi := by simp [Fd.s3, encS, h]
noncomputable def U44 : Vm.Spec := Q78.add 44 winS
theorem U44_ok : Vm.Good (vlim T F) U44 := Q78_ok.add winS_ok
theorem mixR_ok : ∀ a H r, (mixS a H).run = some r → Runs T F 61 a H r := by
  intro a H r h
  unfold mixS at h
  split at h
  · have := ret_some h; subst this
    exact funT_ok (sh := Sh) (S := noSpec) (L := fun _ _ => .fail) Vm.Good.no (fi := fi61) (by kernel_rfl) (LGood.none (by kernel_rfl)) (by kernel_rfl)
  · cases h
noncomputable def U61 : Vm.Spec := U44.add 61 mixS
theorem U61_ok : Vm.Good (vlim T F) U61 := U44_ok.add mixR_ok
noncomputable def U89 : Vm.Spec := U61.add 89 (inl T Sh U61 0 0 fi89)
theorem U89_ok : Vm.Good (vlim T F) U89 := U61_ok.inl (by kernel_rfl) 0 0 (by kernel_rfl)
noncomputable def U91 : Vm.Spec := U89.add 91 (inl T Sh U89 0 0 fi91)
theorem U91_ok : Vm.Good (vlim T F) U91 := U89_ok.inl (by kernel_rfl) 0 0 (by kernel_rfl)
def noS : Stp := ⟨0, 0, 0, 0, 0⟩
theorem getD_at {l : List Stp} {k : Nat} (h : k < l.length) : l.getD k noS = l[k] := by rw [List.getD_eq_getElem?_getD, List.getElem?_eq_getElem h]; rfl
def Fd.y0 (v : V) : Int := intOf (fld 0 v)
theorem pairR_ok : ∀ a H r, (pairS a H).run = some r → Runs T F 94 a H r := by
  intro a H r h
  unfold pairS at h
  split at h
  · have := ret_some h; subst this
    exact Runs.way (F := F) (sh := Sh) (S := U91) (L := fun _ _ => .fail) U91_ok (fi := fi94) (by kernel_rfl) (LGood.none (by kernel_rfl)) [] [] (by kernel_rfl) trivial
  · cases h
noncomputable def U94 : Vm.Spec := U91.add 94 pairS
theorem U94_ok : Vm.Good (vlim T F) U94 := U91_ok.add pairR_ok
def lwS (n : Bool) (l : List Stp) (o : List Int) (k : Int) : St := ⟨[(0, V.sl n (l.map encS)), (3, V.ex 1 o.isEmpty (o.map encU)), (4, V.int IntKind.i64 k)], []⟩
theorem lw_loop (n : Bool) (l : List Stp) (hl : l.length ≤ 1000) : ∀ (m k : Nat) (o : List Int), k + m = l.length → o = (sgns l).take k →
    LRuns (vstep T (vlim T F) lplim fi92.cx 0 (lb fi92 0)) (lwS n l o k) (.exit 0, ⟨(lwS n l (sgns l) l.length).env ++ [(8, .bool false)], []⟩)
  | 0, k, o, hd, ho => by
    have hk : k = l.length := by omega
    subst hk
    rw [show l.length = (sgns l).length by simp [sgns], List.take_length] at ho
    subst ho
    have := LRuns.last (F := F) U94_ok (sh := Sh) (L := fun _ _ => .fail) (n := 0) (b := lb fi92 0) (cx := fi92.cx) (τ := lwS n l (sgns l) l.length) (LGood.none (by kernel_rfl)) [(decide ((l.length : Int) < ((l.map encS).length : Int)), false)] [2]
      (r := (.exit 0, ⟨(lwS n l (sgns l) l.length).env ++ [(8, .bool (decide ((l.length : Int) < ((l.map encS).length : Int))))], []⟩)) (by kernel_rfl) (by simp) ⟨by simp, trivial⟩
    simpa using this
  | m + 1, k, o, hd, ho => by
    have hk : k < l.length := by omega
    have hk' : k < (sgns l).length := by simpa [sgns] using hk
    have ih := lw_loop n l hl m (k + 1) (o ++ [(sgns l)[k]]) (by omega) (by rw [ho]; exact List.take_append_getElem hk')
    have ga := sn_at l k hk
    have hlo : o.length ≤ 1000 := by rw [ho, List.length_take]; omega
    have hg : (sgns l)[k] = l[k].sgn := by simp [sgns]
    rw [hg] at ih
    refine LRuns.next (F := F) U94_ok (sh := Sh) (L := fun _ _ => .fail) (LGood.none (by kernel_rfl)) [(decide ((↑k : Int) < (↑(List.map encS l).length : Int)), true),
    (((List.map encS l).getD k V.undef).cells.length == 5 && fitP [TK.int IntKind.i64, TK.int IntKind.u64, TK.int IntKind.i64, TK.int IntKind.i64, TK.int IntKind.u64] 0 ((List.map encS l).getD k V.undef), true),
    (rooms ((List.map encU o).length + 1) 8, true),
    (decide ((List.map encU o).length + 1 < 4611686018427387904), true)] [2, 0, 2, 3, 4, 5, 0] (τ' := { env := [(0, V.sl n (List.map encS l)), (3, V.ex 1 (((o).isEmpty) && false) (List.map encU o ++ [V.int IntKind.u64 (Fd.sn l k)])), (4, V.int IntKind.i64 (IntKind.i64.wrap ((↑k : Int) + 1)))], heap := [] }) (by kernel_rfl) ?_ ?_
    · refine ⟨?_, ?_, ?_, ?_, trivial⟩
      all_goals first
        | (simp; omega)
        | (simp [encS, fitP, fld, leafFits, V.cells, hk]; done)
        | (simp [rooms, maxRoom]; omega)
    · rw [len_wrap (by omega), ga]
      have ee : ∀ x, (o ++ [x]).isEmpty = false := by intro x; cases o <;> rfl
      simpa [lwS, encU, ee] using ih
theorem lwG_ok : ∀ a H r, (sgnsS a H).run = some r → Runs T F 92 a H r := by
  intro a H r h
  unfold sgnsS at h
  split at h
  · rename_i n xs
    obtain ⟨h0, h⟩ := Tr.must_some h
    obtain ⟨h1, h⟩ := Tr.must_some h
    have hr := ret_some h; clear h; subst hr
    have h0 := of_eqB h0
    simp only [decide_eq_true_eq] at h1
    generalize xs.map decS = l at *
    subst h0
    exact Runs.way (F := F) (sh := Sh) (S := U94) U94_ok (fi := fi92) (by kernel_rfl) (LGood.one (b := lb fi92 0) (k := 3) (σ0 := lwS n l [] 0) (by kernel_rfl) (lw_loop n l (by simpa using h1) l.length 0 [] (by omega) rfl)) [(is { env := [(0, V.sl n (List.map encS l)), (3, V.ex 1 true []), (4, V.int IntKind.i64 0)], heap := [] } { env := [(0, V.sl n (List.map encS l)), (3, V.ex 1 true []), (4, V.int IntKind.i64 0)], heap := [] }, true)] [2] (by kernel_rfl) ⟨is_eq (by simp), trivial⟩
  · cases h
def abS (n : Bool) (l o : List Int) (k : Int) : St := ⟨[(0, V.sl n (l.map encU)), (3, V.ex 1 o.isEmpty (o.map encU)), (4, V.int IntKind.i64 k)], []⟩
theorem ab_loop (n : Bool) (l : List Int) (hl : l.length ≤ 1000) : ∀ (m k : Nat) (o : List Int), l.length ≤ k + m → o.length ≤ k → ∃ k' : Int,
    LRuns (vstep T (vlim T F) lplim fi93.cx 0 (lb fi93 0)) (abS n l o k) (.exit 0, ⟨(abS n l (o ++ P.up (l.drop k)) k').env ++ [(8, .bool false)], []⟩) := by
  intro m
  induction m with
  | zero =>
    intro k o hd ho
    rw [List.drop_of_length_le (by omega)]
    refine ⟨k, ?_⟩
    have := LRuns.last (F := F) U94_ok (sh := Sh) (L := fun _ _ => .fail) (n := 0) (b := lb fi93 0) (cx := fi93.cx) (τ := abS n l o k) (LGood.none (by kernel_rfl)) [(decide ((↑k : Int) < (↑(List.map encU l).length : Int)), false)] [2]
      (r := (.exit 0, ⟨(abS n l o k).env ++ [(8, .bool (decide ((k : Int) < ((l.map encU).length : Int))))], []⟩)) (by kernel_rfl) (by simp) ⟨by simp; omega, trivial⟩
    have e : decide ((k : Int) < ((l.map encU).length : Int)) = false := by simp; omega
    rw [e] at this
    simpa [P.up] using this
  | succ m ihm =>
    intro k o hd ho
    by_cases hk : k < l.length
    case neg =>
      rw [List.drop_of_length_le (by omega)]
      refine ⟨k, ?_⟩
      have := LRuns.last (F := F) U94_ok (sh := Sh) (L := fun _ _ => .fail) (n := 0) (b := lb fi93 0) (cx := fi93.cx) (τ := abS n l o k) (LGood.none (by kernel_rfl)) [(decide ((↑k : Int) < (↑(List.map encU l).length : Int)), false)] [2]
        (r := (.exit 0, ⟨(abS n l o k).env ++ [(8, .bool (decide ((k : Int) < ((l.map encU).length : Int))))], []⟩)) (by kernel_rfl) (by simp) ⟨by simp; omega, trivial⟩
      have e : decide ((k : Int) < ((l.map encU).length : Int)) = false := by simp; omega
      rw [e] at this
      simpa [P.up] using this
    have ee : ∀ x, (o ++ [x]).isEmpty = false := by intro x; cases o <;> rfl
    have ga := hu_at l k hk
    have hw1 : IntKind.i64.wrap ((k : Int) + 1) = ((k + 1 : Nat) : Int) := len_wrap (by omega)
    have hw2 : IntKind.i64.wrap ((k : Int) + 2) = ((k + 2 : Nat) : Int) := by rw [i64in (by omega) (by omega)]; rfl
    by_cases hk1 : k + 1 < l.length
    · have gb := hu_at l (k + 1) hk1
      obtain ⟨k', ih⟩ := ihm (k + 2) (o ++ [P.pair l[k] l[k + 1]]) (by omega) (by simp; omega)
      have e : P.up (l.drop k) = P.pair l[k] l[k + 1] :: P.up (l.drop (k + 2)) := by
        rw [List.drop_eq_getElem_cons hk, List.drop_eq_getElem_cons hk1]; rfl
      rw [e]
      rw [List.append_assoc, List.singleton_append] at ih
      refine ⟨k', ?_⟩
      refine LRuns.next (F := F) U94_ok (sh := Sh) (L := fun _ _ => .fail) (LGood.none (by kernel_rfl)) [(decide ((↑k : Int) < (↑(List.map encU l).length : Int)), true),
    (decide (IntKind.i64.wrap ((↑k : Int) + 1) < (↑(List.map encU l).length : Int)), true),
    (((List.map encU l).getD k V.undef).cells.length == 1 && fitP [TK.int IntKind.u64] 0 ((List.map encU l).getD k V.undef), true),
    (decide (0 ≤ IntKind.i64.wrap ((↑k : Int) + 1)), true),
    (((List.map encU l).getD (IntKind.i64.wrap ((↑k : Int) + 1)).toNat V.undef).cells.length == 1 && fitP [TK.int IntKind.u64] 0 ((List.map encU l).getD (IntKind.i64.wrap ((↑k : Int) + 1)).toNat V.undef), true),
    (rooms ((List.map encU o).length + 1) 8, true),
    (decide ((List.map encU o).length + 1 < 4611686018427387904), true)] [2, 3, 0, 2, 4, 5, 3, 6, 7, 8, 0] (τ' := { env := [(0, V.sl n (List.map encU l)), (3, V.ex 1 (((o).isEmpty) && false) (List.map encU o ++ [V.int IntKind.u64 (P.pair (Fd.hu l k) (Fd.hu l (IntKind.i64.wrap ((↑k : Int) + 1)).toNat))])), (4, V.int IntKind.i64 (IntKind.i64.wrap ((↑k : Int) + 2)))], heap := [] }) (by kernel_rfl) ?_ ?_
      · refine ⟨?_, ?_, ?_, ?_, ?_, ?_, ?_, trivial⟩
        all_goals first
          | (simp; omega)
          | (simp only [hw1, Int.toNat_natCast]; simp [encU, fitP, fld, leafFits, V.cells, hk1]; done)
          | (simp [encU, fitP, fld, leafFits, V.cells, hk]; done)
          | (simp only [hw1, List.length_map]; simp; omega)
          | (simp [rooms, maxRoom]; omega)
      · rw [hw1, hw2, Int.toNat_natCast, ga, gb]
        simpa [abS, encU, ee] using ih
    · obtain ⟨k', ih⟩ := ihm (k + 2) (o ++ [l[k]]) (by omega) (by simp; omega)
      have e : P.up (l.drop k) = [l[k]] := by
        rw [List.drop_eq_getElem_cons hk, List.drop_of_length_le (by omega)]; simp [P.up]
      rw [e]
      rw [List.drop_of_length_le (show l.length ≤ k + 2 by omega)] at ih
      simp only [P.up, List.append_nil] at ih
      refine ⟨k', ?_⟩
      refine LRuns.next (F := F) U94_ok (sh := Sh) (L := fun _ _ => .fail) (LGood.none (by kernel_rfl)) [(decide ((↑k : Int) < (↑(List.map encU l).length : Int)), true),
    (decide (IntKind.i64.wrap ((↑k : Int) + 1) < (↑(List.map encU l).length : Int)), false),
    (((List.map encU l).getD k V.undef).cells.length == 1 && fitP [TK.int IntKind.u64] 0 ((List.map encU l).getD k V.undef), true),
    (rooms ((List.map encU o).length + 1) 8, true),
    (decide ((List.map encU o).length + 1 < 4611686018427387904), true)] [2, 3, 0, 2, 4, 5, 6, 0] (τ' := { env := [(0, V.sl n (List.map encU l)), (3, V.ex 1 (((o).isEmpty) && false) (List.map encU o ++ [V.int IntKind.u64 (Fd.hu l k)])), (4, V.int IntKind.i64 (IntKind.i64.wrap ((↑k : Int) + 2)))], heap := [] }) (by kernel_rfl) ?_ ?_
      · refine ⟨?_, ?_, ?_, ?_, ?_, trivial⟩
        all_goals first
          | (simp; omega)
          | (simp only [hw1, Int.toNat_natCast]; simp [encU, fitP, fld, leafFits, V.cells, hk1]; done)
          | (simp [encU, fitP, fld, leafFits, V.cells, hk]; done)
          | (simp only [hw1, List.length_map]; simp; omega)
          | (simp [rooms, maxRoom]; omega)
      · rw [hw2, ga]
        simpa [abS, encU, ee] using ih
theorem upR_ok : ∀ a H r, (upS a H).run = some r → Runs T F 93 a H r := by
  intro a H r h
  unfold upS at h
  split at h
  · rename_i n xs
    obtain ⟨h0, h⟩ := Tr.must_some h
    obtain ⟨h1, h⟩ := Tr.must_some h
    obtain ⟨h2, h⟩ := Tr.must_some h
    obtain ⟨h3, h⟩ := Tr.must_some h
    have hr := ret_some h; clear h; subst hr
    have hx := isU_all h1
    simp only [decide_eq_true_eq] at h2 h3
    rw [← List.length_map (f := intOf)] at h2 h3
    generalize xs.map intOf = l at *
    subst hx
    obtain ⟨k', hr⟩ := ab_loop n l h3 l.length 0 [] (by omega) (by simp)
    rw [List.drop_zero, List.nil_append] at hr
    have hu := up_len l
    have hne : (P.up l).isEmpty = false := by
      cases hq : P.up l with
      | nil => rw [hq] at hu; simp at hu; omega
      | cons x y => rfl
    generalize P.up l = o at *
    rw [← hne]
    exact Runs.way (F := F) (sh := Sh) (S := U94) U94_ok (fi := fi93) (by kernel_rfl) (LGood.one (b := lb fi93 0) (k := 3) (σ0 := abS n l [] 0) (by kernel_rfl) hr) [(is { env := [(0, V.sl n (List.map encU l)), (3, V.ex 1 true []), (4, V.int IntKind.i64 0)], heap := [] } { env := [(0, V.sl n (List.map encU l)), (3, V.ex 1 true []), (4, V.int IntKind.i64 0)], heap := [] }, true)] [2] (by kernel_rfl) ⟨is_eq (by simp), trivial⟩
  · cases h
noncomputable def U93 : Vm.Spec := (U94.add 92 sgnsS).add 93 upS
theorem U93_ok : Vm.Good (vlim T F) U93 := (U94_ok.add lwG_ok).add upR_ok
def rrS (l : List Int) : St := ⟨[(4, V.sl false (l.map encU))], []⟩
theorem rr_loop : ∀ (m : Nat) (l : List Int), l.length ≤ 2 ^ m → 0 < l.length → l.length ≤ 1000 → ∀ f, l.length ≤ f → ∃ z, z.length = 1 ∧ z.headD 0 = P.rootN f l ∧
    LRuns (vstep T (vlim T F) lplim fi64.cx 0 (lb fi64 0)) (rrS l) (.exit 0, ⟨(rrS z).env ++ [(12, .bool false)], []⟩)
  | m, l, hm, h0, hl, f, hf => by
    by_cases h : l.length > 1
    case neg =>
      refine ⟨l, by omega, ?_, ?_⟩
      · match f with
        | 0 => rfl
        | f + 1 => simp only [P.rootN]; rw [if_pos (by omega)]
      · have := LRuns.last (F := F) U93_ok (sh := Sh) (L := fun _ _ => .fail) (n := 0) (b := lb fi64 0) (cx := fi64.cx) (τ := rrS l) (LGood.none (by kernel_rfl)) [(decide ((↑(List.map encU l).length : Int) > 1), false)] [2] (r := (.exit 0, ⟨(rrS l).env ++ [(12, .bool (decide (((List.map encU l).length : Int) > 1)))], []⟩)) (by kernel_rfl) (by simp) ⟨by simp; omega, trivial⟩
        have e : decide (((List.map encU l).length : Int) > 1) = false := by simp; omega
        rwa [e] at this
    match m, f, hm, hf with
    | 0, f, hm, hf => simp at hm; omega
    | m + 1, 0, hm, hf => omega
    | m + 1, f + 1, hm, hf =>
    have hu := up_len l
    rw [Nat.pow_succ] at hm
    obtain ⟨z, h1, h2, h3⟩ := rr_loop m (P.up l) (by omega) (by omega) (by omega) f (by omega)
    refine ⟨z, h1, ?_, ?_⟩
    · rw [h2]; simp only [P.rootN]; rw [if_neg (by omega)]
    refine LRuns.next (F := F) U93_ok (sh := Sh) (L := fun _ _ => .fail) (LGood.none (by kernel_rfl)) [(decide ((↑(List.map encU l).length : Int) > 1), true),
    ((List.map encU l).all isU, true),
    (decide (0 < (List.map encU l).length), true),
    (decide ((List.map encU l).length ≤ 1000), true)] [2, 0, 3, 4, 5] (τ' := { env := [(4, V.sl false (List.map encU (P.up (List.map intOf (List.map encU l)))))], heap := [] }) (by kernel_rfl) ⟨by simp; omega, all_isU l, by simp; omega, by simp; omega, trivial⟩ ?_
    rw [int_encU]; exact h3
def P.rr (l : List Stp) : Int := if l.length > 1000 then 0 else P.root (sgns l)
def P.rrE (l : List Stp) : Int := if l.length > 1000 then 2 else 0
theorem rr_runs (n : Bool) (l : List Stp) : Runs T F 64 [.sl n (l.map encS)] [] (.tup [.int .u64 (P.rr l), .int .i64 (P.rrE l)], []) := by
  unfold P.rr P.rrE
  by_cases hl : l.length > 1000
  · rw [if_pos hl, if_pos hl]
    exact Runs.way (F := F) (sh := Sh) (S := U93) (L := fun _ _ => .fail) U93_ok (fi := fi64) (by kernel_rfl) (fun _ _ _ _ h => by cases h) [(decide ((↑(List.map encS l).length : Int) > 1000), true)] [2] (by kernel_rfl) ⟨by simp; omega, trivial⟩
  rw [if_neg hl, if_neg hl]
  by_cases h0 : l.length = 0
  · have hz : l = [] := List.eq_nil_of_length_eq_zero h0
    subst hz
    have e : P.root (sgns []) = 0 := rfl
    rw [e]
    have hr : LRuns (vstep T (vlim T F) lplim fi64.cx 0 (lb fi64 0)) ⟨[(4, V.sl true [])], []⟩ (.exit 0, ⟨[(4, V.sl true []), (12, .bool false)], []⟩) :=
      LRuns.last (F := F) U93_ok (sh := Sh) (L := fun _ _ => .fail) (LGood.none (by kernel_rfl)) [] [1] (by kernel_rfl) (by simp) trivial
    exact Runs.way (F := F) (sh := Sh) (S := U93) U93_ok (fi := fi64) (by kernel_rfl) (LGood.one (b := lb fi64 0) (k := 4) (σ0 := ⟨[(4, V.sl true [])], []⟩) (by kernel_rfl) hr) [(eqB ([] : List V) [], true),
    (is { env := [(4, V.sl true [])], heap := [] } { env := [(4, V.sl true [])], heap := [] }, true)] [1, 2, 0, 3, 0] (by kernel_rfl) ⟨eqB_eq rfl, is_self _, trivial⟩
  · have hs : (sgns l).length = l.length := by simp [sgns]
    obtain ⟨z, h1, h2, h3⟩ := rr_loop 10 (sgns l) (by omega) (by omega) (by omega) (sgns l).length (by omega)
    have hg := hu_at z 0 (by omega)
    have e : P.root (sgns l) = Fd.hu z 0 := by
      rw [hg]
      unfold P.root
      rw [← h2]
      cases z with
      | nil => simp at h1
      | cons x z => rfl
    rw [e]
    have hne : (sgns l).isEmpty = false := by cases l with
      | nil => simp at h0
      | cons x l => rfl
    refine Runs.way (F := F) (sh := Sh) (S := U93) U93_ok (fi := fi64) (by kernel_rfl) (LGood.one (b := lb fi64 0) (k := 4) (σ0 := rrS (sgns l)) (by kernel_rfl) h3) [(decide ((↑(List.map encS l).length : Int) > 1000), false),
    (eqB (List.map encS l) (List.map encS (List.map decS (List.map encS l))), true),
    (decide ((List.map encS l).length ≤ 1000), true),
    (is { env := [(4, V.sl ((sgns (List.map decS (List.map encS l))).isEmpty) (List.map encU (List.map (fun s => s.5) (List.map decS (List.map encS l)))))], heap := [] } { env := [(4, V.sl false (List.map encU (List.map (fun s => s.5) l)))], heap := [] }, true),
    ((↑(List.map encU z).length : Int) == 0, false),
    (decide (0 < (↑(List.map encU z).length : Int)), true),
    (((List.map encU z).getD 0 V.undef).cells.length == 1 && fitP [TK.int IntKind.u64] 0 ((List.map encU z).getD 0 V.undef), true)] [2, 3, 4, 5, 6, 0, 7, 8] (by kernel_rfl) ?_
    rw [decS_enc]
    refine ⟨?_, ?_, ?_, ?_, ?_, ?_, ?_, trivial⟩
    all_goals first
      | exact eqB_eq rfl
      | exact is_eq (by rw [hne])
      | (simp; omega)
      | (simp [h1]; done)
      | (simp [encU, fitP, fld, leafFits, V.cells, h1]; done)
noncomputable def rrG : List V → Heap → Tr (V × Heap) := fun a H => match a, H with
  | [.sl _ xs], [] => .must (eqB xs ((xs.map decS).map encS)) (.ret (.tup [.int .u64 (P.rr (xs.map decS)), .int .i64 (P.rrE (xs.map decS))], []))
  | _, _ => .fail
theorem rrR_ok : ∀ a H r, (rrG a H).run = some r → Runs T F 64 a H r := by
  intro a H r h
  unfold rrG at h
  split at h
  · rename_i n xs
    obtain ⟨h0, h⟩ := Tr.must_some h
    have hr := ret_some h; clear h; subst hr
    have h0 := of_eqB h0
    generalize xs.map decS = l at *
    subst h0
    exact rr_runs n l
  · cases h
noncomputable def cloneS : List V → Heap → Tr (V × Heap) := fun a H => match a, H with
  | [.sl n xs], [] => .must (eqB xs ((xs.map decS).map encS)) (.must (!n || xs.isEmpty) (.must (decide (xs.length ≤ 1000)) (.ret (.ex 5 n xs, []))))
  | _, _ => .fail
theorem cloneS_ok : ∀ a H r, (cloneS a H).run = some r → Runs T F 20 a H r := by
  intro a H r h
  unfold cloneS at h
  split at h
  · rename_i n xs
    obtain ⟨h0, h⟩ := Tr.must_some h
    obtain ⟨h1, h⟩ := Tr.must_some h
    obtain ⟨h2, h⟩ := Tr.must_some h
    have hr := ret_some h
    clear h
    subst hr
    have h0 := of_eqB h0
    simp only [decide_eq_true_eq] at h2
    generalize xs.map decS = l at *
    subst h0
    by_cases hn : n = true
    · subst hn
      have : l = [] := by simpa using h1
      subst this
      exact Runs.way (F := F) (sh := Sh) (S := noSpec) (L := fun _ _ => .fail) Vm.Good.no (fi := fi20) (by kernel_rfl) (LGood.none (by kernel_rfl)) [] [0] (by kernel_rfl) trivial
    · have hn' : V.ex 5 n (l.map encS) = V.ex 5 false ([] ++ l.map encS) := by simp at hn; rw [hn]; rfl
      rw [hn']
      refine Runs.way (F := F) (sh := Sh) (S := noSpec) (L := fun _ _ => .fail) Vm.Good.no (fi := fi20) (by kernel_rfl) (LGood.none (by kernel_rfl)) [(n == true, false),
    (rooms (0 + (List.map encS l).length) 40, true),
    (decide (0 + (List.map encS l).length < 4611686018427387904), true),
    ((List.map encS l).all fun y => y.cells.length == 5, true)] [2, 3, 4, 5] (by kernel_rfl) ⟨by simpa using hn, by simp [rooms, maxRoom] at h2 ⊢; omega, by simp at h2 ⊢; omega, List.all_eq_true.2 fun x hx => ?_, trivial⟩
      obtain ⟨c, _, rfl⟩ := List.mem_map.1 hx
      rfl
  · cases h
theorem eqv_S (a0 : Int) (a1 : Int) (a2 : Int) (a3 : Int) (a4 : Int) : cellsEqv [V.int IntKind.i64 a0, V.int IntKind.u64 a1, V.int IntKind.i64 a2, V.int IntKind.i64 a3, V.int IntKind.u64 a4] [V.int IntKind.i64 a0, V.int IntKind.u64 a1, V.int IntKind.i64 a2, V.int IntKind.i64 a3, V.int IntKind.u64 a4] = true := by simp [cellsEqv, cellEqv]
theorem eqv_D (a0 : Int) (a1 : Bool) : cellsEqv [V.int IntKind.u64 a0, V.bool a1] [V.int IntKind.u64 a0, V.bool a1] = true := by simp [cellsEqv, cellEqv]
noncomputable def UM : Vm.Spec := ((U93.add 64 rrG).add 20 cloneS).add 12 awakeS
theorem UM_ok : Vm.Good (vlim T F) UM := ((U93_ok.add rrR_ok).add cloneS_ok).add fun a H r h => by
  unfold awakeS at h
  split at h
  · have := ret_some h; subst this
    exact ⟨60, awake_v⟩
  · cases h
end Go.Proofs.Ytgmdkjiflhklaaa
