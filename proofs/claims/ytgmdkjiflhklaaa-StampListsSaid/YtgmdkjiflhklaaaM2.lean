/- M2: Tight, of any stamps. -/
import Derived.Test.YtgmdkjiflhklaaaM1
namespace Go.Proofs.Ytgmdkjiflhklaaa
open Go Go.Vm
def tgS (n : Bool) (l : List Stp) (o : List (Int × Int)) (k : Int) : St := ⟨[(4, V.ex 2 o.isEmpty (o.map encP)), (11, V.sl n (l.map encS)), (12, V.int IntKind.i64 l.length), (13, V.int IntKind.i64 k)], []⟩
def Fd.Y (o : List (Int × Int)) (a b : Int) : List V := List.map encP o ++ [V.agg [V.int IntKind.i64 a, V.int IntKind.i64 b]]
theorem Y_eq (o : List (Int × Int)) (a b : Int) : Fd.Y o a b = (o ++ [(a, b)]).map encP := by simp [Fd.Y, encP]
def Fd.y0 (v : V) : Int := intOf (fld 0 v)
/-- The greatest lower end so far, with each upper end. -/
def pre : List Stp → Int → List (Int × Int)
  | [], _ => []
  | s :: l, m => (max s.lo m, s.hi) :: pre l (max s.lo m)
theorem pre_cons (s : Stp) (l : List Stp) (m : Int) : pre (s :: l) m = (max s.lo m, s.hi) :: pre l (max s.lo m) := rfl
def inW (s : Stp) : Bool := P.win 1000000000000000 [s.lo, s.hi]
theorem tg_loop (n : Bool) (l : List Stp) (hl : l.length ≤ 1000) : ∀ (m k : Nat) (o : List (Int × Int)) (p : Int), k + m = l.length → o.length = k → (k = 0 → p = -1) → (∀ h : 0 < o.length, p = (o[o.length - 1]'(by omega)).1) →
    ((l.drop k).all inW = true → LRuns (vstep T (vlim T F) lplim fi16.cx 0 (lb fi16 0)) (tgS n l o k) (.exit 0, ⟨(tgS n l (o ++ pre (l.drop k) p) l.length).env ++ [(14, .bool false)], []⟩)) ∧
    ((l.drop k).all inW = false → ∃ c, LRuns (vstep T (vlim T F) lplim fi16.cx 0 (lb fi16 0)) (tgS n l o k) (.ret, ⟨[(2, .ex 2 true []), (3, .int .i64 6)], [.cells c]⟩))
  | 0, k, o, p, hd, hok, hp, hq => by
    have hk : k = l.length := by omega
    subst hk
    rw [List.drop_length]
    refine ⟨fun _ => ?_, fun h => by cases h⟩
    have := LRuns.last (F := F) U44_ok (sh := Sh) (L := fun _ _ => .fail) (n := 0) (b := lb fi16 0) (cx := fi16.cx) (τ := tgS n l o l.length) (LGood.none (by kernel_rfl)) [(decide ((l.length : Int) < (l.length : Int)), false)] [2]
      (r := (.exit 0, ⟨(tgS n l o l.length).env ++ [(14, .bool (decide ((l.length : Int) < (l.length : Int))))], []⟩)) (by kernel_rfl) (by simp) ⟨by simp, trivial⟩
    simpa [pre] using this
  | m + 1, k, o, p, hd, hok, hp, hq => by
    have hk : k < l.length := by omega
    have hw := len_wrap (k := k) (by omega)
    have g2 := s2_at l k hk
    have g3 := s3_at l k hk
    rw [List.drop_eq_getElem_cons hk, List.all_cons, pre_cons]
    have hin : inW l[k] = P.win 1000000000000000 [Fd.s2 l k, Fd.s3 l k] := by rw [g2, g3]; rfl
    cases q1 : (!P.win 1000000000000000 [Fd.s2 l k, Fd.s3 l k]) with
    | true =>
      have q1' : inW l[k] = false := by rw [hin]; simpa using q1
      rw [q1', Bool.false_and]
      refine ⟨fun h => (by cases h), fun _ => ?_⟩
      refine ⟨_, LRuns.last (F := F) U44_ok (sh := Sh) (L := fun _ _ => .fail) (LGood.none (by kernel_rfl)) [(decide ((↑k : Int) < (↑l.length : Int)), true),
    (decide ((↑k : Int) < (↑(List.map encS l).length : Int)), true),
    (((List.map encS l).getD k V.undef).cells.length == 5 && fitP [TK.int IntKind.i64, TK.int IntKind.u64, TK.int IntKind.i64, TK.int IntKind.i64, TK.int IntKind.u64] 0 ((List.map encS l).getD k V.undef), true),
    (!P.win 1000000000000000 [Fd.s2 l k, Fd.s3 l k], true)] [2, 0, 3, 4, 0, 0, 0, 5] (r := (Ex.ret, { env := [(2, V.ex 2 true []), (3, V.int IntKind.i64 6)], heap := [B.cells [V.int IntKind.i64 (Fd.s0 l k), V.int IntKind.u64 (Fd.s1 l k), V.int IntKind.i64 (Fd.s2 l k), V.int IntKind.i64 (Fd.s3 l k), V.int IntKind.u64 (Fd.sn l k)]] })) (by kernel_rfl) (by simp) ?_⟩
      have hp1 := trivial; have hp2 := trivial; have hY1 := trivial; have hY2 := trivial
      refine ⟨?_, ?_, ?_, ?_, trivial⟩
      all_goals first
            | assumption
            | (simp; omega)
            | (simp [encS, fitP, fld, leafFits, V.cells, hk]; done)
    | false =>
      have q1' : inW l[k] = true := by rw [hin]; simpa using q1
      rw [q1', Bool.true_and]
      have hlo : 0 ≤ Fd.s2 l k := by
        have : P.win 1000000000000000 [Fd.s2 l k, Fd.s3 l k] = true := by simpa using q1
        rw [win_pair] at this
        simp at this
        omega
      have ee : ∀ x, (o ++ [x]).isEmpty = false := by intro x; cases o <;> rfl
      have ih := tg_loop n l hl m (k + 1) (o ++ [(max l[k].lo p, l[k].hi)]) (max l[k].lo p) (by omega) (by simp [hok]) (fun h => by omega) (fun h => by simp)
      rw [List.append_assoc, List.singleton_append] at ih
      have hn : ∀ r, LRuns (vstep T (vlim T F) lplim fi16.cx 0 (lb fi16 0)) (tgS n l (o ++ [(max l[k].lo p, l[k].hi)]) (k + 1 : Nat)) r → LRuns (vstep T (vlim T F) lplim fi16.cx 0 (lb fi16 0)) (tgS n l o k) r := fun r hr => by
        by_cases hk0 : 0 < k
        · have hp1 : IntKind.i64.wrap ((k : Int) - 1) = ((k - 1 : Nat) : Int) := by rw [i64in (by omega) (by omega)]; omega
          have hp2 : (IntKind.i64.wrap ((k : Int) - 1)).toNat = k - 1 := by rw [hp1]; omega
          have hY1 : k - 1 < (o ++ [(Fd.s2 l k, Fd.s3 l k)]).length := by simp [hok]; omega
          have hY2 : k < (o ++ [(Fd.s2 l k, Fd.s3 l k)]).length := by simp [hok]
          refine LRuns.next (F := F) U44_ok (sh := Sh) (L := fun _ _ => .fail) (LGood.none (by kernel_rfl)) [(decide ((↑k : Int) < (↑l.length : Int)), true),
    (decide ((↑k : Int) < (↑(List.map encS l).length : Int)), true),
    (((List.map encS l).getD k V.undef).cells.length == 5 && fitP [TK.int IntKind.i64, TK.int IntKind.u64, TK.int IntKind.i64, TK.int IntKind.i64, TK.int IntKind.u64] 0 ((List.map encS l).getD k V.undef), true),
    (!P.win 1000000000000000 [Fd.s2 l k, Fd.s3 l k], false),
    (rooms ((List.map encP o).length + 1) 16, true),
    (decide ((List.map encP o).length + 1 < 4611686018427387904), true),
    (decide ((↑k : Int) > 0), true),
    (decide (0 ≤ IntKind.i64.wrap ((↑k : Int) - 1)), true),
    (decide (IntKind.i64.wrap ((↑k : Int) - 1) < (↑(Fd.Y o (Fd.s2 l k) (Fd.s3 l k)).length : Int)), true),
    (decide ((IntKind.i64.wrap ((↑k : Int) - 1)).toNat < (Fd.Y o (Fd.s2 l k) (Fd.s3 l k)).length), true),
    (fitP [TK.int IntKind.i64] 0 ((Fd.Y o (Fd.s2 l k) (Fd.s3 l k)).getD (IntKind.i64.wrap ((↑k : Int) - 1)).toNat V.undef), true),
    (decide ((↑k : Int) < (↑(Fd.Y o (Fd.s2 l k) (Fd.s3 l k)).length : Int)), true),
    (decide (k < (Fd.Y o (Fd.s2 l k) (Fd.s3 l k)).length), true),
    (decide (1 ≤ ((Fd.Y o (Fd.s2 l k) (Fd.s3 l k)).getD k V.undef).cells.length), true)] [2, 0, 3, 4, 0, 0, 0, 5, 6, 7, 0, 8, 9, 10, 11, 12, 0, 13, 14, 15] (τ' := { env := [(4, V.ex 2 (((o).isEmpty) && false) ((Fd.Y o (Fd.s2 l k) (Fd.s3 l k)).set k (mkOf ((Fd.Y o (Fd.s2 l k) (Fd.s3 l k)).getD k V.undef) (setCells ((Fd.Y o (Fd.s2 l k) (Fd.s3 l k)).getD k V.undef).cells 0 [V.int IntKind.i64 (if if true = true then Fd.y0 ((Fd.Y o (Fd.s2 l k) (Fd.s3 l k)).getD (IntKind.i64.wrap ((↑k : Int) - 1)).toNat V.undef) > Fd.s2 l k else Fd.y0 ((Fd.Y o (Fd.s2 l k) (Fd.s3 l k)).getD (IntKind.i64.wrap ((↑k : Int) - 1)).toNat V.undef) < Fd.s2 l k then Fd.y0 ((Fd.Y o (Fd.s2 l k) (Fd.s3 l k)).getD (IntKind.i64.wrap ((↑k : Int) - 1)).toNat V.undef) else Fd.s2 l k)])))), (11, V.sl n (List.map encS l)), (12, V.int IntKind.i64 (↑l.length : Int)), (13, V.int IntKind.i64 (IntKind.i64.wrap ((↑k : Int) + 1)))], heap := [] }) (by kernel_rfl) ?_ ?_
          · refine ⟨?_, ?_, ?_, ?_, ?_, ?_, ?_, ?_, ?_, ?_, ?_, ?_, ?_, ?_, trivial⟩
            all_goals first
            | assumption
            | (simp; omega)
            | (simp [encS, fitP, fld, leafFits, V.cells, hk]; done)
            | (simp [rooms, maxRoom]; omega)
            | (simp only [hp1, hp2, Y_eq, List.length_map, List.length_append, List.length_singleton, hok]; simp; omega)
            | (simp only [hp2, Y_eq, getD_map encP _ _ hY1]; simp [encP, fitP, fld, leafFits, V.cells]; done)
            | (simp only [Y_eq, getD_map encP _ _ hY2]; simp [encP, V.cells]; done)
            | (simp only [Y_eq]; exact decide_eq_true (by simp; omega))
          · have e1 : (o ++ [(Fd.s2 l k, Fd.s3 l k)])[k - 1]'hY1 = o[o.length - 1]'(by omega) := by
              rw [List.getElem_append_left (by omega)]; congr 1; omega
            have e2 : (o ++ [(Fd.s2 l k, Fd.s3 l k)])[k]'hY2 = (Fd.s2 l k, Fd.s3 l k) := by
              rw [List.getElem_append_right (by omega)]; simp [hok]
            have e3 : Fd.y0 ((Fd.Y o (Fd.s2 l k) (Fd.s3 l k)).getD (IntKind.i64.wrap ((k : Int) - 1)).toNat V.undef) = p := by
              rw [hp2, Y_eq, getD_map encP _ _ hY1, e1, hq (by omega)]; simp [Fd.y0, encP]
            have e4 : (Fd.Y o (Fd.s2 l k) (Fd.s3 l k)).getD k V.undef = encP (Fd.s2 l k, Fd.s3 l k) := by rw [Y_eq, getD_map encP _ _ hY2, e2]
            have e5 : ∀ x, (Fd.Y o (Fd.s2 l k) (Fd.s3 l k)).set k x = List.map encP o ++ [x] := fun x => by
              unfold Fd.Y; rw [List.set_append_right _ _ (by simp [hok])]; simp [hok]
            have e6 : ∀ a b : Int, (if if true = true then a > b else a < b then a else b) = max b a := fun a b => by simp; omega
            rw [hw, e3, e4, e5, e6, g2, g3]
            simpa [tgS, ee, encP, mkOf, setCells, V.cells] using hr
        · have hk' : k = 0 := by omega
          have hpp := hp hk'
          have hY1 := trivial; have hY2 := trivial; have hp1 := trivial; have hp2 := trivial
          refine LRuns.next (F := F) U44_ok (sh := Sh) (L := fun _ _ => .fail) (LGood.none (by kernel_rfl)) [(decide ((↑k : Int) < (↑l.length : Int)), true),
    (decide ((↑k : Int) < (↑(List.map encS l).length : Int)), true),
    (((List.map encS l).getD k V.undef).cells.length == 5 && fitP [TK.int IntKind.i64, TK.int IntKind.u64, TK.int IntKind.i64, TK.int IntKind.i64, TK.int IntKind.u64] 0 ((List.map encS l).getD k V.undef), true),
    (!P.win 1000000000000000 [Fd.s2 l k, Fd.s3 l k], false),
    (rooms ((List.map encP o).length + 1) 16, true),
    (decide ((List.map encP o).length + 1 < 4611686018427387904), true),
    (decide ((↑k : Int) > 0), false)] [2, 0, 3, 4, 0, 0, 0, 5, 6, 7, 0, 8] (τ' := { env := [(4, V.ex 2 (((o).isEmpty) && false) (Fd.Y o (Fd.s2 l k) (Fd.s3 l k))), (11, V.sl n (List.map encS l)), (12, V.int IntKind.i64 (↑l.length : Int)), (13, V.int IntKind.i64 (IntKind.i64.wrap ((↑k : Int) + 1)))], heap := [] }) (by kernel_rfl) ?_ ?_
          · refine ⟨?_, ?_, ?_, ?_, ?_, ?_, ?_, trivial⟩
            all_goals first
              | assumption
              | (simp; omega)
              | (simp [encS, fitP, fld, leafFits, V.cells, hk]; done)
              | (simp [rooms, maxRoom]; omega)
          · have : max l[k].lo p = Fd.s2 l k := by rw [← g2]; omega
            rw [this] at hr
            rw [hw, Y_eq]
            simpa [tgS, ee, g2, g3] using hr
      exact ⟨fun h => hn _ (ih.1 h), fun h => (ih.2 h).imp fun _ hr => hn _ hr⟩
/-- Where the first span is empty. -/
def P.fsp : List (Int × Int) → Int → Int
  | [], _ => -1
  | q :: l, k => if q.1 > q.2 then k else P.fsp l (k + 1)
theorem fsp_cons (q : Int × Int) (l : List (Int × Int)) (k : Int) : P.fsp (q :: l) k = if q.1 > q.2 then k else P.fsp l (k + 1) := rfl
theorem fsp_neg : ∀ (l : List (Int × Int)) (k : Int), 0 ≤ k → P.fsp l k < 0 → P.fsp l k = -1
  | [], k, _, _ => rfl
  | x :: l, k, h, h1 => by
    rw [fsp_cons] at h1 ⊢
    by_cases hx : x.1 > x.2
    · rw [if_pos hx] at h1; omega
    · rw [if_neg hx] at h1 ⊢; exact fsp_neg l (k + 1) (by omega) h1
theorem fsp_all : ∀ (l : List (Int × Int)) (k : Int), 0 ≤ k → (decide (P.fsp l k ≥ 0) = l.any fun q => decide (q.1 > q.2))
  | [], k, _ => by simp [P.fsp]
  | x :: l, k, h => by
    have ih := fsp_all l (k + 1) (by omega)
    rw [fsp_cons, List.any_cons]
    by_cases hx : x.1 > x.2
    · rw [if_pos hx, decide_eq_true hx]; simpa using h
    · rw [if_neg hx, ih, decide_eq_false hx]; simp
def Fd.o0 (o : List (Int × Int)) (i : Nat) : Int := intOf (fld 0 ((o.map encP).getD i V.undef))
def Fd.o1 (o : List (Int × Int)) (i : Nat) : Int := intOf (fld 1 ((o.map encP).getD i V.undef))
theorem o0_at (o : List (Int × Int)) (k : Nat) (h : k < o.length) : Fd.o0 o k = o[k].1 := by simp [Fd.o0, encP, h]
theorem o1_at (o : List (Int × Int)) (k : Nat) (h : k < o.length) : Fd.o1 o k = o[k].2 := by simp [Fd.o1, encP, h]
theorem x_loop (m : Bool) (o : List (Int × Int)) (hl : o.length ≤ 1000) : ∀ (d k : Nat), k + d = o.length →
    LRuns (vstep T (vlim T F) lplim fi83.cx 0 (lb fi83 0)) (ix m (o.map encP) k) (if P.fsp (o.drop k) k < 0 then ixr m o else (.ret, ⟨[(4, .int .i64 (P.fsp (o.drop k) k))], []⟩))
  | 0, k, hd => by
    have hk : k = o.length := by omega
    subst hk
    rw [List.drop_length]
    have := LRuns.last (F := F) U44_ok (sh := Sh) (L := fun _ _ => .fail) (n := 0) (b := lb fi83 0) (cx := fi83.cx) (τ := ix m (o.map encP) o.length) (LGood.none (by kernel_rfl)) [(decide ((o.length : Int) < ((o.map encP).length : Int)), false)] [2]
      (r := (.exit 0, ⟨(ix m (o.map encP) o.length).env ++ [(9, .bool (decide ((o.length : Int) < ((o.map encP).length : Int))))], []⟩)) (by kernel_rfl) (by simp) ⟨by simp, trivial⟩
    simpa [P.fsp, ixr, ix] using this
  | d + 1, k, hd => by
    have hk : k < o.length := by omega
    have ih := x_loop m o hl d (k + 1) (by omega)
    have g0 := o0_at o k hk
    have g1 := o1_at o k hk
    rw [List.drop_eq_getElem_cons hk, fsp_cons, ← g0, ← g1]
    by_cases hx : Fd.o0 o k > Fd.o1 o k
    · rw [if_pos hx, if_neg (by omega)]
      exact LRuns.last (F := F) U44_ok (sh := Sh) (L := fun _ _ => .fail) (LGood.none (by kernel_rfl)) [(decide ((↑k : Int) < (↑(List.map encP o).length : Int)), true),
    (((List.map encP o).getD k V.undef).cells.length == 2 && fitP [TK.int IntKind.i64, TK.int IntKind.i64] 0 ((List.map encP o).getD k V.undef), true),
    (decide (Fd.o0 o k > Fd.o1 o k), true)] [2, 0, 2, 3, 4] (by kernel_rfl) (by simp) ⟨by simp; omega, by simp [encP, fitP, fld, leafFits, V.cells, hk], decide_eq_true hx, trivial⟩
    · rw [if_neg hx]
      refine LRuns.next (F := F) U44_ok (sh := Sh) (L := fun _ _ => .fail) (LGood.none (by kernel_rfl)) [(decide ((↑k : Int) < (↑(List.map encP o).length : Int)), true),
    (((List.map encP o).getD k V.undef).cells.length == 2 && fitP [TK.int IntKind.i64, TK.int IntKind.i64] 0 ((List.map encP o).getD k V.undef), true),
    (decide (Fd.o0 o k > Fd.o1 o k), false)] [2, 0, 2, 3, 4] (τ' := ix m (o.map encP) (IntKind.i64.wrap ((k : Int) + 1))) (by kernel_rfl) ⟨by simp; omega, by simp [encP, fitP, fld, leafFits, V.cells, hk], decide_eq_false hx, trivial⟩ ?_
      rw [len_wrap (by omega)]
      exact ih
def decP (v : V) : Int × Int := (intOf (fld 0 v), intOf (fld 1 v))
theorem decP_enc (o : List (Int × Int)) : (o.map encP).map decP = o := by
  rw [List.map_map]
  conv => rhs; rw [← List.map_id o]
  exact List.map_congr_left fun c _ => by simp [decP, encP]
noncomputable def fspS : List V → Heap → Tr (V × Heap) := fun a H => match a, H with
  | [.sl _ xs, .clo (.func 46) [] []], [] => .must (eqB xs ((xs.map decP).map encP)) (.must (decide (xs.length ≤ 1000)) (.ret (.int .i64 (P.fsp (xs.map decP) 0), [])))
  | _, _ => .fail
theorem fspS_ok : ∀ a H r, (fspS a H).run = some r → Runs T F 83 a H r := by
  intro a H r h
  unfold fspS at h
  split at h
  · rename_i m xs
    obtain ⟨h0, h⟩ := Tr.must_some h
    obtain ⟨h1, h⟩ := Tr.must_some h
    have hr := ret_some h; clear h; subst hr
    have h0 := of_eqB h0
    simp only [decide_eq_true_eq] at h1
    have h1 : (xs.map decP).length ≤ 1000 := by simpa using h1
    generalize xs.map decP = o at *
    subst h0
    have hw := x_loop m o (by simpa using h1) o.length 0 (by omega)
    rw [List.drop_zero, Int.natCast_zero] at hw
    have hL := LGood.one (c := fi83.body) (b := lb fi83 0) (k := 2) (σ0 := ix m (o.map encP) 0) (by kernel_rfl) hw
    by_cases hk : P.fsp o 0 < 0
    · rw [if_pos hk] at hL
      rw [fsp_neg o 0 (by omega) hk]
      exact Runs.way (F := F) (sh := Sh) (S := U44) U44_ok (fi := fi83) (by kernel_rfl) hL [(is { env := [(0, V.sl m (List.map encP o)), (1, V.clo (Fn.func 46) [] []), (7, V.int IntKind.i64 (↑(List.map encP o).length : Int)), (8, V.int IntKind.i64 0)], heap := [] } { env := [(0, V.sl m (List.map encP o)), (1, V.clo (Fn.func 46) [] []), (7, V.int IntKind.i64 (↑(List.map encP o).length : Int)), (8, V.int IntKind.i64 0)], heap := [] }, true)] [2] (by kernel_rfl) ⟨is_eq (by simp), trivial⟩
    · rw [if_neg hk] at hL
      generalize P.fsp o 0 = k at *
      exact Runs.way (F := F) (sh := Sh) (S := U44) U44_ok (fi := fi83) (by kernel_rfl) hL [(is { env := [(0, V.sl m (List.map encP o)), (1, V.clo (Fn.func 46) [] []), (7, V.int IntKind.i64 (↑(List.map encP o).length : Int)), (8, V.int IntKind.i64 0)], heap := [] } { env := [(0, V.sl m (List.map encP o)), (1, V.clo (Fn.func 46) [] []), (7, V.int IntKind.i64 (↑(List.map encP o).length : Int)), (8, V.int IntKind.i64 0)], heap := [] }, true)] [2] (by kernel_rfl) ⟨is_eq (by simp), trivial⟩
  · cases h
noncomputable def U83 : Vm.Spec := U44.add 83 fspS
theorem U83_ok : Vm.Good (vlim T F) U83 := U44_ok.add fspS_ok
noncomputable def U45 : Vm.Spec := U83.add 45 (inl T Sh U83 0 0 fi45)
theorem U45_ok : Vm.Good (vlim T F) U45 := U83_ok.inl (by kernel_rfl) 0 0 (by kernel_rfl)
/-- What Tight tells. -/
def P.ti (l : List Stp) : List (Int × Int) := sm (pre l (-1))
def P.tiE (l : List Stp) : Int := if l.length > 1000 then 2 else if l.all inW then (if (P.ti l).any fun q => decide (q.1 > q.2) then 12 else 0) else 6
theorem pre_len : ∀ (l : List Stp) (m : Int), (pre l m).length = l.length
  | [], _ => rfl
  | s :: l, m => by simp only [pre_cons, List.length_cons, pre_len l]
theorem t2_whole (m : Bool) (o : List (Int × Int)) (hl : o.length ≤ 1000) : ∃ zi, LRuns (vstep T (vlim T F) lplim fi16.cx 0 (lb fi16 1)) (t2 m o ((o.length : Int) - 2)) (t2r m (sm o) zi) := by
  by_cases h0 : o.length = 0
  · have : o = [] := List.length_eq_zero_iff.1 h0
    subst this
    exact ⟨_, tight2_end _ _ _ (by simp)⟩
  · have := tight2 m o hl (o.length - 1) (by omega)
    have e1 : o.drop (o.length - 1) = [o[o.length - 1]'(by omega)] := by
      rw [List.drop_eq_getElem_cons (by omega), List.drop_eq_nil_of_le (by omega)]
    have e2 : o.take (o.length - 1) ++ sm (o.drop (o.length - 1)) = o := by
      rw [e1]
      show o.take (o.length - 1) ++ [o[o.length - 1]'(by omega)] = o
      rw [← take_succ' o (o.length - 1) (by omega), List.take_of_length_le (by omega)]
    rw [e2] at this
    have e3 : ((o.length - 1 : Nat) : Int) - 1 = (o.length : Int) - 2 := by omega
    rw [e3] at this
    exact ⟨_, this⟩
theorem ti_runs (n : Bool) (l : List Stp) : Runs T F 16 [.sl n (l.map encS)] [] (.tup [if P.tiE l = 0 then .ex 2 (P.ti l).isEmpty ((P.ti l).map encP) else .ex 2 true [], .int .i64 (P.tiE l)], []) := by
  by_cases hl : l.length > 1000
  · have e : P.tiE l = 2 := by simp only [P.tiE, if_pos hl]
    rw [e, if_neg (by decide)]
    exact Runs.way (F := F) (sh := Sh) (S := U45) U45_ok (fi := fi16) (by kernel_rfl) (L := fun _ _ => .fail) (fun _ _ _ _ h => by cases h) [(decide ((↑(List.map encS l).length : Int) > 1000), true)] [2] (by kernel_rfl) ⟨by simp; omega, trivial⟩
  · have hr := tg_loop n l (by omega) l.length 0 [] (-1) (by omega) rfl (fun _ => rfl) (fun h => by simp at h)
    rw [List.drop_zero, List.nil_append] at hr
    by_cases ha : l.all inW = true
    · have h1 := hr.1 ha
      have hpl := pre_len l (-1)
      obtain ⟨zi, h2⟩ := t2_whole (pre l (-1)).isEmpty (pre l (-1)) (by omega)
      have hsl : (P.ti l).length = l.length := by unfold P.ti; rw [sm_length, hpl]
      have hem : (P.ti l).isEmpty = (pre l (-1)).isEmpty := by
        cases hq : pre l (-1) with
        | nil => unfold P.ti; rw [hq]; rfl
        | cons q r => unfold P.ti; rw [hq]; obtain ⟨a, b, e⟩ := sm_ne (p := q) (l := r); rw [e]; rfl
      rw [hem]
      have hf := fsp_all (P.ti l) 0 (by omega)
      change LRuns _ _ (t2r (pre l (-1)).isEmpty (P.ti l) zi) at h2
      have hE : P.tiE l = if ((P.ti l).any fun q => decide (q.1 > q.2)) = true then 12 else 0 := by simp only [P.tiE, if_neg hl, if_pos ha]
      rw [hE]
      generalize P.ti l = z at *
      have e0 : loopsOf fi16.body = [lb fi16 0, lb fi16 1] := by kernel_rfl
      have f0 : firstRegion (lb fi16 0) = 5 := by kernel_rfl
      have f1 : firstRegion (lb fi16 1) = 14 := by kernel_rfl
      generalize pre l (-1) = o at *
      have hL : LGood T (vlim T F) lplim fi16.cx (loopsIs [(5, tgS n l [] 0, (.exit 0, ⟨(tgS n l o l.length).env ++ [(14, .bool false)], []⟩)), (14, t2 o.isEmpty o ((o.length : Int) - 2), t2r o.isEmpty z zi)]) fi16.body := by
        refine LGood.is fun c hc x hx hf => ?_
        rw [e0] at hc
        simp only [List.mem_cons, List.not_mem_nil, or_false] at hc hx
        rcases hx with rfl | rfl <;> rcases hc with rfl | rfl
        · exact h1
        · simp only at hf; omega
        · simp only at hf; omega
        · exact h2
      have hw : IntKind.i64.wrap ((o.length : Int) - 2) = (o.length : Int) - 2 := i64in (by omega) (by omega)
      by_cases hb : (z.any fun q => decide (q.1 > q.2)) = true
      · rw [if_pos hb, if_neg (by decide)]
        refine Runs.way (F := F) (sh := Sh) (S := U45) U45_ok (fi := fi16) (by kernel_rfl) hL [(decide ((↑(List.map encS l).length : Int) > 1000), false),
    (is { env := [(4, V.ex 2 true []), (11, V.sl n (List.map encS l)), (12, V.int IntKind.i64 (↑(List.map encS l).length : Int)), (13, V.int IntKind.i64 0)], heap := [] } { env := [(4, V.ex 2 true []), (11, V.sl n (List.map encS l)), (12, V.int IntKind.i64 (↑l.length : Int)), (13, V.int IntKind.i64 0)], heap := [] }, true),
    (is { env := [(4, V.ex 2 ((o).isEmpty) (List.map encP o)), (7, V.int IntKind.i64 (IntKind.i64.wrap ((↑(List.map encP o).length : Int) - 2)))], heap := [] } { env := [(4, V.ex 2 ((o).isEmpty) (List.map encP o)), (7, V.int IntKind.i64 ((↑o.length : Int) - 2))], heap := [] }, true),
    (eqB (List.map encP z) (List.map encP (List.map decP (List.map encP z))), true),
    (decide ((List.map encP z).length ≤ 1000), true),
    (decide (P.fsp (List.map decP (List.map encP z)) 0 ≥ 0), true)] [2, 3, 4, 5, 6, 0, 7] (by kernel_rfl) ?_
        rw [decP_enc]
        exact ⟨by simp; omega, is_eq (by simp [tgS]), is_eq (by rw [List.length_map, hw]), eqB_eq rfl, by simp; omega, by rw [hf]; exact hb, trivial⟩
      · rw [if_neg hb, if_pos rfl]
        refine Runs.way (F := F) (sh := Sh) (S := U45) U45_ok (fi := fi16) (by kernel_rfl) hL [(decide ((↑(List.map encS l).length : Int) > 1000), false),
    (is { env := [(4, V.ex 2 true []), (11, V.sl n (List.map encS l)), (12, V.int IntKind.i64 (↑(List.map encS l).length : Int)), (13, V.int IntKind.i64 0)], heap := [] } { env := [(4, V.ex 2 true []), (11, V.sl n (List.map encS l)), (12, V.int IntKind.i64 (↑l.length : Int)), (13, V.int IntKind.i64 0)], heap := [] }, true),
    (is { env := [(4, V.ex 2 ((o).isEmpty) (List.map encP o)), (7, V.int IntKind.i64 (IntKind.i64.wrap ((↑(List.map encP o).length : Int) - 2)))], heap := [] } { env := [(4, V.ex 2 ((o).isEmpty) (List.map encP o)), (7, V.int IntKind.i64 ((↑o.length : Int) - 2))], heap := [] }, true),
    (eqB (List.map encP z) (List.map encP (List.map decP (List.map encP z))), true),
    (decide ((List.map encP z).length ≤ 1000), true),
    (decide (P.fsp (List.map decP (List.map encP z)) 0 ≥ 0), false)] [2, 3, 4, 5, 6, 0, 7] (by kernel_rfl) ?_
        rw [decP_enc]
        exact ⟨by simp; omega, is_eq (by simp [tgS]), is_eq (by rw [List.length_map, hw]), eqB_eq rfl, by simp; omega, by rw [hf]; simpa using hb, trivial⟩
    · have e : P.tiE l = 6 := by simp only [P.tiE, if_neg hl, if_neg ha]
      rw [e, if_neg (by decide)]
      obtain ⟨c, h1⟩ := hr.2 (by simpa using ha)
      have e0 : loopsOf fi16.body = [lb fi16 0, lb fi16 1] := by kernel_rfl
      have f1 : firstRegion (lb fi16 1) = 14 := by kernel_rfl
      have hL : LGood T (vlim T F) lplim fi16.cx (loopsIs [(5, tgS n l [] 0, (.ret, ⟨[(2, .ex 2 true []), (3, .int .i64 6)], [.cells c]⟩))]) fi16.body := by
        refine LGood.is fun c hc x hx hf => ?_
        rw [e0] at hc
        simp only [List.mem_cons, List.not_mem_nil, or_false] at hc hx
        subst hx
        rcases hc with rfl | rfl
        · exact h1
        · simp only at hf; omega
      exact Runs.way (F := F) (sh := Sh) (S := U45) U45_ok (fi := fi16) (by kernel_rfl) hL [(decide ((↑(List.map encS l).length : Int) > 1000), false),
    (is { env := [(4, V.ex 2 true []), (11, V.sl n (List.map encS l)), (12, V.int IntKind.i64 (↑(List.map encS l).length : Int)), (13, V.int IntKind.i64 0)], heap := [] } { env := [(4, V.ex 2 true []), (11, V.sl n (List.map encS l)), (12, V.int IntKind.i64 (↑l.length : Int)), (13, V.int IntKind.i64 0)], heap := [] }, true)] [2, 3] (by kernel_rfl) ⟨by simp; omega, is_eq (by simp [tgS]), trivial⟩
end Go.Proofs.Ytgmdkjiflhklaaa
