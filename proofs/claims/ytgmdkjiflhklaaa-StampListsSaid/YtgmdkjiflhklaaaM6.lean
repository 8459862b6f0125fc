/- M6: the law StampLists over V. -/
import Derived.Test.YtgmdkjiflhklaaaM5
namespace Go.Proofs.Ytgmdkjiflhklaaa
open Go Go.Vm
def liS (n m : Bool) (l : List Stp) (p : List (Int × Bool)) (r : Int) (o : List (Int × Bool)) (k : Int) : St := ⟨[(1, V.sl n (l.map encS)), (2, V.sl m (p.map encD)), (3, V.int IntKind.u64 r), (9, V.sl n (l.map encS)), (10, V.sl l.isEmpty (l.map encS)), (19, V.sl m (p.map encD)), (20, V.ex 2 o.isEmpty (o.map encD)), (95, V.sl m (p.map encD)), (96, V.int IntKind.i64 p.length), (97, V.int IntKind.i64 k)], []⟩
theorem li_loop (n m : Bool) (l : List Stp) (p : List (Int × Bool)) (hp : p.length ≤ 1000) (r : Int) : ∀ (d k : Nat) (o : List (Int × Bool)), k + d = p.length → o = p.take k →
    LRuns (vstep T (vlim T F) lplim fi27.cx 0 (lb fi27 0)) (liS n m l p r o k) (.exit 0, ⟨(liS n m l p r p p.length).env ++ [(98, .bool false)], []⟩)
  | 0, k, o, hd, ho => by
    have hk : k = p.length := by omega
    subst hk
    rw [List.take_length] at ho
    subst ho
    have := LRuns.last (F := F) UM_ok (sh := Sh) (L := fun _ _ => .fail) (n := 0) (b := lb fi27 0) (cx := fi27.cx) (τ := liS n m l o r o o.length) (LGood.none (by kernel_rfl)) [(decide ((o.length : Int) < (o.length : Int)), false)] [2]
      (r := (.exit 0, ⟨(liS n m l o r o o.length).env ++ [(98, .bool (decide ((o.length : Int) < (o.length : Int))))], []⟩)) (by kernel_rfl) (by simp) ⟨by simp, trivial⟩
    simpa using this
  | d + 1, k, o, hd, ho => by
    have hk : k < p.length := by omega
    have ih := li_loop n m l p hp r d (k + 1) (o ++ [p[k]]) (by omega) (by rw [ho]; exact List.take_append_getElem hk)
    have ga := dh_at p k hk
    have gb := db_at p k hk
    have hlo : o.length ≤ 1000 := by rw [ho, List.length_take]; omega
    refine LRuns.next (F := F) UM_ok (sh := Sh) (L := fun _ _ => .fail) (LGood.none (by kernel_rfl)) [(decide ((↑k : Int) < (↑p.length : Int)), true),
    (decide ((↑k : Int) < (↑(List.map encD p).length : Int)), true),
    (((List.map encD p).getD k V.undef).cells.length == 2 && fitP [TK.int IntKind.u64, TK.bool] 0 ((List.map encD p).getD k V.undef), true),
    (rooms ((List.map encD o).length + 1) 16, true),
    (decide ((List.map encD o).length + 1 < 4611686018427387904), true)] [2, 0, 3, 4, 5, 6, 0] (τ' := { env := [(1, V.sl n (List.map encS l)), (2, V.sl m (List.map encD p)), (3, V.int IntKind.u64 r), (9, V.sl n (List.map encS l)), (10, V.sl ((l).isEmpty) (List.map encS l)), (19, V.sl m (List.map encD p)), (20, V.ex 2 (((o).isEmpty) && false) (List.map encD o ++ [V.agg [V.int IntKind.u64 (Fd.dh p k), V.bool (Fd.db p k)]])), (95, V.sl m (List.map encD p)), (96, V.int IntKind.i64 (↑p.length : Int)), (97, V.int IntKind.i64 (IntKind.i64.wrap ((↑k : Int) + 1)))], heap := [] }) (by kernel_rfl) ?_ ?_
    · refine ⟨?_, ?_, ?_, ?_, ?_, trivial⟩
      all_goals first
        | (simp; omega)
        | (simp [encD, fitP, fld, leafFits, V.cells, hk]; done)
        | (simp [rooms, maxRoom]; omega)
    · rw [len_wrap (by omega), ga, gb]
      have ee : ∀ x, (o ++ [x]).isEmpty = false := by intro x; cases o <;> rfl
      simpa [liS, encD, ee] using ih
def lkS (n m : Bool) (l : List Stp) (p : List (Int × Bool)) (r : Int) (k : Int) : St := ⟨[(1, V.sl n (l.map encS)), (2, V.sl m (p.map encD)), (3, V.int IntKind.u64 r), (9, V.sl n (l.map encS)), (10, V.sl l.isEmpty (l.map encS)), (19, V.sl m (p.map encD)), (20, V.ex 2 p.isEmpty (p.map encD)), (106, V.sl n (l.map encS)), (107, V.int IntKind.i64 l.length), (108, V.int IntKind.i64 k)], []⟩
theorem lk_loop (n m : Bool) (l : List Stp) (hl : l.length ≤ 1000) (p : List (Int × Bool)) (hp : p.length ≤ 1000) (r : Int) : ∀ (d k : Nat), k + d = l.length →
    LRuns (vstep T (vlim T F) lplim fi27.cx 0 (lb fi27 1)) (lkS n m l p r k) (.exit 2, ⟨(lkS n m l p r l.length).env ++ [(109, .bool false)], []⟩)
  | 0, k, hd => by
    have hk : k = l.length := by omega
    subst hk
    have := LRuns.last (F := F) UM_ok (sh := Sh) (L := fun _ _ => .fail) (n := 0) (b := lb fi27 1) (cx := fi27.cx) (τ := lkS n m l p r l.length) (LGood.none (by kernel_rfl)) [(decide ((l.length : Int) < (l.length : Int)), false)] [2]
      (r := (.exit 2, ⟨(lkS n m l p r l.length).env ++ [(109, .bool (decide ((l.length : Int) < (l.length : Int))))], []⟩)) (by kernel_rfl) (by simp) ⟨by simp, trivial⟩
    simpa using this
  | d + 1, k, hd => by
    have hk : k < l.length := by omega
    have ih := lk_loop n m l hl p hp r d (k + 1) (by omega)
    refine LRuns.next (F := F) UM_ok (sh := Sh) (L := fun _ _ => .fail) (LGood.none (by kernel_rfl)) [(decide ((↑k : Int) < (↑l.length : Int)), true),
    (decide ((↑k : Int) < (↑(List.map encS l).length : Int)), true),
    (((List.map encS l).getD k V.undef).cells.length == 5 && fitP [TK.int IntKind.i64, TK.int IntKind.u64, TK.int IntKind.i64, TK.int IntKind.i64, TK.int IntKind.u64] 0 ((List.map encS l).getD k V.undef), true),
    (eqB (V.agg [V.int IntKind.i64 (Fd.s0 l k), V.int IntKind.u64 (Fd.s1 l k), V.int IntKind.i64 (Fd.s2 l k), V.int IntKind.i64 (Fd.s3 l k), V.int IntKind.u64 (Fd.sn l k)]) (V.agg [V.int IntKind.i64 (Fd.s0 l k), V.int IntKind.u64 (Fd.s1 l k), V.int IntKind.i64 (Fd.s2 l k), V.int IntKind.i64 (Fd.s3 l k), V.int IntKind.u64 (Fd.sn l k)]), true),
    (eqB (List.map encD p) (List.map encD (List.map decD (List.map encD p))), true),
    (decide ((List.map encD p).length ≤ 2000), true),
    (!(P.fold (Fd.sn l k) (List.map decD (List.map encD p)) == r) == (P.fold (Fd.sn l k) (List.map decD (List.map encD p)) == r), false)] [2, 0, 3, 4, 5, 6, 7, 0, 3, 4, 5, 6, 7, 0, 8] (τ' := lkS n m l p r (IntKind.i64.wrap ((k : Int) + 1))) (by kernel_rfl) ?_ ?_
    · refine ⟨?_, ?_, ?_, ?_, ?_, ?_, ?_, trivial⟩
      all_goals first
        | (refine eqB_eq ?_; rw [decD_enc]; done)
        | (refine eqB_eq ?_; simp [decS, encS]; done)
        | (simp; omega)
        | (simp [encS, fitP, fld, leafFits, V.cells, hk]; done)
        | (cases (P.fold (Fd.sn l k) (List.map decD (List.map encD p)) == r) <;> rfl)
    · rw [len_wrap (by omega)]; exact ih
theorem lists_runs (n m : Bool) (l : List Stp) (hl : l.length ≤ 200) (hn : n = true → l = []) (p : List (Int × Bool)) (hp : p.length ≤ 200) (hm : m = true → p = []) (key r : Int) : Runs T F 27 [.int .u64 key, V.sl n (l.map encS), V.sl m (p.map encD), .int .u64 r] [] (.bool true, []) := by
  have h1 := li_loop n m l p (by omega) r p.length 0 [] (by omega) rfl
  have h2 := lk_loop n m l (by omega) p (by omega) r l.length 0 (by omega)
  have e0 : loopsOf fi27.body = [lb fi27 0, lb fi27 1] := by kernel_rfl
  have f0 : firstRegion (lb fi27 0) = 19 := by kernel_rfl
  have f1 : firstRegion (lb fi27 1) = 24 := by kernel_rfl
  have hL : LGood T (vlim T F) lplim fi27.cx (loopsIs [(19, liS n m l p r [] 0, (.exit 0, ⟨(liS n m l p r p p.length).env ++ [(98, .bool false)], []⟩)), (24, lkS n m l p r 0, (.exit 2, ⟨(lkS n m l p r l.length).env ++ [(109, .bool false)], []⟩))]) fi27.body := by
    refine LGood.is fun c hc x hx hf => ?_
    rw [e0] at hc
    simp only [List.mem_cons, List.not_mem_nil, or_false] at hc hx
    rcases hx with rfl | rfl <;> rcases hc with rfl | rfl
    · exact h1
    · simp only at hf; omega
    · simp only at hf; omega
    · exact h2
  refine Runs.way (F := F) (sh := Sh) (S := UM) UM_ok (fi := fi27) (by kernel_rfl) hL [(eqB (List.map encS l) (List.map encS (List.map decS (List.map encS l))), true),
    (!n || (List.map encS l).isEmpty, true),
    (decide ((List.map encS l).length ≤ 1000), true),
    (P.mix key r != P.mix key r, false),
    (eqB (List.map encS (List.map decS (List.map encS l))) (List.map encS (List.map decS (List.map encS (List.map decS (List.map encS l))))), true),
    ((P.vr key (List.map decS (List.map encS l))).1 != (P.vr key (List.map decS (List.map encS (List.map decS (List.map encS l))))).1, false),
    ((P.vr key (List.map decS (List.map encS l))).2 != (P.vr key (List.map decS (List.map encS (List.map decS (List.map encS l))))).2, false),
    (eqB (List.map encP (P.tz (List.map decS (List.map encS (List.map decS (List.map encS l)))))) (List.map encP (P.tz (List.map decS (List.map encS l)))), true),
    (eqB (List.map encP (P.tz (List.map decS (List.map encS l)))) (List.map encP (List.map decP (List.map encP (P.tz (List.map decS (List.map encS l)))))), true),
    (decide ((List.map encP (P.tz (List.map decS (List.map encS l)))).length ≤ 1000), true),
    (P.tiE (List.map decS (List.map encS l)) != P.tiE (List.map decS (List.map encS (List.map decS (List.map encS l)))), false),
    (P.rr (List.map decS (List.map encS l)) != P.rr (List.map decS (List.map encS (List.map decS (List.map encS l)))), false),
    (P.rrE (List.map decS (List.map encS l)) != P.rrE (List.map decS (List.map encS (List.map decS (List.map encS l)))), false),
    (eqB (List.map encD p) (List.map encD (List.map decD (List.map encD p))), true),
    (!m || (List.map encD p).isEmpty, true),
    (decide ((List.map encD p).length ≤ 1000), true),
    (is { env := [(1, V.sl n (List.map encS l)), (2, V.sl m (List.map encD p)), (3, V.int IntKind.u64 r), (9, V.sl n (List.map encS l)), (10, V.sl ((List.map decS (List.map encS l)).isEmpty) (List.map encS (List.map decS (List.map encS l)))), (19, V.sl m (List.map encD p)), (20, V.ex 2 true []), (95, V.sl m (List.map encD p)), (96, V.int IntKind.i64 (↑(List.map encD p).length : Int)), (97, V.int IntKind.i64 0)], heap := [] } { env := [(1, V.sl n (List.map encS l)), (2, V.sl m (List.map encD p)), (3, V.int IntKind.u64 r), (9, V.sl n (List.map encS l)), (10, V.sl ((l).isEmpty) (List.map encS l)), (19, V.sl m (List.map encD p)), (20, V.ex 2 true []), (95, V.sl m (List.map encD p)), (96, V.int IntKind.i64 (↑p.length : Int)), (97, V.int IntKind.i64 0)], heap := [] }, true),
    (is { env := [(1, V.sl n (List.map encS l)), (2, V.sl m (List.map encD p)), (3, V.int IntKind.u64 r), (9, V.sl n (List.map encS l)), (10, V.sl ((l).isEmpty) (List.map encS l)), (19, V.sl m (List.map encD p)), (20, V.ex 2 ((p).isEmpty) (List.map encD p)), (106, V.sl n (List.map encS l)), (107, V.int IntKind.i64 (↑(List.map encS l).length : Int)), (108, V.int IntKind.i64 0)], heap := [] } { env := [(1, V.sl n (List.map encS l)), (2, V.sl m (List.map encD p)), (3, V.int IntKind.u64 r), (9, V.sl n (List.map encS l)), (10, V.sl ((l).isEmpty) (List.map encS l)), (19, V.sl m (List.map encD p)), (20, V.ex 2 ((p).isEmpty) (List.map encD p)), (106, V.sl n (List.map encS l)), (107, V.int IntKind.i64 (↑l.length : Int)), (108, V.int IntKind.i64 0)], heap := [] }, true),
    (eqB (List.map encS l) (List.map encS l), true),
    (eqB (List.map encD p) (List.map encD p), true)] [2, 3, 4, 2, 4, 5, 2, 6, 7, 7, 7, 7, 8, 2, 6, 9, 10, 11, 1, 1, 1, 1, 12, 2, 6, 13, 13, 13, 13, 14, 15, 16, 17, 18, 19, 20, 2, 4, 0, 0, 0, 21, 15, 17, 0] (by kernel_rfl) ?_
  simp only [decS_enc, decP_enc]
  have hz : (P.tz l).length ≤ 1000 := by
    unfold P.tz
    split
    · unfold P.ti; rw [sm_length, pre_len]; omega
    · simp
  refine ⟨?_, ?_, ?_, ?_, ?_, ?_, ?_, ?_, ?_, ?_, ?_, ?_, ?_, ?_, ?_, ?_, ?_, ?_, ?_, ?_, trivial⟩
  all_goals first
    | exact eqB_eq rfl
    | exact is_eq (by simp [liS])
    | exact is_eq (by simp [lkS])
    | (simp; done)
    | (simp; omega)
    | (cases n <;> simp_all; done)
    | (cases m <;> simp_all; done)
    | (refine eqB_eq ?_; rw [decD_enc]; done)
noncomputable def listsS : List V → Heap → Tr (V × Heap) := fun a H => match a, H with
  | [.int .u64 _, .sl n xs, .sl m ys, .int .u64 _], [] => .must (eqB xs ((xs.map decS).map encS)) (.must (!n || xs.isEmpty) (.must (decide (xs.length ≤ 200)) (.must (eqB ys ((ys.map decD).map encD)) (.must (!m || ys.isEmpty) (.must (decide (ys.length ≤ 200)) (.ret (.bool true, [])))))))
  | _, _ => .fail
theorem listsS_ok : ∀ a H r, (listsS a H).run = some r → Runs T F 27 a H r := by
  intro a H r h
  unfold listsS at h
  split at h
  · rename_i key n xs m ys r
    obtain ⟨h0, h⟩ := Tr.must_some h
    obtain ⟨h1, h⟩ := Tr.must_some h
    obtain ⟨h2, h⟩ := Tr.must_some h
    obtain ⟨h3, h⟩ := Tr.must_some h
    obtain ⟨h4, h⟩ := Tr.must_some h
    obtain ⟨h5, h⟩ := Tr.must_some h
    have hr := ret_some h; clear h; subst hr
    have h0 := of_eqB h0
    have h3 := of_eqB h3
    simp only [decide_eq_true_eq] at h2 h5
    generalize xs.map decS = l at *
    generalize ys.map decD = p at *
    subst h0
    subst h3
    exact lists_runs n m l (by simpa using h2) (fun hn => by subst hn; simpa using h1) p (by simpa using h5) (fun hn => by subst hn; simpa using h4) key r
  · cases h
noncomputable def U9 : Vm.Spec := UM.add 27 listsS
theorem U9_ok : Vm.Good (vlim T F) U9 := UM_ok.add listsS_ok
theorem len5 {α : Type} {cs : List α} (h : cs.length = 5) : ∃ a b c d e, cs = [a, b, c, d, e] := by
  match cs, h with
  | [a, b, c, d, e], _ => exact ⟨a, b, c, d, e, rfl⟩
theorem len2 {α : Type} {cs : List α} (h : cs.length = 2) : ∃ a b, cs = [a, b] := by
  match cs, h with
  | [a, b], _ => exact ⟨a, b, rfl⟩
theorem t3 : T 3 = some { kind := .int .i64, size := 1, bytes := 8, zero := .int .i64 0, leaves := [] } := by kernel_rfl
theorem t36 : T 36 = some { kind := .int .u64, size := 1, bytes := 8, zero := .int .u64 0, leaves := [] } := by kernel_rfl
theorem t4 : T 4 = some { kind := .bool, size := 1, bytes := 1, zero := .bool false, leaves := [] } := by kernel_rfl
theorem hasV_stp {m : Nat} {v : V} (h : HasV T (m + 2) 50 v) : ∃ s : Stp, v = encS s ∧ True := by
  obtain ⟨cs, rfl, hl, hf⟩ := hasV_struct (i := { kind := .struct [(0, 3), (1, 36), (2, 3), (3, 3), (4, 36)], size := 5, bytes := 40, zero := .agg [.int .i64 0, .int .u64 0, .int .i64 0, .int .i64 0, .int .u64 0], leaves := [.int .i64, .int .u64, .int .i64, .int .i64, .int .u64] }) (by kernel_rfl) rfl h
  obtain ⟨a, b, c, d, e, rfl⟩ := len5 hl
  obtain ⟨i0, j0, k0⟩ := hf (0, 3) (by simp)
  obtain ⟨i1, j1, k1⟩ := hf (1, 36) (by simp)
  obtain ⟨i2, j2, k2⟩ := hf (2, 3) (by simp)
  obtain ⟨i3, j3, k3⟩ := hf (3, 3) (by simp)
  obtain ⟨i4, j4, k4⟩ := hf (4, 36) (by simp)
  simp only at j0 j1 j2 j3 j4 k0 k1 k2 k3 k4
  rw [t3] at j0 j2 j3
  rw [t36] at j1 j4
  injection j0 with j0; injection j1 with j1; injection j2 with j2; injection j3 with j3; injection j4 with j4
  subst j0; subst j1; subst j2; subst j3; subst j4
  obtain ⟨x0, rfl, _⟩ := hasC_int t3 rfl k0
  obtain ⟨x1, rfl, _⟩ := hasC_int t36 rfl k1
  obtain ⟨x2, rfl, _⟩ := hasC_int t3 rfl k2
  obtain ⟨x3, rfl, _⟩ := hasC_int t3 rfl k3
  obtain ⟨x4, rfl, _⟩ := hasC_int t36 rfl k4
  exact ⟨⟨x0, x1, x2, x3, x4⟩, rfl, trivial⟩
theorem hasV_sid {m : Nat} {v : V} (h : HasV T (m + 2) 133 v) : ∃ q : Int × Bool, v = encD q ∧ True := by
  obtain ⟨cs, rfl, hl, hf⟩ := hasV_struct (i := { kind := .struct [(0, 36), (1, 4)], size := 2, bytes := 16, zero := .agg [.int .u64 0, .bool false], leaves := [.int .u64, .bool] }) (by kernel_rfl) rfl h
  obtain ⟨a, b, rfl⟩ := len2 hl
  obtain ⟨i0, j0, k0⟩ := hf (0, 36) (by simp)
  obtain ⟨i1, j1, k1⟩ := hf (1, 4) (by simp)
  simp only at j0 j1 k0 k1
  rw [t36] at j0
  rw [t4] at j1
  injection j0 with j0; injection j1 with j1
  subst j0; subst j1
  obtain ⟨x0, rfl, _⟩ := hasC_int t36 rfl k0
  obtain ⟨x1, rfl⟩ := hasC_bool t4 rfl k1
  exact ⟨(x0, x1), rfl, trivial⟩
theorem lawStampLists : ∀ xs, AllV T 8 [36, 41, 72, 36] xs → ∃ k, vcall T F k 9 xs [] = some (.bool true, []) := by
  intro xs hxs
  obtain ⟨vk, xs, rfl, hvk, hxs⟩ := allV_cons hxs
  obtain ⟨v, xs, rfl, hv, hxs⟩ := allV_cons hxs
  obtain ⟨vp, xs, rfl, hvp, hxs⟩ := allV_cons hxs
  obtain ⟨vr, xs, rfl, hvr, hxs⟩ := allV_cons hxs
  obtain rfl := allV_nil hxs
  obtain ⟨key, rfl, _⟩ := hasV_int t36 rfl hvk
  obtain ⟨r, rfl, _⟩ := hasV_int t36 rfl hvr
  obtain ⟨n, l, rfl, _, hl, hn⟩ := hasV_list encS (fun _ => True) (i := { kind := .slice 50, size := 1, bytes := 24, zero := .sl true [], leaves := [] }) (by kernel_rfl) rfl (fun x hx => hasV_stp hx) hv
  obtain ⟨m, p, rfl, _, hp, hm⟩ := hasV_list encD (fun _ => True) (i := { kind := .slice 133, size := 1, bytes := 24, zero := .sl true [], leaves := [] }) (by kernel_rfl) rfl (fun x hx => hasV_sid hx) hvp
  show Runs T F 9 [.int .u64 key, V.sl n (l.map encS), V.sl m (p.map encD), .int .u64 r] [] (.bool true, [])
  by_cases h : l.length > 200
  · exact Runs.way (F := F) (sh := Sh) (S := U9) (L := fun _ _ => .fail) U9_ok (fi := fi9) (by kernel_rfl) (fun _ _ _ _ h => by cases h) [(decide ((↑(List.map encS l).length : Int) > 200), true)] [2, 2, 2, 2, 0, 0, 0, 0, 0, 0, 0, 0] (by kernel_rfl) ⟨by simp; omega, trivial⟩
  · by_cases h' : p.length > 200
    · exact Runs.way (F := F) (sh := Sh) (S := U9) (L := fun _ _ => .fail) U9_ok (fi := fi9) (by kernel_rfl) (fun _ _ _ _ h => by cases h) [(decide ((↑(List.map encS l).length : Int) > 200), false),
    (decide ((↑(List.map encD p).length : Int) > 200), true)] [2, 2, 2, 2, 3, 3, 3, 3, 3, 3, 0, 0] (by kernel_rfl) ⟨by simp; omega, by simp; omega, trivial⟩
    · refine Runs.way (F := F) (sh := Sh) (S := U9) (L := fun _ _ => .fail) U9_ok (fi := fi9) (by kernel_rfl) (fun _ _ _ _ h => by cases h) [(decide ((↑(List.map encS l).length : Int) > 200), false),
    (decide ((↑(List.map encD p).length : Int) > 200), false),
    (eqB (List.map encS l) (List.map encS (List.map decS (List.map encS l))), true),
    (!n || (List.map encS l).isEmpty, true),
    (decide ((List.map encS l).length ≤ 200), true),
    (eqB (List.map encD p) (List.map encD (List.map decD (List.map encD p))), true),
    (!m || (List.map encD p).isEmpty, true),
    (decide ((List.map encD p).length ≤ 200), true)] [2, 2, 2, 2, 3, 3, 3, 3, 3, 4, 5, 6, 7, 8, 9, 3, 0, 0] (by kernel_rfl) ?_
      rw [decS_enc, decD_enc]
      refine ⟨?_, ?_, ?_, ?_, ?_, ?_, ?_, ?_, trivial⟩
      all_goals first
        | exact eqB_eq rfl
        | (simp; omega)
        | (cases n <;> simp_all; done)
        | (cases m <;> simp_all; done)
end Go.Proofs.Ytgmdkjiflhklaaa
