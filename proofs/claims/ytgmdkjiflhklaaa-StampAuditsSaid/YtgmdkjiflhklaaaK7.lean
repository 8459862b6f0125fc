/- K7: the reference: divisors, fractions, checks. -/
import Derived.Test.YtgmdkjiflhklaaaK4
namespace Go.Proofs.Ytgmdkjiflhklaaa
open Go Go.Vm
def gcdR (n : Nat) : List V → Heap → Tr (V × Heap) := fun a H => match a, H with
  | [.int .i64 a, .int .i64 b], [] => .must (decide (b.natAbs < n)) (.must (decide (-1000000000000000000 ≤ a ∧ a ≤ 1000000000000000000)) (.must (decide (-1000000000000000000 ≤ b ∧ b ≤ 1000000000000000000)) (.ret (.int .i64 (P.gcd a b), []))))
  | _, _ => .fail
theorem gcd_runs : ∀ (n : Nat) (a b : Int), b.natAbs < n → -1000000000000000000 ≤ a ∧ a ≤ 1000000000000000000 → -1000000000000000000 ≤ b ∧ b ≤ 1000000000000000000 → Runs T F 105 [.int .i64 a, .int .i64 b] [] (.int .i64 (P.gcd a b), [])
  | 0, a, b, h, _, _ => by omega
  | n + 1, a, b, h, ha, hb => by
    have hS : Vm.Good (vlim T F) (noSpec.add 105 (gcdR n)) := by
      refine Vm.Good.no.add fun a H r hr => ?_
      unfold gcdR at hr
      split at hr
      · obtain ⟨h0, hr⟩ := Tr.must_some hr
        obtain ⟨h1, hr⟩ := Tr.must_some hr
        obtain ⟨h2, hr⟩ := Tr.must_some hr
        have hq := ret_some hr; clear hr; subst hq
        simp only [decide_eq_true_eq] at h0 h1 h2
        exact gcd_runs n _ _ h0 h1 h2
      · cases hr
    by_cases h0 : b = 0
    · subst h0
      have hg : P.gcd a 0 = a.natAbs := by unfold P.gcd; simp
      by_cases h1 : a < 0
      · have : P.gcd a 0 = IntKind.i64.wrap (0 - a) := by rw [i64in (by omega) (by omega)]; omega
        rw [this]
        exact Runs.way (F := F) (sh := Sh) hS (L := fun _ _ => .fail) (fi := fi105) (by kernel_rfl) (fun _ _ _ _ h => by cases h) (List.map (fun x => x) [((0 : Int) == 0, true), (decide (a < 0), true)]) [0, 3] (by kernel_rfl) ⟨by simp, decide_eq_true h1, trivial⟩
      · have : P.gcd a 0 = a := by omega
        rw [this]
        exact Runs.way (F := F) (sh := Sh) hS (L := fun _ _ => .fail) (fi := fi105) (by kernel_rfl) (fun _ _ _ _ h => by cases h) (List.map (fun x => x) [((0 : Int) == 0, true), (decide (a < 0), false)]) [0, 3] (by kernel_rfl) ⟨by simp, decide_eq_false h1, trivial⟩
    · have hm : (a.tmod b).natAbs = a.natAbs % b.natAbs := Int.natAbs_tmod a b
      have hlt : (a.tmod b).natAbs < b.natAbs := by rw [hm]; exact Nat.mod_lt _ (by omega)
      have e : P.gcd a b = P.gcd b (a.tmod b) := by
        show ((Nat.gcd a.natAbs b.natAbs : Nat) : Int) = ((Nat.gcd b.natAbs (a.tmod b).natAbs : Nat) : Int)
        rw [hm, Nat.gcd_comm a.natAbs, Nat.gcd_rec b.natAbs a.natAbs, Nat.gcd_comm]
      rw [e]
      exact Runs.way (F := F) (sh := Sh) hS (L := fun _ _ => .fail) (fi := fi105) (by kernel_rfl) (fun _ _ _ _ h => by cases h) [(b == 0, false),
    (!decide (b = 0), true),
    (decide ((match a.tmod b with | Int.ofNat m => m | Int.negSucc m => m.succ) < n), true),
    (decide (-1000000000000000000 ≤ b ∧ b ≤ 1000000000000000000), true),
    (decide (-1000000000000000000 ≤ a.tmod b ∧ a.tmod b ≤ 1000000000000000000), true)] [2, 3, 4, 5, 6] (by kernel_rfl) ⟨by simp [h0], by simp [h0], decide_eq_true (by omega : (a.tmod b).natAbs < n), decide_eq_true hb, decide_eq_true (by omega), trivial⟩
def gcdF : List V → Heap → Tr (V × Heap) := fun a H => match a, H with
  | [.int .i64 a, .int .i64 b], [] => .must (decide (-1000000000000000000 ≤ a ∧ a ≤ 1000000000000000000)) (.must (decide (-1000000000000000000 ≤ b ∧ b ≤ 1000000000000000000)) (.ret (.int .i64 (P.gcd a b), [])))
  | _, _ => .fail
noncomputable def R105 : Vm.Spec := WAK.add 105 gcdF
theorem R105_ok : Vm.Good (vlim T F) R105 := WAK_ok.add fun a H r hr => by
  unfold gcdF at hr
  split at hr
  · obtain ⟨h1, hr⟩ := Tr.must_some hr
    obtain ⟨h2, hr⟩ := Tr.must_some hr
    have hq := ret_some hr; clear hr; subst hq
    simp only [decide_eq_true_eq] at h1 h2
    exact gcd_runs _ _ _ (Nat.lt_succ_self _) h1 h2
  · cases hr
theorem frac_ok : ∀ a H r, (ratioS a H).run = some r → Runs T F 87 a H r := by
  intro a H r h
  unfold ratioS at h
  split at h
  · rename_i n d
    obtain ⟨h1, h⟩ := Tr.must_some h
    obtain ⟨h2, h⟩ := Tr.must_some h
    obtain ⟨h3, h⟩ := Tr.must_some h
    obtain ⟨h4, h⟩ := Tr.must_some h
    simp only [decide_eq_true_eq] at h1 h2 h3 h4
    have := ret_some h; subst this
    have hg : P.gcd n d ≠ 0 := by
      unfold P.gcd
      have : 0 < Int.gcd n d := Int.gcd_pos_of_ne_zero_right n (by omega)
      omega
    have e1 : IntKind.i64.wrap (n.tdiv (P.gcd n d)) = P.rn n d := by
      have := tdiv_bound (a := n) (g := P.gcd n d) (by omega) (by omega)
      rw [i64in (by omega) (by omega)]; rfl
    have e2 : IntKind.i64.wrap (d.tdiv (P.gcd n d)) = P.rd n d := by
      have := tdiv_bound (a := d) (g := P.gcd n d) (by omega) (by omega)
      rw [i64in (by omega) (by omega)]; rfl
    rw [← e1, ← e2]
    exact Runs.way (F := F) (sh := Sh) (S := R105) (L := fun _ _ => .fail) R105_ok (fi := fi87) (by kernel_rfl) (LGood.none (by kernel_rfl)) [(decide (-1000000000000000000 ≤ n ∧ n ≤ 1000000000000000000), true),
    (decide (-1000000000000000000 ≤ d ∧ d ≤ 1000000000000000000), true),
    (!decide (P.gcd n d = 0), true)] [2, 3, 4, 2, 3, 4] (by kernel_rfl) ⟨decide_eq_true (by omega), decide_eq_true (by omega), by simp [hg], trivial⟩
  · cases h
/-- Whether a fraction is less than another one. -/
def P.bl (a b c d : Int) : Bool := decide (a * d < c * b)
def blS : List V → Heap → Tr (V × Heap)
  | [.agg [.int .i64 a, .int .i64 b], .agg [.int .i64 c, .int .i64 d]], [] => .must (decide (-9000000000000000000 ≤ a * d)) (.must (decide (a * d ≤ 9000000000000000000)) (.must (decide (-9000000000000000000 ≤ c * b)) (.must (decide (c * b ≤ 9000000000000000000)) (.ret (.bool (P.bl a b c d), [])))))
  | _, _ => .fail
theorem bl_ok : ∀ a H r, (blS a H).run = some r → Runs T F 88 a H r := by
  intro a H r h
  unfold blS at h
  split at h
  · rename_i a b c d
    obtain ⟨h1, h⟩ := Tr.must_some h
    obtain ⟨h2, h⟩ := Tr.must_some h
    obtain ⟨h3, h⟩ := Tr.must_some h
    obtain ⟨h4, h⟩ := Tr.must_some h
    simp only [decide_eq_true_eq] at h1 h2 h3 h4
    have := ret_some h; subst this
    have e : P.bl a b c d = decide (IntKind.i64.wrap (a * d) < IntKind.i64.wrap (c * b)) := by
      unfold P.bl; rw [i64in (by omega) (by omega), i64in (by omega) (by omega)]
    rw [e]
    exact Runs.way (F := F) (sh := Sh) (S := R105) (L := fun _ _ => .fail) R105_ok (fi := fi88) (by kernel_rfl) (LGood.none (by kernel_rfl)) [] [] (by kernel_rfl) trivial
  · cases h
noncomputable def R89 : Vm.Spec := ((R105.add 87 ratioS).add 88 blS).add 89 (inl T Sh ((R105.add 87 ratioS).add 88 blS) 0 0 fi89)
theorem R89_ok : Vm.Good (vlim T F) R89 := ((R105_ok.add frac_ok).add bl_ok).inl (by kernel_rfl) 0 0 (by kernel_rfl)
theorem right_runs (a d m : Int) (h0 : 0 ≤ m) (h1 : m ≤ 1000000000000000000) : Runs T F 90 [.agg [.int .i64 a, .int .i64 d], .int .i64 m] [] (.bool (P.low a d m), []) := by
  have hm : IntKind.i64.wrap (0 - m) = -m := by rw [i64in (by omega) (by omega)]; omega
  by_cases a1 : 1 ≤ d
  · by_cases a2 : d ≤ 100000
    · by_cases a3 : -m ≤ a
      · by_cases a4 : a ≤ m
        · have e : P.low a d m = (P.gcd a d == 1) := by
            rw [Bool.eq_iff_iff, low_iff]
            unfold P.gcd
            simp only [beq_iff_eq]
            omega
          rw [e]
          exact Runs.way (F := F) (sh := Sh) (S := R89) (L := fun _ _ => .fail) R89_ok (fi := fi90) (by kernel_rfl) (fun _ _ _ _ h => by cases h) [(decide (d ≥ 1), true),
    (decide (d ≤ 100000), true),
    (decide (a ≥ IntKind.i64.wrap (0 - m)), true),
    (decide (a ≤ m), true),
    (decide (-1000000000000000000 ≤ a ∧ a ≤ 1000000000000000000), true),
    (decide (-1000000000000000000 ≤ d ∧ d ≤ 1000000000000000000), true)] [2, 2, 2, 2, 3, 3, 3, 3, 3, 3, 4, 4, 4, 4, 3, 5, 5, 5, 5, 5, 6, 7, 5, 5] (by kernel_rfl) ⟨by simp; omega, by simp; omega, by rw [hm]; simp; omega, by simp; omega, by simp; omega, by simp; omega, trivial⟩
        · have e : P.low a d m = false := by rw [Bool.eq_false_iff, Ne, low_iff]; omega
          rw [e]
          exact Runs.way (F := F) (sh := Sh) (S := R89) (L := fun _ _ => .fail) R89_ok (fi := fi90) (by kernel_rfl) (fun _ _ _ _ h => by cases h) [(decide (d ≥ 1), true),
    (decide (d ≤ 100000), true),
    (decide (a ≥ IntKind.i64.wrap (0 - m)), true),
    (decide (a ≤ m), false)] [2, 2, 2, 2, 3, 3, 3, 3, 3, 3, 4, 4, 4, 4, 3, 5, 5, 5, 5, 5, 5, 5] (by kernel_rfl) ⟨by simp; omega, by simp; omega, by rw [hm]; simp; omega, by simp; omega, trivial⟩
      · have e : P.low a d m = false := by rw [Bool.eq_false_iff, Ne, low_iff]; omega
        rw [e]
        exact Runs.way (F := F) (sh := Sh) (S := R89) (L := fun _ _ => .fail) R89_ok (fi := fi90) (by kernel_rfl) (fun _ _ _ _ h => by cases h) [(decide (d ≥ 1), true),
    (decide (d ≤ 100000), true),
    (decide (a ≥ IntKind.i64.wrap (0 - m)), false)] [2, 2, 2, 2, 3, 3, 3, 3, 3, 3, 4, 4, 4, 4, 3, 1, 1, 1, 1, 1, 1, 1] (by kernel_rfl) ⟨by simp; omega, by simp; omega, by rw [hm]; simp; omega, trivial⟩
    · have e : P.low a d m = false := by rw [Bool.eq_false_iff, Ne, low_iff]; omega
      rw [e]
      exact Runs.way (F := F) (sh := Sh) (S := R89) (L := fun _ _ => .fail) R89_ok (fi := fi90) (by kernel_rfl) (fun _ _ _ _ h => by cases h) [(decide (d ≥ 1), true),
    (decide (d ≤ 100000), false)] [2, 2, 2, 2, 3, 3, 3, 3, 3, 3, 3, 1, 1, 1, 1, 1, 1, 1] (by kernel_rfl) ⟨by simp; omega, by simp; omega, trivial⟩
  · have e : P.low a d m = false := by rw [Bool.eq_false_iff, Ne, low_iff]; omega
    rw [e]
    exact Runs.way (F := F) (sh := Sh) (S := R89) (L := fun _ _ => .fail) R89_ok (fi := fi90) (by kernel_rfl) (fun _ _ _ _ h => by cases h) [(decide (d ≥ 1), false)] [2, 2, 2, 2, 1, 1, 1, 1, 1, 1, 1, 1, 1, 1, 1, 1, 1, 1] (by kernel_rfl) ⟨by simp; omega, trivial⟩
theorem right_ok : ∀ a H r, (loS a H).run = some r → Runs T F 90 a H r := by
  intro a H r h
  unfold loS at h
  split at h
  · obtain ⟨h0, h⟩ := Tr.must_some h
    obtain ⟨h1, h⟩ := Tr.must_some h
    have hr := ret_some h
    clear h
    subst hr
    simp only [decide_eq_true_eq] at h0 h1
    exact right_runs _ _ _ h0 h1
  · cases h
noncomputable def R90 : Vm.Spec := R89.add 90 loS
theorem R90_ok : Vm.Good (vlim T F) R90 := R89_ok.add right_ok
def rcSt (n : Bool) (l : List Chk) (k : Int) : St := ⟨[(0, V.sl n (l.map encC)), (3, V.int IntKind.i64 k)], []⟩
theorem rc_loop (n : Bool) (l : List Chk) (hl : l.length ≤ 40) : ∀ (d k : Nat), k + d = l.length →
    ((l.drop k).all okCb = true → LRuns (vstep T (vlim T F) lplim fi86.cx 0 (lb fi86 0)) (rcSt n l k) (.exit 0, ⟨(rcSt n l l.length).env ++ [(10, .bool false)], []⟩)) ∧
    ((l.drop k).all okCb = false → LRuns (vstep T (vlim T F) lplim fi86.cx 0 (lb fi86 0)) (rcSt n l k) (.ret, ⟨[(2, .int .i64 6)], []⟩))
  | 0, k, hd => by
    have hk : k = l.length := by omega
    subst hk
    rw [List.drop_length]
    refine ⟨fun _ => ?_, fun h => by cases h⟩
    have := LRuns.last (F := F) R89_ok (sh := Sh) (L := fun _ _ => .fail) (n := 0) (b := lb fi86 0) (cx := fi86.cx) (τ := rcSt n l l.length) (LGood.none (by kernel_rfl)) [(decide ((l.length : Int) < ((l.map encC).length : Int)), false)] [2]
      (r := (.exit 0, ⟨(rcSt n l l.length).env ++ [(10, .bool (decide ((l.length : Int) < ((l.map encC).length : Int))))], []⟩)) (by kernel_rfl) (by simp) ⟨by simp, trivial⟩
    simpa using this
  | d + 1, k, hd => by
    have hk : k < l.length := by omega
    have ih := rc_loop n l hl d (k + 1) (by omega)
    have hw : IntKind.i64.wrap ((k : Int) + 1) = ((k + 1 : Nat) : Int) := by rw [i64in (by omega) (by omega)]; rfl
    have ga := ca_at l k hk
    have gl := cl_at l k hk
    have gh := ch_at l k hk
    have hq : okCb l[k] = true ↔ 0 ≤ Fd.ca l k ∧ Fd.ca l k ≤ 100000 ∧ -100000000 ≤ Fd.cl l k ∧ Fd.ch l k ≤ 100000000 ∧ Fd.cl l k ≤ Fd.ch l k := by
      rw [ga, gl, gh]; simp only [okCb, Bool.and_eq_true, decide_eq_true_eq]; omega
    rw [List.drop_eq_getElem_cons hk, List.all_cons]
    by_cases ho : okCb l[k] = true
    · rw [ho, Bool.true_and]
      have h := hq.1 ho
      have hn : ∀ r, LRuns (vstep T (vlim T F) lplim fi86.cx 0 (lb fi86 0)) (rcSt n l (k + 1 : Nat)) r → LRuns (vstep T (vlim T F) lplim fi86.cx 0 (lb fi86 0)) (rcSt n l k) r := fun r hr => by
        refine LRuns.next (F := F) R89_ok (sh := Sh) (L := fun _ _ => .fail) (LGood.none (by kernel_rfl)) [(decide ((↑k : Int) < (↑(List.map encC l).length : Int)), true),
    (((List.map encC l).getD k V.undef).cells.length == 3 && fitP [TK.int IntKind.i64, TK.int IntKind.i64, TK.int IntKind.i64] 0 ((List.map encC l).getD k V.undef), true),
    (decide (Fd.ca l k ≥ 0), true),
    (!decide (Fd.ca l k ≤ 100000), false),
    (decide (Fd.cl l k ≥ -100000000), true),
    (!decide (Fd.cl l k ≤ 100000000), false),
    (decide (Fd.ch l k ≥ Fd.cl l k), true),
    (!decide (Fd.ch l k ≤ 100000000), false)] [2, 0, 2, 3, 4, 4, 4, 4, 5, 5, 5, 0, 2, 3, 5, 5, 5, 6, 6, 6, 6, 5, 5, 7, 7, 7, 0, 2, 3, 7, 7, 7, 7, 7, 0, 2, 3, 7, 7, 7, 8, 8, 8, 8, 7, 7, 9] (τ' := rcSt n l (IntKind.i64.wrap ((k : Int) + 1))) (by kernel_rfl) ⟨(by simp; omega), (by simp [encC, fitP, fld, leafFits, V.cells, hk]), by simp; omega, by simp; omega, by simp; omega, by simp; omega, by simp; omega, by simp; omega, trivial⟩ ?_
        rw [hw]; exact hr
      exact ⟨fun h => hn _ (ih.1 h), fun h => hn _ (ih.2 h)⟩
    · have ho' : okCb l[k] = false := by simpa using ho
      rw [ho', Bool.false_and]
      refine ⟨fun h => (by cases h), fun _ => ?_⟩
      rw [hq] at ho
      by_cases h1 : Fd.ca l k ≥ 0
      · by_cases h2 : Fd.ca l k ≤ 100000
        · by_cases h3 : Fd.cl l k ≥ -100000000
          · by_cases h4 : Fd.cl l k ≤ 100000000
            · by_cases h5 : Fd.ch l k ≥ Fd.cl l k
              · exact LRuns.last (F := F) R89_ok (sh := Sh) (L := fun _ _ => .fail) (LGood.none (by kernel_rfl)) [(decide ((↑k : Int) < (↑(List.map encC l).length : Int)), true),
    (((List.map encC l).getD k V.undef).cells.length == 3 && fitP [TK.int IntKind.i64, TK.int IntKind.i64, TK.int IntKind.i64] 0 ((List.map encC l).getD k V.undef), true),
    (decide (Fd.ca l k ≥ 0), true),
    (!decide (Fd.ca l k ≤ 100000), false),
    (decide (Fd.cl l k ≥ -100000000), true),
    (!decide (Fd.cl l k ≤ 100000000), false),
    (decide (Fd.ch l k ≥ Fd.cl l k), true),
    (!decide (Fd.ch l k ≤ 100000000), true)] [2, 0, 2, 3, 4, 4, 4, 4, 5, 5, 5, 0, 2, 3, 5, 5, 5, 6, 6, 6, 6, 5, 5, 7, 7, 7, 0, 2, 3, 7, 7, 7, 7, 7, 0, 2, 3, 7, 7, 7, 8, 8, 8, 8, 7, 7, 9] (by kernel_rfl) (by simp) ⟨(by simp; omega), (by simp [encC, fitP, fld, leafFits, V.cells, hk]), by simp; omega, by simp; omega, by simp; omega, by simp; omega, by simp; omega, by simp; omega, trivial⟩
              · exact LRuns.last (F := F) R89_ok (sh := Sh) (L := fun _ _ => .fail) (LGood.none (by kernel_rfl)) [(decide ((↑k : Int) < (↑(List.map encC l).length : Int)), true),
    (((List.map encC l).getD k V.undef).cells.length == 3 && fitP [TK.int IntKind.i64, TK.int IntKind.i64, TK.int IntKind.i64] 0 ((List.map encC l).getD k V.undef), true),
    (decide (Fd.ca l k ≥ 0), true),
    (!decide (Fd.ca l k ≤ 100000), false),
    (decide (Fd.cl l k ≥ -100000000), true),
    (!decide (Fd.cl l k ≤ 100000000), false),
    (decide (Fd.ch l k ≥ Fd.cl l k), false)] [2, 0, 2, 3, 4, 4, 4, 4, 5, 5, 5, 0, 2, 3, 5, 5, 5, 6, 6, 6, 6, 5, 5, 7, 7, 7, 0, 2, 3, 7, 7, 7, 7, 7, 0, 2, 3, 7, 7, 7, 8, 8, 8, 8, 7, 7, 0] (by kernel_rfl) (by simp) ⟨(by simp; omega), (by simp [encC, fitP, fld, leafFits, V.cells, hk]), by simp; omega, by simp; omega, by simp; omega, by simp; omega, by simp; omega, trivial⟩
            · exact LRuns.last (F := F) R89_ok (sh := Sh) (L := fun _ _ => .fail) (LGood.none (by kernel_rfl)) [(decide ((↑k : Int) < (↑(List.map encC l).length : Int)), true),
    (((List.map encC l).getD k V.undef).cells.length == 3 && fitP [TK.int IntKind.i64, TK.int IntKind.i64, TK.int IntKind.i64] 0 ((List.map encC l).getD k V.undef), true),
    (decide (Fd.ca l k ≥ 0), true),
    (!decide (Fd.ca l k ≤ 100000), false),
    (decide (Fd.cl l k ≥ -100000000), true),
    (!decide (Fd.cl l k ≤ 100000000), true)] [2, 0, 2, 3, 4, 4, 4, 4, 5, 5, 5, 0, 2, 3, 5, 5, 5, 6, 6, 6, 6, 5, 5, 7, 7, 7, 7, 7, 7, 7, 7, 7, 7, 7, 7, 7, 0] (by kernel_rfl) (by simp) ⟨(by simp; omega), (by simp [encC, fitP, fld, leafFits, V.cells, hk]), by simp; omega, by simp; omega, by simp; omega, by simp; omega, trivial⟩
          · exact LRuns.last (F := F) R89_ok (sh := Sh) (L := fun _ _ => .fail) (LGood.none (by kernel_rfl)) [(decide ((↑k : Int) < (↑(List.map encC l).length : Int)), true),
    (((List.map encC l).getD k V.undef).cells.length == 3 && fitP [TK.int IntKind.i64, TK.int IntKind.i64, TK.int IntKind.i64] 0 ((List.map encC l).getD k V.undef), true),
    (decide (Fd.ca l k ≥ 0), true),
    (!decide (Fd.ca l k ≤ 100000), false),
    (decide (Fd.cl l k ≥ -100000000), false)] [2, 0, 2, 3, 4, 4, 4, 4, 5, 5, 5, 0, 2, 3, 5, 5, 5, 6, 6, 6, 6, 5, 5, 0, 0, 0, 0, 0, 0, 0, 0, 0, 0, 0, 0, 0, 0] (by kernel_rfl) (by simp) ⟨(by simp; omega), (by simp [encC, fitP, fld, leafFits, V.cells, hk]), by simp; omega, by simp; omega, by simp; omega, trivial⟩
        · exact LRuns.last (F := F) R89_ok (sh := Sh) (L := fun _ _ => .fail) (LGood.none (by kernel_rfl)) [(decide ((↑k : Int) < (↑(List.map encC l).length : Int)), true),
    (((List.map encC l).getD k V.undef).cells.length == 3 && fitP [TK.int IntKind.i64, TK.int IntKind.i64, TK.int IntKind.i64] 0 ((List.map encC l).getD k V.undef), true),
    (decide (Fd.ca l k ≥ 0), true),
    (!decide (Fd.ca l k ≤ 100000), true)] [2, 0, 2, 3, 4, 4, 4, 4, 5, 5, 5, 5, 5, 5, 5, 5, 0, 0, 0, 0, 0, 0, 0, 0, 0, 0, 0, 0, 0, 0] (by kernel_rfl) (by simp) ⟨(by simp; omega), (by simp [encC, fitP, fld, leafFits, V.cells, hk]), by simp; omega, by simp; omega, trivial⟩
      · exact LRuns.last (F := F) R89_ok (sh := Sh) (L := fun _ _ => .fail) (LGood.none (by kernel_rfl)) [(decide ((↑k : Int) < (↑(List.map encC l).length : Int)), true),
    (((List.map encC l).getD k V.undef).cells.length == 3 && fitP [TK.int IntKind.i64, TK.int IntKind.i64, TK.int IntKind.i64] 0 ((List.map encC l).getD k V.undef), true),
    (decide (Fd.ca l k ≥ 0), false)] [2, 0, 2, 3, 4, 4, 4, 4, 0, 0, 0, 0, 0, 0, 0, 0, 0, 0, 0, 0, 0, 0, 0, 0, 0, 0, 0, 0, 0, 0] (by kernel_rfl) (by simp) ⟨(by simp; omega), (by simp [encC, fitP, fld, leafFits, V.cells, hk]), by simp; omega, trivial⟩
theorem rchk_runs (n : Bool) (l : List Chk) : Runs T F 86 [.sl n (l.map encC)] [] (.int .i64 (P.chkE l), []) := by
  unfold P.chkE chkE
  by_cases hl : l.length > 40
  · rw [if_pos hl]
    exact Runs.way (F := F) (sh := Sh) (S := R89) (L := fun _ _ => .fail) R89_ok (fi := fi86) (by kernel_rfl) (fun _ _ _ _ h => by cases h) [(decide ((↑(List.map encC l).length : Int) > 40), true)] [2] (by kernel_rfl) ⟨by simp; omega, trivial⟩
  · rw [if_neg hl]
    have hq := rc_loop n l (by omega) l.length 0 (by omega)
    rw [List.drop_zero, Int.natCast_zero] at hq
    by_cases ho : l.all okCb = true
    · rw [if_pos ho]
      exact Runs.way (F := F) (sh := Sh) (S := R89) R89_ok (fi := fi86) (by kernel_rfl) (LGood.one (b := lb fi86 0) (k := 4) (σ0 := rcSt n l 0) (by kernel_rfl) (hq.1 ho)) [(decide ((↑(List.map encC l).length : Int) > 40), false),
    (is { env := [(0, V.sl n (List.map encC l)), (3, V.int IntKind.i64 0)], heap := [] } { env := [(0, V.sl n (List.map encC l)), (3, V.int IntKind.i64 0)], heap := [] }, true)] [2, 3] (by kernel_rfl) ⟨by simp; omega, is_eq (by simp), trivial⟩
    · rw [if_neg ho]
      exact Runs.way (F := F) (sh := Sh) (S := R89) R89_ok (fi := fi86) (by kernel_rfl) (LGood.one (b := lb fi86 0) (k := 4) (σ0 := rcSt n l 0) (by kernel_rfl) (hq.2 (by simpa using ho))) [(decide ((↑(List.map encC l).length : Int) > 40), false),
    (is { env := [(0, V.sl n (List.map encC l)), (3, V.int IntKind.i64 0)], heap := [] } { env := [(0, V.sl n (List.map encC l)), (3, V.int IntKind.i64 0)], heap := [] }, true)] [2, 3] (by kernel_rfl) ⟨by simp; omega, is_eq (by simp), trivial⟩
noncomputable def rchkS : List V → Heap → Tr (V × Heap) := fun a H => match a, H with
  | [.sl _ xs], [] => .must (eqB xs ((xs.map decC).map encC)) (.ret (.int .i64 (P.chkE (xs.map decC)), []))
  | _, _ => .fail
theorem rchkS_ok : ∀ a H r, (rchkS a H).run = some r → Runs T F 86 a H r := by
  intro a H r h
  unfold rchkS at h
  split at h
  · rename_i m xs
    obtain ⟨h0, h⟩ := Tr.must_some h
    have hr := ret_some h
    clear h
    subst hr
    have h0 := of_eqB h0
    generalize xs.map decC = l at *
    subst h0
    exact rchk_runs m l
  · cases h
noncomputable def R86 : Vm.Spec := R90.add 86 rchkS
theorem R86_ok : Vm.Good (vlim T F) R86 := R90_ok.add rchkS_ok
end Go.Proofs.Ytgmdkjiflhklaaa
