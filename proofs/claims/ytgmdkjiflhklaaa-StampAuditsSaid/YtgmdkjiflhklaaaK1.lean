/- K1: checked, of any checks. -/
import Derived.Test.YtgmdkjiflhklaaaK0
import Derived.Test.YtgmdkjiflhklaaaB6
namespace Go.Proofs.Ytgmdkjiflhklaaa
open Go Go.Vm

def inI (n : Int) : Bool := decide (-9223372036854775808 ≤ n) && decide (n ≤ 9223372036854775807)
theorem inI_iff {n : Int} : inI n = true ↔ -9223372036854775808 ≤ n ∧ n ≤ 9223372036854775807 := by simp [inI]
structure InC (c : Chk) : Prop where
  a : inI c.at_ = true
  l : inI c.lo = true
  h : inI c.hi = true
def inCb (c : Chk) : Bool := inI c.at_ && inI c.lo && inI c.hi
theorem inCb_iff {c : Chk} : inCb c = true ↔ InC c := by
  simp only [inCb, Bool.and_eq_true]
  exact ⟨fun h => ⟨h.1.1, h.1.2, h.2⟩, fun h => ⟨⟨h.a, h.l⟩, h.h⟩⟩
def Fd.ca (l : List Chk) (i : Nat) : Int := intOf (fld 0 ((l.map encC).getD i V.undef))
def Fd.cl (l : List Chk) (i : Nat) : Int := intOf (fld 1 ((l.map encC).getD i V.undef))
def Fd.ch (l : List Chk) (i : Nat) : Int := intOf (fld 2 ((l.map encC).getD i V.undef))
theorem ca_at (l : List Chk) (k : Nat) (h : k < l.length) : Fd.ca l k = l[k].at_ := by simp [Fd.ca, encC, h]
theorem cl_at (l : List Chk) (k : Nat) (h : k < l.length) : Fd.cl l k = l[k].lo := by simp [Fd.cl, encC, h]
theorem ch_at (l : List Chk) (k : Nat) (h : k < l.length) : Fd.ch l k = l[k].hi := by simp [Fd.ch, encC, h]
theorem win_one (m a : Int) : P.win m [a] = decide (0 ≤ a ∧ a ≤ m) := by simp [P.win]
theorem win_two (m a b : Int) : P.win m [a, b] = decide (0 ≤ a ∧ a ≤ m ∧ 0 ≤ b ∧ b ≤ m) := by
  rw [Bool.eq_iff_iff]; simp [P.win]; omega
theorem add_in {n m : Int} (hn : inI n = true) (h0 : 0 ≤ m) (h1 : m ≤ 1000000000) : (0 ≤ IntKind.i64.wrap (n + m) ∧ IntKind.i64.wrap (n + m) ≤ 2 * m) ↔ -m ≤ n ∧ n ≤ m := by
  rw [inI_iff] at hn
  by_cases h : n + m ≤ 9223372036854775807
  · rw [i64in (by omega) h]; omega
  · have : IntKind.i64.wrap (n + m) = n + m - 18446744073709551616 := by
      rw [IntKind.wrap_i64]; omega
    rw [this]; omega
theorem ok_iff {c : Chk} (h : InC c) : okCb c = true ↔ P.win 100000 [c.at_] = true ∧ P.win 200000000 [IntKind.i64.wrap (c.lo + 100000000), IntKind.i64.wrap (c.hi + 100000000)] = true ∧ c.lo ≤ c.hi := by
  have h1 := add_in (m := 100000000) h.l (by omega) (by omega)
  have h2 := add_in (m := 100000000) h.h (by omega) (by omega)
  rw [win_one, win_two, okCb]
  simp only [Bool.and_eq_true, decide_eq_true_eq]
  omega
theorem c_loop (n : Bool) (l : List Chk) (hl : l.length ≤ 40) (hc : ∀ c ∈ l, InC c) : ∀ (d k : Nat), k + d = l.length →
    ((l.drop k).all okCb = true → LRuns (vstep T (vlim T F) lplim fi40.cx 0 (lb fi40 0)) (cst n l k) (.exit 0, ⟨(cst n l l.length).env ++ [(11, .bool false)], []⟩)) ∧
    ((l.drop k).all okCb = false → ∃ cs, LRuns (vstep T (vlim T F) lplim fi40.cx 0 (lb fi40 0)) (cst n l k) (.ret, ⟨[(2, .int .i64 6)], [.cells cs]⟩))
  | 0, k, hd => by
    have hk : k = l.length := by omega
    subst hk
    rw [List.drop_length]
    refine ⟨fun _ => ?_, fun h => by cases h⟩
    have := LRuns.last (F := F) W44_ok (sh := Sh) (L := fun _ _ => .fail) (n := 0) (b := lb fi40 0) (cx := fi40.cx) (τ := cst n l l.length) (LGood.none (by kernel_rfl)) [(decide ((l.length : Int) < (l.length : Int)), false)] [2]
      (r := (.exit 0, ⟨(cst n l l.length).env ++ [(11, .bool (decide ((l.length : Int) < (l.length : Int))))], []⟩)) (by kernel_rfl) (by simp) ⟨by simp, trivial⟩
    simpa using this
  | d + 1, k, hd => by
    have hk : k < l.length := by omega
    have ih := c_loop n l hl hc d (k + 1) (by omega)
    have hw : IntKind.i64.wrap ((k : Int) + 1) = ((k + 1 : Nat) : Int) := by rw [i64in (by omega) (by omega)]; rfl
    have ga := ca_at l k hk
    have gl := cl_at l k hk
    have gh := ch_at l k hk
    have hq := ok_iff (hc l[k] (List.getElem_mem _))
    rw [← ga, ← gl, ← gh] at hq
    rw [List.drop_eq_getElem_cons hk, List.all_cons]
    by_cases h1 : P.win 100000 [Fd.ca l k] = true
    · by_cases h2 : P.win 200000000 [IntKind.i64.wrap (Fd.cl l k + 100000000), IntKind.i64.wrap (Fd.ch l k + 100000000)] = true
      · by_cases h3 : Fd.cl l k > Fd.ch l k
        · have ho : okCb l[k] = false := by rw [Bool.eq_false_iff, Ne, hq]; omega
          rw [ho, Bool.false_and]
          refine ⟨fun h => (by cases h), fun _ => ⟨[V.int IntKind.i64 (Fd.ca l k), V.int IntKind.i64 (Fd.cl l k), V.int IntKind.i64 (Fd.ch l k)], ?_⟩⟩
          exact LRuns.last (F := F) W44_ok (sh := Sh) (L := fun _ _ => .fail) (LGood.none (by kernel_rfl)) [(decide ((↑k : Int) < (↑l.length : Int)), true),
    (decide ((↑k : Int) < (↑(List.map encC l).length : Int)), true),
    (((List.map encC l).getD k V.undef).cells.length == 3 && fitP [TK.int IntKind.i64, TK.int IntKind.i64, TK.int IntKind.i64] 0 ((List.map encC l).getD k V.undef), true),
    (!P.win 100000 [Fd.ca l k], false),
    (!P.win 200000000 [IntKind.i64.wrap (Fd.cl l k + 100000000), IntKind.i64.wrap (Fd.ch l k + 100000000)], false),
    (decide (Fd.cl l k > Fd.ch l k), true)] [2, 0, 3, 4, 0, 0, 0, 5, 5, 5, 5, 5, 5, 5, 5, 0, 0, 0, 5, 5, 6, 6, 6, 6, 6, 6, 7] (by kernel_rfl) (by simp) ⟨by simp; omega, by simp; omega, by simp [encC, fitP, fld, leafFits, hk], by simp [h1], by simp [h2], decide_eq_true h3, trivial⟩
        · have ho : okCb l[k] = true := by rw [hq]; exact ⟨h1, h2, by omega⟩
          rw [ho, Bool.true_and]
          have hn : ∀ r, LRuns (vstep T (vlim T F) lplim fi40.cx 0 (lb fi40 0)) (cst n l (k + 1 : Nat)) r → LRuns (vstep T (vlim T F) lplim fi40.cx 0 (lb fi40 0)) (cst n l k) r := fun r hr => by
            refine LRuns.next (F := F) W44_ok (sh := Sh) (L := fun _ _ => .fail) (LGood.none (by kernel_rfl)) [(decide ((↑k : Int) < (↑l.length : Int)), true),
    (decide ((↑k : Int) < (↑(List.map encC l).length : Int)), true),
    (((List.map encC l).getD k V.undef).cells.length == 3 && fitP [TK.int IntKind.i64, TK.int IntKind.i64, TK.int IntKind.i64] 0 ((List.map encC l).getD k V.undef), true),
    (!P.win 100000 [Fd.ca l k], false),
    (!P.win 200000000 [IntKind.i64.wrap (Fd.cl l k + 100000000), IntKind.i64.wrap (Fd.ch l k + 100000000)], false),
    (decide (Fd.cl l k > Fd.ch l k), false)] [2, 0, 3, 4, 0, 0, 0, 5, 5, 5, 5, 5, 5, 5, 5, 0, 0, 0, 5, 5, 6, 6, 6, 6, 6, 6, 7] (τ' := cst n l (IntKind.i64.wrap ((k : Int) + 1))) (by kernel_rfl) ⟨by simp; omega, by simp; omega, by simp [encC, fitP, fld, leafFits, hk], by simp [h1], by simp [h2], decide_eq_false h3, trivial⟩ ?_
            rw [hw]; exact hr
          exact ⟨fun h => hn _ (ih.1 h), fun h => (ih.2 h).imp fun _ hr => hn _ hr⟩
      · have ho : okCb l[k] = false := by rw [Bool.eq_false_iff, Ne, hq]; exact fun h => h2 h.2.1
        rw [ho, Bool.false_and]
        refine ⟨fun h => (by cases h), fun _ => ⟨[V.int IntKind.i64 (Fd.ca l k), V.int IntKind.i64 (Fd.cl l k), V.int IntKind.i64 (Fd.ch l k)], ?_⟩⟩
        exact LRuns.last (F := F) W44_ok (sh := Sh) (L := fun _ _ => .fail) (LGood.none (by kernel_rfl)) [(decide ((↑k : Int) < (↑l.length : Int)), true),
    (decide ((↑k : Int) < (↑(List.map encC l).length : Int)), true),
    (((List.map encC l).getD k V.undef).cells.length == 3 && fitP [TK.int IntKind.i64, TK.int IntKind.i64, TK.int IntKind.i64] 0 ((List.map encC l).getD k V.undef), true),
    (!P.win 100000 [Fd.ca l k], false),
    (!P.win 200000000 [IntKind.i64.wrap (Fd.cl l k + 100000000), IntKind.i64.wrap (Fd.ch l k + 100000000)], true)] [2, 0, 3, 4, 0, 0, 0, 5, 5, 5, 5, 5, 5, 5, 5, 0, 0, 0, 5, 5, 6, 6, 6, 6, 6, 6, 0] (by kernel_rfl) (by simp) ⟨by simp; omega, by simp; omega, by simp [encC, fitP, fld, leafFits, hk], by simp [h1], by simp [h2], trivial⟩
    · have ho : okCb l[k] = false := by rw [Bool.eq_false_iff, Ne, hq]; exact fun h => h1 h.1
      rw [ho, Bool.false_and]
      refine ⟨fun h => (by cases h), fun _ => ⟨[V.int IntKind.i64 (Fd.ca l k), V.int IntKind.i64 (Fd.cl l k), V.int IntKind.i64 (Fd.ch l k)], ?_⟩⟩
      exact LRuns.last (F := F) W44_ok (sh := Sh) (L := fun _ _ => .fail) (LGood.none (by kernel_rfl)) [(decide ((↑k : Int) < (↑l.length : Int)), true),
    (decide ((↑k : Int) < (↑(List.map encC l).length : Int)), true),
    (((List.map encC l).getD k V.undef).cells.length == 3 && fitP [TK.int IntKind.i64, TK.int IntKind.i64, TK.int IntKind.i64] 0 ((List.map encC l).getD k V.undef), true),
    (!P.win 100000 [Fd.ca l k], true)] [2, 0, 3, 4, 0, 0, 0, 5, 5, 5, 5, 5, 5, 5, 5, 5, 5, 0, 0, 0, 0, 0, 0, 0] (by kernel_rfl) (by simp) ⟨by simp; omega, by simp; omega, by simp [encC, fitP, fld, leafFits, hk], by simp [h1], trivial⟩
def chkE (l : List Chk) : Int := if l.length > 40 then 2 else if l.all okCb then 0 else 6
namespace P
def chkE (l : List Chk) : Int := Go.Proofs.Ytgmdkjiflhklaaa.chkE l
end P
theorem chk_runs (n : Bool) (l : List Chk) (hc : ∀ c ∈ l, InC c) : Runs T F 40 [.sl n (l.map encC)] [] (.int .i64 (P.chkE l), []) := by
  unfold P.chkE chkE
  by_cases hl : l.length > 40
  · rw [if_pos hl]
    exact Runs.way (F := F) (sh := Sh) (S := W44) (L := fun _ _ => .fail) W44_ok (fi := fi40) (by kernel_rfl) (fun _ _ _ _ h => by cases h) [(decide ((↑(List.map encC l).length : Int) > 40), true)] [2] (by kernel_rfl) ⟨by simp; omega, trivial⟩
  · rw [if_neg hl]
    have hq := c_loop n l (by omega) hc l.length 0 (by omega)
    rw [List.drop_zero, Int.natCast_zero] at hq
    by_cases ho : l.all okCb = true
    · rw [if_pos ho]
      exact Runs.way (F := F) (sh := Sh) (S := W44) W44_ok (fi := fi40) (by kernel_rfl) (LGood.one (b := lb fi40 0) (k := 4) (σ0 := cst n l 0) (by kernel_rfl) (hq.1 ho)) [(decide ((↑(List.map encC l).length : Int) > 40), false),
    (is { env := [(8, V.sl n (List.map encC l)), (9, V.int IntKind.i64 (↑(List.map encC l).length : Int)), (10, V.int IntKind.i64 0)], heap := [] } { env := [(8, V.sl n (List.map encC l)), (9, V.int IntKind.i64 (↑l.length : Int)), (10, V.int IntKind.i64 0)], heap := [] }, true)] [2, 3] (by kernel_rfl) ⟨by simp; omega, is_eq (by simp [cst]), trivial⟩
    · rw [if_neg ho]
      obtain ⟨cs, hr⟩ := hq.2 (by simpa using ho)
      exact Runs.way (F := F) (sh := Sh) (S := W44) W44_ok (fi := fi40) (by kernel_rfl) (LGood.one (b := lb fi40 0) (k := 4) (σ0 := cst n l 0) (by kernel_rfl) hr) [(decide ((↑(List.map encC l).length : Int) > 40), false),
    (is { env := [(8, V.sl n (List.map encC l)), (9, V.int IntKind.i64 (↑(List.map encC l).length : Int)), (10, V.int IntKind.i64 0)], heap := [] } { env := [(8, V.sl n (List.map encC l)), (9, V.int IntKind.i64 (↑l.length : Int)), (10, V.int IntKind.i64 0)], heap := [] }, true)] [2, 3] (by kernel_rfl) ⟨by simp; omega, is_eq (by simp [cst]), trivial⟩
noncomputable def chkdS : List V → Heap → Tr (V × Heap) := fun a H => match a, H with
  | [.sl _ xs], [] => .must (eqB xs ((xs.map decC).map encC)) (.must ((xs.map decC).all inCb) (.ret (.int .i64 (P.chkE (xs.map decC)), [])))
  | _, _ => .fail
theorem chkdS_ok : ∀ a H r, (chkdS a H).run = some r → Runs T F 40 a H r := by
  intro a H r h
  unfold chkdS at h
  split at h
  · rename_i m xs
    obtain ⟨h0, h⟩ := Tr.must_some h
    obtain ⟨h1, h⟩ := Tr.must_some h
    have hr := ret_some h
    clear h
    subst hr
    have h0 := of_eqB h0
    generalize xs.map decC = l at *
    subst h0
    exact chk_runs m l fun c hc => inCb_iff.1 (List.all_eq_true.1 h1 c hc)
  · cases h
end Go.Proofs.Ytgmdkjiflhklaaa
