/- M3: the reference's Tight. -/
import Derived.Test.YtgmdkjiflhklaaaM2
namespace Go.Proofs.Ytgmdkjiflhklaaa
open Go Go.Vm
def rtA (n : Bool) (l : List Stp) (k : Int) : St := ⟨[(0, V.sl n (l.map encS)), (4, V.int IntKind.i64 k)], []⟩
theorem rta_loop (n : Bool) (l : List Stp) (hl : l.length ≤ 1000) : ∀ (m k : Nat), k + m = l.length →
    ((l.drop k).all inW = true → LRuns (vstep T (vlim T F) lplim fi63.cx 0 (lb fi63 0)) (rtA n l k) (.exit 0, ⟨(rtA n l l.length).env ++ [(15, .bool false)], []⟩)) ∧
    ((l.drop k).all inW = false → LRuns (vstep T (vlim T F) lplim fi63.cx 0 (lb fi63 0)) (rtA n l k) (.ret, ⟨[(2, .ex 2 true []), (3, .int .i64 6)], []⟩))
  | 0, k, hd => by
    have hk : k = l.length := by omega
    subst hk
    rw [List.drop_length]
    refine ⟨fun _ => ?_, fun h => by cases h⟩
    have := LRuns.last (F := F) U91_ok (sh := Sh) (L := fun _ _ => .fail) (n := 0) (b := lb fi63 0) (cx := fi63.cx) (τ := rtA n l l.length) (LGood.none (by kernel_rfl)) [(decide ((l.length : Int) < ((l.map encS).length : Int)), false)] [2]
      (r := (.exit 0, ⟨(rtA n l l.length).env ++ [(15, .bool (decide ((l.length : Int) < ((l.map encS).length : Int))))], []⟩)) (by kernel_rfl) (by simp) ⟨by simp, trivial⟩
    simpa using this
  | m + 1, k, hd => by
    have hk : k < l.length := by omega
    have ih := rta_loop n l hl m (k + 1) (by omega)
    have g2 := s2_at l k hk
    have g3 := s3_at l k hk
    have hq : inW l[k] = (decide (Fd.s2 l k ≥ 0) && decide (Fd.s2 l k ≤ 1000000000000000) && (decide (Fd.s3 l k ≥ 0) && decide (Fd.s3 l k ≤ 1000000000000000))) := by
      rw [g2, g3, ← win_pair]; rfl
    rw [List.drop_eq_getElem_cons hk, List.all_cons, hq]
    by_cases h1 : Fd.s2 l k ≥ 0
    · by_cases h2 : Fd.s2 l k ≤ 1000000000000000
      · by_cases h3 : Fd.s3 l k ≥ 0
        · by_cases h4 : Fd.s3 l k ≤ 1000000000000000
          · have e : (decide (Fd.s2 l k ≥ 0) && decide (Fd.s2 l k ≤ 1000000000000000) && (decide (Fd.s3 l k ≥ 0) && decide (Fd.s3 l k ≤ 1000000000000000))) = true := by simp [h1, h2, h3, h4]
            rw [e, Bool.true_and]
            have hn : ∀ r, LRuns (vstep T (vlim T F) lplim fi63.cx 0 (lb fi63 0)) (rtA n l (k + 1 : Nat)) r → LRuns (vstep T (vlim T F) lplim fi63.cx 0 (lb fi63 0)) (rtA n l k) r := fun r hr => by
              refine LRuns.next (F := F) U91_ok (sh := Sh) (L := fun _ _ => .fail) (LGood.none (by kernel_rfl)) [(decide ((↑k : Int) < (↑(List.map encS l).length : Int)), true),
    (((List.map encS l).getD k V.undef).cells.length == 5 && fitP [TK.int IntKind.i64, TK.int IntKind.u64, TK.int IntKind.i64, TK.int IntKind.i64, TK.int IntKind.u64] 0 ((List.map encS l).getD k V.undef), true),
    (decide (Fd.s2 l k ≥ 0), true),
    (!decide (Fd.s2 l k ≤ 1000000000000000), false),
    (decide (Fd.s3 l k ≥ 0), true),
    (!decide (Fd.s3 l k ≤ 1000000000000000), false)] [2, 0, 2, 3, 4, 4, 4, 4, 5, 5, 5, 0, 2, 3, 5, 5, 5, 6, 6, 6, 6, 5, 5, 7] (τ' := rtA n l (IntKind.i64.wrap ((k : Int) + 1))) (by kernel_rfl) ⟨(by simp; omega), (by simp [encS, fitP, fld, leafFits, V.cells, hk]), decide_eq_true h1, by simp [h2], decide_eq_true h3, by simp [h4], trivial⟩ ?_
              rw [len_wrap (by omega)]; exact hr
            exact ⟨fun h => hn _ (ih.1 h), fun h => hn _ (ih.2 h)⟩
          · refine ⟨fun h => (by simp [h4] at h), fun _ => ?_⟩
            exact LRuns.last (F := F) U91_ok (sh := Sh) (L := fun _ _ => .fail) (LGood.none (by kernel_rfl)) [(decide ((↑k : Int) < (↑(List.map encS l).length : Int)), true),
    (((List.map encS l).getD k V.undef).cells.length == 5 && fitP [TK.int IntKind.i64, TK.int IntKind.u64, TK.int IntKind.i64, TK.int IntKind.i64, TK.int IntKind.u64] 0 ((List.map encS l).getD k V.undef), true),
    (decide (Fd.s2 l k ≥ 0), true),
    (!decide (Fd.s2 l k ≤ 1000000000000000), false),
    (decide (Fd.s3 l k ≥ 0), true),
    (!decide (Fd.s3 l k ≤ 1000000000000000), true)] [2, 0, 2, 3, 4, 4, 4, 4, 5, 5, 5, 0, 2, 3, 5, 5, 5, 6, 6, 6, 6, 5, 5, 7] (by kernel_rfl) (by simp) ⟨(by simp; omega), (by simp [encS, fitP, fld, leafFits, V.cells, hk]), decide_eq_true h1, by simp [h2], decide_eq_true h3, by simp [h4], trivial⟩
        · refine ⟨fun h => (by simp [h3] at h), fun _ => ?_⟩
          exact LRuns.last (F := F) U91_ok (sh := Sh) (L := fun _ _ => .fail) (LGood.none (by kernel_rfl)) [(decide ((↑k : Int) < (↑(List.map encS l).length : Int)), true),
    (((List.map encS l).getD k V.undef).cells.length == 5 && fitP [TK.int IntKind.i64, TK.int IntKind.u64, TK.int IntKind.i64, TK.int IntKind.i64, TK.int IntKind.u64] 0 ((List.map encS l).getD k V.undef), true),
    (decide (Fd.s2 l k ≥ 0), true),
    (!decide (Fd.s2 l k ≤ 1000000000000000), false),
    (decide (Fd.s3 l k ≥ 0), false)] [2, 0, 2, 3, 4, 4, 4, 4, 5, 5, 5, 0, 2, 3, 5, 5, 5, 6, 6, 6, 6, 5, 5, 0] (by kernel_rfl) (by simp) ⟨(by simp; omega), (by simp [encS, fitP, fld, leafFits, V.cells, hk]), decide_eq_true h1, by simp [h2], decide_eq_false h3, trivial⟩
      · refine ⟨fun h => (by simp [h2] at h), fun _ => ?_⟩
        exact LRuns.last (F := F) U91_ok (sh := Sh) (L := fun _ _ => .fail) (LGood.none (by kernel_rfl)) [(decide ((↑k : Int) < (↑(List.map encS l).length : Int)), true),
    (((List.map encS l).getD k V.undef).cells.length == 5 && fitP [TK.int IntKind.i64, TK.int IntKind.u64, TK.int IntKind.i64, TK.int IntKind.i64, TK.int IntKind.u64] 0 ((List.map encS l).getD k V.undef), true),
    (decide (Fd.s2 l k ≥ 0), true),
    (!decide (Fd.s2 l k ≤ 1000000000000000), true)] [2, 0, 2, 3, 4, 4, 4, 4, 5, 5, 5, 5, 5, 5, 5, 5, 0] (by kernel_rfl) (by simp) ⟨(by simp; omega), (by simp [encS, fitP, fld, leafFits, V.cells, hk]), decide_eq_true h1, by simp [h2], trivial⟩
    · refine ⟨fun h => (by simp [h1] at h), fun _ => ?_⟩
      exact LRuns.last (F := F) U91_ok (sh := Sh) (L := fun _ _ => .fail) (LGood.none (by kernel_rfl)) [(decide ((↑k : Int) < (↑(List.map encS l).length : Int)), true),
    (((List.map encS l).getD k V.undef).cells.length == 5 && fitP [TK.int IntKind.i64, TK.int IntKind.u64, TK.int IntKind.i64, TK.int IntKind.i64, TK.int IntKind.u64] 0 ((List.map encS l).getD k V.undef), true),
    (decide (Fd.s2 l k ≥ 0), false)] [2, 0, 2, 3, 4, 4, 4, 4, 0, 0, 0, 0, 0, 0, 0, 0, 0] (by kernel_rfl) (by simp) ⟨(by simp; omega), (by simp [encS, fitP, fld, leafFits, V.cells, hk]), decide_eq_false h1, trivial⟩
def rtO (n : Bool) (l : List Stp) (o : List (Int × Int)) (i : Int) : St := ⟨[(0, V.sl n (l.map encS)), (5, V.ex 2 o.isEmpty (o.map encP)), (6, V.int IntKind.i64 i)], []⟩
def rtI (n : Bool) (l : List Stp) (o : List (Int × Int)) (i : Int) (a b k : Int) : St := ⟨[(0, V.sl n (l.map encS)), (5, V.ex 2 o.isEmpty (o.map encP)), (6, V.int IntKind.i64 i), (7, .ptr 0 0), (8, .int .i64 k)], [.cells [.int .i64 a, .int .i64 b]]⟩
/-- The tight span of a stamp, by all others. -/
def tin (l : List Stp) (i : Nat) : Nat → Nat → Int × Int → Int × Int
  | 0, _, q => q
  | m + 1, k, q => tin l i m (k + 1) (if k < i then max q.1 (l.getD k noS).lo else q.1, if k > i then min q.2 (l.getD k noS).hi else q.2)
def tsp (l : List Stp) (i : Nat) : Int × Int := tin l i l.length 0 ((l.getD i noS).lo, (l.getD i noS).hi)
theorem rti_loop (n : Bool) (l : List Stp) (hl : l.length ≤ 1000) (o : List (Int × Int)) {i : Nat} : ∀ (m k : Nat) (a b : Int), k + m = l.length →
    LRuns (vstep T (vlim T F) lplim fi63.cx 1 (lb fi63 2)) (rtI n l o i a b k) (.exit 4, ⟨(rtI n l o i (tin l i m k (a, b)).1 (tin l i m k (a, b)).2 l.length).env ++ [(54, .bool false)], (rtI n l o i (tin l i m k (a, b)).1 (tin l i m k (a, b)).2 0).heap⟩)
  | 0, k, a, b, hd => by
    have hk : k = l.length := by omega
    subst hk
    have := LRuns.last (F := F) U91_ok (sh := Sh) (L := fun _ _ => .fail) (n := 1) (b := lb fi63 2) (cx := fi63.cx) (τ := rtI n l o i a b l.length) (LGood.none (by kernel_rfl)) [(decide ((l.length : Int) < ((l.map encS).length : Int)), false)] [2]
      (r := (.exit 4, ⟨(rtI n l o i a b l.length).env ++ [(54, .bool (decide ((l.length : Int) < ((l.map encS).length : Int))))], (rtI n l o i a b 0).heap⟩)) (by kernel_rfl) (by simp) ⟨by simp, trivial⟩
    simpa [tin] using this
  | m + 1, k, a, b, hd => by
    have hk : k < l.length := by omega
    have g2 := s2_at l k hk
    have g3 := s3_at l k hk
    have e1 : ∀ a b : Int, (if if true = true then a > b else a < b then a else b) = max b a := fun a b => by simp; omega
    have e2 : ∀ a b : Int, (if if false = true then a > b else a < b then a else b) = min b a := fun a b => by simp; omega
    have ih := rti_loop n l hl o (i := i) m (k + 1) (if k < i then max a (l.getD k noS).lo else a) (if k > i then min b (l.getD k noS).hi else b) (by omega)
    simp only [tin]
    rw [getD_at hk, ← g2, ← g3] at ih ⊢
    by_cases h1 : k < i
    · have h2 : ¬ k > i := by omega
      rw [if_pos h1, if_neg h2] at ih ⊢
      refine LRuns.next (F := F) U91_ok (sh := Sh) (L := fun _ _ => .fail) (LGood.none (by kernel_rfl)) [(decide ((↑k : Int) < (↑(List.map encS l).length : Int)), true),
    (decide ((↑k : Int) < (↑i : Int)), true),
    (((List.map encS l).getD k V.undef).cells.length == 5 && fitP [TK.int IntKind.i64, TK.int IntKind.u64, TK.int IntKind.i64, TK.int IntKind.i64, TK.int IntKind.u64] 0 ((List.map encS l).getD k V.undef), true),
    (decide ((↑k : Int) > (↑i : Int)), false)] [2, 3, 0, 2, 4, 5] (τ' := { env := [(0, V.sl n (List.map encS l)), (5, V.ex 2 ((o).isEmpty) (List.map encP o)), (6, V.int IntKind.i64 (↑i : Int)), (7, V.ptr 0 0), (8, V.int IntKind.i64 (IntKind.i64.wrap ((↑k : Int) + 1)))], heap := [B.cells [V.int IntKind.i64 (if if true = true then Fd.s2 l k > a else Fd.s2 l k < a then Fd.s2 l k else a), V.int IntKind.i64 b]] }) (by kernel_rfl) (by refine ⟨?_, ?_, ?_, ?_, trivial⟩; all_goals first | (simp; omega) | (simp [encS, fitP, fld, leafFits, V.cells, hk]; done)) ?_
      rw [len_wrap (by omega), e1]; exact ih
    · by_cases h2 : k > i
      · rw [if_neg h1, if_pos h2] at ih ⊢
        refine LRuns.next (F := F) U91_ok (sh := Sh) (L := fun _ _ => .fail) (LGood.none (by kernel_rfl)) [(decide ((↑k : Int) < (↑(List.map encS l).length : Int)), true),
    (decide ((↑k : Int) < (↑i : Int)), false),
    (decide ((↑k : Int) > (↑i : Int)), true),
    (((List.map encS l).getD k V.undef).cells.length == 5 && fitP [TK.int IntKind.i64, TK.int IntKind.u64, TK.int IntKind.i64, TK.int IntKind.i64, TK.int IntKind.u64] 0 ((List.map encS l).getD k V.undef), true)] [2, 3, 4, 0, 2, 5] (τ' := { env := [(0, V.sl n (List.map encS l)), (5, V.ex 2 ((o).isEmpty) (List.map encP o)), (6, V.int IntKind.i64 (↑i : Int)), (7, V.ptr 0 0), (8, V.int IntKind.i64 (IntKind.i64.wrap ((↑k : Int) + 1)))], heap := [B.cells [V.int IntKind.i64 a, V.int IntKind.i64 (if if false = true then Fd.s3 l k > b else Fd.s3 l k < b then Fd.s3 l k else b)]] }) (by kernel_rfl) (by refine ⟨?_, ?_, ?_, ?_, trivial⟩; all_goals first | (simp; omega) | (simp [encS, fitP, fld, leafFits, V.cells, hk]; done)) ?_
        rw [len_wrap (by omega), e2]; exact ih
      · rw [if_neg h1, if_neg h2] at ih ⊢
        refine LRuns.next (F := F) U91_ok (sh := Sh) (L := fun _ _ => .fail) (LGood.none (by kernel_rfl)) [(decide ((↑k : Int) < (↑(List.map encS l).length : Int)), true),
    (decide ((↑k : Int) < (↑i : Int)), false),
    (decide ((↑k : Int) > (↑i : Int)), false)] [2, 3, 4] (τ' := { env := [(0, V.sl n (List.map encS l)), (5, V.ex 2 ((o).isEmpty) (List.map encP o)), (6, V.int IntKind.i64 (↑i : Int)), (7, V.ptr 0 0), (8, V.int IntKind.i64 (IntKind.i64.wrap ((↑k : Int) + 1)))], heap := [B.cells [V.int IntKind.i64 a, V.int IntKind.i64 b]] }) (by kernel_rfl) (by refine ⟨?_, ?_, ?_, trivial⟩; all_goals first | (simp; omega) | (simp [encS, fitP, fld, leafFits, V.cells, hk]; done)) ?_
        rw [len_wrap (by omega)]; exact ih
def bad (q : Int × Int) : Bool := decide (q.1 > q.2)
/-- All tight spans from the i-th on. -/
def tspF (l : List Stp) : Nat → Nat → List (Int × Int)
  | 0, _ => []
  | m + 1, i => tsp l i :: tspF l m (i + 1)
theorem rto_loop (n : Bool) (l : List Stp) (hl : l.length ≤ 1000) : ∀ (m i : Nat) (o : List (Int × Int)), i + m = l.length → o.length = i →
    ((tspF l m i).any bad = false → LRuns (vstep T (vlim T F) lplim fi63.cx 0 (lb fi63 1)) (rtO n l o i) (.exit 2, ⟨(rtO n l (o ++ tspF l m i) l.length).env ++ [(37, .bool false)], []⟩)) ∧
    ((tspF l m i).any bad = true → ∃ c, LRuns (vstep T (vlim T F) lplim fi63.cx 0 (lb fi63 1)) (rtO n l o i) (.ret, ⟨[(2, .ex 2 true []), (3, .int .i64 12)], [.cells c]⟩))
  | 0, i, o, hd, ho => by
    have hi : i = l.length := by omega
    subst hi
    refine ⟨fun _ => ?_, fun h => by cases h⟩
    have := LRuns.last (F := F) U91_ok (sh := Sh) (L := loopsIs []) (n := 0) (b := lb fi63 1) (cx := fi63.cx) (τ := rtO n l o l.length) (LGood.is (l := []) (fun _ _ x hx => by cases hx)) [(decide ((l.length : Int) < ((l.map encS).length : Int)), false)] [2]
      (r := (.exit 2, ⟨(rtO n l o l.length).env ++ [(37, .bool (decide ((l.length : Int) < ((l.map encS).length : Int))))], []⟩)) (by kernel_rfl) (by simp) ⟨by simp, trivial⟩
    simpa [tspF] using this
  | m + 1, i, o, hd, ho => by
    have hi : i < l.length := by omega
    have hk := hi
    have g2 := s2_at l i hi
    have g3 := s3_at l i hi
    have hin := rti_loop n l hl o (i := i) l.length 0 (Fd.s2 l i) (Fd.s3 l i) (by omega)
    have ht : tin l i l.length 0 (Fd.s2 l i, Fd.s3 l i) = tsp l i := by unfold tsp; rw [getD_at hi, g2, g3]
    rw [ht, Int.natCast_zero] at hin
    have ih := rto_loop n l hl m (i + 1) (o ++ [tsp l i]) (by omega) (by simp [ho])
    rw [List.append_assoc, List.singleton_append] at ih
    simp only [tspF, List.any_cons]
    generalize hq : tsp l i = q at *
    obtain ⟨a, b⟩ := q
    simp only at hin
    have hL : LGood T (vlim T F) lplim fi63.cx (loopsIs [(14, rtI n l o i (Fd.s2 l i) (Fd.s3 l i) 0, (.exit 4, ⟨(rtI n l o i a b l.length).env ++ [(54, .bool false)], (rtI n l o i a b 0).heap⟩))]) (lb fi63 1) := LGood.one (b := lb fi63 2) (by kernel_rfl) hin
    by_cases hb : a > b
    · have e : bad (a, b) = true := decide_eq_true hb
      rw [e, Bool.true_or]
      refine ⟨fun h => (by cases h), fun _ => ?_⟩
      refine ⟨_, LRuns.last (F := F) U91_ok (sh := Sh) hL [(decide ((↑i : Int) < (↑(List.map encS l).length : Int)), true),
    (((List.map encS l).getD i V.undef).cells.length == 5 && fitP [TK.int IntKind.i64, TK.int IntKind.u64, TK.int IntKind.i64, TK.int IntKind.i64, TK.int IntKind.u64] 0 ((List.map encS l).getD i V.undef), true),
    (is { env := [(0, V.sl n (List.map encS l)), (5, V.ex 2 ((o).isEmpty) (List.map encP o)), (6, V.int IntKind.i64 (↑i : Int)), (7, V.ptr 0 0), (8, V.int IntKind.i64 0)], heap := [B.cells [V.int IntKind.i64 (Fd.s2 l i), V.int IntKind.i64 (Fd.s3 l i)]] } { env := [(0, V.sl n (List.map encS l)), (5, V.ex 2 ((o).isEmpty) (List.map encP o)), (6, V.int IntKind.i64 (↑i : Int)), (7, V.ptr 0 0), (8, V.int IntKind.i64 0)], heap := [B.cells [V.int IntKind.i64 (Fd.s2 l i), V.int IntKind.i64 (Fd.s3 l i)]] }, true),
    (decide (a > b), true)] [2, 0, 2, 3, 0, 2, 3, 4, 5] (r := (Ex.ret, { env := [(2, V.ex 2 true []), (3, V.int IntKind.i64 12)], heap := [B.cells [V.int IntKind.i64 a, V.int IntKind.i64 b]] })) (by kernel_rfl) (by simp) ⟨(by simp; omega), (by simp [encS, fitP, fld, leafFits, V.cells, hk]), is_eq (by simp [rtI]), decide_eq_true hb, trivial⟩⟩
    · have e : bad (a, b) = false := decide_eq_false hb
      rw [e, Bool.false_or]
      have ee : ∀ x, (o ++ [x]).isEmpty = false := by intro x; cases o <;> rfl
      have hn : ∀ r, LRuns (vstep T (vlim T F) lplim fi63.cx 0 (lb fi63 1)) (rtO n l (o ++ [(a, b)]) (i + 1 : Nat)) r → LRuns (vstep T (vlim T F) lplim fi63.cx 0 (lb fi63 1)) (rtO n l o i) r := fun r hr => by
        refine LRuns.next (F := F) U91_ok (sh := Sh) hL [(decide ((↑i : Int) < (↑(List.map encS l).length : Int)), true),
    (((List.map encS l).getD i V.undef).cells.length == 5 && fitP [TK.int IntKind.i64, TK.int IntKind.u64, TK.int IntKind.i64, TK.int IntKind.i64, TK.int IntKind.u64] 0 ((List.map encS l).getD i V.undef), true),
    (is { env := [(0, V.sl n (List.map encS l)), (5, V.ex 2 ((o).isEmpty) (List.map encP o)), (6, V.int IntKind.i64 (↑i : Int)), (7, V.ptr 0 0), (8, V.int IntKind.i64 0)], heap := [B.cells [V.int IntKind.i64 (Fd.s2 l i), V.int IntKind.i64 (Fd.s3 l i)]] } { env := [(0, V.sl n (List.map encS l)), (5, V.ex 2 ((o).isEmpty) (List.map encP o)), (6, V.int IntKind.i64 (↑i : Int)), (7, V.ptr 0 0), (8, V.int IntKind.i64 0)], heap := [B.cells [V.int IntKind.i64 (Fd.s2 l i), V.int IntKind.i64 (Fd.s3 l i)]] }, true),
    (decide (a > b), false),
    (rooms ((List.map encP o).length + 1) 16, true),
    (decide ((List.map encP o).length + 1 < 4611686018427387904), true)] [2, 0, 2, 3, 0, 2, 3, 4, 5, 6, 7, 0] (τ' := { env := [(0, V.sl n (List.map encS l)), (5, V.ex 2 (((o).isEmpty) && false) (Fd.Y o a b)), (6, V.int IntKind.i64 (IntKind.i64.wrap ((↑i : Int) + 1)))], heap := [] }) (by kernel_rfl) ?_ ?_
        · refine ⟨?_, ?_, ?_, ?_, ?_, ?_, trivial⟩
          all_goals first
            | exact is_eq (by simp [rtI])
            | exact decide_eq_false hb
            | (simp; omega)
            | (simp [encS, fitP, fld, leafFits, V.cells, hk]; done)
            | (simp [rooms, maxRoom]; omega)
        · rw [len_wrap (by omega), Y_eq]
          simpa [rtO, ee] using hr
      exact ⟨fun h => hn _ (ih.1 h), fun h => (ih.2 h).imp fun _ hr => hn _ hr⟩
/-- What a tight span is. -/
structure Tgt (l : List Stp) (i : Nat) (q : Int × Int) : Prop where
  a1 : ∀ j (hj : j < l.length), j ≤ i → l[j].lo ≤ q.1
  a2 : ∃ j, ∃ hj : j < l.length, j ≤ i ∧ q.1 = l[j].lo
  b1 : ∀ j (hj : j < l.length), i ≤ j → q.2 ≤ l[j].hi
  b2 : ∃ j, ∃ hj : j < l.length, i ≤ j ∧ q.2 = l[j].hi
theorem Tgt.eq {l : List Stp} {i : Nat} {p q : Int × Int} (hp : Tgt l i p) (hq : Tgt l i q) : p = q := by
  obtain ⟨j1, k1, l1, e1⟩ := hp.a2
  obtain ⟨j2, k2, l2, e2⟩ := hq.a2
  obtain ⟨j3, k3, l3, e3⟩ := hp.b2
  obtain ⟨j4, k4, l4, e4⟩ := hq.b2
  have := hp.a1 j2 k2 l2
  have := hq.a1 j1 k1 l1
  have := hp.b1 j4 k4 l4
  have := hq.b1 j3 k3 l3
  exact Prod.ext (by omega) (by omega)
theorem tin_tgt (l : List Stp) {i : Nat} (hi : i < l.length) : ∀ (m k : Nat) (q : Int × Int), k + m = l.length →
    (∀ j (hj : j < l.length), (j = i ∨ (j < k ∧ j ≤ i)) → l[j].lo ≤ q.1) → (∃ j, ∃ hj : j < l.length, j ≤ i ∧ q.1 = l[j].lo) →
    (∀ j (hj : j < l.length), (j = i ∨ (j < k ∧ i ≤ j)) → q.2 ≤ l[j].hi) → (∃ j, ∃ hj : j < l.length, i ≤ j ∧ q.2 = l[j].hi) → Tgt l i (tin l i m k q)
  | 0, k, q, hd, h1, h2, h3, h4 => ⟨fun j hj hji => h1 j hj (.inr ⟨by omega, hji⟩), h2, fun j hj hji => h3 j hj (.inr ⟨by omega, hji⟩), h4⟩
  | m + 1, k, q, hd, h1, h2, h3, h4 => by
    have hk : k < l.length := by omega
    simp only [tin, getD_at hk]
    refine tin_tgt l hi m (k + 1) _ (by omega) (fun j hj hji => ?_) ?_ (fun j hj hji => ?_) ?_
    · simp only
      by_cases hjk : j = k
      · subst hjk
        by_cases hlt : j < i
        · rw [if_pos hlt]; omega
        · rw [if_neg hlt]; exact h1 j hj (.inl (by omega))
      · have := h1 j hj (by omega)
        split <;> omega
    · simp only
      by_cases hlt : k < i
      · rw [if_pos hlt]
        by_cases hm : q.1 ≤ l[k].lo
        · exact ⟨k, hk, by omega, by omega⟩
        · obtain ⟨j, hj, hji, e⟩ := h2; exact ⟨j, hj, hji, by omega⟩
      · rw [if_neg hlt]; exact h2
    · simp only
      by_cases hjk : j = k
      · subst hjk
        by_cases hlt : j > i
        · rw [if_pos hlt]; omega
        · rw [if_neg hlt]; exact h3 j hj (.inl (by omega))
      · have := h3 j hj (by omega)
        split <;> omega
    · simp only
      by_cases hlt : k > i
      · rw [if_pos hlt]
        by_cases hm : l[k].hi ≤ q.2
        · exact ⟨k, hk, by omega, by omega⟩
        · obtain ⟨j, hj, hji, e⟩ := h4; exact ⟨j, hj, hji, by omega⟩
      · rw [if_neg hlt]; exact h4
theorem tsp_tgt (l : List Stp) {i : Nat} (hi : i < l.length) : Tgt l i (tsp l i) := by
  unfold tsp
  rw [getD_at hi]
  refine tin_tgt l hi l.length 0 _ (by omega) (fun j hj h => ?_) ⟨i, hi, Nat.le_refl _, rfl⟩ (fun j hj h => ?_) ⟨i, hi, Nat.le_refl _, rfl⟩
  · rcases h with rfl | ⟨h, _⟩
    · exact Int.le_refl _
    · omega
  · rcases h with rfl | ⟨h, _⟩
    · exact Int.le_refl _
    · omega
theorem pre_spec : ∀ (l : List Stp) (m : Int) (i : Nat) (hi : i < (pre l m).length) (hi' : i < l.length), (∀ s ∈ l, m ≤ s.lo ∨ m ≤ m) → (pre l m)[i].2 = l[i].hi ∧ m ≤ (pre l m)[i].1 ∧
    (∀ j (hj : j < l.length), j ≤ i → l[j].lo ≤ (pre l m)[i].1) ∧ ((pre l m)[i].1 = m ∨ ∃ j, ∃ hj : j < l.length, j ≤ i ∧ (pre l m)[i].1 = l[j].lo)
  | s :: l, m, 0, hi, hi', _ => by
    simp only [pre_cons, List.getElem_cons_zero]
    refine ⟨trivial, by omega, fun j hj hji => ?_, ?_⟩
    · have : j = 0 := by omega
      subst this
      simp only [List.getElem_cons_zero]; omega
    · by_cases h : s.lo ≤ m
      · left; omega
      · right; exact ⟨0, by simp, Nat.le_refl _, by simp only [List.getElem_cons_zero]; omega⟩
  | s :: l, m, i + 1, hi, hi', _ => by
    have h1 : i < l.length := by simpa using hi'
    have ih := pre_spec l (max s.lo m) i (by rw [pre_len]; exact h1) h1 (fun _ _ => .inr (Int.le_refl _))
    simp only [pre_cons, List.getElem_cons_succ]
    refine ⟨ih.1, by omega, fun j hj hji => ?_, ?_⟩
    · cases j with
      | zero => simp only [List.getElem_cons_zero]; omega
      | succ j => simpa using ih.2.2.1 j (by simpa using hj) (by omega)
    · rcases ih.2.2.2 with e | ⟨j, hj, hji, e⟩
      · by_cases h : s.lo ≤ m
        · left; omega
        · right; exact ⟨0, by simp, by omega, by simp only [List.getElem_cons_zero]; omega⟩
      · right; exact ⟨j + 1, by simpa using hj, by omega, by simpa using e⟩
theorem sm_chain (o : List (Int × Int)) : ∀ (d i : Nat) (hi : i + d < o.length), ((sm o)[i]'(by rw [sm_length]; omega)).2 ≤ ((sm o)[i + d]'(by rw [sm_length]; exact hi)).2
  | 0, i, hi => Int.le_refl _
  | d + 1, i, hi => by
    have h1 := sm_chain o d i (by omega)
    have h2 := (sm_spec o (i + d) (by omega)).2.2.1 (by omega)
    exact Int.le_trans h1 h2
theorem ti_tgt (l : List Stp) (ha : l.all inW = true) {i : Nat} (hi : i < l.length) : Tgt l i ((P.ti l)[i]'(by unfold P.ti; rw [sm_length, pre_len]; exact hi)) := by
  have hpl := pre_len l (-1)
  have hlo : ∀ j (hj : j < l.length), 0 ≤ l[j].lo := fun j hj => by
    have := List.all_eq_true.1 ha l[j] (List.getElem_mem _)
    unfold inW at this
    rw [win_pair] at this
    simp at this
    omega
  have hP := fun j (hj : j < l.length) => pre_spec l (-1) j (by omega) hj (fun _ _ => .inr (Int.le_refl _))
  have hs := sm_spec (pre l (-1)) i (by omega)
  have hq : ∀ j (hj : j < l.length), i ≤ j → ((sm (pre l (-1)))[i]'(by rw [sm_length]; omega)).2 ≤ l[j].hi := fun j hj hij => by
    have h1 := sm_chain (pre l (-1)) (j - i) i (by omega)
    have h2 := (sm_spec (pre l (-1)) j (by omega)).2.1
    have e : i + (j - i) = j := by omega
    simp only [e] at h1
    have := (hP j hj).1
    omega
  show Tgt l i ((sm (pre l (-1)))[i]'(by rw [sm_length, pre_len]; exact hi))
  refine ⟨fun j hj hji => ?_, ?_, hq, ?_⟩
  · rw [hs.1]; exact (hP i hi).2.2.1 j hj hji
  · rw [hs.1]
    rcases (hP i hi).2.2.2 with e | h
    · have := (hP i hi).2.2.1 0 (by omega) (by omega)
      have := hlo 0 (by omega)
      omega
    · exact h
  · by_cases hex : ∃ j, ∃ hj : j < l.length, i ≤ j ∧ l[j].hi ≤ ((sm (pre l (-1)))[i]'(by rw [sm_length]; omega)).2
    · obtain ⟨j, hj, hij, h⟩ := hex
      have := hq j hj hij
      exact ⟨j, hj, hij, by omega⟩
    · have h3 := hs.2.2.2 (((sm (pre l (-1)))[i]'(by rw [sm_length]; omega)).2 + 1) (fun j hj hij => by
        have h4 : ¬ l[j].hi ≤ ((sm (pre l (-1)))[i]'(by rw [sm_length]; omega)).2 := fun h => hex ⟨j, by omega, hij, h⟩
        have := (hP j (by omega)).1
        omega)
      omega
theorem tspF_len (l : List Stp) : ∀ m i, (tspF l m i).length = m
  | 0, _ => rfl
  | m + 1, i => by simp only [tspF, List.length_cons, tspF_len l m (i + 1)]
theorem tspF_get (l : List Stp) : ∀ m i j (hj : j < (tspF l m i).length), (tspF l m i)[j] = tsp l (i + j)
  | m + 1, i, 0, hj => rfl
  | m + 1, i, j + 1, hj => by
    have h := tspF_get l m (i + 1) j (by simpa [tspF] using hj)
    simp only [tspF, List.getElem_cons_succ]
    rw [h]; congr 1; omega
theorem tspF_ti (l : List Stp) (ha : l.all inW = true) : tspF l l.length 0 = P.ti l := by
  have h1 : (P.ti l).length = l.length := by unfold P.ti; rw [sm_length, pre_len]
  refine List.ext_getElem (by rw [tspF_len, h1]) fun i hi hi' => ?_
  rw [tspF_get, Nat.zero_add]
  exact (tsp_tgt l (by omega)).eq (ti_tgt l ha (by omega))
theorem rtight_runs (n : Bool) (l : List Stp) : Runs T F 63 [.sl n (l.map encS)] [] (.tup [if P.tiE l = 0 then .ex 2 (P.ti l).isEmpty ((P.ti l).map encP) else .ex 2 true [], .int .i64 (P.tiE l)], []) := by
  have e0 : loopsOf fi63.body = [lb fi63 0, lb fi63 1, lb fi63 2] := by kernel_rfl
  have f0 : firstRegion (lb fi63 0) = 4 := by kernel_rfl
  have f1 : firstRegion (lb fi63 1) = 10 := by kernel_rfl
  have f2 : firstRegion (lb fi63 2) = 14 := by kernel_rfl
  by_cases hl : l.length > 1000
  · have e : P.tiE l = 2 := by simp only [P.tiE, if_pos hl]
    rw [e, if_neg (by decide)]
    exact Runs.way (F := F) (sh := Sh) (S := U91) U91_ok (fi := fi63) (by kernel_rfl) (L := fun _ _ => .fail) (fun _ _ _ _ h => by cases h) [(decide ((↑(List.map encS l).length : Int) > 1000), true)] [2] (by kernel_rfl) ⟨by simp; omega, trivial⟩
  · have hr := rta_loop n l (by omega) l.length 0 (by omega)
    rw [List.drop_zero] at hr
    by_cases ha : l.all inW = true
    · have h1 := hr.1 ha
      have h2 := rto_loop n l (by omega) l.length 0 [] (by omega) rfl
      rw [tspF_ti l ha, List.nil_append] at h2
      have hE : P.tiE l = if ((P.ti l).any bad) = true then 12 else 0 := by simp only [P.tiE, if_neg hl, if_pos ha]; rfl
      rw [hE]
      generalize P.ti l = z at *
      by_cases hb : z.any bad = true
      · obtain ⟨c, h3⟩ := h2.2 hb
        rw [if_pos hb, if_neg (by decide)]
        have hL : LGood T (vlim T F) lplim fi63.cx (loopsIs [(4, rtA n l 0, (.exit 0, ⟨(rtA n l l.length).env ++ [(15, .bool false)], []⟩)), (10, rtO n l [] 0, (.ret, ⟨[(2, .ex 2 true []), (3, .int .i64 12)], [.cells c]⟩))]) fi63.body := by
          refine LGood.is fun c hc x hx hf => ?_
          rw [e0] at hc
          simp only [List.mem_cons, List.not_mem_nil, or_false] at hc hx
          rcases hx with rfl | rfl <;> rcases hc with rfl | rfl | rfl
          · exact h1
          · simp only at hf; omega
          · simp only at hf; omega
          · simp only at hf; omega
          · exact h3
          · simp only at hf; omega
        exact Runs.way (F := F) (sh := Sh) (S := U91) U91_ok (fi := fi63) (by kernel_rfl) hL [(decide ((↑(List.map encS l).length : Int) > 1000), false),
    (is { env := [(0, V.sl n (List.map encS l)), (4, V.int IntKind.i64 0)], heap := [] } { env := [(0, V.sl n (List.map encS l)), (4, V.int IntKind.i64 0)], heap := [] }, true),
    (is { env := [(0, V.sl n (List.map encS l)), (5, V.ex 2 true []), (6, V.int IntKind.i64 0)], heap := [] } { env := [(0, V.sl n (List.map encS l)), (5, V.ex 2 true []), (6, V.int IntKind.i64 0)], heap := [] }, true)] [2, 3, 4] (by kernel_rfl) ⟨by simp; omega, is_eq (by simp), is_eq (by simp), trivial⟩
      · have h3 := h2.1 (by simpa using hb)
        rw [if_neg hb, if_pos rfl]
        have hL : LGood T (vlim T F) lplim fi63.cx (loopsIs [(4, rtA n l 0, (.exit 0, ⟨(rtA n l l.length).env ++ [(15, .bool false)], []⟩)), (10, rtO n l [] 0, (.exit 2, ⟨(rtO n l z l.length).env ++ [(37, .bool false)], []⟩))]) fi63.body := by
          refine LGood.is fun c hc x hx hf => ?_
          rw [e0] at hc
          simp only [List.mem_cons, List.not_mem_nil, or_false] at hc hx
          rcases hx with rfl | rfl <;> rcases hc with rfl | rfl | rfl
          · exact h1
          · simp only at hf; omega
          · simp only at hf; omega
          · simp only at hf; omega
          · exact h3
          · simp only at hf; omega
        exact Runs.way (F := F) (sh := Sh) (S := U91) U91_ok (fi := fi63) (by kernel_rfl) hL [(decide ((↑(List.map encS l).length : Int) > 1000), false),
    (is { env := [(0, V.sl n (List.map encS l)), (4, V.int IntKind.i64 0)], heap := [] } { env := [(0, V.sl n (List.map encS l)), (4, V.int IntKind.i64 0)], heap := [] }, true),
    (is { env := [(0, V.sl n (List.map encS l)), (5, V.ex 2 true []), (6, V.int IntKind.i64 0)], heap := [] } { env := [(0, V.sl n (List.map encS l)), (5, V.ex 2 true []), (6, V.int IntKind.i64 0)], heap := [] }, true)] [2, 3, 4] (by kernel_rfl) ⟨by simp; omega, is_eq (by simp), is_eq (by simp), trivial⟩
    · have e : P.tiE l = 6 := by simp only [P.tiE, if_neg hl, if_neg ha]
      rw [e, if_neg (by decide)]
      have h1 := hr.2 (by simpa using ha)
      have hL : LGood T (vlim T F) lplim fi63.cx (loopsIs [(4, rtA n l 0, (.ret, ⟨[(2, .ex 2 true []), (3, .int .i64 6)], []⟩))]) fi63.body := by
        refine LGood.is fun c hc x hx hf => ?_
        rw [e0] at hc
        simp only [List.mem_cons, List.not_mem_nil, or_false] at hc hx
        subst hx
        rcases hc with rfl | rfl | rfl
        · exact h1
        · simp only at hf; omega
        · simp only at hf; omega
      exact Runs.way (F := F) (sh := Sh) (S := U91) U91_ok (fi := fi63) (by kernel_rfl) hL [(decide ((↑(List.map encS l).length : Int) > 1000), false),
    (is { env := [(0, V.sl n (List.map encS l)), (4, V.int IntKind.i64 0)], heap := [] } { env := [(0, V.sl n (List.map encS l)), (4, V.int IntKind.i64 0)], heap := [] }, true)] [2, 3] (by kernel_rfl) ⟨by simp; omega, is_eq (by simp), trivial⟩
end Go.Proofs.Ytgmdkjiflhklaaa
