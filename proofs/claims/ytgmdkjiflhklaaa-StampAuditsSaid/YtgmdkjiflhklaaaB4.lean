/- B4: what Audit tells of checks within their limits. -/
import Derived.Test.YtgmdkjiflhklaaaB3
namespace Go.Proofs.Ytgmdkjiflhklaaa
open Go Go.Vm

def oS (n : Bool) (l : List Chk) (i : Int) (b : Bd) : St :=
  ⟨[(0, .sl n (l.map encC)), (2, .ptr 0 0), (5, .ptr 1 0), (6, .clo (.func 41) [.ptr 1 0] []), (18, .sl n (l.map encC)), (19, .int .i64 l.length), (20, .int .i64 i)], [.cells zero8, .cells (encBd b)]⟩
theorem outer_loop {n : Bool} {l : List Chk} (hl : l.length ≤ 1000) (hc : ∀ c ∈ l, OkC c) : ∀ (d i : Nat) (b : Bd), i + d = l.length → OkB b →
    LRuns (vstep T (vlim T F) lplim fi13.cx 2 (lb fi13 0)) (oS n l i b) (.exit 0, ⟨(oS n l l.length (allB l d i b)).env ++ [(21, .bool false)], (oS n l l.length (allB l d i b)).heap⟩)
  | 0, i, b, hd, hb => by
    have hi : i = l.length := by omega
    subst hi
    have := LRuns.last (F := F) (SA_ok hl hc) (sh := Sh) (L := loopsIs []) (n := 2) (b := lb fi13 0) (cx := fi13.cx) (τ := oS n l l.length b) (LGood.is (l := []) (fun _ _ x hx => by cases hx)) [(decide ((l.length : Int) < l.length), false)] [2]
      (r := (.exit 0, ⟨(oS n l l.length b).env ++ [(21, .bool (decide ((l.length : Int) < l.length)))], (oS n l l.length b).heap⟩)) (by kernel_rfl) (by simp) ⟨by simp, trivial⟩
    simpa [allB] using this
  | d + 1, i, b, hd, hb => by
    have hi : i < l.length := by omega
    have hin := inner_loop (n := n) hl hc hi l.length 0 b (by omega) hb
    have hb' := restB_ok hc hi l.length 0 b (by omega) hb
    have ih := outer_loop (n := n) hl hc d (i + 1) (restB l i l.length 0 b) (by omega) hb'
    have hw : IntKind.i64.wrap ((i : Int) + 1) = ((i + 1 : Nat) : Int) := by rw [i64in (by omega) (by omega)]; rfl
    simp only [allB]
    generalize restB l i l.length 0 b = b' at *
    refine LRuns.next (F := F) (SA_ok hl hc) (sh := Sh) (L := loopsIs [(10, inSt n l i 0 b, (.exit 2, ⟨(inSt n l i l.length b').env ++ [(28, .bool false)], (inSt n l i l.length b').heap⟩))]) (LGood.one (b := lb fi13 1) (by kernel_rfl) (by exact hin))
      [(decide ((i : Int) < ↑l.length), true), (decide (0 ≤ (i : Int)), true), (decide ((i : Int) < ↑(List.map encC l).length), true), (((List.map encC l).getD (i : Int).toNat V.undef).cells.length == 3 && fitP [TK.int IntKind.i64, TK.int IntKind.i64, TK.int IntKind.i64] 0 ((List.map encC l).getD (i : Int).toNat V.undef), true),
       (is ⟨[(0, V.sl n (List.map encC l)), (2, V.ptr 0 0), (5, V.ptr 1 0), (6, V.clo (Fn.func 41) [V.ptr 1 0] []), (7, V.int IntKind.i64 i), (8, V.ptr 2 0), (18, V.sl n (List.map encC l)), (19, V.int IntKind.i64 ↑l.length), (20, V.int IntKind.i64 i),
    (25, V.sl n (List.map encC l)), (26, V.int IntKind.i64 ↑(List.map encC l).length), (27, V.int IntKind.i64 0)], [.cells zero8, .cells (encBd b), B.cells [V.int IntKind.i64 (Fd.cat l i), V.int IntKind.i64 (Fd.clo l i), V.int IntKind.i64 (Fd.chi l i)]]⟩ (inSt n l i 0 b), true)]
      [2, 3, 4, 5, 6] (τ' := oS n l (IntKind.i64.wrap ((i : Int) + 1)) b') (by kernel_rfl) ⟨?_, ?_, ?_, ?_, is_eq ?_, trivial⟩ ?_
    · simp; omega
    · simp
    · simp; omega
    · simp [encC, fitP, fld, leafFits, hi]
    · simp [inSt]
    · rw [hw]; exact ih

def cst (n : Bool) (l : List Chk) (k : Int) : St := ⟨[(8, .sl n (l.map encC)), (9, .int .i64 l.length), (10, .int .i64 k)], []⟩
theorem checked_loop {n : Bool} {l : List Chk} (hl : l.length ≤ 1000) (hc : ∀ c ∈ l, OkC c) : ∀ (d k : Nat), k + d = l.length →
    LRuns (vstep T (vlim T F) lplim fi40.cx 0 (lb fi40 0)) (cst n l k) (.exit 0, ⟨(cst n l l.length).env ++ [(11, .bool false)], []⟩)
  | 0, k, hd => by
    have hk : k = l.length := by omega
    subst hk
    have := LRuns.last (F := F) S44_ok (sh := Sh) (L := fun _ _ => .fail) (n := 0) (b := lb fi40 0) (cx := fi40.cx) (τ := cst n l l.length) (LGood.none (by kernel_rfl)) [(decide ((l.length : Int) < l.length), false)] [2]
      (r := (.exit 0, ⟨(cst n l l.length).env ++ [(11, .bool (decide ((l.length : Int) < l.length)))], []⟩)) (by kernel_rfl) (by simp) ⟨by simp, trivial⟩
    simpa using this
  | d + 1, k, hd => by
    have hk : k < l.length := by omega
    obtain ⟨a0, a1, l0, h1, le⟩ := hc l[k] (List.getElem_mem _)
    have ga := cat_at l k hk
    have gl := clo_at l k hk
    have gh := chi_at l k hk
    have w1 : IntKind.i64.wrap (Fd.clo l k + 100000000) = l[k].lo + 100000000 := by rw [gl, i64in (by omega) (by omega)]
    have w2 : IntKind.i64.wrap (Fd.chi l k + 100000000) = l[k].hi + 100000000 := by rw [gh, i64in (by omega) (by omega)]
    have ih := checked_loop (n := n) hl hc d (k + 1) (by omega)
    have hw : IntKind.i64.wrap ((k : Int) + 1) = ((k + 1 : Nat) : Int) := by rw [i64in (by omega) (by omega)]; rfl
    refine LRuns.next (F := F) S44_ok (sh := Sh) (L := fun _ _ => .fail) (LGood.none (by kernel_rfl)) [(decide ((k : Int) < ↑l.length), true),
      (decide (0 ≤ (k : Int)), true),
      (decide ((k : Int) < ↑(List.map encC l).length), true),
      (((List.map encC l).getD (k : Int).toNat V.undef).cells.length == 3 && fitP [TK.int IntKind.i64, TK.int IntKind.i64, TK.int IntKind.i64] 0 ((List.map encC l).getD (k : Int).toNat V.undef), true),
      (decide (Fd.cat l k < 0), false),
      (decide (Fd.cat l k > 100000), false),
      (decide (IntKind.i64.wrap (Fd.clo l k + 100000000) < 0), false),
      (decide (IntKind.i64.wrap (Fd.clo l k + 100000000) > 200000000), false),
      (decide (IntKind.i64.wrap (Fd.chi l k + 100000000) < 0), false),
      (decide (IntKind.i64.wrap (Fd.chi l k + 100000000) > 200000000), false),
      (decide (Fd.clo l k > Fd.chi l k), false)]
      [2, 3, 4, 5, 0, 0, 0, 0, 6, 6, 6, 6, 7, 1, 0, 1, 1, 1, 1, 1, 1, 1, 1, 0, 0, 0, 0, 8, 8, 8, 8, 9, 0, 0, 0, 0, 10, 10, 10, 10, 11, 1, 0, 1, 1, 1, 1, 1, 1, 1, 1, 12] (τ' := cst n l (IntKind.i64.wrap ((k : Int) + 1))) (by kernel_rfl) ?_ ?_
    · refine ⟨?_, ?_, ?_, ?_, ?_, ?_, ?_, ?_, ?_, ?_, ?_, trivial⟩
      all_goals first
        | (simp [encC, fitP, fld, leafFits, hk]; done)
        | (simp; omega)
        | (simp only [ga, gl, gh, decide_eq_false_iff_not]; omega)
        | (simp only [w1, w2, decide_eq_false_iff_not]; omega)
    · rw [hw]; exact ih
def chkS (l : List Chk) : List V → Heap → Tr (V × Heap) := fun a H => match a, H with
  | [.sl _ xs], [] => .ret (.int .i64 0, [])
  | _, _ => .fail
theorem checked_runs {n : Bool} {l : List Chk} (hl : l.length ≤ 40) (hc : ∀ c ∈ l, OkC c) : Runs T F 40 [.sl n (l.map encC)] [] (.int .i64 0, []) :=
  Runs.way (F := F) (sh := Sh) (S := S44) (L := loopsIs [(4, cst n l 0, (.exit 0, ⟨(cst n l l.length).env ++ [(11, .bool false)], []⟩))]) S44_ok (fi := fi40) (by kernel_rfl) (LGood.one (b := lb fi40 0) (by kernel_rfl) (by exact checked_loop (n := n) (by omega) hc l.length 0 (by omega)))
    [(decide (↑(List.map encC l).length > (40 : Int)), false), (is ⟨[(8, V.sl n (List.map encC l)), (9, V.int IntKind.i64 ↑(List.map encC l).length), (10, V.int IntKind.i64 0)], []⟩ (cst n l 0), true)] [2, 3] (by kernel_rfl) ⟨by simp; omega, is_eq (by simp [cst]), trivial⟩
noncomputable def SC (l : List Chk) : Vm.Spec := (SA l).add 40 (fun a H => match a, H with
  | [.sl _ xs], [] => .must (eqB xs (l.map encC)) (.ret (.int .i64 0, []))
  | _, _ => .fail)
theorem SC_ok {l : List Chk} (hl : l.length ≤ 40) (hc : ∀ c ∈ l, OkC c) : Vm.Good (vlim T F) (SC l) := by
  refine (SA_ok (by omega) hc).add fun a H r h => ?_
  split at h
  · obtain ⟨h0, h⟩ := Tr.must_some h
    have hr := ret_some h
    clear h
    subst hr
    have h0 := of_eqB h0
    subst h0
    exact checked_runs hl hc
  · cases h
/-- What Audit tells: the collected slopes, and the code. -/
def audB (l : List Chk) : Bd := allB l l.length 0 {}
def audE (l : List Chk) : Int := if (audB l).fd = false then 4 else if (audB l).em = true ∨ P.cmp (audB l).lN (audB l).lD (audB l).mN (audB l).mD > 0 then 12 else 0
def audV (l : List Chk) : List V := if audE l = 0 then [.int .i64 (audB l).lN, .int .i64 (audB l).lD, .int .i64 (audB l).mN, .int .i64 (audB l).mD, .int .i64 (audB l).f0, .int .i64 (audB l).f1, .int .i64 (audB l).g0, .int .i64 (audB l).g1] else zero8
theorem allB_ok {l : List Chk} (hc : ∀ c ∈ l, OkC c) : ∀ (d i : Nat) (b : Bd), i + d ≤ l.length → OkB b → OkB (allB l d i b)
  | 0, _, _, _, hb => hb
  | d + 1, i, b, hd, hb => allB_ok hc d (i + 1) _ (by omega) (restB_ok hc (by omega) l.length 0 b (by omega) hb)
theorem audit_runs {n : Bool} {l : List Chk} (hl : l.length ≤ 40) (hc : ∀ c ∈ l, OkC c) : Runs T F 13 [.sl n (l.map encC)] [] (.tup [.agg (audV l), .int .i64 (audE l)], []) := by
  have hS := SC_ok hl hc
  have h0 : OkB {} := ⟨by decide, by decide, by decide, by decide⟩
  have hr := outer_loop (n := n) (by omega) hc l.length 0 {} (by omega) h0
  have hB := allB_ok hc l.length 0 {} (by omega) h0
  unfold audV audE audB
  generalize allB l l.length 0 {} = b at *
  have hL : LGood T (vlim T F) lplim fi13.cx (loopsIs [(7, oS n l 0 {}, (.exit 0, ⟨(oS n l l.length b).env ++ [(21, .bool false)], (oS n l l.length b).heap⟩))]) fi13.body := by
    refine LGood.is fun c hc x hx hf => ?_
    simp only [List.mem_singleton] at hx
    subst hx
    have e : loopsOf fi13.body = [lb fi13 0, lb fi13 1] := by kernel_rfl
    have f1 : Nat.beq (firstRegion (lb fi13 1)) 7 = false := by kernel_rfl
    rw [e] at hc
    simp only [List.mem_cons, List.not_mem_nil, or_false] at hc
    rcases hc with rfl | rfl
    · exact hr
    · simp only at hf; rw [hf] at f1; simp at f1
  obtain ⟨p1, p2⟩ := prod_in hB.ln hB.md
  obtain ⟨p3, p4⟩ := prod_in hB.mn hB.ld
  by_cases c1 : b.fd = false
  · have hE : (if b.fd = false then (4 : Int) else if b.em = true ∨ P.cmp b.lN b.lD b.mN b.mD > 0 then 12 else 0) = 4 := if_pos c1
    rw [hE, if_neg (by decide)]
    exact Runs.way (F := F) (sh := Sh) (S := SC l) (L := loopsIs [(7, oS n l 0 {}, (.exit 0, ⟨(oS n l l.length b).env ++ [(21, .bool false)], (oS n l l.length b).heap⟩))]) hS (f := 13) (fi := fi13) (by kernel_rfl) hL
            [(eqB (List.map encC l) (List.map encC l), true),
            (is ⟨[(0, V.sl n (List.map encC l)), (2, V.ptr 0 0), (5, V.ptr 1 0), (6, V.clo (Fn.func 41) [V.ptr 1 0] []), (18, V.sl n (List.map encC l)), (19, V.int IntKind.i64 ↑(List.map encC l).length), (20, V.int IntKind.i64 0)], [.cells zero8, .cells (encBd {})]⟩ (oS n l 0 {}), true),
            (!b.fd, true)]
            [2, 1, 3, 4] (r := (.tup [.agg zero8, .int .i64 4], [])) (by kernel_rfl) ⟨eqB_eq rfl, is_eq (by simp [oS]), by simp [c1], trivial⟩
  · have c1' : b.fd = true := by simpa using c1
    by_cases c2 : b.em = true
    · have hE : (if b.fd = false then (4 : Int) else if b.em = true ∨ P.cmp b.lN b.lD b.mN b.mD > 0 then 12 else 0) = 12 := by rw [if_neg c1, if_pos (Or.inl c2)]
      rw [hE, if_neg (by decide)]
      exact Runs.way (F := F) (sh := Sh) (S := SC l) (L := loopsIs [(7, oS n l 0 {}, (.exit 0, ⟨(oS n l l.length b).env ++ [(21, .bool false)], (oS n l l.length b).heap⟩))]) hS (f := 13) (fi := fi13) (by kernel_rfl) hL
            [(eqB (List.map encC l) (List.map encC l), true),
            (is ⟨[(0, V.sl n (List.map encC l)), (2, V.ptr 0 0), (5, V.ptr 1 0), (6, V.clo (Fn.func 41) [V.ptr 1 0] []), (18, V.sl n (List.map encC l)), (19, V.int IntKind.i64 ↑(List.map encC l).length), (20, V.int IntKind.i64 0)], [.cells zero8, .cells (encBd {})]⟩ (oS n l 0 {}), true),
            (!b.fd, false),
            (b.em, true)]
            [2, 1, 3, 4, 5, 5, 5, 5, 5, 5, 5, 5, 5, 0] (r := (.tup [.agg zero8, .int .i64 12], [])) (by kernel_rfl) ⟨eqB_eq rfl, is_eq (by simp [oS]), by simp [c1'], by simp [c2], trivial⟩
    · by_cases c3 : P.cmp b.lN b.lD b.mN b.mD > 0
      · have hE : (if b.fd = false then (4 : Int) else if b.em = true ∨ P.cmp b.lN b.lD b.mN b.mD > 0 then 12 else 0) = 12 := by rw [if_neg c1, if_pos (Or.inr c3)]
        rw [hE, if_neg (by decide)]
        exact Runs.way (F := F) (sh := Sh) (S := SC l) (L := loopsIs [(7, oS n l 0 {}, (.exit 0, ⟨(oS n l l.length b).env ++ [(21, .bool false)], (oS n l l.length b).heap⟩))]) hS (f := 13) (fi := fi13) (by kernel_rfl) hL
            [(eqB (List.map encC l) (List.map encC l), true),
            (is ⟨[(0, V.sl n (List.map encC l)), (2, V.ptr 0 0), (5, V.ptr 1 0), (6, V.clo (Fn.func 41) [V.ptr 1 0] []), (18, V.sl n (List.map encC l)), (19, V.int IntKind.i64 ↑(List.map encC l).length), (20, V.int IntKind.i64 0)], [.cells zero8, .cells (encBd {})]⟩ (oS n l 0 {}), true),
            (!b.fd, false),
            (b.em, false),
            (decide (-9000000000000000000 ≤ b.lN * b.mD), true),
            (decide (b.lN * b.mD ≤ 9000000000000000000), true),
            (decide (-9000000000000000000 ≤ b.mN * b.lD), true),
            (decide (b.mN * b.lD ≤ 9000000000000000000), true),
            (decide (P.cmp b.lN b.lD b.mN b.mD > 0), true)]
            [2, 1, 3, 4, 5, 5, 5, 5, 5, 5, 5, 6, 7, 8, 9, 5, 5, 10] (r := (.tup [.agg zero8, .int .i64 12], [])) (by kernel_rfl) ⟨eqB_eq rfl, is_eq (by simp [oS]), by simp [c1'], by simp [c2], by simpa using p1, by simpa using p2, by simpa using p3, by simpa using p4, by simpa using c3, trivial⟩
      · have hE : (if b.fd = false then (4 : Int) else if b.em = true ∨ P.cmp b.lN b.lD b.mN b.mD > 0 then 12 else 0) = 0 := by rw [if_neg c1, if_neg (fun h => h.elim c2 c3)]
        rw [hE, if_pos rfl]
        exact Runs.way (F := F) (sh := Sh) (S := SC l) (L := loopsIs [(7, oS n l 0 {}, (.exit 0, ⟨(oS n l l.length b).env ++ [(21, .bool false)], (oS n l l.length b).heap⟩))]) hS (f := 13) (fi := fi13) (by kernel_rfl) hL
            [(eqB (List.map encC l) (List.map encC l), true),
            (is ⟨[(0, V.sl n (List.map encC l)), (2, V.ptr 0 0), (5, V.ptr 1 0), (6, V.clo (Fn.func 41) [V.ptr 1 0] []), (18, V.sl n (List.map encC l)), (19, V.int IntKind.i64 ↑(List.map encC l).length), (20, V.int IntKind.i64 0)], [.cells zero8, .cells (encBd {})]⟩ (oS n l 0 {}), true),
            (!b.fd, false),
            (b.em, false),
            (decide (-9000000000000000000 ≤ b.lN * b.mD), true),
            (decide (b.lN * b.mD ≤ 9000000000000000000), true),
            (decide (-9000000000000000000 ≤ b.mN * b.lD), true),
            (decide (b.mN * b.lD ≤ 9000000000000000000), true),
            (decide (P.cmp b.lN b.lD b.mN b.mD > 0), false)]
            [2, 1, 3, 4, 5, 5, 5, 5, 5, 5, 5, 6, 7, 8, 9, 5, 5, 10] (r := (.tup [.agg [.int .i64 b.lN, .int .i64 b.lD, .int .i64 b.mN, .int .i64 b.mD, .int .i64 b.f0, .int .i64 b.f1, .int .i64 b.g0, .int .i64 b.g1], .int .i64 0], [])) (by kernel_rfl) ⟨eqB_eq rfl, is_eq (by simp [oS]), by simp [c1'], by simp [c2], by simpa using p1, by simpa using p2, by simpa using p3, by simpa using p4, by simpa using c3, trivial⟩
end Go.Proofs.Ytgmdkjiflhklaaa
