/- B3: Audit: its loops. -/
import Derived.Test.YtgmdkjiflhklaaaB2
namespace Go.Proofs.Ytgmdkjiflhklaaa
open Go Go.Vm

namespace P
def addB (x y : Chk) (i k : Int) (b : Bd) : Bd := Go.Proofs.Ytgmdkjiflhklaaa.addB x y i k b
end P
def chk (l : List Chk) (i : Int) : Chk := l.getD i.toNat ⟨0, 0, 0⟩
def okb (b : Bd) : Bool := decide (b.lN.natAbs ≤ 1000000000) && decide (b.lD.natAbs ≤ 1000000000) && decide (b.mN.natAbs ≤ 1000000000) && decide (b.mD.natAbs ≤ 1000000000)
noncomputable def addS (l : List Chk) : List V → Heap → Tr (V × Heap) := fun a H => match a, H with
  | [.ptr 1 0, .sl _ xs, .int .i64 i, .int .i64 k], [.dead, .cells [.int .i64 x0, .int .i64 x1, .int .i64 x2, .int .i64 x3, .int .i64 x4, .int .i64 x5, .int .i64 x6, .int .i64 x7, .bool f, .bool e], .dead, .dead] =>
    .must (eqB xs (l.map encC)) (.must (decide (0 ≤ i)) (.must (decide (i < l.length)) (.must (decide (0 ≤ k)) (.must (decide (k < l.length)) (.must (decide ((chk l i).at_ < (chk l k).at_)) (.must (okb ⟨x0, x1, x2, x3, x4, x5, x6, x7, f, e⟩)
      (.ret (.tup [], [.dead, .cells (encBd (P.addB (chk l i) (chk l k) i k ⟨x0, x1, x2, x3, x4, x5, x6, x7, f, e⟩)), .dead, .dead]))))))))
  | _, _ => .fail
theorem addS_ok {l : List Chk} (hl : l.length ≤ 1000) (hc : ∀ c ∈ l, OkC c) : ∀ a H r, (addS l a H).run = some r → Runs T F 41 a H r := by
  intro a H r h
  unfold addS at h
  split at h
  · rename_i m xs i k x0 x1 x2 x3 x4 x5 x6 x7 f e
    obtain ⟨h0, h⟩ := Tr.must_some h
    obtain ⟨h1, h⟩ := Tr.must_some h
    obtain ⟨h2, h⟩ := Tr.must_some h
    obtain ⟨h3, h⟩ := Tr.must_some h
    obtain ⟨h4, h⟩ := Tr.must_some h
    obtain ⟨h5, h⟩ := Tr.must_some h
    obtain ⟨h6, h⟩ := Tr.must_some h
    have hr := ret_some h
    clear h
    subst hr
    have h0 := of_eqB h0
    subst h0
    simp only [decide_eq_true_eq] at h1 h2 h3 h4 h5
    simp only [okb, Bool.and_eq_true, decide_eq_true_eq] at h6
    obtain ⟨i', rfl⟩ : ∃ i' : Nat, i = i' := ⟨i.toNat, by omega⟩
    obtain ⟨k', rfl⟩ : ∃ k' : Nat, k = k' := ⟨k.toNat, by omega⟩
    have e1 : chk l i' = l[i']'(by omega) := by unfold chk; rw [Int.toNat_natCast, List.getD_eq_getElem?_getD, List.getElem?_eq_getElem (by omega)]; rfl
    have e2 : chk l k' = l[k']'(by omega) := by unfold chk; rw [Int.toNat_natCast, List.getD_eq_getElem?_getD, List.getElem?_eq_getElem (by omega)]; rfl
    rw [e1, e2] at h5
    rw [e1, e2]
    exact add_runs (b := ⟨x0, x1, x2, x3, x4, x5, x6, x7, f, e⟩) (by omega) (by omega) hl (hc _ (List.getElem_mem _)) (hc _ (List.getElem_mem _)) h5 ⟨h6.1.1.1, h6.1.1.2, h6.1.2, h6.2⟩
  · cases h
noncomputable def SA (l : List Chk) : Vm.Spec := S42.add 41 (addS l)
theorem SA_ok {l : List Chk} (hl : l.length ≤ 1000) (hc : ∀ c ∈ l, OkC c) : Vm.Good (vlim T F) (SA l) := S42_ok.add (addS_ok hl hc)
/-- One pair -/
def stepB (l : List Chk) (i k : Nat) (b : Bd) : Bd :=
  if (chk l i).at_ < (chk l k).at_ then P.addB (chk l i) (chk l k) i k b else if (chk l i).at_ = (chk l k).at_ ∧ (chk l i).lo > (chk l k).hi then { b with em := true } else b
/-- So many checks from the k-th on, behind the i-th; so many from the i-th on. -/
def restB (l : List Chk) (i : Nat) : Nat → Nat → Bd → Bd
  | 0, _, b => b
  | d + 1, k, b => restB l i d (k + 1) (stepB l i k b)
def allB (l : List Chk) : Nat → Nat → Bd → Bd
  | 0, _, b => b
  | d + 1, i, b => allB l d (i + 1) (restB l i l.length 0 b)
theorem chk_at (l : List Chk) (k : Nat) (h : k < l.length) : chk l k = l[k] := by unfold chk; rw [Int.toNat_natCast, List.getD_eq_getElem?_getD, List.getElem?_eq_getElem h]; rfl
theorem stepB_ok {l : List Chk} (hc : ∀ c ∈ l, OkC c) {i k : Nat} (hi : i < l.length) (hk : k < l.length) {b : Bd} (hb : OkB b) : OkB (stepB l i k b) := by
  unfold stepB
  rw [chk_at l i hi, chk_at l k hk]
  split
  · exact addB_ok (hc _ (List.getElem_mem _)) (hc _ (List.getElem_mem _)) hb
  · split
    · exact ⟨hb.ln, hb.ld, hb.mn, hb.md⟩
    · exact hb
theorem restB_ok {l : List Chk} (hc : ∀ c ∈ l, OkC c) {i : Nat} (hi : i < l.length) : ∀ (d k : Nat) (b : Bd), k + d ≤ l.length → OkB b → OkB (restB l i d k b)
  | 0, _, _, _, hb => hb
  | d + 1, k, b, hd, hb => restB_ok hc hi d (k + 1) _ (by omega) (stepB_ok hc hi (by omega) hb)

def zero8 : List V := [.int .i64 0, .int .i64 0, .int .i64 0, .int .i64 0, .int .i64 0, .int .i64 0, .int .i64 0, .int .i64 0]
def inSt (n : Bool) (l : List Chk) (i : Nat) (k : Int) (b : Bd) : St :=
  ⟨[(0, V.sl n (List.map encC l)), (2, V.ptr 0 0), (5, V.ptr 1 0), (6, V.clo (Fn.func 41) [V.ptr 1 0] []), (7, V.int IntKind.i64 i), (8, V.ptr 2 0), (18, V.sl n (List.map encC l)), (19, V.int IntKind.i64 ↑l.length), (20, V.int IntKind.i64 i),
    (25, V.sl n (List.map encC l)), (26, V.int IntKind.i64 ↑l.length), (27, V.int IntKind.i64 k)], [.cells zero8, .cells (encBd b), B.cells [V.int IntKind.i64 (Fd.cat l i), V.int IntKind.i64 (Fd.clo l i), V.int IntKind.i64 (Fd.chi l i)]]⟩
theorem inner_loop {n : Bool} {l : List Chk} (hl : l.length ≤ 1000) (hc : ∀ c ∈ l, OkC c) {i : Nat} (hi : i < l.length) : ∀ (d k : Nat) (b : Bd), k + d = l.length → OkB b →
    LRuns (vstep T (vlim T F) lplim fi13.cx 3 (lb fi13 1)) (inSt n l i k b) (.exit 2, ⟨(inSt n l i l.length (restB l i d k b)).env ++ [(28, .bool false)], (inSt n l i l.length (restB l i d k b)).heap⟩)
  | 0, k, b, hd, hb => by
    have hk : k = l.length := by omega
    subst hk
    have := LRuns.last (F := F) (SA_ok hl hc) (sh := Sh) (L := fun _ _ => .fail) (n := 3) (b := lb fi13 1) (cx := fi13.cx) (τ := inSt n l i l.length b) (LGood.none (by kernel_rfl)) [(decide ((l.length : Int) < l.length), false)] [2]
      (r := (.exit 2, ⟨(inSt n l i l.length b).env ++ [(28, .bool (decide ((l.length : Int) < l.length)))], (inSt n l i l.length b).heap⟩)) (by kernel_rfl) (by simp) ⟨by simp, trivial⟩
    simpa [restB] using this
  | d + 1, k, b, hd, hb => by
    have hk : k < l.length := by omega
    have gi := cat_at l i hi
    have gk := cat_at l k hk
    have gl := clo_at l i hi
    have gh := chi_at l k hk
    have si := chk_at l i hi
    have sk := chk_at l k hk
    have ih := inner_loop (n := n) hl hc hi d (k + 1) (stepB l i k b) (by omega) (stepB_ok hc hi hk hb)
    have hw : IntKind.i64.wrap ((k : Int) + 1) = ((k + 1 : Nat) : Int) := by rw [i64in (by omega) (by omega)]; rfl
    simp only [restB]
    by_cases c1 : l[i].at_ < l[k].at_
    · have hA : stepB l i k b = P.addB (chk l i) (chk l k) i k b := by unfold stepB; rw [if_pos (by rw [si, sk]; exact c1)]
      rw [hA]
      refine LRuns.next (F := F) (SA_ok hl hc) (sh := Sh) (L := fun _ _ => .fail) (LGood.none (by kernel_rfl)) [(decide ((k : Int) < ↑l.length), true),
        (decide (0 ≤ (k : Int)), true),
        (decide ((k : Int) < ↑(List.map encC l).length), true),
        (((List.map encC l).getD (k : Int).toNat V.undef).cells.length == 3 && fitP [TK.int IntKind.i64, TK.int IntKind.i64, TK.int IntKind.i64] 0 ((List.map encC l).getD (k : Int).toNat V.undef), true),
        (decide (Fd.cat l i < Fd.cat l k), true),
        (eqB (List.map encC l) (List.map encC l), true),
        (decide (0 ≤ (i : Int)), true),
        (decide ((i : Int) < ↑l.length), true),
        (decide ((chk l i).at_ < (chk l k).at_), true),
        (okb b, true)]
        [2, 3, 4, 5, 6, 7, 8, 9, 3, 2, 10, 11] (τ' := inSt n l i (IntKind.i64.wrap ((k : Int) + 1)) (P.addB (chk l i) (chk l k) i k b)) (by kernel_rfl) ?_ ?_
      · refine ⟨?_, ?_, ?_, ?_, ?_, ?_, ?_, ?_, ?_, ?_, trivial⟩
        all_goals first
          | exact eqB_eq rfl
          | (simp [encC, fitP, fld, leafFits, hk]; done)
          | (rw [gi, gk]; simp; omega)
          | (rw [si, sk]; simp; omega)
          | (rw [gl, gh]; simp; omega)
          | (simp; omega)
          | (simp [okb, hb.ln, hb.ld, hb.mn, hb.md]; done)
      · rw [hw]; rw [hA] at ih; exact ih
    · by_cases c2 : l[i].at_ = l[k].at_
      · by_cases c3 : l[i].lo > l[k].hi
        · have hB : stepB l i k b = { b with em := true } := by unfold stepB; rw [if_neg (by rw [si, sk]; exact c1), if_pos (by rw [si, sk]; exact ⟨c2, c3⟩)]
          rw [hB]
          refine LRuns.next (F := F) (SA_ok hl hc) (sh := Sh) (L := fun _ _ => .fail) (LGood.none (by kernel_rfl)) [(decide ((k : Int) < ↑l.length), true),
            (decide (0 ≤ (k : Int)), true),
            (decide ((k : Int) < ↑(List.map encC l).length), true),
            (((List.map encC l).getD (k : Int).toNat V.undef).cells.length == 3 && fitP [TK.int IntKind.i64, TK.int IntKind.i64, TK.int IntKind.i64] 0 ((List.map encC l).getD (k : Int).toNat V.undef), true),
            (decide (Fd.cat l i < Fd.cat l k), false),
            (Fd.cat l i == Fd.cat l k, true),
            (decide (Fd.clo l i > Fd.chi l k), true)]
            [2, 3, 4, 5, 6, 7, 7, 7, 7, 7, 7, 8] (τ' := inSt n l i (IntKind.i64.wrap ((k : Int) + 1)) { b with em := true }) (by kernel_rfl) ?_ ?_
          · refine ⟨?_, ?_, ?_, ?_, ?_, ?_, ?_, trivial⟩
            all_goals first
              | exact eqB_eq rfl
              | (simp [encC, fitP, fld, leafFits, hk]; done)
              | (rw [gi, gk]; simp; omega)
              | (rw [si, sk]; simp; omega)
              | (rw [gl, gh]; simp; omega)
              | (simp; omega)
              | (simp [okb, hb.ln, hb.ld, hb.mn, hb.md]; done)
          · rw [hw]; rw [hB] at ih; exact ih
        · have hD : stepB l i k b = b := by unfold stepB; rw [if_neg (by rw [si, sk]; exact c1), if_neg (by rw [si, sk]; exact fun h => c3 h.2)]
          rw [hD]
          refine LRuns.next (F := F) (SA_ok hl hc) (sh := Sh) (L := fun _ _ => .fail) (LGood.none (by kernel_rfl)) [(decide ((k : Int) < ↑l.length), true),
            (decide (0 ≤ (k : Int)), true),
            (decide ((k : Int) < ↑(List.map encC l).length), true),
            (((List.map encC l).getD (k : Int).toNat V.undef).cells.length == 3 && fitP [TK.int IntKind.i64, TK.int IntKind.i64, TK.int IntKind.i64] 0 ((List.map encC l).getD (k : Int).toNat V.undef), true),
            (decide (Fd.cat l i < Fd.cat l k), false),
            (Fd.cat l i == Fd.cat l k, true),
            (decide (Fd.clo l i > Fd.chi l k), false)]
            [2, 3, 4, 5, 6, 7, 7, 7, 7, 7, 7, 8] (τ' := inSt n l i (IntKind.i64.wrap ((k : Int) + 1)) b) (by kernel_rfl) ?_ ?_
          · refine ⟨?_, ?_, ?_, ?_, ?_, ?_, ?_, trivial⟩
            all_goals first
              | exact eqB_eq rfl
              | (simp [encC, fitP, fld, leafFits, hk]; done)
              | (rw [gi, gk]; simp; omega)
              | (rw [si, sk]; simp; omega)
              | (rw [gl, gh]; simp; omega)
              | (simp; omega)
              | (simp [okb, hb.ln, hb.ld, hb.mn, hb.md]; done)
          · rw [hw]; rw [hD] at ih; exact ih
      · have hD : stepB l i k b = b := by unfold stepB; rw [if_neg (by rw [si, sk]; exact c1), if_neg (by rw [si, sk]; exact fun h => c2 h.1)]
        rw [hD]
        refine LRuns.next (F := F) (SA_ok hl hc) (sh := Sh) (L := fun _ _ => .fail) (LGood.none (by kernel_rfl)) [(decide ((k : Int) < ↑l.length), true),
          (decide (0 ≤ (k : Int)), true),
          (decide ((k : Int) < ↑(List.map encC l).length), true),
          (((List.map encC l).getD (k : Int).toNat V.undef).cells.length == 3 && fitP [TK.int IntKind.i64, TK.int IntKind.i64, TK.int IntKind.i64] 0 ((List.map encC l).getD (k : Int).toNat V.undef), true),
          (decide (Fd.cat l i < Fd.cat l k), false),
          (Fd.cat l i == Fd.cat l k, false)]
          [2, 3, 4, 5, 6, 7, 7, 7, 7, 7, 7, 1] (τ' := inSt n l i (IntKind.i64.wrap ((k : Int) + 1)) b) (by kernel_rfl) ?_ ?_
        · refine ⟨?_, ?_, ?_, ?_, ?_, ?_, trivial⟩
          all_goals first
            | exact eqB_eq rfl
            | (simp [encC, fitP, fld, leafFits, hk]; done)
            | (rw [gi, gk]; simp; omega)
            | (rw [si, sk]; simp; omega)
            | (rw [gl, gh]; simp; omega)
            | (simp; omega)
            | (simp [okb, hb.ln, hb.ld, hb.mn, hb.md]; done)
        · rw [hw]; rw [hD] at ih; exact ih
end Go.Proofs.Ytgmdkjiflhklaaa
