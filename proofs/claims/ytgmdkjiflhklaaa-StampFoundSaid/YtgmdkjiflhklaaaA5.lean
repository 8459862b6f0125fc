/- A5: the law StampOrdered over V. -/
import Derived.Test.YtgmdkjiflhklaaaA2
namespace Go.Proofs.Ytgmdkjiflhklaaa
open Go Go.Vm

noncomputable def givenS (key : Int) (n : Bool) (bs : List Int) (cv : V) (la : Int) (ts : List Int) : List V → Heap → Tr (V × Heap) := fun a H => match a, H with
  | [.int .u64 k, .sl m xs], [] => .must (eqB (k, m, xs) (key, n, bs.map encB)) (.ret (.tup [.ptr 0 0, .ex 1 ts.isEmpty (ts.map encI), .bool true], [B.cells [.int .u64 key, .int .u64 la, .bool true, cv]]))
  | _, _ => .fail
noncomputable def tightS (l : List Stp) : List V → Heap → Tr (V × Heap) := fun a H => match a, H with
  | [.sl _ xs], [] => .must (eqB xs (l.map encS)) (.ret (.tup [.ex 2 (l.length == 0) ((sm (tp l)).map encP), .int .i64 0], []))
  | _, _ => .fail
noncomputable def verS (key : Int) (l : List Stp) : List V → Heap → Tr (V × Heap) := fun a H => match a, H with
  | [.int .u64 k, .sl _ xs], [] => .must (eqB (k, xs) (key, l.map encS)) (.ret (.tup [.int .i64 l.length, .int .i64 0], []))
  | _, _ => .fail
noncomputable def S4 (key : Int) (n : Bool) (bs : List Int) (cv : V) (la : Int) (ts : List Int) (l : List Stp) : Vm.Spec :=
  (((S46.add 14 (givenS key n bs cv la ts)).add 16 (tightS l)).add 17 (verS key l)).add 12 awakeS

def Fd.t (l : List Int) (i : Int) : Int := intOf (fld 0 ((l.map encI).getD i.toNat V.undef))
def Fd.zl (l : List (Int × Int)) (i : Int) : Int := intOf (fld 0 ((List.map encP l).getD i.toNat V.undef))
def Fd.zh (l : List (Int × Int)) (i : Int) : Int := intOf (fld 1 ((List.map encP l).getD i.toNat V.undef))
theorem t_at (l : List Int) (k : Nat) (h : k < l.length) : Fd.t l k = l[k] := by simp [Fd.t, encI, h]
theorem zl_at (l : List (Int × Int)) (k : Nat) (h : k < l.length) : Fd.zl l k = l[k].1 := by simp [Fd.zl, encP, h]
theorem zh_at (l : List (Int × Int)) (k : Nat) (h : k < l.length) : Fd.zh l k = l[k].2 := by simp [Fd.zh, encP, h]

/-- What the law looks at. -/
structure Looks (l : List Stp) (ts : List Int) (z : List (Int × Int)) : Prop where
  len1 : l.length = ts.length
  len2 : z.length = ts.length
  len : ts.length ≤ 30
  ser : ∀ k (h : k < l.length), l[k].ser = k
  a1 : ∀ k (h : k < l.length) (h' : k < ts.length), l[k].lo ≤ ts[k] ∧ ts[k] ≤ l[k].hi
  a2 : ∀ k (h : k < z.length) (h' : k < ts.length), z[k].1 ≤ ts[k] ∧ ts[k] ≤ z[k].2
  a3 : ∀ k (h : k < z.length) (h' : k < l.length), l[k].lo ≤ z[k].1 ∧ z[k].2 ≤ l[k].hi
  a4 : ∀ k (h : k + 1 < z.length) (h' : k + 1 < l.length), z[k].1 ≤ z[k + 1].1 ∧ z[k].2 ≤ z[k + 1].2 ∧ l[k].lo ≤ l[k + 1].lo

def lst (m1 m2 m3 : Bool) (l : List Stp) (z : List (Int × Int)) (ts : List Int) (b : B) (k : Nat) : St :=
  ⟨[(8, V.sl m1 (l.map encS)), (10, V.sl m2 (z.map encP)), (71, V.sl m3 (ts.map encI)), (72, V.int IntKind.i64 ts.length), (73, V.int IntKind.i64 k)], [b]⟩
theorem look_loop (m1 m2 m3 : Bool) (l : List Stp) (z : List (Int × Int)) (ts : List Int) (b : B) (p : Looks l ts z) : ∀ d k, k + d = ts.length →
    LRuns (vstep T (vlim T F) lplim fi4.cx 1 (lb fi4 0)) (lst m1 m2 m3 l z ts b k) (.exit 0, ⟨(lst m1 m2 m3 l z ts b ts.length).env ++ [(74, .bool false)], [b]⟩)
  | 0, k, h => by
    have hk : k = ts.length := by omega
    subst hk
    have := LRuns.last (F := F) S46_ok (sh := Sh) (L := fun _ _ => .fail) (n := 1) (b := lb fi4 0) (cx := fi4.cx) (τ := lst m1 m2 m3 l z ts b ts.length) (LGood.none (by kernel_rfl)) [(decide ((ts.length : Int) < ts.length), false)] [2]
      (r := (.exit 0, ⟨(lst m1 m2 m3 l z ts b ts.length).env ++ [(74, .bool (decide ((ts.length : Int) < ts.length)))], [b]⟩)) (by kernel_rfl) (by simp) ⟨by simp, trivial⟩
    simpa using this
  | d + 1, k, h => by
    have ih := look_loop m1 m2 m3 l z ts b p d (k + 1) (by omega)
    have l1 := p.len1
    have l2 := p.len2
    have l3 := p.len
    have kt : k < ts.length := by omega
    have kl : k < l.length := by omega
    have kz : k < z.length := by omega
    have gt := t_at ts k kt
    have glo := lo_at l k kl
    have ghi := hi_at l k kl
    have gser := ser_at l k kl
    have gzl := zl_at z k kz
    have gzh := zh_at z k kz
    have hser := p.ser k kl
    have h1 := p.a1 k kl kt
    have h2 := p.a2 k kz kt
    have h3 := p.a3 k kz kl
    have hw : IntKind.i64.wrap ((k : Int) + 1) = ((k + 1 : Nat) : Int) := by rw [i64in (by omega) (by omega)]; rfl
    by_cases hk0 : k = 0
    · subst hk0
      refine LRuns.next (F := F) S46_ok (sh := Sh) (L := fun _ _ => .fail) (LGood.none (by kernel_rfl)) [(decide (((0 : Nat) : Int) < ↑ts.length), true),
        (decide (((0 : Nat) : Int) < ↑(List.map encI ts).length), true),
        ((((List.map encI ts).getD (((0 : Nat) : Int)).toNat V.undef).cells.length == 1) && fitP [TK.int IntKind.i64] 0 ((List.map encI ts).getD (((0 : Nat) : Int)).toNat V.undef), true),
        (decide (((0 : Nat) : Int) < ↑(List.map encS l).length), true),
        ((((List.map encS l).getD (((0 : Nat) : Int)).toNat V.undef).cells.length == 5) && fitP [TK.int IntKind.i64, TK.int IntKind.u64, TK.int IntKind.i64, TK.int IntKind.i64, TK.int IntKind.u64] 0 ((List.map encS l).getD (((0 : Nat) : Int)).toNat V.undef), true),
        (Fd.ser l ((0 : Nat) : Int) != ((0 : Nat) : Int), false),
        (decide (Fd.t ts ((0 : Nat) : Int) < Fd.lo l ((0 : Nat) : Int)), false),
        (decide (Fd.t ts ((0 : Nat) : Int) > Fd.hi l ((0 : Nat) : Int)), false),
        (decide (((0 : Nat) : Int) < ↑(List.map encP z).length), true),
        ((((List.map encP z).getD (((0 : Nat) : Int)).toNat V.undef).cells.length == 2) && fitP [TK.int IntKind.i64, TK.int IntKind.i64] 0 ((List.map encP z).getD (((0 : Nat) : Int)).toNat V.undef), true),
        (decide (Fd.t ts ((0 : Nat) : Int) < Fd.zl z ((0 : Nat) : Int)), false),
        (decide (Fd.t ts ((0 : Nat) : Int) > Fd.zh z ((0 : Nat) : Int)), false),
        (decide (Fd.zl z ((0 : Nat) : Int) < Fd.lo l ((0 : Nat) : Int)), false),
        (decide (Fd.zh z ((0 : Nat) : Int) > Fd.hi l ((0 : Nat) : Int)), false)]
        [2, 0, 3, 4, 0, 5, 6, 7, 7, 7, 7, 0, 5, 6, 7, 7, 7, 7, 8, 8, 8, 8, 0, 5, 6, 8, 8, 8, 8, 9, 9, 9, 9, 0, 10, 11, 9, 9, 9, 9, 12, 12, 12, 12, 0, 10, 11, 12, 12, 12, 12, 13, 13, 13, 0, 10, 11, 13, 13, 13, 13, 13, 0, 5, 6, 13, 13, 13, 13, 14, 14, 14, 0, 10, 11, 14, 14, 14, 14, 14, 0, 5, 6, 14, 14, 14, 14, 15, 1, 1, 1, 1, 1, 1, 1, 1, 1, 1, 1, 1, 1, 1, 1, 1, 1, 1]
        (τ' := ⟨[(8, V.sl m1 (l.map encS)), (10, V.sl m2 (z.map encP)), (71, V.sl m3 (ts.map encI)), (72, V.int IntKind.i64 ts.length), (73, V.int IntKind.i64 (IntKind.i64.wrap (((0 : Nat) : Int) + 1)))], [b]⟩) (by kernel_rfl) ?_ ?_
      · refine ⟨?_, ?_, ?_, ?_, ?_, ?_, ?_, ?_, ?_, ?_, ?_, ?_, ?_, ?_, trivial⟩
        all_goals first
          | (simp [encS, encP, encI, fitP, fld, leafFits, V.cells, kt, kl, kz]; done)
          | (simp only [gt, glo, ghi, gzl, gzh, decide_eq_true_eq, decide_eq_false_iff_not]; omega)
          | (rw [gser, hser]; simp; done)
          | (simp only [List.length_map, decide_eq_true_eq]; omega)
      · rw [hw]; exact ih
    · have h4 := p.a4 (k - 1) (by omega) (by omega)
      have kk : k - 1 + 1 = k := by omega
      simp only [kk] at h4
      have hw1 : IntKind.i64.wrap ((k : Int) - 1) = ((k - 1 : Nat) : Int) := by rw [i64in (by omega) (by omega)]; omega
      have glo1 := lo_at l (k - 1) (by omega)
      have gzl1 := zl_at z (k - 1) (by omega)
      have gzh1 := zh_at z (k - 1) (by omega)
      have gs1 : (List.map encS l).getD (k - 1) V.undef = encS (l[k - 1]'(by omega)) := getD_map _ _ _ (by omega)
      have gz1 : (List.map encP z).getD (k - 1) V.undef = encP (z[k - 1]'(by omega)) := getD_map _ _ _ (by omega)
      refine LRuns.next (F := F) S46_ok (sh := Sh) (L := fun _ _ => .fail) (LGood.none (by kernel_rfl)) [(decide ((k : Int) < ↑ts.length), true),
        (decide (0 ≤ (k : Int)), true),
        (decide ((k : Int) < ↑(List.map encI ts).length), true),
        ((((List.map encI ts).getD ((k : Int)).toNat V.undef).cells.length == 1) && fitP [TK.int IntKind.i64] 0 ((List.map encI ts).getD ((k : Int)).toNat V.undef), true),
        (decide ((k : Int) < ↑(List.map encS l).length), true),
        ((((List.map encS l).getD ((k : Int)).toNat V.undef).cells.length == 5) && fitP [TK.int IntKind.i64, TK.int IntKind.u64, TK.int IntKind.i64, TK.int IntKind.i64, TK.int IntKind.u64] 0 ((List.map encS l).getD ((k : Int)).toNat V.undef), true),
        (Fd.ser l k != (k : Int), false),
        (decide (Fd.t ts k < Fd.lo l k), false),
        (decide (Fd.t ts k > Fd.hi l k), false),
        (decide ((k : Int) < ↑(List.map encP z).length), true),
        ((((List.map encP z).getD ((k : Int)).toNat V.undef).cells.length == 2) && fitP [TK.int IntKind.i64, TK.int IntKind.i64] 0 ((List.map encP z).getD ((k : Int)).toNat V.undef), true),
        (decide (Fd.t ts k < Fd.zl z k), false),
        (decide (Fd.t ts k > Fd.zh z k), false),
        (decide (Fd.zl z k < Fd.lo l k), false),
        (decide (Fd.zh z k > Fd.hi l k), false),
        (decide ((k : Int) > 0), true),
        (decide (0 ≤ IntKind.i64.wrap ((k : Int) - 1)), true),
        (decide (IntKind.i64.wrap ((k : Int) - 1) < ↑(List.map encP z).length), true),
        ((((List.map encP z).getD (IntKind.i64.wrap ((k : Int) - 1)).toNat V.undef).cells.length == 2) && fitP [TK.int IntKind.i64, TK.int IntKind.i64] 0 ((List.map encP z).getD (IntKind.i64.wrap ((k : Int) - 1)).toNat V.undef), true),
        (decide (Fd.zl z k < Fd.zl z (IntKind.i64.wrap ((k : Int) - 1))), false),
        (decide (Fd.zh z k < Fd.zh z (IntKind.i64.wrap ((k : Int) - 1))), false),
        (decide (IntKind.i64.wrap ((k : Int) - 1) < ↑(List.map encS l).length), true),
        ((((List.map encS l).getD (IntKind.i64.wrap ((k : Int) - 1)).toNat V.undef).cells.length == 5) && fitP [TK.int IntKind.i64, TK.int IntKind.u64, TK.int IntKind.i64, TK.int IntKind.i64, TK.int IntKind.u64] 0 ((List.map encS l).getD (IntKind.i64.wrap ((k : Int) - 1)).toNat V.undef), true),
        (decide (Fd.lo l k < Fd.lo l (IntKind.i64.wrap ((k : Int) - 1))), false)]
        [2, 3, 4, 5, 3, 6, 7, 8, 8, 8, 8, 3, 6, 7, 8, 8, 8, 8, 9, 9, 9, 9, 3, 6, 7, 9, 9, 9, 9, 10, 10, 10, 10, 3, 11, 12, 10, 10, 10, 10, 13, 13, 13, 13, 3, 11, 12, 13, 13, 13, 13, 14, 14, 14, 3, 11, 12, 14, 14, 14, 14, 14, 3, 6, 7, 14, 14, 14, 14, 15, 15, 15, 3, 11, 12, 15, 15, 15, 15, 15, 3, 6, 7, 15, 15, 15, 15, 16, 17, 17, 17, 3, 11, 12, 17, 17, 17, 17, 17, 17, 18, 19, 20, 17, 17, 17, 17, 21, 21, 21, 3, 11, 12, 21, 21, 21, 21, 21, 21, 18, 19, 20, 21, 21, 21, 17, 21, 17, 22, 22, 22, 3, 6, 7, 22, 22, 22, 22, 22, 22, 18, 23, 24, 22, 22, 22, 17, 22, 17, 25]
        (τ' := ⟨[(8, V.sl m1 (l.map encS)), (10, V.sl m2 (z.map encP)), (71, V.sl m3 (ts.map encI)), (72, V.int IntKind.i64 ts.length), (73, V.int IntKind.i64 (IntKind.i64.wrap ((k : Int) + 1)))], [b]⟩) (by kernel_rfl) ?_ ?_
      · refine ⟨?_, ?_, ?_, ?_, ?_, ?_, ?_, ?_, ?_, ?_, ?_, ?_, ?_, ?_, ?_, ?_, ?_, ?_, ?_, ?_, ?_, ?_, ?_, ?_, trivial⟩
        all_goals first
          | (simp [encS, encP, encI, fitP, fld, leafFits, V.cells, kt, kl, kz]; done)
          | (simp only [gt, glo, ghi, gzl, gzh, decide_eq_true_eq, decide_eq_false_iff_not]; omega)
          | (rw [gser, hser]; simp; done)
          | (simp only [hw1, List.length_map, decide_eq_true_eq]; omega)
          | (simp only [hw1, Int.toNat_natCast, gs1, gz1]; simp [encS, encP, fitP, fld, leafFits]; done)
          | (rw [hw1]; simp only [glo, glo1, gzl, gzl1, gzh, gzh1, decide_eq_true_eq, decide_eq_false_iff_not]; omega)
      · rw [hw]; exact ih

end Go.Proofs.Ytgmdkjiflhklaaa
