/- N1: the law StampFound over V. -/
import Derived.Test.YtgmdkjiflhklaaaL4
import Derived.Test.YtgmdkjiflhklaaaN0
namespace Go.Proofs.Ytgmdkjiflhklaaa
open Go Go.Vm
noncomputable def Z6 (key : Int) (n : Bool) (bs : List Int) (cv : V) (la : Int) (ts : List Int) : Vm.Spec := ((Q31.add 17 verG).add 14 (givenS key n bs cv la ts)).add 12 awakeS
theorem Z6_ok {key : Int} {n : Bool} {bs : List Int} {cv : V} {la : Int} {ts : List Int} (h14 : Runs T F 14 [.int .u64 key, .sl n (bs.map encB)] [] (.tup [.ptr 0 0, .ex 1 ts.isEmpty (ts.map encI), .bool true], [B.cells [.int .u64 key, .int .u64 la, .bool true, cv]])) : Vm.Good (vlim T F) (Z6 key n bs cv la ts) := by
  refine ((Q31_ok.add verG_ok).add fun a H r h => ?_).add fun a H r h => ?_
  · unfold givenS at h
    split at h
    · obtain ⟨h1, h2⟩ := Tr.must_some h
      have h1 := of_eqB h1
      injection h1 with e1 h1; injection h1 with e2 e3; subst e1; subst e2; subst e3
      have := ret_some h2; subst this
      exact h14
    · cases h
  · unfold awakeS at h
    split at h
    · have := ret_some h; subst this
      exact ⟨60, awake_v⟩
    · cases h
/-- The loop that looks for the first stamp that is another. -/
def fst (key : Int) (l : List Stp) (la : Int) (X : List Stp) (k : Nat) : St := ⟨[(0, .int .u64 key), (14, V.sl false (l.map encS)), (20, V.ex 5 false (X.map encS)), (21, V.int IntKind.i64 k)], [B.cells [.int .u64 key, .int .u64 la, .bool true, V.ex 5 false (l.map encS)]]⟩
def fsr (key : Int) (l : List Stp) (la : Int) (X : List Stp) (k : Nat) (b : Bool) : Ex × St := (.exit 1, ⟨[(0, .int .u64 key), (14, V.sl false (l.map encS)), (20, V.ex 5 false (X.map encS)), (21, V.int IntKind.i64 k), (139, .bool b)], [B.cells [.int .u64 key, .int .u64 la, .bool true, V.ex 5 false (l.map encS)]]⟩)
theorem cells_same (s t : Stp) : cellsEqv [V.int IntKind.i64 s.ser, V.int IntKind.u64 s.doc, V.int IntKind.i64 s.lo, V.int IntKind.i64 s.hi, V.int IntKind.u64 s.sgn] [V.int IntKind.i64 t.ser, V.int IntKind.u64 t.doc, V.int IntKind.i64 t.lo, V.int IntKind.i64 t.hi, V.int IntKind.u64 t.sgn] = true ↔ s = t := by
  cases s; cases t; simp [cellsEqv, cellEqv]
theorem fst_loop {key la : Int} {l X : List Stp} (hl : l.length ≤ 1000) {f : Nat} (c : Chg key l X f) : ∀ d k, k + d = f → ∃ b, LRuns (vstep T (vlim T F) lplim fi6.cx 1 (lb fi6 0)) (fst key l la X k) (fsr key l la X f b)
  | 0, k, hk => by
    have hk : k = f := by omega
    subst hk
    have hle := c.le
    have hlx := c.lx
    by_cases he : k = X.length
    · exact ⟨false, LRuns.last (F := F) U44_ok (sh := Sh) (L := fun _ _ => .fail) (LGood.none (by kernel_rfl)) [(decide ((↑k : Int) < (↑(List.map encS X).length : Int)), false)] [2, 2, 2, 2, 2, 2, 2, 2, 2, 2, 1] (r := fsr key l la X k false) (by kernel_rfl) (by simp [fsr]) ⟨by simp; omega, trivial⟩⟩
    · have hkx : k < X.length := by omega
      have hkl : k < l.length := by omega
      have hne : X[k] ≠ l[k] := fun h => c.other hkx (by rw [List.getElem?_eq_getElem hkx, List.getElem?_eq_getElem hkl, h])
      have h1 := LRuns.last (F := F) U44_ok (sh := Sh) (L := fun _ _ => .fail) (n := 1) (b := lb fi6 0) (cx := fi6.cx) (τ := fst key l la X k) (LGood.none (by kernel_rfl)) [(decide ((↑k : Int) < (↑(List.map encS X).length : Int)), true),
    (decide (k < (List.map encS X).length), true),
    (fitP [TK.int IntKind.i64, TK.int IntKind.u64, TK.int IntKind.i64, TK.int IntKind.i64, TK.int IntKind.u64] 0 ((List.map encS X).getD k V.undef), true),
    (decide ((↑k : Int) < (↑(List.map encS l).length : Int)), true),
    (((List.map encS l).getD k V.undef).cells.length == 5 && fitP [TK.int IntKind.i64, TK.int IntKind.u64, TK.int IntKind.i64, TK.int IntKind.i64, TK.int IntKind.u64] 0 ((List.map encS l).getD k V.undef), true),
    (cellsEqv [V.int IntKind.i64 (Fd.s0 X k), V.int IntKind.u64 (Fd.s1 X k), V.int IntKind.i64 (Fd.s2 X k), V.int IntKind.i64 (Fd.s3 X k), V.int IntKind.u64 (Fd.sn X k)] [V.int IntKind.i64 (Fd.s0 l k), V.int IntKind.u64 (Fd.s1 l k), V.int IntKind.i64 (Fd.s2 l k), V.int IntKind.i64 (Fd.s3 l k), V.int IntKind.u64 (Fd.sn l k)], false)] [2, 2, 2, 0, 2, 2, 3, 4, 2, 2, 2, 0, 5, 6, 2, 2, 2, 7] (r := (Ex.exit 1, { env := [(0, V.int IntKind.u64 key), (14, V.sl false (List.map encS l)), (20, V.ex 5 false (List.map encS X)), (21, V.int IntKind.i64 (↑k : Int)), (139, V.bool (cellsEqv [V.int IntKind.i64 (Fd.s0 X k), V.int IntKind.u64 (Fd.s1 X k), V.int IntKind.i64 (Fd.s2 X k), V.int IntKind.i64 (Fd.s3 X k), V.int IntKind.u64 (Fd.sn X k)] [V.int IntKind.i64 (Fd.s0 l k), V.int IntKind.u64 (Fd.s1 l k), V.int IntKind.i64 (Fd.s2 l k), V.int IntKind.i64 (Fd.s3 l k), V.int IntKind.u64 (Fd.sn l k)]))], heap := [B.cells [V.int IntKind.u64 key, V.int IntKind.u64 la, V.bool true, V.ex 5 false (List.map encS l)]] })) (by kernel_rfl) (by simp) (by
        rw [s0_at X k hkx, s1_at X k hkx, s2_at X k hkx, s3_at X k hkx, sn_at X k hkx, s0_at l k hkl, s1_at l k hkl, s2_at l k hkl, s3_at l k hkl, sn_at l k hkl]
        exact ⟨by simp; omega, by simp; omega, by simp [encS, fitP, fld, leafFits, V.cells, hkx], by simp; omega, by simp [encS, fitP, fld, leafFits, V.cells, hkl], Bool.eq_false_iff.2 fun h => hne ((cells_same _ _).1 h), trivial⟩)
      exact ⟨_, h1⟩
  | d + 1, k, hk => by
    have hle := c.le
    have hlx := c.lx
    have hkx : k < X.length := by omega
    have hkl : k < l.length := by omega
    have he : X[k] = l[k] := by
      have := c.same k (by omega)
      rw [List.getElem?_eq_getElem hkx, List.getElem?_eq_getElem hkl] at this
      injection this
    obtain ⟨b, hr⟩ := fst_loop (la := la) hl c d (k + 1) (by omega)
    refine ⟨b, ?_⟩
    have hw : IntKind.i64.wrap ((k : Int) + 1) = ((k + 1 : Nat) : Int) := by rw [i64in (by omega) (by omega)]; omega
    refine LRuns.next (F := F) U44_ok (sh := Sh) (L := fun _ _ => .fail) (LGood.none (by kernel_rfl)) [(decide ((↑k : Int) < (↑(List.map encS X).length : Int)), true),
    (decide (k < (List.map encS X).length), true),
    (fitP [TK.int IntKind.i64, TK.int IntKind.u64, TK.int IntKind.i64, TK.int IntKind.i64, TK.int IntKind.u64] 0 ((List.map encS X).getD k V.undef), true),
    (decide ((↑k : Int) < (↑(List.map encS l).length : Int)), true),
    (((List.map encS l).getD k V.undef).cells.length == 5 && fitP [TK.int IntKind.i64, TK.int IntKind.u64, TK.int IntKind.i64, TK.int IntKind.i64, TK.int IntKind.u64] 0 ((List.map encS l).getD k V.undef), true),
    (cellsEqv [V.int IntKind.i64 (Fd.s0 X k), V.int IntKind.u64 (Fd.s1 X k), V.int IntKind.i64 (Fd.s2 X k), V.int IntKind.i64 (Fd.s3 X k), V.int IntKind.u64 (Fd.sn X k)] [V.int IntKind.i64 (Fd.s0 l k), V.int IntKind.u64 (Fd.s1 l k), V.int IntKind.i64 (Fd.s2 l k), V.int IntKind.i64 (Fd.s3 l k), V.int IntKind.u64 (Fd.sn l k)], true)] [2, 2, 2, 0, 2, 2, 3, 4, 2, 2, 2, 0, 5, 6, 2, 2, 2, 7] (τ' := { env := [(0, V.int IntKind.u64 key), (14, V.sl false (List.map encS l)), (20, V.ex 5 false (List.map encS X)), (21, V.int IntKind.i64 (IntKind.i64.wrap ((↑k : Int) + 1)))], heap := [B.cells [V.int IntKind.u64 key, V.int IntKind.u64 la, V.bool true, V.ex 5 false (List.map encS l)]] }) (by kernel_rfl) ?_ ?_
    · rw [s0_at X k hkx, s1_at X k hkx, s2_at X k hkx, s3_at X k hkx, sn_at X k hkx, s0_at l k hkl, s1_at l k hkl, s2_at l k hkl, s3_at l k hkl, sn_at l k hkl, he]
      exact ⟨by simp; omega, by simp; omega, by simp [encS, fitP, fld, leafFits, V.cells, hkx, he], by simp; omega, by simp [encS, fitP, fld, leafFits, V.cells, hkl], (cells_same _ _).2 rfl, trivial⟩
    · rw [hw]; exact hr
theorem found_runs {key : Int} {n : Bool} {bs : List Int} {l : List Stp} {la : Int} {ts : List Int} {now : Int} (hc : Chain key l ts la now) (hl : l.length ≤ 30) (hl0 : 0 < l.length)
    (h14 : Runs T F 14 [.int .u64 key, .sl n (bs.map encB)] [] (.tup [.ptr 0 0, .ex 1 ts.isEmpty (ts.map encI), .bool true], [B.cells [.int .u64 key, .int .u64 la, .bool true, .ex 5 false (l.map encS)]]))
    (x y w : Int) (hx : 0 ≤ x ∧ x ≤ 255) (hy : 0 ≤ y ∧ y ≤ 255) : Runs T F 6 [.int .u64 key, V.sl n (bs.map encB), .int .u8 x, .int .u8 y, .int .u8 w] [] (.bool true, []) := by
  have wx : IntKind.i64.wrap x = x := i64in (by omega) (by omega)
  have wy : IntKind.i64.wrap y = y := i64in (by omega) (by omega)
  have txn : x.tmod (l.length : Int) = x % (l.length : Int) := Int.tmod_eq_emod_of_nonneg hx.1
  have tyn : y.tmod (l.length : Int) = y % (l.length : Int) := Int.tmod_eq_emod_of_nonneg hy.1
  have hx0 : 0 ≤ x % (l.length : Int) := Int.emod_nonneg _ (by omega)
  have hx2 : x % (l.length : Int) < l.length := Int.emod_lt_of_pos _ (by omega)
  have hy0 : 0 ≤ y % (l.length : Int) := Int.emod_nonneg _ (by omega)
  have hy2 : y % (l.length : Int) < l.length := Int.emod_lt_of_pos _ (by omega)
  obtain ⟨jx, hjx⟩ := Int.eq_ofNat_of_zero_le hx0
  obtain ⟨jy, hjy⟩ := Int.eq_ofNat_of_zero_le hy0
  have hx1 : jx < l.length := by omega
  have hy1 : jy < l.length := by omega
  have e0 : Int.toNat 0 = 0 := rfl
  have hgx : (List.map encS l).getD jx V.undef = encS l[jx] := by rw [List.getD_eq_getElem?_getD, List.getElem?_map, List.getElem?_eq_getElem hx1]; rfl
  have hgy : (List.map encS l).getD jy V.undef = encS l[jy] := by rw [List.getD_eq_getElem?_getD, List.getElem?_map, List.getElem?_eq_getElem hy1]; rfl
  have hdx : Fd.doc l (jx : Int) = l[jx].doc := doc_at l jx hx1
  have hhx : Fd.hi l (jx : Int) = l[jx].hi := hi_at l jx hx1
  have hsx : Fd.sg l (jx : Int) = l[jx].sgn := sg_at l jx hx1
  have hlx' : Fd.lo l (jx : Int) = l[jx].lo := lo_at l jx hx1
  have hs0x : Fd.s0 l jx = l[jx].ser := s0_at l jx hx1
  have hdy : Fd.doc l (jy : Int) = l[jy].doc := doc_at l jy hy1
  have hhy : Fd.hi l (jy : Int) = l[jy].hi := hi_at l jy hy1
  have hsy : Fd.sg l (jy : Int) = l[jy].sgn := sg_at l jy hy1
  have hly : Fd.lo l (jy : Int) = l[jy].lo := lo_at l jy hy1
  have hs0y : Fd.s0 l jy = l[jy].ser := s0_at l jy hy1
  have hw1 : IntKind.i64.wrap ((jx : Int) + 1) = ((jx + 1 : Nat) : Int) := by rw [i64in (by omega) (by omega)]; omega
  have hT : List.take jx (List.map encS l) = List.map encS (l.take jx) := List.map_take.symm
  have cT := chg_take hc (by omega) (Nat.le_of_lt hx1)
  have cT2 : (P.vr key (l.take jx)).2 = 0 := cT.err.2 (by simp; omega)
  by_cases hw0 : w.tmod 5 = 0
  · have hw1' := trivial; have hw2 := trivial; have hw3 := trivial
    obtain ⟨X, hX⟩ : ∃ X, X = l.set jx { l[jx] with doc := IntKind.u64.wrap (l[jx].doc + 1) } := ⟨_, rfl⟩
    obtain ⟨f, hf⟩ : ∃ f : Nat, f = jx := ⟨_, rfl⟩
    have c : Chg key l X f := by rw [hX, hf]; exact chg_doc hc (by omega) hx1
    have hXl : X.length = l.length := by rw [hX]; simp
    obtain ⟨b, hloop⟩ := fst_loop (la := la) (by omega) c f 0 (by omega)
    have c1 := c.num
    have c2 : (P.vr key X).2 ≠ 0 := fun h => by have := c.err.1 h; omega
    refine Runs.way (F := F) (sh := Sh) (S := Z6 key n bs (.ex 5 false (l.map encS)) la ts) (Z6_ok h14) (fi := fi6) (by kernel_rfl) (LGood.one (b := lb fi6 0) (k := 23) (σ0 := fst key l la X 0) (by kernel_rfl) hloop) [(eqB (key, n, List.map encB bs) (key, n, List.map encB bs), true),
    (eqB (List.map encS l) (List.map encS (List.map decS (List.map encS l))), true),
    (decide ((List.map encS l).length ≤ 1000), true),
    (apart (V.ex 5 false (List.map encS l)), true),
    ((↑(List.map encS l).length : Int) == 0, false),
    (!decide ((↑(List.map encS l).length : Int) = 0), true),
    (decide (0 ≤ (IntKind.i64.wrap x).tmod (↑(List.map encS l).length : Int)), true),
    (decide ((IntKind.i64.wrap x).tmod (↑(List.map encS l).length : Int) ≤ (↑(List.map encS l).length : Int)), true),
    ((List.map encS l).all fun x => x.cells.length == 5, true),
    (eqB (List.take (((IntKind.i64.wrap x).tmod (↑(List.map encS l).length : Int)).toNat - 0) (List.drop 0 (List.map encS l))) (List.map encS (List.map decS (List.take (((IntKind.i64.wrap x).tmod (↑(List.map encS l).length : Int)).toNat - 0) (List.drop 0 (List.map encS l))))), true),
    ((P.vr key (List.map decS (List.take (((IntKind.i64.wrap x).tmod (↑(List.map encS l).length : Int)).toNat - Int.toNat 0) (List.drop (Int.toNat 0) (List.map encS l))))).2 != 0, false),
    ((P.vr key (List.map decS (List.take (((IntKind.i64.wrap x).tmod (↑(List.map encS l).length : Int)).toNat - Int.toNat 0) (List.drop (Int.toNat 0) (List.map encS l))))).1 != (IntKind.i64.wrap x).tmod (↑(List.map encS l).length : Int), false),
    (w.tmod 5 == 0, true),
    (decide ((IntKind.i64.wrap x).tmod (↑(List.map encS l).length : Int) < (↑(List.map encS l).length : Int)), true),
    (decide (((IntKind.i64.wrap x).tmod (↑(List.map encS l).length : Int)).toNat < (List.map encS l).length), true),
    (fitP [TK.int IntKind.u64] 1 ((List.map encS l).getD ((IntKind.i64.wrap x).tmod (↑(List.map encS l).length : Int)).toNat V.undef), true),
    (decide (2 ≤ ((List.map encS l).getD ((IntKind.i64.wrap x).tmod (↑(List.map encS l).length : Int)).toNat V.undef).cells.length), true),
    (is { env := [(0, V.int IntKind.u64 key), (14, V.sl false (List.map encS l)), (20, V.ex 5 false ((List.map encS l).set ((IntKind.i64.wrap x).tmod (↑(List.map encS l).length : Int)).toNat (mkOf ((List.map encS l).getD ((IntKind.i64.wrap x).tmod (↑(List.map encS l).length : Int)).toNat V.undef) (setCells ((List.map encS l).getD ((IntKind.i64.wrap x).tmod (↑(List.map encS l).length : Int)).toNat V.undef).cells 1 [V.int IntKind.u64 (IntKind.u64.wrap (Fd.doc l ((IntKind.i64.wrap x).tmod (↑(List.map encS l).length : Int)) + 1))])))), (21, V.int IntKind.i64 0)], heap := [B.cells [V.int IntKind.u64 key, V.int IntKind.u64 la, V.bool true, V.ex 5 false (List.map encS l)]] } { env := [(0, V.int IntKind.u64 key), (14, V.sl false (List.map encS l)), (20, V.ex 5 false (List.map encS X)), (21, V.int IntKind.i64 0)], heap := [B.cells [V.int IntKind.u64 key, V.int IntKind.u64 la, V.bool true, V.ex 5 false (List.map encS l)]] }, true),
    (eqB (List.map encS X) (List.map encS (List.map decS (List.map encS X))), true),
    ((↑f : Int) == (↑(List.map encS X).length : Int), false),
    ((P.vr key (List.map decS (List.map encS X))).2 != 0, true),
    ((P.vr key (List.map decS (List.map encS X))).1 == (↑f : Int), true)] [2, 1, 1, 1, 1, 1, 1, 1, 1, 3, 0, 4, 5, 1, 1, 1, 1, 6, 7, 7, 0, 8, 9, 10, 11, 12, 12, 12, 12, 13, 3, 0, 4, 0, 14, 8, 15, 16, 17, 8, 15, 16, 18, 19, 20, 0, 21, 22, 22, 22, 22, 23, 23] (by kernel_rfl) ?_
    simp only [List.length_map, wx, txn, hjx, Int.toNat_natCast, e0, Nat.sub_zero, List.drop_zero, hgx, hdx, hT, decS_enc, cT.num]
    refine ⟨?_, ?_, ?_, ?_, ?_, ?_, ?_, ?_, ?_, ?_, ?_, ?_, ?_, ?_, ?_, ?_, ?_, ?_, ?_, ?_, ?_, ?_, trivial⟩
    all_goals first
        | exact eqB_eq rfl
        | exact apart_s _ _
        | assumption
        | (simp; done)
        | (simp; omega)
        | (simp; done)
        | (simp [encS, fitP, fld, leafFits, V.cells]; done)
        | (simp only [beq_eq_false_iff_ne, ne_eq, Bool.not_eq_true', decide_eq_false_iff_not]; omega)
        | (refine is_eq ?_; rw [hX]; first | (rw [List.map_set]; rfl) | (simp only [List.map_append, List.map_take, List.map_drop]; done) | (simp only [List.map_set]; done))
  by_cases hw1' : w.tmod 5 = 1
  · have hw2 := trivial; have hw3 := trivial
    obtain ⟨X, hX⟩ : ∃ X, X = l.set jx { l[jx] with hi := IntKind.i64.wrap (l[jx].hi + 1) } := ⟨_, rfl⟩
    obtain ⟨f, hf⟩ : ∃ f : Nat, f = jx := ⟨_, rfl⟩
    have c : Chg key l X f := by rw [hX, hf]; exact chg_hi hc (by omega) hx1
    have hXl : X.length = l.length := by rw [hX]; simp
    obtain ⟨b, hloop⟩ := fst_loop (la := la) (by omega) c f 0 (by omega)
    have c1 := c.num
    have c2 : (P.vr key X).2 ≠ 0 := fun h => by have := c.err.1 h; omega
    refine Runs.way (F := F) (sh := Sh) (S := Z6 key n bs (.ex 5 false (l.map encS)) la ts) (Z6_ok h14) (fi := fi6) (by kernel_rfl) (LGood.one (b := lb fi6 0) (k := 23) (σ0 := fst key l la X 0) (by kernel_rfl) hloop) [(eqB (key, n, List.map encB bs) (key, n, List.map encB bs), true),
    (eqB (List.map encS l) (List.map encS (List.map decS (List.map encS l))), true),
    (decide ((List.map encS l).length ≤ 1000), true),
    (apart (V.ex 5 false (List.map encS l)), true),
    ((↑(List.map encS l).length : Int) == 0, false),
    (!decide ((↑(List.map encS l).length : Int) = 0), true),
    (decide (0 ≤ (IntKind.i64.wrap x).tmod (↑(List.map encS l).length : Int)), true),
    (decide ((IntKind.i64.wrap x).tmod (↑(List.map encS l).length : Int) ≤ (↑(List.map encS l).length : Int)), true),
    ((List.map encS l).all fun x => x.cells.length == 5, true),
    (eqB (List.take (((IntKind.i64.wrap x).tmod (↑(List.map encS l).length : Int)).toNat - 0) (List.drop 0 (List.map encS l))) (List.map encS (List.map decS (List.take (((IntKind.i64.wrap x).tmod (↑(List.map encS l).length : Int)).toNat - 0) (List.drop 0 (List.map encS l))))), true),
    ((P.vr key (List.map decS (List.take (((IntKind.i64.wrap x).tmod (↑(List.map encS l).length : Int)).toNat - Int.toNat 0) (List.drop (Int.toNat 0) (List.map encS l))))).2 != 0, false),
    ((P.vr key (List.map decS (List.take (((IntKind.i64.wrap x).tmod (↑(List.map encS l).length : Int)).toNat - Int.toNat 0) (List.drop (Int.toNat 0) (List.map encS l))))).1 != (IntKind.i64.wrap x).tmod (↑(List.map encS l).length : Int), false),
    (w.tmod 5 == 0, false),
    (w.tmod 5 == 1, true),
    (decide ((IntKind.i64.wrap x).tmod (↑(List.map encS l).length : Int) < (↑(List.map encS l).length : Int)), true),
    (decide (((IntKind.i64.wrap x).tmod (↑(List.map encS l).length : Int)).toNat < (List.map encS l).length), true),
    (fitP [TK.int IntKind.i64] 3 ((List.map encS l).getD ((IntKind.i64.wrap x).tmod (↑(List.map encS l).length : Int)).toNat V.undef), true),
    (decide (4 ≤ ((List.map encS l).getD ((IntKind.i64.wrap x).tmod (↑(List.map encS l).length : Int)).toNat V.undef).cells.length), true),
    (is { env := [(0, V.int IntKind.u64 key), (14, V.sl false (List.map encS l)), (20, V.ex 5 false ((List.map encS l).set ((IntKind.i64.wrap x).tmod (↑(List.map encS l).length : Int)).toNat (mkOf ((List.map encS l).getD ((IntKind.i64.wrap x).tmod (↑(List.map encS l).length : Int)).toNat V.undef) (setCells ((List.map encS l).getD ((IntKind.i64.wrap x).tmod (↑(List.map encS l).length : Int)).toNat V.undef).cells 3 [V.int IntKind.i64 (IntKind.i64.wrap (Fd.hi l ((IntKind.i64.wrap x).tmod (↑(List.map encS l).length : Int)) + 1))])))), (21, V.int IntKind.i64 0)], heap := [B.cells [V.int IntKind.u64 key, V.int IntKind.u64 la, V.bool true, V.ex 5 false (List.map encS l)]] } { env := [(0, V.int IntKind.u64 key), (14, V.sl false (List.map encS l)), (20, V.ex 5 false (List.map encS X)), (21, V.int IntKind.i64 0)], heap := [B.cells [V.int IntKind.u64 key, V.int IntKind.u64 la, V.bool true, V.ex 5 false (List.map encS l)]] }, true),
    (eqB (List.map encS X) (List.map encS (List.map decS (List.map encS X))), true),
    ((↑f : Int) == (↑(List.map encS X).length : Int), false),
    ((P.vr key (List.map decS (List.map encS X))).2 != 0, true),
    ((P.vr key (List.map decS (List.map encS X))).1 == (↑f : Int), true)] [2, 1, 1, 1, 1, 1, 1, 1, 1, 3, 0, 4, 5, 1, 1, 1, 1, 6, 7, 7, 0, 8, 9, 10, 11, 12, 12, 12, 12, 13, 3, 0, 4, 0, 14, 15, 8, 16, 17, 18, 8, 16, 17, 19, 20, 21, 0, 22, 23, 23, 23, 23, 24, 24] (by kernel_rfl) ?_
    simp only [List.length_map, wx, txn, hjx, Int.toNat_natCast, e0, Nat.sub_zero, List.drop_zero, hgx, hhx, hT, decS_enc, cT.num]
    refine ⟨?_, ?_, ?_, ?_, ?_, ?_, ?_, ?_, ?_, ?_, ?_, ?_, ?_, ?_, ?_, ?_, ?_, ?_, ?_, ?_, ?_, ?_, ?_, trivial⟩
    all_goals first
        | exact eqB_eq rfl
        | exact apart_s _ _
        | assumption
        | (simp; done)
        | (simp; omega)
        | (simp; done)
        | (simp [encS, fitP, fld, leafFits, V.cells]; done)
        | (simp only [beq_eq_false_iff_ne, ne_eq, Bool.not_eq_true', decide_eq_false_iff_not]; omega)
        | (refine is_eq ?_; rw [hX]; first | (rw [List.map_set]; rfl) | (simp only [List.map_append, List.map_take, List.map_drop]; done) | (simp only [List.map_set]; done))
  by_cases hw2 : w.tmod 5 = 2
  · have hw3 := trivial
    obtain ⟨X, hX⟩ : ∃ X, X = l.set jx { l[jx] with sgn := IntKind.u64.wrap (l[jx].sgn - 1) } := ⟨_, rfl⟩
    obtain ⟨f, hf⟩ : ∃ f : Nat, f = jx := ⟨_, rfl⟩
    have c : Chg key l X f := by rw [hX, hf]; exact chg_sgn hc (by omega) hx1
    have hXl : X.length = l.length := by rw [hX]; simp
    obtain ⟨b, hloop⟩ := fst_loop (la := la) (by omega) c f 0 (by omega)
    have c1 := c.num
    have c2 : (P.vr key X).2 ≠ 0 := fun h => by have := c.err.1 h; omega
    refine Runs.way (F := F) (sh := Sh) (S := Z6 key n bs (.ex 5 false (l.map encS)) la ts) (Z6_ok h14) (fi := fi6) (by kernel_rfl) (LGood.one (b := lb fi6 0) (k := 23) (σ0 := fst key l la X 0) (by kernel_rfl) hloop) [(eqB (key, n, List.map encB bs) (key, n, List.map encB bs), true),
    (eqB (List.map encS l) (List.map encS (List.map decS (List.map encS l))), true),
    (decide ((List.map encS l).length ≤ 1000), true),
    (apart (V.ex 5 false (List.map encS l)), true),
    ((↑(List.map encS l).length : Int) == 0, false),
    (!decide ((↑(List.map encS l).length : Int) = 0), true),
    (decide (0 ≤ (IntKind.i64.wrap x).tmod (↑(List.map encS l).length : Int)), true),
    (decide ((IntKind.i64.wrap x).tmod (↑(List.map encS l).length : Int) ≤ (↑(List.map encS l).length : Int)), true),
    ((List.map encS l).all fun x => x.cells.length == 5, true),
    (eqB (List.take (((IntKind.i64.wrap x).tmod (↑(List.map encS l).length : Int)).toNat - 0) (List.drop 0 (List.map encS l))) (List.map encS (List.map decS (List.take (((IntKind.i64.wrap x).tmod (↑(List.map encS l).length : Int)).toNat - 0) (List.drop 0 (List.map encS l))))), true),
    ((P.vr key (List.map decS (List.take (((IntKind.i64.wrap x).tmod (↑(List.map encS l).length : Int)).toNat - Int.toNat 0) (List.drop (Int.toNat 0) (List.map encS l))))).2 != 0, false),
    ((P.vr key (List.map decS (List.take (((IntKind.i64.wrap x).tmod (↑(List.map encS l).length : Int)).toNat - Int.toNat 0) (List.drop (Int.toNat 0) (List.map encS l))))).1 != (IntKind.i64.wrap x).tmod (↑(List.map encS l).length : Int), false),
    (w.tmod 5 == 0, false),
    (w.tmod 5 == 1, false),
    (w.tmod 5 == 2, true),
    (decide ((IntKind.i64.wrap x).tmod (↑(List.map encS l).length : Int) < (↑(List.map encS l).length : Int)), true),
    (decide (((IntKind.i64.wrap x).tmod (↑(List.map encS l).length : Int)).toNat < (List.map encS l).length), true),
    (fitP [TK.int IntKind.u64] 4 ((List.map encS l).getD ((IntKind.i64.wrap x).tmod (↑(List.map encS l).length : Int)).toNat V.undef), true),
    (decide (5 ≤ ((List.map encS l).getD ((IntKind.i64.wrap x).tmod (↑(List.map encS l).length : Int)).toNat V.undef).cells.length), true),
    (is { env := [(0, V.int IntKind.u64 key), (14, V.sl false (List.map encS l)), (20, V.ex 5 false ((List.map encS l).set ((IntKind.i64.wrap x).tmod (↑(List.map encS l).length : Int)).toNat (mkOf ((List.map encS l).getD ((IntKind.i64.wrap x).tmod (↑(List.map encS l).length : Int)).toNat V.undef) (setCells ((List.map encS l).getD ((IntKind.i64.wrap x).tmod (↑(List.map encS l).length : Int)).toNat V.undef).cells 4 [V.int IntKind.u64 (IntKind.u64.wrap (Fd.sg l ((IntKind.i64.wrap x).tmod (↑(List.map encS l).length : Int)) - 1))])))), (21, V.int IntKind.i64 0)], heap := [B.cells [V.int IntKind.u64 key, V.int IntKind.u64 la, V.bool true, V.ex 5 false (List.map encS l)]] } { env := [(0, V.int IntKind.u64 key), (14, V.sl false (List.map encS l)), (20, V.ex 5 false (List.map encS X)), (21, V.int IntKind.i64 0)], heap := [B.cells [V.int IntKind.u64 key, V.int IntKind.u64 la, V.bool true, V.ex 5 false (List.map encS l)]] }, true),
    (eqB (List.map encS X) (List.map encS (List.map decS (List.map encS X))), true),
    ((↑f : Int) == (↑(List.map encS X).length : Int), false),
    ((P.vr key (List.map decS (List.map encS X))).2 != 0, true),
    ((P.vr key (List.map decS (List.map encS X))).1 == (↑f : Int), true)] [2, 1, 1, 1, 1, 1, 1, 1, 1, 3, 0, 4, 5, 1, 1, 1, 1, 6, 7, 7, 0, 8, 9, 10, 11, 12, 12, 12, 12, 13, 3, 0, 4, 0, 14, 15, 16, 8, 17, 18, 19, 8, 17, 18, 20, 21, 22, 0, 23, 24, 24, 24, 24, 25, 25] (by kernel_rfl) ?_
    simp only [List.length_map, wx, txn, hjx, Int.toNat_natCast, e0, Nat.sub_zero, List.drop_zero, hgx, hsx, hT, decS_enc, cT.num]
    refine ⟨?_, ?_, ?_, ?_, ?_, ?_, ?_, ?_, ?_, ?_, ?_, ?_, ?_, ?_, ?_, ?_, ?_, ?_, ?_, ?_, ?_, ?_, ?_, ?_, trivial⟩
    all_goals first
        | exact eqB_eq rfl
        | exact apart_s _ _
        | assumption
        | (simp; done)
        | (simp; omega)
        | (simp; done)
        | (simp [encS, fitP, fld, leafFits, V.cells]; done)
        | (simp only [beq_eq_false_iff_ne, ne_eq, Bool.not_eq_true', decide_eq_false_iff_not]; omega)
        | (refine is_eq ?_; rw [hX]; first | (rw [List.map_set]; rfl) | (simp only [List.map_append, List.map_take, List.map_drop]; done) | (simp only [List.map_set]; done))
  by_cases hw3 : w.tmod 5 = 3
  · obtain ⟨X, hX⟩ : ∃ X, X = l.take jx ++ l.drop (jx + 1) := ⟨_, rfl⟩
    obtain ⟨f, hf⟩ : ∃ f : Nat, f = jx := ⟨_, rfl⟩
    have c : Chg key l X f := by rw [hX, hf]; exact chg_del hc (by omega) hx1
    have hXl : X.length = l.length - 1 := by rw [hX]; simp; omega
    obtain ⟨b, hloop⟩ := fst_loop (la := la) (by omega) c f 0 (by omega)
    have c1 := c.num
    by_cases hfx : f = X.length
    · have c2 : (P.vr key X).2 = 0 := c.err.2 hfx
      refine Runs.way (F := F) (sh := Sh) (S := Z6 key n bs (.ex 5 false (l.map encS)) la ts) (Z6_ok h14) (fi := fi6) (by kernel_rfl) (LGood.one (b := lb fi6 0) (k := 23) (σ0 := fst key l la X 0) (by kernel_rfl) hloop) [(eqB (key, n, List.map encB bs) (key, n, List.map encB bs), true),
    (eqB (List.map encS l) (List.map encS (List.map decS (List.map encS l))), true),
    (decide ((List.map encS l).length ≤ 1000), true),
    (apart (V.ex 5 false (List.map encS l)), true),
    ((↑(List.map encS l).length : Int) == 0, false),
    (!decide ((↑(List.map encS l).length : Int) = 0), true),
    (decide (0 ≤ (IntKind.i64.wrap x).tmod (↑(List.map encS l).length : Int)), true),
    (decide ((IntKind.i64.wrap x).tmod (↑(List.map encS l).length : Int) ≤ (↑(List.map encS l).length : Int)), true),
    ((List.map encS l).all fun x => x.cells.length == 5, true),
    (eqB (List.take (((IntKind.i64.wrap x).tmod (↑(List.map encS l).length : Int)).toNat - 0) (List.drop 0 (List.map encS l))) (List.map encS (List.map decS (List.take (((IntKind.i64.wrap x).tmod (↑(List.map encS l).length : Int)).toNat - 0) (List.drop 0 (List.map encS l))))), true),
    ((P.vr key (List.map decS (List.take (((IntKind.i64.wrap x).tmod (↑(List.map encS l).length : Int)).toNat - Int.toNat 0) (List.drop (Int.toNat 0) (List.map encS l))))).2 != 0, false),
    ((P.vr key (List.map decS (List.take (((IntKind.i64.wrap x).tmod (↑(List.map encS l).length : Int)).toNat - Int.toNat 0) (List.drop (Int.toNat 0) (List.map encS l))))).1 != (IntKind.i64.wrap x).tmod (↑(List.map encS l).length : Int), false),
    (w.tmod 5 == 0, false),
    (w.tmod 5 == 1, false),
    (w.tmod 5 == 2, false),
    (w.tmod 5 == 3, true),
    (decide ((IntKind.i64.wrap x).tmod (↑(List.map encS l).length : Int) ≤ IntKind.i64.wrap ((IntKind.i64.wrap x).tmod (↑(List.map encS l).length : Int) + 1)), true),
    (decide (IntKind.i64.wrap ((IntKind.i64.wrap x).tmod (↑(List.map encS l).length : Int) + 1) ≤ (↑(List.map encS l).length : Int)), true),
    (decide (0 < (List.map encS l).length), true),
    (is { env := [(0, V.int IntKind.u64 key), (14, V.sl false (List.map encS l)), (20, V.ex 5 false (List.take ((IntKind.i64.wrap x).tmod (↑(List.map encS l).length : Int)).toNat (List.map encS l) ++ List.drop (IntKind.i64.wrap ((IntKind.i64.wrap x).tmod (↑(List.map encS l).length : Int) + 1)).toNat (List.map encS l))), (21, V.int IntKind.i64 0)], heap := [B.cells [V.int IntKind.u64 key, V.int IntKind.u64 la, V.bool true, V.ex 5 false (List.map encS l)]] } { env := [(0, V.int IntKind.u64 key), (14, V.sl false (List.map encS l)), (20, V.ex 5 false (List.map encS X)), (21, V.int IntKind.i64 0)], heap := [B.cells [V.int IntKind.u64 key, V.int IntKind.u64 la, V.bool true, V.ex 5 false (List.map encS l)]] }, true),
    (eqB (List.map encS X) (List.map encS (List.map decS (List.map encS X))), true),
    ((↑f : Int) == (↑(List.map encS X).length : Int), true),
    ((P.vr key (List.map decS (List.map encS X))).2 == 0, true),
    ((P.vr key (List.map decS (List.map encS X))).1 == (↑f : Int), true)] [2, 1, 1, 1, 1, 1, 1, 1, 1, 3, 0, 4, 5, 1, 1, 1, 1, 6, 7, 7, 0, 8, 9, 10, 11, 12, 12, 12, 12, 13, 3, 0, 4, 0, 14, 15, 16, 17, 8, 18, 19, 20, 21, 22, 0, 23, 24, 24, 24, 24, 25, 25] (by kernel_rfl) ?_
      simp only [List.length_map, wx, txn, hjx, Int.toNat_natCast, e0, Nat.sub_zero, List.drop_zero, hw1, hT, decS_enc, cT.num]
      refine ⟨?_, ?_, ?_, ?_, ?_, ?_, ?_, ?_, ?_, ?_, ?_, ?_, ?_, ?_, ?_, ?_, ?_, ?_, ?_, ?_, ?_, ?_, ?_, ?_, trivial⟩
      all_goals first
        | exact eqB_eq rfl
        | exact apart_s _ _
        | assumption
        | (simp; done)
        | (simp; omega)
        | (simp; done)
        | (simp [encS, V.cells]; done)
        | (simp only [beq_eq_false_iff_ne, ne_eq, Bool.not_eq_true', decide_eq_false_iff_not]; omega)
        | (refine is_eq ?_; rw [hX]; first | (rw [List.map_set]; rfl) | (simp only [List.map_append, List.map_take, List.map_drop]; done) | (simp only [List.map_set]; done))
    · have c2 : (P.vr key X).2 ≠ 0 := fun h => hfx (c.err.1 h)
      refine Runs.way (F := F) (sh := Sh) (S := Z6 key n bs (.ex 5 false (l.map encS)) la ts) (Z6_ok h14) (fi := fi6) (by kernel_rfl) (LGood.one (b := lb fi6 0) (k := 23) (σ0 := fst key l la X 0) (by kernel_rfl) hloop) [(eqB (key, n, List.map encB bs) (key, n, List.map encB bs), true),
    (eqB (List.map encS l) (List.map encS (List.map decS (List.map encS l))), true),
    (decide ((List.map encS l).length ≤ 1000), true),
    (apart (V.ex 5 false (List.map encS l)), true),
    ((↑(List.map encS l).length : Int) == 0, false),
    (!decide ((↑(List.map encS l).length : Int) = 0), true),
    (decide (0 ≤ (IntKind.i64.wrap x).tmod (↑(List.map encS l).length : Int)), true),
    (decide ((IntKind.i64.wrap x).tmod (↑(List.map encS l).length : Int) ≤ (↑(List.map encS l).length : Int)), true),
    ((List.map encS l).all fun x => x.cells.length == 5, true),
    (eqB (List.take (((IntKind.i64.wrap x).tmod (↑(List.map encS l).length : Int)).toNat - 0) (List.drop 0 (List.map encS l))) (List.map encS (List.map decS (List.take (((IntKind.i64.wrap x).tmod (↑(List.map encS l).length : Int)).toNat - 0) (List.drop 0 (List.map encS l))))), true),
    ((P.vr key (List.map decS (List.take (((IntKind.i64.wrap x).tmod (↑(List.map encS l).length : Int)).toNat - Int.toNat 0) (List.drop (Int.toNat 0) (List.map encS l))))).2 != 0, false),
    ((P.vr key (List.map decS (List.take (((IntKind.i64.wrap x).tmod (↑(List.map encS l).length : Int)).toNat - Int.toNat 0) (List.drop (Int.toNat 0) (List.map encS l))))).1 != (IntKind.i64.wrap x).tmod (↑(List.map encS l).length : Int), false),
    (w.tmod 5 == 0, false),
    (w.tmod 5 == 1, false),
    (w.tmod 5 == 2, false),
    (w.tmod 5 == 3, true),
    (decide ((IntKind.i64.wrap x).tmod (↑(List.map encS l).length : Int) ≤ IntKind.i64.wrap ((IntKind.i64.wrap x).tmod (↑(List.map encS l).length : Int) + 1)), true),
    (decide (IntKind.i64.wrap ((IntKind.i64.wrap x).tmod (↑(List.map encS l).length : Int) + 1) ≤ (↑(List.map encS l).length : Int)), true),
    (decide (0 < (List.map encS l).length), true),
    (is { env := [(0, V.int IntKind.u64 key), (14, V.sl false (List.map encS l)), (20, V.ex 5 false (List.take ((IntKind.i64.wrap x).tmod (↑(List.map encS l).length : Int)).toNat (List.map encS l) ++ List.drop (IntKind.i64.wrap ((IntKind.i64.wrap x).tmod (↑(List.map encS l).length : Int) + 1)).toNat (List.map encS l))), (21, V.int IntKind.i64 0)], heap := [B.cells [V.int IntKind.u64 key, V.int IntKind.u64 la, V.bool true, V.ex 5 false (List.map encS l)]] } { env := [(0, V.int IntKind.u64 key), (14, V.sl false (List.map encS l)), (20, V.ex 5 false (List.map encS X)), (21, V.int IntKind.i64 0)], heap := [B.cells [V.int IntKind.u64 key, V.int IntKind.u64 la, V.bool true, V.ex 5 false (List.map encS l)]] }, true),
    (eqB (List.map encS X) (List.map encS (List.map decS (List.map encS X))), true),
    ((↑f : Int) == (↑(List.map encS X).length : Int), false),
    ((P.vr key (List.map decS (List.map encS X))).2 != 0, true),
    ((P.vr key (List.map decS (List.map encS X))).1 == (↑f : Int), true)] [2, 1, 1, 1, 1, 1, 1, 1, 1, 3, 0, 4, 5, 1, 1, 1, 1, 6, 7, 7, 0, 8, 9, 10, 11, 12, 12, 12, 12, 13, 3, 0, 4, 0, 14, 15, 16, 17, 8, 18, 19, 20, 21, 22, 0, 23, 24, 24, 24, 24, 25, 25] (by kernel_rfl) ?_
      simp only [List.length_map, wx, txn, hjx, Int.toNat_natCast, e0, Nat.sub_zero, List.drop_zero, hw1, hT, decS_enc, cT.num]
      refine ⟨?_, ?_, ?_, ?_, ?_, ?_, ?_, ?_, ?_, ?_, ?_, ?_, ?_, ?_, ?_, ?_, ?_, ?_, ?_, ?_, ?_, ?_, ?_, ?_, trivial⟩
      all_goals first
        | exact eqB_eq rfl
        | exact apart_s _ _
        | assumption
        | (simp; done)
        | (simp; omega)
        | (simp; done)
        | (simp [encS, V.cells]; done)
        | (simp only [beq_eq_false_iff_ne, ne_eq, Bool.not_eq_true', decide_eq_false_iff_not]; omega)
        | (refine is_eq ?_; rw [hX]; first | (rw [List.map_set]; rfl) | (simp only [List.map_append, List.map_take, List.map_drop]; done) | (simp only [List.map_set]; done))
  · have hm1 : mkOf (encS l[jx]) (setCells (encS l[jx]).cells 0 [V.int IntKind.i64 l[jy].ser, V.int IntKind.u64 l[jy].doc, V.int IntKind.i64 l[jy].lo, V.int IntKind.i64 l[jy].hi, V.int IntKind.u64 l[jy].sgn]) = encS l[jy] := rfl
    have hm2 : mkOf (encS l[jy]) (setCells (encS l[jy]).cells 0 [V.int IntKind.i64 l[jx].ser, V.int IntKind.u64 l[jx].doc, V.int IntKind.i64 l[jx].lo, V.int IntKind.i64 l[jx].hi, V.int IntKind.u64 l[jx].sgn]) = encS l[jx] := rfl
    have hgs : ((List.map encS l).set jx (encS l[jy])).getD jy V.undef = encS l[jy] := by
      rw [List.getD_eq_getElem?_getD, List.getElem?_set]
      by_cases hxy : jx = jy
      · rw [if_pos hxy, if_pos (by simpa using hx1)]; rfl
      · rw [if_neg hxy, List.getElem?_map, List.getElem?_eq_getElem hy1]; rfl
    obtain ⟨X, hX⟩ : ∃ X, X = (l.set jx l[jy]).set jy l[jx] := ⟨_, rfl⟩
    obtain ⟨f, c⟩ : ∃ f, Chg key l X f := by rw [hX]; exact chg_swap hc (by omega) hx1 hy1
    have hXl : X.length = l.length := by rw [hX]; simp
    obtain ⟨b, hloop⟩ := fst_loop (la := la) (by omega) c f 0 (by omega)
    have c1 := c.num
    by_cases hfx : f = X.length
    · have c2 : (P.vr key X).2 = 0 := c.err.2 hfx
      refine Runs.way (F := F) (sh := Sh) (S := Z6 key n bs (.ex 5 false (l.map encS)) la ts) (Z6_ok h14) (fi := fi6) (by kernel_rfl) (LGood.one (b := lb fi6 0) (k := 23) (σ0 := fst key l la X 0) (by kernel_rfl) hloop) [(eqB (key, n, List.map encB bs) (key, n, List.map encB bs), true),
    (eqB (List.map encS l) (List.map encS (List.map decS (List.map encS l))), true),
    (decide ((List.map encS l).length ≤ 1000), true),
    (apart (V.ex 5 false (List.map encS l)), true),
    ((↑(List.map encS l).length : Int) == 0, false),
    (!decide ((↑(List.map encS l).length : Int) = 0), true),
    (decide (0 ≤ (IntKind.i64.wrap x).tmod (↑(List.map encS l).length : Int)), true),
    (decide ((IntKind.i64.wrap x).tmod (↑(List.map encS l).length : Int) ≤ (↑(List.map encS l).length : Int)), true),
    ((List.map encS l).all fun x => x.cells.length == 5, true),
    (eqB (List.take (((IntKind.i64.wrap x).tmod (↑(List.map encS l).length : Int)).toNat - 0) (List.drop 0 (List.map encS l))) (List.map encS (List.map decS (List.take (((IntKind.i64.wrap x).tmod (↑(List.map encS l).length : Int)).toNat - 0) (List.drop 0 (List.map encS l))))), true),
    ((P.vr key (List.map decS (List.take (((IntKind.i64.wrap x).tmod (↑(List.map encS l).length : Int)).toNat - Int.toNat 0) (List.drop (Int.toNat 0) (List.map encS l))))).2 != 0, false),
    ((P.vr key (List.map decS (List.take (((IntKind.i64.wrap x).tmod (↑(List.map encS l).length : Int)).toNat - Int.toNat 0) (List.drop (Int.toNat 0) (List.map encS l))))).1 != (IntKind.i64.wrap x).tmod (↑(List.map encS l).length : Int), false),
    (w.tmod 5 == 0, false),
    (w.tmod 5 == 1, false),
    (w.tmod 5 == 2, false),
    (w.tmod 5 == 3, false),
    (decide (0 ≤ (IntKind.i64.wrap y).tmod (↑(List.map encS l).length : Int)), true),
    (decide ((IntKind.i64.wrap y).tmod (↑(List.map encS l).length : Int) < (↑(List.map encS l).length : Int)), true),
    (decide (((IntKind.i64.wrap y).tmod (↑(List.map encS l).length : Int)).toNat < (List.map encS l).length), true),
    (fitP [TK.int IntKind.i64, TK.int IntKind.u64, TK.int IntKind.i64, TK.int IntKind.i64, TK.int IntKind.u64] 0 ((List.map encS l).getD ((IntKind.i64.wrap y).tmod (↑(List.map encS l).length : Int)).toNat V.undef), true),
    (decide ((IntKind.i64.wrap x).tmod (↑(List.map encS l).length : Int) < (↑(List.map encS l).length : Int)), true),
    (decide (((IntKind.i64.wrap x).tmod (↑(List.map encS l).length : Int)).toNat < (List.map encS l).length), true),
    (fitP [TK.int IntKind.i64, TK.int IntKind.u64, TK.int IntKind.i64, TK.int IntKind.i64, TK.int IntKind.u64] 0 ((List.map encS l).getD ((IntKind.i64.wrap x).tmod (↑(List.map encS l).length : Int)).toNat V.undef), true),
    (decide (5 ≤ ((List.map encS l).getD ((IntKind.i64.wrap x).tmod (↑(List.map encS l).length : Int)).toNat V.undef).cells.length), true),
    (decide ((IntKind.i64.wrap y).tmod (↑(List.map encS l).length : Int) < (↑((List.map encS l).set ((IntKind.i64.wrap x).tmod (↑(List.map encS l).length : Int)).toNat (mkOf ((List.map encS l).getD ((IntKind.i64.wrap x).tmod (↑(List.map encS l).length : Int)).toNat V.undef) (setCells ((List.map encS l).getD ((IntKind.i64.wrap x).tmod (↑(List.map encS l).length : Int)).toNat V.undef).cells 0 [V.int IntKind.i64 (Fd.s0 l ((IntKind.i64.wrap y).tmod (↑(List.map encS l).length : Int)).toNat), V.int IntKind.u64 (Fd.doc l ((IntKind.i64.wrap y).tmod (↑(List.map encS l).length : Int))), V.int IntKind.i64 (Fd.lo l ((IntKind.i64.wrap y).tmod (↑(List.map encS l).length : Int))), V.int IntKind.i64 (Fd.hi l ((IntKind.i64.wrap y).tmod (↑(List.map encS l).length : Int))), V.int IntKind.u64 (Fd.sg l ((IntKind.i64.wrap y).tmod (↑(List.map encS l).length : Int)))]))).length : Int)), true),
    (decide (((IntKind.i64.wrap y).tmod (↑(List.map encS l).length : Int)).toNat < ((List.map encS l).set ((IntKind.i64.wrap x).tmod (↑(List.map encS l).length : Int)).toNat (mkOf ((List.map encS l).getD ((IntKind.i64.wrap x).tmod (↑(List.map encS l).length : Int)).toNat V.undef) (setCells ((List.map encS l).getD ((IntKind.i64.wrap x).tmod (↑(List.map encS l).length : Int)).toNat V.undef).cells 0 [V.int IntKind.i64 (Fd.s0 l ((IntKind.i64.wrap y).tmod (↑(List.map encS l).length : Int)).toNat), V.int IntKind.u64 (Fd.doc l ((IntKind.i64.wrap y).tmod (↑(List.map encS l).length : Int))), V.int IntKind.i64 (Fd.lo l ((IntKind.i64.wrap y).tmod (↑(List.map encS l).length : Int))), V.int IntKind.i64 (Fd.hi l ((IntKind.i64.wrap y).tmod (↑(List.map encS l).length : Int))), V.int IntKind.u64 (Fd.sg l ((IntKind.i64.wrap y).tmod (↑(List.map encS l).length : Int)))]))).length), true),
    (decide (5 ≤ (((List.map encS l).set ((IntKind.i64.wrap x).tmod (↑(List.map encS l).length : Int)).toNat (mkOf ((List.map encS l).getD ((IntKind.i64.wrap x).tmod (↑(List.map encS l).length : Int)).toNat V.undef) (setCells ((List.map encS l).getD ((IntKind.i64.wrap x).tmod (↑(List.map encS l).length : Int)).toNat V.undef).cells 0 [V.int IntKind.i64 (Fd.s0 l ((IntKind.i64.wrap y).tmod (↑(List.map encS l).length : Int)).toNat), V.int IntKind.u64 (Fd.doc l ((IntKind.i64.wrap y).tmod (↑(List.map encS l).length : Int))), V.int IntKind.i64 (Fd.lo l ((IntKind.i64.wrap y).tmod (↑(List.map encS l).length : Int))), V.int IntKind.i64 (Fd.hi l ((IntKind.i64.wrap y).tmod (↑(List.map encS l).length : Int))), V.int IntKind.u64 (Fd.sg l ((IntKind.i64.wrap y).tmod (↑(List.map encS l).length : Int)))]))).getD ((IntKind.i64.wrap y).tmod (↑(List.map encS l).length : Int)).toNat V.undef).cells.length), true),
    (is { env := [(0, V.int IntKind.u64 key), (14, V.sl false (List.map encS l)), (20, V.ex 5 false (((List.map encS l).set ((IntKind.i64.wrap x).tmod (↑(List.map encS l).length : Int)).toNat (mkOf ((List.map encS l).getD ((IntKind.i64.wrap x).tmod (↑(List.map encS l).length : Int)).toNat V.undef) (setCells ((List.map encS l).getD ((IntKind.i64.wrap x).tmod (↑(List.map encS l).length : Int)).toNat V.undef).cells 0 [V.int IntKind.i64 (Fd.s0 l ((IntKind.i64.wrap y).tmod (↑(List.map encS l).length : Int)).toNat), V.int IntKind.u64 (Fd.doc l ((IntKind.i64.wrap y).tmod (↑(List.map encS l).length : Int))), V.int IntKind.i64 (Fd.lo l ((IntKind.i64.wrap y).tmod (↑(List.map encS l).length : Int))), V.int IntKind.i64 (Fd.hi l ((IntKind.i64.wrap y).tmod (↑(List.map encS l).length : Int))), V.int IntKind.u64 (Fd.sg l ((IntKind.i64.wrap y).tmod (↑(List.map encS l).length : Int)))]))).set ((IntKind.i64.wrap y).tmod (↑(List.map encS l).length : Int)).toNat (mkOf (((List.map encS l).set ((IntKind.i64.wrap x).tmod (↑(List.map encS l).length : Int)).toNat (mkOf ((List.map encS l).getD ((IntKind.i64.wrap x).tmod (↑(List.map encS l).length : Int)).toNat V.undef) (setCells ((List.map encS l).getD ((IntKind.i64.wrap x).tmod (↑(List.map encS l).length : Int)).toNat V.undef).cells 0 [V.int IntKind.i64 (Fd.s0 l ((IntKind.i64.wrap y).tmod (↑(List.map encS l).length : Int)).toNat), V.int IntKind.u64 (Fd.doc l ((IntKind.i64.wrap y).tmod (↑(List.map encS l).length : Int))), V.int IntKind.i64 (Fd.lo l ((IntKind.i64.wrap y).tmod (↑(List.map encS l).length : Int))), V.int IntKind.i64 (Fd.hi l ((IntKind.i64.wrap y).tmod (↑(List.map encS l).length : Int))), V.int IntKind.u64 (Fd.sg l ((IntKind.i64.wrap y).tmod (↑(List.map encS l).length : Int)))]))).getD ((IntKind.i64.wrap y).tmod (↑(List.map encS l).length : Int)).toNat V.undef) (setCells (((List.map encS l).set ((IntKind.i64.wrap x).tmod (↑(List.map encS l).length : Int)).toNat (mkOf ((List.map encS l).getD ((IntKind.i64.wrap x).tmod (↑(List.map encS l).length : Int)).toNat V.undef) (setCells ((List.map encS l).getD ((IntKind.i64.wrap x).tmod (↑(List.map encS l).length : Int)).toNat V.undef).cells 0 [V.int IntKind.i64 (Fd.s0 l ((IntKind.i64.wrap y).tmod (↑(List.map encS l).length : Int)).toNat), V.int IntKind.u64 (Fd.doc l ((IntKind.i64.wrap y).tmod (↑(List.map encS l).length : Int))), V.int IntKind.i64 (Fd.lo l ((IntKind.i64.wrap y).tmod (↑(List.map encS l).length : Int))), V.int IntKind.i64 (Fd.hi l ((IntKind.i64.wrap y).tmod (↑(List.map encS l).length : Int))), V.int IntKind.u64 (Fd.sg l ((IntKind.i64.wrap y).tmod (↑(List.map encS l).length : Int)))]))).getD ((IntKind.i64.wrap y).tmod (↑(List.map encS l).length : Int)).toNat V.undef).cells 0 [V.int IntKind.i64 (Fd.s0 l ((IntKind.i64.wrap x).tmod (↑(List.map encS l).length : Int)).toNat), V.int IntKind.u64 (Fd.doc l ((IntKind.i64.wrap x).tmod (↑(List.map encS l).length : Int))), V.int IntKind.i64 (Fd.lo l ((IntKind.i64.wrap x).tmod (↑(List.map encS l).length : Int))), V.int IntKind.i64 (Fd.hi l ((IntKind.i64.wrap x).tmod (↑(List.map encS l).length : Int))), V.int IntKind.u64 (Fd.sg l ((IntKind.i64.wrap x).tmod (↑(List.map encS l).length : Int)))])))), (21, V.int IntKind.i64 0)], heap := [B.cells [V.int IntKind.u64 key, V.int IntKind.u64 la, V.bool true, V.ex 5 false (List.map encS l)]] } { env := [(0, V.int IntKind.u64 key), (14, V.sl false (List.map encS l)), (20, V.ex 5 false (List.map encS X)), (21, V.int IntKind.i64 0)], heap := [B.cells [V.int IntKind.u64 key, V.int IntKind.u64 la, V.bool true, V.ex 5 false (List.map encS l)]] }, true),
    (eqB (List.map encS X) (List.map encS (List.map decS (List.map encS X))), true),
    ((↑f : Int) == (↑(List.map encS X).length : Int), true),
    ((P.vr key (List.map decS (List.map encS X))).2 == 0, true),
    ((P.vr key (List.map decS (List.map encS X))).1 == (↑f : Int), true)] [2, 1, 1, 1, 1, 1, 1, 1, 1, 3, 0, 4, 5, 1, 1, 1, 1, 6, 7, 7, 0, 8, 9, 10, 11, 12, 12, 12, 12, 13, 3, 0, 4, 0, 14, 15, 16, 17, 18, 19, 20, 21, 8, 22, 23, 24, 8, 22, 23, 25, 18, 26, 27, 28, 29, 30, 0, 31, 32, 32, 32, 32, 33, 33] (by kernel_rfl) ?_
      simp only [List.length_map, wx, wy, txn, tyn, hjx, hjy, Int.toNat_natCast, e0, Nat.sub_zero, List.drop_zero, hgx, hgy, hdx, hhx, hsx, hs0y, hdy, hly, hhy, hsy, hs0x, hlx', hT, decS_enc, cT.num]
      simp only [hm1, hgs, hm2]
      refine ⟨?_, ?_, ?_, ?_, ?_, ?_, ?_, ?_, ?_, ?_, ?_, ?_, ?_, ?_, ?_, ?_, ?_, ?_, ?_, ?_, ?_, ?_, ?_, ?_, ?_, ?_, ?_, ?_, ?_, ?_, ?_, ?_, trivial⟩
      all_goals first
        | exact eqB_eq rfl
        | exact apart_s _ _
        | assumption
        | (simp; done)
        | (simp; omega)
        | (simp; done)
        | (simp [encS, fitP, fld, leafFits, V.cells]; done)
        | (simp only [beq_eq_false_iff_ne, ne_eq, Bool.not_eq_true', decide_eq_false_iff_not]; omega)
        | (refine is_eq ?_; rw [hX]; first | (rw [List.map_set]; rfl) | (simp only [List.map_append, List.map_take, List.map_drop]; done) | (simp only [List.map_set]; done))
    · have c2 : (P.vr key X).2 ≠ 0 := fun h => hfx (c.err.1 h)
      refine Runs.way (F := F) (sh := Sh) (S := Z6 key n bs (.ex 5 false (l.map encS)) la ts) (Z6_ok h14) (fi := fi6) (by kernel_rfl) (LGood.one (b := lb fi6 0) (k := 23) (σ0 := fst key l la X 0) (by kernel_rfl) hloop) [(eqB (key, n, List.map encB bs) (key, n, List.map encB bs), true),
    (eqB (List.map encS l) (List.map encS (List.map decS (List.map encS l))), true),
    (decide ((List.map encS l).length ≤ 1000), true),
    (apart (V.ex 5 false (List.map encS l)), true),
    ((↑(List.map encS l).length : Int) == 0, false),
    (!decide ((↑(List.map encS l).length : Int) = 0), true),
    (decide (0 ≤ (IntKind.i64.wrap x).tmod (↑(List.map encS l).length : Int)), true),
    (decide ((IntKind.i64.wrap x).tmod (↑(List.map encS l).length : Int) ≤ (↑(List.map encS l).length : Int)), true),
    ((List.map encS l).all fun x => x.cells.length == 5, true),
    (eqB (List.take (((IntKind.i64.wrap x).tmod (↑(List.map encS l).length : Int)).toNat - 0) (List.drop 0 (List.map encS l))) (List.map encS (List.map decS (List.take (((IntKind.i64.wrap x).tmod (↑(List.map encS l).length : Int)).toNat - 0) (List.drop 0 (List.map encS l))))), true),
    ((P.vr key (List.map decS (List.take (((IntKind.i64.wrap x).tmod (↑(List.map encS l).length : Int)).toNat - Int.toNat 0) (List.drop (Int.toNat 0) (List.map encS l))))).2 != 0, false),
    ((P.vr key (List.map decS (List.take (((IntKind.i64.wrap x).tmod (↑(List.map encS l).length : Int)).toNat - Int.toNat 0) (List.drop (Int.toNat 0) (List.map encS l))))).1 != (IntKind.i64.wrap x).tmod (↑(List.map encS l).length : Int), false),
    (w.tmod 5 == 0, false),
    (w.tmod 5 == 1, false),
    (w.tmod 5 == 2, false),
    (w.tmod 5 == 3, false),
    (decide (0 ≤ (IntKind.i64.wrap y).tmod (↑(List.map encS l).length : Int)), true),
    (decide ((IntKind.i64.wrap y).tmod (↑(List.map encS l).length : Int) < (↑(List.map encS l).length : Int)), true),
    (decide (((IntKind.i64.wrap y).tmod (↑(List.map encS l).length : Int)).toNat < (List.map encS l).length), true),
    (fitP [TK.int IntKind.i64, TK.int IntKind.u64, TK.int IntKind.i64, TK.int IntKind.i64, TK.int IntKind.u64] 0 ((List.map encS l).getD ((IntKind.i64.wrap y).tmod (↑(List.map encS l).length : Int)).toNat V.undef), true),
    (decide ((IntKind.i64.wrap x).tmod (↑(List.map encS l).length : Int) < (↑(List.map encS l).length : Int)), true),
    (decide (((IntKind.i64.wrap x).tmod (↑(List.map encS l).length : Int)).toNat < (List.map encS l).length), true),
    (fitP [TK.int IntKind.i64, TK.int IntKind.u64, TK.int IntKind.i64, TK.int IntKind.i64, TK.int IntKind.u64] 0 ((List.map encS l).getD ((IntKind.i64.wrap x).tmod (↑(List.map encS l).length : Int)).toNat V.undef), true),
    (decide (5 ≤ ((List.map encS l).getD ((IntKind.i64.wrap x).tmod (↑(List.map encS l).length : Int)).toNat V.undef).cells.length), true),
    (decide ((IntKind.i64.wrap y).tmod (↑(List.map encS l).length : Int) < (↑((List.map encS l).set ((IntKind.i64.wrap x).tmod (↑(List.map encS l).length : Int)).toNat (mkOf ((List.map encS l).getD ((IntKind.i64.wrap x).tmod (↑(List.map encS l).length : Int)).toNat V.undef) (setCells ((List.map encS l).getD ((IntKind.i64.wrap x).tmod (↑(List.map encS l).length : Int)).toNat V.undef).cells 0 [V.int IntKind.i64 (Fd.s0 l ((IntKind.i64.wrap y).tmod (↑(List.map encS l).length : Int)).toNat), V.int IntKind.u64 (Fd.doc l ((IntKind.i64.wrap y).tmod (↑(List.map encS l).length : Int))), V.int IntKind.i64 (Fd.lo l ((IntKind.i64.wrap y).tmod (↑(List.map encS l).length : Int))), V.int IntKind.i64 (Fd.hi l ((IntKind.i64.wrap y).tmod (↑(List.map encS l).length : Int))), V.int IntKind.u64 (Fd.sg l ((IntKind.i64.wrap y).tmod (↑(List.map encS l).length : Int)))]))).length : Int)), true),
    (decide (((IntKind.i64.wrap y).tmod (↑(List.map encS l).length : Int)).toNat < ((List.map encS l).set ((IntKind.i64.wrap x).tmod (↑(List.map encS l).length : Int)).toNat (mkOf ((List.map encS l).getD ((IntKind.i64.wrap x).tmod (↑(List.map encS l).length : Int)).toNat V.undef) (setCells ((List.map encS l).getD ((IntKind.i64.wrap x).tmod (↑(List.map encS l).length : Int)).toNat V.undef).cells 0 [V.int IntKind.i64 (Fd.s0 l ((IntKind.i64.wrap y).tmod (↑(List.map encS l).length : Int)).toNat), V.int IntKind.u64 (Fd.doc l ((IntKind.i64.wrap y).tmod (↑(List.map encS l).length : Int))), V.int IntKind.i64 (Fd.lo l ((IntKind.i64.wrap y).tmod (↑(List.map encS l).length : Int))), V.int IntKind.i64 (Fd.hi l ((IntKind.i64.wrap y).tmod (↑(List.map encS l).length : Int))), V.int IntKind.u64 (Fd.sg l ((IntKind.i64.wrap y).tmod (↑(List.map encS l).length : Int)))]))).length), true),
    (decide (5 ≤ (((List.map encS l).set ((IntKind.i64.wrap x).tmod (↑(List.map encS l).length : Int)).toNat (mkOf ((List.map encS l).getD ((IntKind.i64.wrap x).tmod (↑(List.map encS l).length : Int)).toNat V.undef) (setCells ((List.map encS l).getD ((IntKind.i64.wrap x).tmod (↑(List.map encS l).length : Int)).toNat V.undef).cells 0 [V.int IntKind.i64 (Fd.s0 l ((IntKind.i64.wrap y).tmod (↑(List.map encS l).length : Int)).toNat), V.int IntKind.u64 (Fd.doc l ((IntKind.i64.wrap y).tmod (↑(List.map encS l).length : Int))), V.int IntKind.i64 (Fd.lo l ((IntKind.i64.wrap y).tmod (↑(List.map encS l).length : Int))), V.int IntKind.i64 (Fd.hi l ((IntKind.i64.wrap y).tmod (↑(List.map encS l).length : Int))), V.int IntKind.u64 (Fd.sg l ((IntKind.i64.wrap y).tmod (↑(List.map encS l).length : Int)))]))).getD ((IntKind.i64.wrap y).tmod (↑(List.map encS l).length : Int)).toNat V.undef).cells.length), true),
    (is { env := [(0, V.int IntKind.u64 key), (14, V.sl false (List.map encS l)), (20, V.ex 5 false (((List.map encS l).set ((IntKind.i64.wrap x).tmod (↑(List.map encS l).length : Int)).toNat (mkOf ((List.map encS l).getD ((IntKind.i64.wrap x).tmod (↑(List.map encS l).length : Int)).toNat V.undef) (setCells ((List.map encS l).getD ((IntKind.i64.wrap x).tmod (↑(List.map encS l).length : Int)).toNat V.undef).cells 0 [V.int IntKind.i64 (Fd.s0 l ((IntKind.i64.wrap y).tmod (↑(List.map encS l).length : Int)).toNat), V.int IntKind.u64 (Fd.doc l ((IntKind.i64.wrap y).tmod (↑(List.map encS l).length : Int))), V.int IntKind.i64 (Fd.lo l ((IntKind.i64.wrap y).tmod (↑(List.map encS l).length : Int))), V.int IntKind.i64 (Fd.hi l ((IntKind.i64.wrap y).tmod (↑(List.map encS l).length : Int))), V.int IntKind.u64 (Fd.sg l ((IntKind.i64.wrap y).tmod (↑(List.map encS l).length : Int)))]))).set ((IntKind.i64.wrap y).tmod (↑(List.map encS l).length : Int)).toNat (mkOf (((List.map encS l).set ((IntKind.i64.wrap x).tmod (↑(List.map encS l).length : Int)).toNat (mkOf ((List.map encS l).getD ((IntKind.i64.wrap x).tmod (↑(List.map encS l).length : Int)).toNat V.undef) (setCells ((List.map encS l).getD ((IntKind.i64.wrap x).tmod (↑(List.map encS l).length : Int)).toNat V.undef).cells 0 [V.int IntKind.i64 (Fd.s0 l ((IntKind.i64.wrap y).tmod (↑(List.map encS l).length : Int)).toNat), V.int IntKind.u64 (Fd.doc l ((IntKind.i64.wrap y).tmod (↑(List.map encS l).length : Int))), V.int IntKind.i64 (Fd.lo l ((IntKind.i64.wrap y).tmod (↑(List.map encS l).length : Int))), V.int IntKind.i64 (Fd.hi l ((IntKind.i64.wrap y).tmod (↑(List.map encS l).length : Int))), V.int IntKind.u64 (Fd.sg l ((IntKind.i64.wrap y).tmod (↑(List.map encS l).length : Int)))]))).getD ((IntKind.i64.wrap y).tmod (↑(List.map encS l).length : Int)).toNat V.undef) (setCells (((List.map encS l).set ((IntKind.i64.wrap x).tmod (↑(List.map encS l).length : Int)).toNat (mkOf ((List.map encS l).getD ((IntKind.i64.wrap x).tmod (↑(List.map encS l).length : Int)).toNat V.undef) (setCells ((List.map encS l).getD ((IntKind.i64.wrap x).tmod (↑(List.map encS l).length : Int)).toNat V.undef).cells 0 [V.int IntKind.i64 (Fd.s0 l ((IntKind.i64.wrap y).tmod (↑(List.map encS l).length : Int)).toNat), V.int IntKind.u64 (Fd.doc l ((IntKind.i64.wrap y).tmod (↑(List.map encS l).length : Int))), V.int IntKind.i64 (Fd.lo l ((IntKind.i64.wrap y).tmod (↑(List.map encS l).length : Int))), V.int IntKind.i64 (Fd.hi l ((IntKind.i64.wrap y).tmod (↑(List.map encS l).length : Int))), V.int IntKind.u64 (Fd.sg l ((IntKind.i64.wrap y).tmod (↑(List.map encS l).length : Int)))]))).getD ((IntKind.i64.wrap y).tmod (↑(List.map encS l).length : Int)).toNat V.undef).cells 0 [V.int IntKind.i64 (Fd.s0 l ((IntKind.i64.wrap x).tmod (↑(List.map encS l).length : Int)).toNat), V.int IntKind.u64 (Fd.doc l ((IntKind.i64.wrap x).tmod (↑(List.map encS l).length : Int))), V.int IntKind.i64 (Fd.lo l ((IntKind.i64.wrap x).tmod (↑(List.map encS l).length : Int))), V.int IntKind.i64 (Fd.hi l ((IntKind.i64.wrap x).tmod (↑(List.map encS l).length : Int))), V.int IntKind.u64 (Fd.sg l ((IntKind.i64.wrap x).tmod (↑(List.map encS l).length : Int)))])))), (21, V.int IntKind.i64 0)], heap := [B.cells [V.int IntKind.u64 key, V.int IntKind.u64 la, V.bool true, V.ex 5 false (List.map encS l)]] } { env := [(0, V.int IntKind.u64 key), (14, V.sl false (List.map encS l)), (20, V.ex 5 false (List.map encS X)), (21, V.int IntKind.i64 0)], heap := [B.cells [V.int IntKind.u64 key, V.int IntKind.u64 la, V.bool true, V.ex 5 false (List.map encS l)]] }, true),
    (eqB (List.map encS X) (List.map encS (List.map decS (List.map encS X))), true),
    ((↑f : Int) == (↑(List.map encS X).length : Int), false),
    ((P.vr key (List.map decS (List.map encS X))).2 != 0, true),
    ((P.vr key (List.map decS (List.map encS X))).1 == (↑f : Int), true)] [2, 1, 1, 1, 1, 1, 1, 1, 1, 3, 0, 4, 5, 1, 1, 1, 1, 6, 7, 7, 0, 8, 9, 10, 11, 12, 12, 12, 12, 13, 3, 0, 4, 0, 14, 15, 16, 17, 18, 19, 20, 21, 8, 22, 23, 24, 8, 22, 23, 25, 18, 26, 27, 28, 29, 30, 0, 31, 32, 32, 32, 32, 33, 33] (by kernel_rfl) ?_
      simp only [List.length_map, wx, wy, txn, tyn, hjx, hjy, Int.toNat_natCast, e0, Nat.sub_zero, List.drop_zero, hgx, hgy, hdx, hhx, hsx, hs0y, hdy, hly, hhy, hsy, hs0x, hlx', hT, decS_enc, cT.num]
      simp only [hm1, hgs, hm2]
      refine ⟨?_, ?_, ?_, ?_, ?_, ?_, ?_, ?_, ?_, ?_, ?_, ?_, ?_, ?_, ?_, ?_, ?_, ?_, ?_, ?_, ?_, ?_, ?_, ?_, ?_, ?_, ?_, ?_, ?_, ?_, ?_, ?_, trivial⟩
      all_goals first
        | exact eqB_eq rfl
        | exact apart_s _ _
        | assumption
        | (simp; done)
        | (simp; omega)
        | (simp; done)
        | (simp [encS, fitP, fld, leafFits, V.cells]; done)
        | (simp only [beq_eq_false_iff_ne, ne_eq, Bool.not_eq_true', decide_eq_false_iff_not]; omega)
        | (refine is_eq ?_; rw [hX]; first | (rw [List.map_set]; rfl) | (simp only [List.map_append, List.map_take, List.map_drop]; done) | (simp only [List.map_set]; done))
theorem lawStampFound : ∀ xs, AllV T 8 [36, 22, 5, 5, 5] xs → ∃ k, vcall T F k 6 xs [] = some (.bool true, []) := by
  intro xs hxs
  obtain ⟨v, xs, rfl, hv, hxs⟩ := allV_cons hxs
  obtain ⟨vb, xs, rfl, hvb, hxs⟩ := allV_cons hxs
  obtain ⟨vx, xs, rfl, hvx, hxs⟩ := allV_cons hxs
  obtain ⟨vy, xs, rfl, hvy, hxs⟩ := allV_cons hxs
  obtain ⟨vw, xs, rfl, hvw, hxs⟩ := allV_cons hxs
  obtain rfl := allV_nil hxs
  obtain ⟨key, rfl, _⟩ := hasV_int (i := { kind := .int .u64, size := 1, bytes := 8, zero := .int .u64 0, leaves := [] }) (by kernel_rfl) rfl hv
  obtain ⟨n, bs, rfl, hb, hbl, _⟩ := hasV_ints (i := { kind := .slice 5, size := 1, bytes := 24, zero := .sl true [], leaves := [] }) (j := { kind := .int .u8, size := 1, bytes := 1, zero := .int .u8 0, leaves := [] }) (by kernel_rfl) rfl (by kernel_rfl) rfl hvb
  obtain ⟨x, rfl, hx⟩ := hasV_int (i := { kind := .int .u8, size := 1, bytes := 1, zero := .int .u8 0, leaves := [] }) (by kernel_rfl) rfl hvx
  obtain ⟨y, rfl, hy⟩ := hasV_int (i := { kind := .int .u8, size := 1, bytes := 1, zero := .int .u8 0, leaves := [] }) (by kernel_rfl) rfl hvy
  obtain ⟨w, rfl, _⟩ := hasV_int (i := { kind := .int .u8, size := 1, bytes := 1, zero := .int .u8 0, leaves := [] }) (by kernel_rfl) rfl hvw
  have hb' : ∀ x ∈ bs, 0 ≤ x ∧ x ≤ 255 := fun x hx => by
    have := hb x hx
    simp [Lit.wf, IntKind.min, IntKind.max, IntKind.signed, IntKind.bits] at this
    exact this
  simp [Lit.wf, IntKind.min, IntKind.max, IntKind.signed, IntKind.bits] at hx hy
  obtain ⟨l, la, ts, now, i, b, hl, hc, hr⟩ := given_loop key n bs hb' (by simpa [maxLen] using hbl) 30 0 [] (P.mix key 3) [] 0 rfl rfl .nil (by simp)
  have h14 := given_runs hr
  show Runs T F 6 [.int .u64 key, V.sl n (bs.map encB), .int .u8 x, .int .u8 y, .int .u8 w] [] (.bool true, [])
  by_cases hl0 : l.length = 0
  · have : l = [] := List.length_eq_zero_iff.1 hl0
    subst this
    exact Runs.way (F := F) (sh := Sh) (S := Z6 key n bs (.sl true []) la ts) (Z6_ok h14) (L := fun _ _ => .fail) (fi := fi6) (by kernel_rfl) (fun _ _ _ _ h => by cases h) [(eqB (key, n, List.map encB bs) (key, n, List.map encB bs), true),
    (eqB ([] : List V) [], true)] [2, 1, 1, 1, 1, 1, 1, 1, 1, 3, 0, 0, 1, 1, 1, 1, 0] (by kernel_rfl) ⟨eqB_eq rfl, eqB_eq rfl, trivial⟩
  · rw [chainV_ne (by omega)] at h14
    exact found_runs hc hl (by omega) h14 x y w ⟨by omega, by omega⟩ ⟨by omega, by omega⟩
end Go.Proofs.Ytgmdkjiflhklaaa
