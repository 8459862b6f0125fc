/- L4: the law StampRoots over V. -/
import Derived.Test.YtgmdkjiflhklaaaL32
import Derived.Test.YtgmdkjiflhklaaaA7
import Derived.Test.YtgmdkjiflhklaaaH2
namespace Go.Proofs.Ytgmdkjiflhklaaa
open Go Go.Vm
noncomputable def clsS : List V → Heap → Tr (V × Heap) := fun a H => match a, H with
  | [.sl n xs], [] => .must (eqB xs ((xs.map decS).map encS)) (.must (!n || xs.isEmpty) (.must (decide (xs.length ≤ 1000)) (.ret (.ex 5 n xs, []))))
  | _, _ => .fail
theorem clsS_ok : ∀ a H r, (clsS a H).run = some r → Runs T F 20 a H r := by
  intro a H r h
  unfold clsS at h
  split at h
  · rename_i n xs
    obtain ⟨h0, h⟩ := Tr.must_some h
    obtain ⟨h1, h⟩ := Tr.must_some h
    obtain ⟨h2, h⟩ := Tr.must_some h
    have hr := ret_some h
    clear h
    subst hr
    have h0 := of_eqB h0
    simp only [decide_eq_true_eq] at h2
    generalize xs.map decS = l at *
    subst h0
    by_cases hn : n = true
    · subst hn
      have : l = [] := by simpa using h1
      subst this
      exact Runs.way (F := F) (sh := Sh) (S := noSpec) (L := fun _ _ => .fail) Vm.Good.no (fi := fi20) (by kernel_rfl) (LGood.none (by kernel_rfl)) [] [0] (by kernel_rfl) trivial
    · have hn' : V.ex 5 n (l.map encS) = V.ex 5 false ([] ++ l.map encS) := by simp at hn; rw [hn]; rfl
      rw [hn']
      refine Runs.way (F := F) (sh := Sh) (S := noSpec) (L := fun _ _ => .fail) Vm.Good.no (fi := fi20) (by kernel_rfl) (LGood.none (by kernel_rfl)) [(n == true, false),
    (rooms (0 + (List.map encS l).length) 40, true),
    (decide (0 + (List.map encS l).length < 4611686018427387904), true),
    ((List.map encS l).all fun y => y.cells.length == 5, true)] [2, 3, 4, 5] (by kernel_rfl) ⟨by simpa using hn, by simp [rooms, maxRoom] at h2 ⊢; omega, by simp at h2 ⊢; omega, List.all_eq_true.2 fun x hx => ?_, trivial⟩
      obtain ⟨c, _, rfl⟩ := List.mem_map.1 hx
      rfl
  · cases h
noncomputable def Q20 : Vm.Spec := Q74.add 20 clsS
theorem Q20_ok : Vm.Good (vlim T F) Q20 := Q74_ok.add clsS_ok
noncomputable def Q15 : Vm.Spec := Q20.add 15 (inl T Sh Q20 0 0 fi15)
theorem Q15_ok : Vm.Good (vlim T F) Q15 := Q20_ok.inl (by kernel_rfl) 0 0 (by kernel_rfl)
noncomputable def Q29 : Vm.Spec := Q15.add 29 (inl T Sh Q15 0 0 fi29)
theorem Q29_ok : Vm.Good (vlim T F) Q29 := Q15_ok.inl (by kernel_rfl) 0 0 (by kernel_rfl)
noncomputable def Q30 : Vm.Spec := Q29.add 30 (inl T Sh Q29 0 0 fi30)
theorem Q30_ok : Vm.Good (vlim T F) Q30 := Q29_ok.inl (by kernel_rfl) 0 0 (by kernel_rfl)
noncomputable def Q31 : Vm.Spec := Q30.add 31 (inl T Sh Q30 0 0 fi31)
theorem Q31_ok : Vm.Good (vlim T F) Q31 := Q30_ok.inl (by kernel_rfl) 0 0 (by kernel_rfl)
def P.sd (l : List Stp) (k : Nat) : List (Int × Bool) := P.sidesN l.length (sgns l) k
noncomputable def showS : List V → Heap → Tr (V × Heap) := fun a H => match a, H with
  | [.ptr 0 0, .int .i64 k], [.cells [.int .u64 key, .int .u64 la, .bool true, .ex 5 false xs], .dead, .dead] =>
    .must (eqB xs ((xs.map decS).map encS)) (.must (decide (xs.length ≤ 1000)) (.must (decide (0 ≤ k)) (.must (decide (k < xs.length))
      (.ret (.tup [.ex 2 (P.sd (xs.map decS) k.toNat).isEmpty ((P.sd (xs.map decS) k.toNat).map encD), .int .i64 0], [.cells [.int .u64 key, .int .u64 la, .bool true, .ex 5 false xs], .dead, .dead])))))
  | _, _ => .fail
theorem showS_ok : ∀ a H r, (showS a H).run = some r → Runs T F 33 a H r := by
  intro a H r h
  unfold showS at h
  split at h
  · rename_i k key la xs
    obtain ⟨h0, h⟩ := Tr.must_some h
    obtain ⟨h1, h⟩ := Tr.must_some h
    obtain ⟨h2, h⟩ := Tr.must_some h
    obtain ⟨h3, h⟩ := Tr.must_some h
    have hr := ret_some h; clear h; subst hr
    have h0 := of_eqB h0
    simp only [decide_eq_true_eq] at h1 h2 h3
    have h1' : (xs.map decS).length ≤ 1000 := by simpa using h1
    have h3' : k < ((xs.map decS).length : Int) := by simpa using h3
    generalize xs.map decS = l at *
    subst h0
    obtain ⟨k, rfl⟩ := Int.eq_ofNat_of_zero_le h2
    exact show_runs32 key la l k h1' (by omega)
  · cases h
noncomputable def belS : List V → Heap → Tr (V × Heap) := fun a H => match a, H with
  | [s, .sl _ xs, .int .u64 r], [] => .must (eqB s (encS (decS s))) (.must (eqB xs ((xs.map decD).map encD)) (.must (decide (xs.length ≤ 2000)) (.ret (.bool (P.fold (decS s).sgn (xs.map decD) == r), []))))
  | _, _ => .fail
theorem belS_ok : ∀ a H r, (belS a H).run = some r → Runs T F 34 a H r := by
  intro a H r h
  unfold belS at h
  split at h
  · rename_i s n xs r
    obtain ⟨h0, h⟩ := Tr.must_some h
    obtain ⟨h1, h⟩ := Tr.must_some h
    obtain ⟨h2, h⟩ := Tr.must_some h
    have hr := ret_some h; clear h; subst hr
    have h0 := of_eqB h0
    have h1 := of_eqB h1
    simp only [decide_eq_true_eq] at h2
    have h2' : (xs.map decD).length ≤ 2000 := by simpa using h2
    generalize xs.map decD = p at *
    subst h1
    generalize decS s = s' at *
    subst h0
    exact bg_runs s' n p r h2'
  · cases h
noncomputable def Z11 (key : Int) (n : Bool) (bs : List Int) (cv : V) (la : Int) (ts : List Int) : Vm.Spec := (((Q31.add 14 (givenS key n bs cv la ts)).add 12 awakeS).add 33 showS).add 34 belS
theorem sides_len : ∀ (m : Nat) (l : List Int) (k : Nat), (P.sidesN m l k).length ≤ m
  | 0, l, k => by simp [P.sidesN]
  | m + 1, l, k => by
    have ih := sides_len m (P.up l) (k / 2)
    simp only [P.sidesN]
    split
    · simp
    · split
      · simp; omega
      · simp; omega
theorem Z11_ok {key : Int} {n : Bool} {bs : List Int} {cv : V} {la : Int} {ts : List Int} (h14 : Runs T F 14 [.int .u64 key, .sl n (bs.map encB)] [] (.tup [.ptr 0 0, .ex 1 ts.isEmpty (ts.map encI), .bool true], [B.cells [.int .u64 key, .int .u64 la, .bool true, cv]])) : Vm.Good (vlim T F) (Z11 key n bs cv la ts) := by
  refine (((Q31_ok.add fun a H r h => ?_).add fun a H r h => ?_).add showS_ok).add belS_ok
  · unfold givenS at h
    split at h
    · obtain ⟨h1, h2⟩ := Tr.must_some h
      have h1 := of_eqB h1
      injection h1 with e1 h1; injection h1 with e2 e3; subst e1; subst e2; subst e3
      have := ret_some h2; subst this
      exact h14
    · cases h
  · unfold awakeS at h
    split at h
    · have := ret_some h; subst this
      exact ⟨60, awake_v⟩
    · cases h
theorem apart_s (b : Bool) (l : List Stp) : apart (V.ex 5 b (l.map encS)) = true := by
  simp only [apart, V.cells, List.all_cons, List.all_nil, Bool.and_true, apartC]
  rw [List.all_eq_true]; intro x hx; obtain ⟨c, _, rfl⟩ := List.mem_map.1 hx; rfl
theorem roots_runs {key : Int} {n : Bool} {bs : List Int} {l : List Stp} {la : Int} {ts : List Int} {now : Int} (hc : Chain key l ts la now) (hl : l.length ≤ 30) (hl0 : 0 < l.length)
    (h14 : Runs T F 14 [.int .u64 key, .sl n (bs.map encB)] [] (.tup [.ptr 0 0, .ex 1 ts.isEmpty (ts.map encI), .bool true], [B.cells [.int .u64 key, .int .u64 la, .bool true, .ex 5 false (l.map encS)]]))
    (x y : Int) (hx : 0 ≤ x ∧ x ≤ 255) (hy : 0 ≤ y ∧ y ≤ 255) : Runs T F 11 [.int .u64 key, V.sl n (bs.map encB), .int .u8 x, .int .u8 y] [] (.bool true, []) := by
  obtain ⟨pp, pq, pr, hsig, _⟩ := hc.props
  have wx : IntKind.i64.wrap x = x := i64in (by omega) (by omega)
  have wy : IntKind.i64.wrap y = y := i64in (by omega) (by omega)
  have txn : x.tmod (l.length : Int) = x % (l.length : Int) := Int.tmod_eq_emod_of_nonneg hx.1
  have tyn : y.tmod (l.length : Int) = y % (l.length : Int) := Int.tmod_eq_emod_of_nonneg hy.1
  have hx0 : 0 ≤ x % (l.length : Int) := Int.emod_nonneg _ (by omega)
  have hx2 : x % (l.length : Int) < l.length := Int.emod_lt_of_pos _ (by omega)
  have hy0 : 0 ≤ y % (l.length : Int) := Int.emod_nonneg _ (by omega)
  have hy2 : y % (l.length : Int) < l.length := Int.emod_lt_of_pos _ (by omega)
  obtain ⟨jx, hjx⟩ := Int.eq_ofNat_of_zero_le hx0
  obtain ⟨jy, hjy⟩ := Int.eq_ofNat_of_zero_le hy0
  have hx1 : jx < l.length := by omega
  have hy1 : jy < l.length := by omega
  have hsx : Fd.sg l (jx : Int) = l[jx].sgn := sg_at l jx hx1
  have hsy : Fd.sg l (jy : Int) = l[jy].sgn := sg_at l jy hy1
  have hw1 : IntKind.i64.wrap ((l.length : Int) - 1) = ((l.length - 1 : Nat) : Int) := by rw [i64in (by omega) (by omega)]; omega
  have hl1 : l.length - 1 < l.length := by omega
  have hmx : Fd.lo l ((l.length - 1 : Nat) : Int) = l[l.length - 1].lo := lo_at l (l.length - 1) hl1
  have hlast : l[l.length - 1].lo ≤ 1000000 := by
    cases hc with
    | nil => simp at hl0
    | snoc s t hc h1 h2 h3 h4 h5 h6 h7 h8 => simp; omega
  have hU : ∀ k (hk : k < l.length), inU l[k].sgn := fun k hk => by
    rw [(hsig k hk (Nat.zero_le _) hk).2]
    exact mix_in _ _
  have hs : (sgns l).length = l.length := by simp [sgns]
  have hgd : ∀ k (hk : k < l.length), (sgns l).getD k 0 = l[k].sgn := fun k hk => by
    rw [List.getD_eq_getElem?_getD, List.getElem?_eq_getElem (by omega)]; simp [sgns]
  have hfx : P.fold l[jx].sgn (P.sd l jx) = P.root (sgns l) := by
    rw [← hgd jx hx1]
    unfold P.sd P.root
    rw [hs]
    exact fold_root l.length (sgns l) jx l.length (by omega) (by omega) (by omega)
  have hsl := sides_len l.length (sgns l) jx
  change (P.sd l jx).length ≤ l.length at hsl
  by_cases hxy : (l[jx].sgn == l[jy].sgn) = true
  · have hfy := trivial
    refine Runs.way (F := F) (sh := Sh) (S := Z11 key n bs (.ex 5 false (l.map encS)) la ts) (Z11_ok h14) (L := fun _ _ => .fail) (fi := fi11) (by kernel_rfl) (fun _ _ _ _ h => by cases h) [(eqB (key, n, List.map encB bs) (key, n, List.map encB bs), true),
    (eqB (List.map encS l) (List.map encS (List.map decS (List.map encS l))), true),
    (decide ((List.map encS l).length ≤ 1000), true),
    (apart (V.ex 5 false (List.map encS l)), true),
    (decide ((↑(List.map encS l).length : Int) > 1000), false),
    (P.root (List.map (fun s => s.5) (List.map decS (List.map encS l))) != P.root (List.map (fun s => s.5) (List.map decS (List.map encS l))), false),
    ((↑(List.map encS l).length : Int) == 1000, false),
    (decide ((↑(List.map encS l).length : Int) > 0), true),
    (decide (0 ≤ IntKind.i64.wrap ((↑(List.map encS l).length : Int) - 1)), true),
    (decide (IntKind.i64.wrap ((↑(List.map encS l).length : Int) - 1) < (↑(List.map encS l).length : Int)), true),
    (decide ((IntKind.i64.wrap ((↑(List.map encS l).length : Int) - 1)).toNat < (List.map encS l).length), true),
    (fitP [TK.int IntKind.i64] 2 ((List.map encS l).getD (IntKind.i64.wrap ((↑(List.map encS l).length : Int) - 1)).toNat V.undef), true),
    (decide ((if if true = true then Fd.lo l (IntKind.i64.wrap ((↑(List.map encS l).length : Int) - 1)) > 1000000 else Fd.lo l (IntKind.i64.wrap ((↑(List.map encS l).length : Int) - 1)) < 1000000 then Fd.lo l (IntKind.i64.wrap ((↑(List.map encS l).length : Int) - 1)) else 1000000) > 1000000), false),
    (rooms ((List.map encS l).length + 1) 40, true),
    (decide ((List.map encS l).length + 1 < 4611686018427387904), true),
    ((↑(List.map encS l).length : Int) == 0, false),
    (!decide ((↑(List.map encS l).length : Int) = 0), true),
    (decide (0 ≤ (IntKind.i64.wrap x).tmod (↑(List.map encS l).length : Int)), true),
    (decide ((IntKind.i64.wrap x).tmod (↑(List.map encS l).length : Int) < (↑(List.map encS l).length : Int)), true),
    (((List.map encS l).getD ((IntKind.i64.wrap x).tmod (↑(List.map encS l).length : Int)).toNat V.undef).cells.length == 5 && fitP [TK.int IntKind.i64, TK.int IntKind.u64, TK.int IntKind.i64, TK.int IntKind.i64, TK.int IntKind.u64] 0 ((List.map encS l).getD ((IntKind.i64.wrap x).tmod (↑(List.map encS l).length : Int)).toNat V.undef), true),
    (eqB (V.agg [V.int IntKind.i64 (Fd.ser l ((IntKind.i64.wrap x).tmod (↑(List.map encS l).length : Int))), V.int IntKind.u64 (Fd.doc l ((IntKind.i64.wrap x).tmod (↑(List.map encS l).length : Int))), V.int IntKind.i64 (Fd.lo l ((IntKind.i64.wrap x).tmod (↑(List.map encS l).length : Int))), V.int IntKind.i64 (Fd.hi l ((IntKind.i64.wrap x).tmod (↑(List.map encS l).length : Int))), V.int IntKind.u64 (Fd.sg l ((IntKind.i64.wrap x).tmod (↑(List.map encS l).length : Int)))]) (V.agg [V.int IntKind.i64 (Fd.ser l ((IntKind.i64.wrap x).tmod (↑(List.map encS l).length : Int))), V.int IntKind.u64 (Fd.doc l ((IntKind.i64.wrap x).tmod (↑(List.map encS l).length : Int))), V.int IntKind.i64 (Fd.lo l ((IntKind.i64.wrap x).tmod (↑(List.map encS l).length : Int))), V.int IntKind.i64 (Fd.hi l ((IntKind.i64.wrap x).tmod (↑(List.map encS l).length : Int))), V.int IntKind.u64 (Fd.sg l ((IntKind.i64.wrap x).tmod (↑(List.map encS l).length : Int)))]), true),
    (eqB (List.map encD (P.sd (List.map decS (List.map encS l)) ((IntKind.i64.wrap x).tmod (↑(List.map encS l).length : Int)).toNat)) (List.map encD (List.map decD (List.map encD (P.sd (List.map decS (List.map encS l)) ((IntKind.i64.wrap x).tmod (↑(List.map encS l).length : Int)).toNat)))), true),
    (decide ((List.map encD (P.sd (List.map decS (List.map encS l)) ((IntKind.i64.wrap x).tmod (↑(List.map encS l).length : Int)).toNat)).length ≤ 2000), true),
    (P.fold (Fd.sg l ((IntKind.i64.wrap x).tmod (↑(List.map encS l).length : Int))) (List.map decD (List.map encD (P.sd (List.map decS (List.map encS l)) ((IntKind.i64.wrap x).tmod (↑(List.map encS l).length : Int)).toNat))) == P.root (List.map (fun s => s.5) (List.map decS (List.map encS l))), true),
    (decide (0 ≤ (IntKind.i64.wrap y).tmod (↑(List.map encS l).length : Int)), true),
    (decide ((IntKind.i64.wrap y).tmod (↑(List.map encS l).length : Int) < (↑(List.map encS l).length : Int)), true),
    (((List.map encS l).getD ((IntKind.i64.wrap y).tmod (↑(List.map encS l).length : Int)).toNat V.undef).cells.length == 5 && fitP [TK.int IntKind.i64, TK.int IntKind.u64, TK.int IntKind.i64, TK.int IntKind.i64, TK.int IntKind.u64] 0 ((List.map encS l).getD ((IntKind.i64.wrap y).tmod (↑(List.map encS l).length : Int)).toNat V.undef), true),
    (Fd.sg l ((IntKind.i64.wrap x).tmod (↑(List.map encS l).length : Int)) == Fd.sg l ((IntKind.i64.wrap y).tmod (↑(List.map encS l).length : Int)), true)] [2, 1, 1, 1, 1, 1, 1, 1, 1, 3, 0, 4, 5, 1, 1, 1, 1, 1, 1, 1, 1, 3, 4, 0, 1, 1, 1, 1, 1, 1, 1, 6, 3, 4, 1, 1, 1, 1, 7, 1, 1, 1, 1, 1, 1, 1, 1, 3, 0, 4, 5, 1, 1, 1, 1, 1, 1, 1, 1, 8, 0, 0, 0, 0, 1, 1, 1, 1, 1, 0, 0, 0, 0, 1, 1, 1, 1, 1, 1, 0, 1, 9, 10, 11, 12, 13, 14, 0, 0, 0, 0, 0, 1, 15, 16, 0, 1, 1, 1, 1, 1, 1, 1, 1, 1, 3, 4, 0, 1, 1, 1, 1, 7, 17, 18, 18, 3, 4, 19, 20, 0, 0, 0, 19, 20, 21, 0, 0, 0, 0, 22, 23, 24, 0, 25, 25, 25, 19, 20, 21, 25, 25, 25, 25, 25, 26, 27, 28, 25, 25, 25, 25, 29, 29, 29, 29, 29, 29, 29, 29, 25, 29, 25, 0, 0] (by kernel_rfl) ?_
    simp only [decS_enc, decD_enc, List.length_map, wx, wy, txn, tyn, hjx, hjy, hsx, hsy, hw1, hmx]
    refine ⟨?_, ?_, ?_, ?_, ?_, ?_, ?_, ?_, ?_, ?_, ?_, ?_, ?_, ?_, ?_, ?_, ?_, ?_, ?_, ?_, ?_, ?_, ?_, ?_, ?_, ?_, ?_, ?_, trivial⟩
    all_goals first
        | exact eqB_eq rfl
        | exact eqB_eq (by simp [decS])
        | exact apart_s _ _
        | (simp; done)
        | (simp [hfx]; done)
        | (simp; omega)
        | (rw [hfx]; exact beq_self_eq_true _)
        | exact hfy
        | exact hxy
        | (simp [rooms, maxRoom]; omega)
        | (simp [encS, fitP, fld, leafFits, V.cells, hx1, hy1, hl1]; done)
        | (simp only [beq_eq_false_iff_ne, ne_eq, Bool.not_eq_true', decide_eq_false_iff_not, decide_eq_true_eq]; omega)
        | exact beq_iff_eq.2 hfx
        | (unfold rooms maxRoom; exact decide_eq_true (by omega))
  · have hxy : (l[jx].sgn == l[jy].sgn) = false := by simpa using hxy
    have hfy : (!P.fold l[jy].sgn (P.sd l jx) == P.root (sgns l)) = true := by
      rw [Bool.not_eq_true', Bool.eq_false_iff, Ne, beq_iff_eq, ← hfx]
      intro h
      have := fold_inj _ _ _ (hU jy hy1) (hU jx hx1) h
      rw [this] at hxy
      simp at hxy
    refine Runs.way (F := F) (sh := Sh) (S := Z11 key n bs (.ex 5 false (l.map encS)) la ts) (Z11_ok h14) (L := fun _ _ => .fail) (fi := fi11) (by kernel_rfl) (fun _ _ _ _ h => by cases h) [(eqB (key, n, List.map encB bs) (key, n, List.map encB bs), true),
    (eqB (List.map encS l) (List.map encS (List.map decS (List.map encS l))), true),
    (decide ((List.map encS l).length ≤ 1000), true),
    (apart (V.ex 5 false (List.map encS l)), true),
    (decide ((↑(List.map encS l).length : Int) > 1000), false),
    (P.root (List.map (fun s => s.5) (List.map decS (List.map encS l))) != P.root (List.map (fun s => s.5) (List.map decS (List.map encS l))), false),
    ((↑(List.map encS l).length : Int) == 1000, false),
    (decide ((↑(List.map encS l).length : Int) > 0), true),
    (decide (0 ≤ IntKind.i64.wrap ((↑(List.map encS l).length : Int) - 1)), true),
    (decide (IntKind.i64.wrap ((↑(List.map encS l).length : Int) - 1) < (↑(List.map encS l).length : Int)), true),
    (decide ((IntKind.i64.wrap ((↑(List.map encS l).length : Int) - 1)).toNat < (List.map encS l).length), true),
    (fitP [TK.int IntKind.i64] 2 ((List.map encS l).getD (IntKind.i64.wrap ((↑(List.map encS l).length : Int) - 1)).toNat V.undef), true),
    (decide ((if if true = true then Fd.lo l (IntKind.i64.wrap ((↑(List.map encS l).length : Int) - 1)) > 1000000 else Fd.lo l (IntKind.i64.wrap ((↑(List.map encS l).length : Int) - 1)) < 1000000 then Fd.lo l (IntKind.i64.wrap ((↑(List.map encS l).length : Int) - 1)) else 1000000) > 1000000), false),
    (rooms ((List.map encS l).length + 1) 40, true),
    (decide ((List.map encS l).length + 1 < 4611686018427387904), true),
    ((↑(List.map encS l).length : Int) == 0, false),
    (!decide ((↑(List.map encS l).length : Int) = 0), true),
    (decide (0 ≤ (IntKind.i64.wrap x).tmod (↑(List.map encS l).length : Int)), true),
    (decide ((IntKind.i64.wrap x).tmod (↑(List.map encS l).length : Int) < (↑(List.map encS l).length : Int)), true),
    (((List.map encS l).getD ((IntKind.i64.wrap x).tmod (↑(List.map encS l).length : Int)).toNat V.undef).cells.length == 5 && fitP [TK.int IntKind.i64, TK.int IntKind.u64, TK.int IntKind.i64, TK.int IntKind.i64, TK.int IntKind.u64] 0 ((List.map encS l).getD ((IntKind.i64.wrap x).tmod (↑(List.map encS l).length : Int)).toNat V.undef), true),
    (eqB (V.agg [V.int IntKind.i64 (Fd.ser l ((IntKind.i64.wrap x).tmod (↑(List.map encS l).length : Int))), V.int IntKind.u64 (Fd.doc l ((IntKind.i64.wrap x).tmod (↑(List.map encS l).length : Int))), V.int IntKind.i64 (Fd.lo l ((IntKind.i64.wrap x).tmod (↑(List.map encS l).length : Int))), V.int IntKind.i64 (Fd.hi l ((IntKind.i64.wrap x).tmod (↑(List.map encS l).length : Int))), V.int IntKind.u64 (Fd.sg l ((IntKind.i64.wrap x).tmod (↑(List.map encS l).length : Int)))]) (V.agg [V.int IntKind.i64 (Fd.ser l ((IntKind.i64.wrap x).tmod (↑(List.map encS l).length : Int))), V.int IntKind.u64 (Fd.doc l ((IntKind.i64.wrap x).tmod (↑(List.map encS l).length : Int))), V.int IntKind.i64 (Fd.lo l ((IntKind.i64.wrap x).tmod (↑(List.map encS l).length : Int))), V.int IntKind.i64 (Fd.hi l ((IntKind.i64.wrap x).tmod (↑(List.map encS l).length : Int))), V.int IntKind.u64 (Fd.sg l ((IntKind.i64.wrap x).tmod (↑(List.map encS l).length : Int)))]), true),
    (eqB (List.map encD (P.sd (List.map decS (List.map encS l)) ((IntKind.i64.wrap x).tmod (↑(List.map encS l).length : Int)).toNat)) (List.map encD (List.map decD (List.map encD (P.sd (List.map decS (List.map encS l)) ((IntKind.i64.wrap x).tmod (↑(List.map encS l).length : Int)).toNat)))), true),
    (decide ((List.map encD (P.sd (List.map decS (List.map encS l)) ((IntKind.i64.wrap x).tmod (↑(List.map encS l).length : Int)).toNat)).length ≤ 2000), true),
    (P.fold (Fd.sg l ((IntKind.i64.wrap x).tmod (↑(List.map encS l).length : Int))) (List.map decD (List.map encD (P.sd (List.map decS (List.map encS l)) ((IntKind.i64.wrap x).tmod (↑(List.map encS l).length : Int)).toNat))) == P.root (List.map (fun s => s.5) (List.map decS (List.map encS l))), true),
    (decide (0 ≤ (IntKind.i64.wrap y).tmod (↑(List.map encS l).length : Int)), true),
    (decide ((IntKind.i64.wrap y).tmod (↑(List.map encS l).length : Int) < (↑(List.map encS l).length : Int)), true),
    (((List.map encS l).getD ((IntKind.i64.wrap y).tmod (↑(List.map encS l).length : Int)).toNat V.undef).cells.length == 5 && fitP [TK.int IntKind.i64, TK.int IntKind.u64, TK.int IntKind.i64, TK.int IntKind.i64, TK.int IntKind.u64] 0 ((List.map encS l).getD ((IntKind.i64.wrap y).tmod (↑(List.map encS l).length : Int)).toNat V.undef), true),
    (Fd.sg l ((IntKind.i64.wrap x).tmod (↑(List.map encS l).length : Int)) == Fd.sg l ((IntKind.i64.wrap y).tmod (↑(List.map encS l).length : Int)), false),
    (eqB (V.agg [V.int IntKind.i64 (Fd.ser l ((IntKind.i64.wrap y).tmod (↑(List.map encS l).length : Int))), V.int IntKind.u64 (Fd.doc l ((IntKind.i64.wrap y).tmod (↑(List.map encS l).length : Int))), V.int IntKind.i64 (Fd.lo l ((IntKind.i64.wrap y).tmod (↑(List.map encS l).length : Int))), V.int IntKind.i64 (Fd.hi l ((IntKind.i64.wrap y).tmod (↑(List.map encS l).length : Int))), V.int IntKind.u64 (Fd.sg l ((IntKind.i64.wrap y).tmod (↑(List.map encS l).length : Int)))]) (V.agg [V.int IntKind.i64 (Fd.ser l ((IntKind.i64.wrap y).tmod (↑(List.map encS l).length : Int))), V.int IntKind.u64 (Fd.doc l ((IntKind.i64.wrap y).tmod (↑(List.map encS l).length : Int))), V.int IntKind.i64 (Fd.lo l ((IntKind.i64.wrap y).tmod (↑(List.map encS l).length : Int))), V.int IntKind.i64 (Fd.hi l ((IntKind.i64.wrap y).tmod (↑(List.map encS l).length : Int))), V.int IntKind.u64 (Fd.sg l ((IntKind.i64.wrap y).tmod (↑(List.map encS l).length : Int)))]), true),
    (!P.fold (Fd.sg l ((IntKind.i64.wrap y).tmod (↑(List.map encS l).length : Int))) (List.map decD (List.map encD (P.sd (List.map decS (List.map encS l)) ((IntKind.i64.wrap x).tmod (↑(List.map encS l).length : Int)).toNat))) == P.root (List.map (fun s => s.5) (List.map decS (List.map encS l))), true)] [2, 1, 1, 1, 1, 1, 1, 1, 1, 3, 0, 4, 5, 1, 1, 1, 1, 1, 1, 1, 1, 3, 4, 0, 1, 1, 1, 1, 1, 1, 1, 6, 3, 4, 1, 1, 1, 1, 7, 1, 1, 1, 1, 1, 1, 1, 1, 3, 0, 4, 5, 1, 1, 1, 1, 1, 1, 1, 1, 8, 0, 0, 0, 0, 1, 1, 1, 1, 1, 0, 0, 0, 0, 1, 1, 1, 1, 1, 1, 0, 1, 9, 10, 11, 12, 13, 14, 0, 0, 0, 0, 0, 1, 15, 16, 0, 1, 1, 1, 1, 1, 1, 1, 1, 1, 3, 4, 0, 1, 1, 1, 1, 7, 17, 18, 18, 3, 4, 19, 20, 0, 0, 0, 19, 20, 21, 0, 0, 0, 0, 22, 23, 24, 0, 25, 25, 25, 19, 20, 21, 25, 25, 25, 25, 25, 26, 27, 28, 25, 25, 25, 25, 29, 29, 29, 26, 27, 28, 29, 29, 29, 29, 30, 23, 24, 29, 25, 29, 25, 31, 31] (by kernel_rfl) ?_
    simp only [decS_enc, decD_enc, List.length_map, wx, wy, txn, tyn, hjx, hjy, hsx, hsy, hw1, hmx]
    refine ⟨?_, ?_, ?_, ?_, ?_, ?_, ?_, ?_, ?_, ?_, ?_, ?_, ?_, ?_, ?_, ?_, ?_, ?_, ?_, ?_, ?_, ?_, ?_, ?_, ?_, ?_, ?_, ?_, ?_, ?_, trivial⟩
    all_goals first
        | exact eqB_eq rfl
        | exact eqB_eq (by simp [decS])
        | exact apart_s _ _
        | (simp; done)
        | (simp [hfx]; done)
        | (simp; omega)
        | (rw [hfx]; exact beq_self_eq_true _)
        | exact hfy
        | exact hxy
        | (simp [rooms, maxRoom]; omega)
        | (simp [encS, fitP, fld, leafFits, V.cells, hx1, hy1, hl1]; done)
        | (simp only [beq_eq_false_iff_ne, ne_eq, Bool.not_eq_true', decide_eq_false_iff_not, decide_eq_true_eq]; omega)
        | exact beq_iff_eq.2 hfx
        | (unfold rooms maxRoom; exact decide_eq_true (by omega))
theorem lawStampRoots : ∀ xs, AllV T 8 [36, 22, 5, 5] xs → ∃ k, vcall T F k 11 xs [] = some (.bool true, []) := by
  intro xs hxs
  obtain ⟨v, xs, rfl, hv, hxs⟩ := allV_cons hxs
  obtain ⟨vb, xs, rfl, hvb, hxs⟩ := allV_cons hxs
  obtain ⟨vx, xs, rfl, hvx, hxs⟩ := allV_cons hxs
  obtain ⟨vy, xs, rfl, hvy, hxs⟩ := allV_cons hxs
  obtain rfl := allV_nil hxs
  obtain ⟨key, rfl, _⟩ := hasV_int (i := { kind := .int .u64, size := 1, bytes := 8, zero := .int .u64 0, leaves := [] }) (by kernel_rfl) rfl hv
  obtain ⟨n, bs, rfl, hb, hbl, _⟩ := hasV_ints (i := { kind := .slice 5, size := 1, bytes := 24, zero := .sl true [], leaves := [] }) (j := { kind := .int .u8, size := 1, bytes := 1, zero := .int .u8 0, leaves := [] }) (by kernel_rfl) rfl (by kernel_rfl) rfl hvb
  obtain ⟨x, rfl, hx⟩ := hasV_int (i := { kind := .int .u8, size := 1, bytes := 1, zero := .int .u8 0, leaves := [] }) (by kernel_rfl) rfl hvx
  obtain ⟨y, rfl, hy⟩ := hasV_int (i := { kind := .int .u8, size := 1, bytes := 1, zero := .int .u8 0, leaves := [] }) (by kernel_rfl) rfl hvy
  have hb' : ∀ x ∈ bs, 0 ≤ x ∧ x ≤ 255 := fun x hx => by
    have := hb x hx
    simp [Lit.wf, IntKind.min, IntKind.max, IntKind.signed, IntKind.bits] at this
    exact this
  simp [Lit.wf, IntKind.min, IntKind.max, IntKind.signed, IntKind.bits] at hx hy
  obtain ⟨l, la, ts, now, i, b, hl, hc, hr⟩ := given_loop key n bs hb' (by simpa [maxLen] using hbl) 30 0 [] (P.mix key 3) [] 0 rfl rfl .nil (by simp)
  have h14 := given_runs hr
  show Runs T F 11 [.int .u64 key, V.sl n (bs.map encB), .int .u8 x, .int .u8 y] [] (.bool true, [])
  by_cases hl0 : l.length = 0
  · have : l = [] := List.length_eq_zero_iff.1 hl0
    subst this
    exact Runs.way (F := F) (sh := Sh) (S := Z11 key n bs (.sl true []) la ts) (Z11_ok h14) (L := fun _ _ => .fail) (fi := fi11) (by kernel_rfl) (fun _ _ _ _ h => by cases h) [(eqB (key, n, List.map encB bs) (key, n, List.map encB bs), true),
    (eqB ([] : List V) [], true)] [2, 1, 1, 1, 1, 1, 1, 1, 1, 3, 0, 0, 1, 1, 1, 1, 1, 1, 1, 1, 3, 0, 1, 1, 1, 1, 1, 1, 1, 1, 3, 0, 1, 1, 1, 1, 1, 1, 1, 1, 1, 1, 1, 1, 1, 3, 0, 0, 1, 1, 1, 1, 1, 1, 1, 1, 1, 0, 0, 0, 0, 1, 1, 1, 1, 1, 0, 0, 0, 0, 1, 1, 1, 1, 1, 1, 0, 1, 1, 1, 0, 0, 0, 0, 0, 1, 0, 0, 0, 1, 1, 1, 1, 1, 1, 1, 1, 1, 3, 0, 1, 1, 1, 1, 1, 0, 0, 0] (by kernel_rfl) ⟨eqB_eq rfl, eqB_eq rfl, trivial⟩
  · rw [chainV_ne (by omega)] at h14
    exact roots_runs hc hl (by omega) h14 x y ⟨by omega, by omega⟩ ⟨by omega, by omega⟩
end Go.Proofs.Ytgmdkjiflhklaaa
