/- C9: the law StampChains over V. -/
import Derived.Test.YtgmdkjiflhklaaaC8
import Derived.Test.YtgmdkjiflhklaaaH2
namespace Go.Proofs.Ytgmdkjiflhklaaa
open Go Go.Vm
noncomputable def N29 : Vm.Spec := UM.add 29 (inl T Sh UM 0 0 fi29)
theorem N29_ok : Vm.Good (vlim T F) N29 := UM_ok.inl (by kernel_rfl) 0 0 (by kernel_rfl)
noncomputable def N31 : Vm.Spec := N29.add 31 (inl T Sh N29 0 0 fi31)
theorem N31_ok : Vm.Good (vlim T F) N31 := N29_ok.inl (by kernel_rfl) 0 0 (by kernel_rfl)
noncomputable def N33 : Vm.Spec := N31.add 33 (inl T Sh N31 0 0 fi33)
theorem N33_ok : Vm.Good (vlim T F) N33 := N31_ok.inl (by kernel_rfl) 0 0 (by kernel_rfl)
noncomputable def N32 : Vm.Spec := N33.add 32 (inl T Sh N33 0 0 fi32)
theorem N32_ok : Vm.Good (vlim T F) N32 := N33_ok.inl (by kernel_rfl) 0 0 (by kernel_rfl)
noncomputable def N15 : Vm.Spec := N32.add 15 (inl T Sh N32 0 0 fi15)
theorem N15_ok : Vm.Good (vlim T F) N15 := N32_ok.inl (by kernel_rfl) 0 0 (by kernel_rfl)
def z9 (j : Int) (b0 b1 b2 : B) : St := ⟨[(238, .ref (.arr 2) 4), (239, .int .i64 2), (240, .int .i64 j)], [b0, b1, b2, .cells [.int .u64 0, .int .u64 0, .bool false, .sl true []], .cells [.nilp, .ptr 3 0]]⟩
theorem z_all (b0 b1 b2 : B) : LRuns (vstep T (vlim T F) lplim fi28.cx 5 (lb fi28 4)) (z9 0 b0 b1 b2) (.exit 8, ⟨(z9 2 b0 b1 b2).env ++ [(241, .bool false)], (z9 2 b0 b1 b2).heap⟩) :=
  LRuns.next (F := F) N15_ok (sh := Sh) (L := fun _ _ => .fail) (LGood.none (by kernel_rfl)) [] [0, 0, 0, 0, 0, 0, 0, 0, 0, 0, 0, 0, 0, 0, 0, 0, 0, 0, 0, 0, 0, 0, 0, 0, 0, 0, 0, 0, 0, 0, 0, 0, 0, 0, 0, 1, 1, 1, 1, 1, 1, 1, 1, 1, 1, 1, 1, 1, 1, 1, 1, 1, 1, 1, 1, 1, 1, 1, 1, 1, 0, 0, 0, 0, 0, 0, 0, 0, 1, 1, 1] (τ' := z9 1 b0 b1 b2) (by kernel_rfl) trivial
    (LRuns.next (F := F) N15_ok (sh := Sh) (L := fun _ _ => .fail) (LGood.none (by kernel_rfl)) [] [0, 0, 0, 1, 1, 1, 1, 1, 1, 1, 0, 1, 1, 1, 1, 1, 1, 1, 0, 1, 1, 1, 1, 1, 1, 1, 0, 1, 1, 1, 1, 1, 1, 1, 0, 1, 1, 1, 1, 1, 1, 1, 1, 1, 1, 1, 1, 1, 1, 1, 1, 1, 1, 1, 1, 1, 1, 1, 1, 1, 1, 1, 1, 1, 1, 1, 1, 0, 1, 1, 1] (τ' := z9 2 b0 b1 b2) (by kernel_rfl) trivial
      (LRuns.last (F := F) N15_ok (sh := Sh) (L := fun _ _ => .fail) (LGood.none (by kernel_rfl)) [] [1] (by kernel_rfl) (by simp) trivial))
theorem out_end (b0 b1 : B) (r0 r1 : V) : LRuns (vstep T (vlim T F) lplim fi28.cx 3 (lb fi28 1)) (l2 2 b0 b1 r0 r1) (.exit 2, ⟨(l2 2 b0 b1 r0 r1).env ++ [(144, .bool false)], (l2 2 b0 b1 r0 r1).heap⟩) :=
  LRuns.last (F := F) X73_ok (sh := Sh) (L := fun _ _ => .fail) (fun _ _ _ _ h => by cases h) [] [1] (by kernel_rfl) (by simp) trivial
theorem out_2 (key : Int) (g0 : List Stp) (h0 : g0.length ≤ 1000) (la : Int) (c : V) (m : Bool) (y : List V) : LRuns (vstep T (vlim T F) lplim fi28.cx 3 (lb fi28 1)) (l2 1 (chB' key la c) (cpB key g0) (.sl m y) (refV g0)) (.exit 2, ⟨(l2 2 (chB' key la c) (cpB key g0) (.sl m y) (refV g0)).env ++ [(144, .bool false)], (l2 2 (chB' key la c) (cpB key g0) (.sl m y) (refV g0)).heap⟩) := by
  by_cases hg : 0 < g0.length
  · have e : cpB key g0 = chB' key (P.last key g0) (.ex 5 false (g0.map encS)) := by unfold cpB; rw [cpV_ne hg]; rfl
    rw [e, refV_ne hg]
    exact out_c key la (P.last key g0) m y c g0 h0 hg _ (out_end _ _ _ _)
  · have : g0 = [] := List.eq_nil_of_length_eq_zero (by omega)
    subst this
    exact out_d key la (P.last key []) m y c _ (out_end _ _ _ _)
theorem out_all (key : Int) (g g0 : List Stp) (h : g.length ≤ 1000) (h0 : g0.length ≤ 1000) : LRuns (vstep T (vlim T F) lplim fi28.cx 3 (lb fi28 1)) (l2 0 (chB' key (P.last key g) (chainV g)) (cpB key g0) (refV g) (refV g0)) (.exit 2, ⟨(l2 2 (chB' key (P.last key g) (chainV g)) (cpB key g0) (refV g) (refV g0)).env ++ [(144, .bool false)], (l2 2 (chB' key (P.last key g) (chainV g)) (cpB key g0) (refV g) (refV g0)).heap⟩) := by
  by_cases hg : 0 < g.length
  · have h2 := out_2 key g0 h0 (P.last key g) (chainV g) g.isEmpty (g.map encS)
    change LRuns _ (l2 1 _ _ (refV g) _) (_, ⟨(l2 2 _ _ (refV g) _).env ++ _, (l2 2 _ _ (refV g) _).heap⟩) at h2
    rw [chainV_ne hg, refV_ne hg] at h2 ⊢
    exact out_b key (P.last key g) (P.last key g0) g0.isEmpty (g0.map encS) (cpV g0) g h hg _ h2
  · have : g = [] := List.eq_nil_of_length_eq_zero (by omega)
    subst this
    exact out_a key (P.last key []) (P.last key g0) g0.isEmpty (g0.map encS) (cpV g0) _ (out_2 key g0 h0 _ _ _ _)
theorem chain_runs (key k : Int) (n : Bool) (l : List Wsh) (hl : l.length ≤ 200) : Runs T F 28 [.int .u64 key, V.sl n (l.map encW), .int .i64 k] [] (.bool true, []) := by
  have hw : IntKind.i64.wrap (((l.map encW).length : Int) + 1) = (l.length : Int) + 1 := by rw [List.length_map]; exact i64in (by omega) (by omega)
  have t1 : k.tmod ((l.length : Int) + 1) < (l.length : Int) + 1 := Int.tmod_lt_of_pos _ (by omega)
  have t2 : -((l.length : Int) + 1) < k.tmod ((l.length : Int) + 1) := by
    have := Int.lt_tmod_of_pos k (show (0 : Int) < (l.length : Int) + 1 by omega)
    omega
  have hK : ∃ kk : Nat, kk ≤ l.length ∧ (kk : Int) = if k.tmod ((l.length : Int) + 1) < 0 then IntKind.i64.wrap (k.tmod ((l.length : Int) + 1) + ((l.length : Int) + 1)) else k.tmod ((l.length : Int) + 1) := by
    by_cases h : k.tmod ((l.length : Int) + 1) < 0
    · rw [if_pos h, i64in (by omega) (by omega)]
      exact ⟨(k.tmod ((l.length : Int) + 1) + ((l.length : Int) + 1)).toNat, by omega, by omega⟩
    · rw [if_neg h]
      exact ⟨(k.tmod ((l.length : Int) + 1)).toNat, by omega, by omega⟩
  obtain ⟨kk, hkk, hk⟩ := hK
  obtain ⟨g, g0, v1, v0, h1⟩ := ch_all key n l hl kk hkk kk 0 [] (by omega) Gv.nil
  have hg := v1.len
  have hg0 := v0.len
  have h2 := out_all key g g0 (by omega) (by omega)
  have h3 := z_all (chB' key (P.last key g) (chainV g)) (cpB key g0) (.cells [.ptr 0 0, refV g, .ptr 1 0, refV g0])
  have e0 : loopsOf fi28.body = [lb fi28 0, lb fi28 1, lb fi28 2, lb fi28 3, lb fi28 4] := by kernel_rfl
  have f0 : firstRegion (lb fi28 0) = 6 := by kernel_rfl
  have f1 : firstRegion (lb fi28 1) = 18 := by kernel_rfl
  have f2 : firstRegion (lb fi28 2) = 26 := by kernel_rfl
  have f3 : firstRegion (lb fi28 3) = 33 := by kernel_rfl
  have f4 : firstRegion (lb fi28 4) = 43 := by kernel_rfl
  have hL : LGood T (vlim T F) lplim fi28.cx (loopsIs [(6, chA key n l kk (0 : Nat) (P.last key []) (refV []) (chainV []), (.exit 0, chF key n l kk g g0)), (18, l2 0 (chB' key (P.last key g) (chainV g)) (cpB key g0) (refV g) (refV g0), (.exit 2, ⟨(l2 2 (chB' key (P.last key g) (chainV g)) (cpB key g0) (refV g) (refV g0)).env ++ [(144, .bool false)], (l2 2 (chB' key (P.last key g) (chainV g)) (cpB key g0) (refV g) (refV g0)).heap⟩)), (43, z9 0 (chB' key (P.last key g) (chainV g)) (cpB key g0) (.cells [.ptr 0 0, refV g, .ptr 1 0, refV g0]), (.exit 8, ⟨(z9 2 (chB' key (P.last key g) (chainV g)) (cpB key g0) (.cells [.ptr 0 0, refV g, .ptr 1 0, refV g0])).env ++ [(241, .bool false)], (z9 2 (chB' key (P.last key g) (chainV g)) (cpB key g0) (.cells [.ptr 0 0, refV g, .ptr 1 0, refV g0])).heap⟩))]) fi28.body := by
    refine LGood.is fun c hc x hx hf => ?_
    rw [e0] at hc
    simp only [List.mem_cons, List.not_mem_nil, or_false] at hc hx
    rcases hx with rfl | rfl | rfl <;> rcases hc with rfl | rfl | rfl | rfl | rfl <;> first
      | exact h1
      | exact h2
      | exact h3
      | (simp only at hf; omega)
  have hs0 : ∀ K : Int, K = kk → (⟨[(0, .int .u64 key), (1, V.sl n (l.map encW)), (7, .ptr 0 0), (8, .sl true []), (9, .sl true []), (10, .nilp), (11, .int .i64 K), (53, .int .i64 (IntKind.i64.wrap (((l.map encW).length : Int) + 1))), (54, .int .i64 0)], [.cells [.int .u64 key, .int .u64 (P.mix key 3), .bool true, .sl true []]]⟩ : St) = chA key n l kk (0 : Nat) (P.last key []) (refV []) (chainV []) := by
    intro K hK
    rw [hw, hK, last_nil]; rfl
  by_cases h : k.tmod ((l.length : Int) + 1) < 0
  · rw [if_pos h] at hk
    refine Runs.way (F := F) (sh := Sh) (S := X73) X73_ok (fi := fi28) (by kernel_rfl) hL [(decide (IntKind.i64.wrap ((↑(List.map encW l).length : Int) + 1) < 1), false),
    (!decide (IntKind.i64.wrap ((↑(List.map encW l).length : Int) + 1) = 0), true),
    (decide (k.tmod (IntKind.i64.wrap ((↑(List.map encW l).length : Int) + 1)) < 0), true),
    (is { env := [(0, V.int IntKind.u64 key), (1, V.sl n (List.map encW l)), (7, V.ptr 0 0), (8, V.sl true []), (9, V.sl true []), (10, V.nilp), (11, V.int IntKind.i64 (IntKind.i64.wrap (k.tmod (IntKind.i64.wrap ((↑(List.map encW l).length : Int) + 1)) + IntKind.i64.wrap ((↑(List.map encW l).length : Int) + 1)))), (53, V.int IntKind.i64 (IntKind.i64.wrap ((↑(List.map encW l).length : Int) + 1))), (54, V.int IntKind.i64 0)], heap := [B.cells [V.int IntKind.u64 key, V.int IntKind.u64 (P.mix key 3), V.bool true, V.sl true []]] } { env := [(0, V.int IntKind.u64 key), (1, V.sl n (List.map encW l)), (7, V.ptr 0 0), (8, V.sl true []), (9, V.sl true []), (10, V.nilp), (11, V.int IntKind.i64 (↑kk : Int)), (53, V.int IntKind.i64 ((↑l.length : Int) + 1)), (54, V.int IntKind.i64 0)], heap := [B.cells [V.int IntKind.u64 key, V.int IntKind.u64 (P.last key []), V.bool true, V.sl true []]] }, true),
    (is { env := [(141, V.ref (RK.arr 2) 2), (142, V.int IntKind.i64 2), (143, V.int IntKind.i64 0)], heap := [B.cells [V.int IntKind.u64 key, V.int IntKind.u64 (P.last key g), V.bool true, chainV g], B.cells [V.int IntKind.u64 key, V.int IntKind.u64 (P.last key g0), V.bool true, V.ex 5 g0.isEmpty (List.map encS g0)], B.cells [V.ptr 0 0, V.sl g.isEmpty (List.map encS g), V.ptr 1 0, V.sl g0.isEmpty (List.map encS g0)]] } { env := [(141, V.ref (RK.arr 2) 2), (142, V.int IntKind.i64 2), (143, V.int IntKind.i64 0)], heap := [B.cells [V.int IntKind.u64 key, V.int IntKind.u64 (P.last key g), V.bool true, chainV g], B.cells [V.int IntKind.u64 key, V.int IntKind.u64 (P.last key g0), V.bool true, V.ex 5 g0.isEmpty (List.map encS g0)], B.cells [V.ptr 0 0, V.sl g.isEmpty (List.map encS g), V.ptr 1 0, V.sl g0.isEmpty (List.map encS g0)]] }, true),
    (is { env := [(238, V.ref (RK.arr 2) 4), (239, V.int IntKind.i64 2), (240, V.int IntKind.i64 0)], heap := [B.cells [V.int IntKind.u64 key, V.int IntKind.u64 (P.last key g), V.bool true, chainV g], B.cells [V.int IntKind.u64 key, V.int IntKind.u64 (P.last key g0), V.bool true, V.ex 5 g0.isEmpty (List.map encS g0)], B.cells [V.ptr 0 0, V.sl g.isEmpty (List.map encS g), V.ptr 1 0, V.sl g0.isEmpty (List.map encS g0)], B.cells [V.int IntKind.u64 0, V.int IntKind.u64 0, V.bool false, V.sl true []], B.cells [V.nilp, V.ptr 3 0]] } { env := [(238, V.ref (RK.arr 2) 4), (239, V.int IntKind.i64 2), (240, V.int IntKind.i64 0)], heap := [B.cells [V.int IntKind.u64 key, V.int IntKind.u64 (P.last key g), V.bool true, chainV g], B.cells [V.int IntKind.u64 key, V.int IntKind.u64 (P.last key g0), V.bool true, V.ex 5 g0.isEmpty (List.map encS g0)], B.cells [V.ptr 0 0, V.sl g.isEmpty (List.map encS g), V.ptr 1 0, V.sl g0.isEmpty (List.map encS g0)], B.cells [V.int IntKind.u64 0, V.int IntKind.u64 0, V.bool false, V.sl true []], B.cells [V.nilp, V.ptr 3 0]] }, true)] [2, 3, 4, 5, 6, 7] (by kernel_rfl) ?_
    refine ⟨by rw [hw]; simp; omega, by rw [hw]; simp; omega, by rw [hw]; exact decide_eq_true h, is_eq (hs0 _ (by rw [hw]; exact hk.symm)), is_eq rfl, is_eq rfl, trivial⟩
  · rw [if_neg h] at hk
    refine Runs.way (F := F) (sh := Sh) (S := X73) X73_ok (fi := fi28) (by kernel_rfl) hL [(decide (IntKind.i64.wrap ((↑(List.map encW l).length : Int) + 1) < 1), false),
    (!decide (IntKind.i64.wrap ((↑(List.map encW l).length : Int) + 1) = 0), true),
    (decide (k.tmod (IntKind.i64.wrap ((↑(List.map encW l).length : Int) + 1)) < 0), false),
    (is { env := [(0, V.int IntKind.u64 key), (1, V.sl n (List.map encW l)), (7, V.ptr 0 0), (8, V.sl true []), (9, V.sl true []), (10, V.nilp), (11, V.int IntKind.i64 (k.tmod (IntKind.i64.wrap ((↑(List.map encW l).length : Int) + 1)))), (53, V.int IntKind.i64 (IntKind.i64.wrap ((↑(List.map encW l).length : Int) + 1))), (54, V.int IntKind.i64 0)], heap := [B.cells [V.int IntKind.u64 key, V.int IntKind.u64 (P.mix key 3), V.bool true, V.sl true []]] } { env := [(0, V.int IntKind.u64 key), (1, V.sl n (List.map encW l)), (7, V.ptr 0 0), (8, V.sl true []), (9, V.sl true []), (10, V.nilp), (11, V.int IntKind.i64 (↑kk : Int)), (53, V.int IntKind.i64 ((↑l.length : Int) + 1)), (54, V.int IntKind.i64 0)], heap := [B.cells [V.int IntKind.u64 key, V.int IntKind.u64 (P.last key []), V.bool true, V.sl true []]] }, true),
    (is { env := [(141, V.ref (RK.arr 2) 2), (142, V.int IntKind.i64 2), (143, V.int IntKind.i64 0)], heap := [B.cells [V.int IntKind.u64 key, V.int IntKind.u64 (P.last key g), V.bool true, chainV g], B.cells [V.int IntKind.u64 key, V.int IntKind.u64 (P.last key g0), V.bool true, V.ex 5 g0.isEmpty (List.map encS g0)], B.cells [V.ptr 0 0, V.sl g.isEmpty (List.map encS g), V.ptr 1 0, V.sl g0.isEmpty (List.map encS g0)]] } { env := [(141, V.ref (RK.arr 2) 2), (142, V.int IntKind.i64 2), (143, V.int IntKind.i64 0)], heap := [B.cells [V.int IntKind.u64 key, V.int IntKind.u64 (P.last key g), V.bool true, chainV g], B.cells [V.int IntKind.u64 key, V.int IntKind.u64 (P.last key g0), V.bool true, V.ex 5 g0.isEmpty (List.map encS g0)], B.cells [V.ptr 0 0, V.sl g.isEmpty (List.map encS g), V.ptr 1 0, V.sl g0.isEmpty (List.map encS g0)]] }, true),
    (is { env := [(238, V.ref (RK.arr 2) 4), (239, V.int IntKind.i64 2), (240, V.int IntKind.i64 0)], heap := [B.cells [V.int IntKind.u64 key, V.int IntKind.u64 (P.last key g), V.bool true, chainV g], B.cells [V.int IntKind.u64 key, V.int IntKind.u64 (P.last key g0), V.bool true, V.ex 5 g0.isEmpty (List.map encS g0)], B.cells [V.ptr 0 0, V.sl g.isEmpty (List.map encS g), V.ptr 1 0, V.sl g0.isEmpty (List.map encS g0)], B.cells [V.int IntKind.u64 0, V.int IntKind.u64 0, V.bool false, V.sl true []], B.cells [V.nilp, V.ptr 3 0]] } { env := [(238, V.ref (RK.arr 2) 4), (239, V.int IntKind.i64 2), (240, V.int IntKind.i64 0)], heap := [B.cells [V.int IntKind.u64 key, V.int IntKind.u64 (P.last key g), V.bool true, chainV g], B.cells [V.int IntKind.u64 key, V.int IntKind.u64 (P.last key g0), V.bool true, V.ex 5 g0.isEmpty (List.map encS g0)], B.cells [V.ptr 0 0, V.sl g.isEmpty (List.map encS g), V.ptr 1 0, V.sl g0.isEmpty (List.map encS g0)], B.cells [V.int IntKind.u64 0, V.int IntKind.u64 0, V.bool false, V.sl true []], B.cells [V.nilp, V.ptr 3 0]] }, true)] [2, 3, 4, 5, 6, 7] (by kernel_rfl) ?_
    refine ⟨by rw [hw]; simp; omega, by rw [hw]; simp; omega, by rw [hw]; exact decide_eq_false h, is_eq (hs0 _ (by rw [hw]; exact hk.symm)), is_eq rfl, is_eq rfl, trivial⟩
def decW (v : V) : Wsh := ⟨intOf (fld 0 v), intOf (fld 1 v), intOf (fld 2 v)⟩
theorem decW_enc (o : List Wsh) : (o.map encW).map decW = o := by
  rw [List.map_map]
  conv => rhs; rw [← List.map_id o]
  exact List.map_congr_left fun c _ => by simp [decW, encW]
noncomputable def chainS : List V → Heap → Tr (V × Heap) := fun a H => match a, H with
  | [.int .u64 _, .sl _ xs, .int .i64 _], [] => .must (eqB xs ((xs.map decW).map encW)) (.must (decide (xs.length ≤ 200)) (.ret (.bool true, [])))
  | _, _ => .fail
theorem chainS_ok : ∀ a H r, (chainS a H).run = some r → Runs T F 28 a H r := by
  intro a H r h
  unfold chainS at h
  split at h
  · rename_i key n xs k
    obtain ⟨h0, h⟩ := Tr.must_some h
    obtain ⟨h1, h⟩ := Tr.must_some h
    have hr := ret_some h; clear h; subst hr
    have h0 := of_eqB h0
    simp only [decide_eq_true_eq] at h1
    rw [← List.length_map (f := decW)] at h1
    generalize xs.map decW = l at *
    subst h0
    exact chain_runs key k n l h1
  · cases h
noncomputable def X10 : Vm.Spec := X73.add 28 chainS
theorem X10_ok : Vm.Good (vlim T F) X10 := X73_ok.add chainS_ok
theorem len3 {α : Type} {cs : List α} (h : cs.length = 3) : ∃ a b c, cs = [a, b, c] := by
  match cs, h with
  | [a, b, c], _ => exact ⟨a, b, c, rfl⟩
theorem u3 : T 3 = some { kind := .int .i64, size := 1, bytes := 8, zero := .int .i64 0, leaves := [] } := by kernel_rfl
theorem u36 : T 36 = some { kind := .int .u64, size := 1, bytes := 8, zero := .int .u64 0, leaves := [] } := by kernel_rfl
theorem hasV_wsh {m : Nat} {v : V} (h : HasV T (m + 2) 142 v) : ∃ s : Wsh, v = encW s ∧ True := by
  obtain ⟨cs, rfl, hl, hf⟩ := hasV_struct (i := { kind := .struct [(0, 36), (1, 3), (2, 3)], size := 3, bytes := 24, zero := .agg [.int .u64 0, .int .i64 0, .int .i64 0], leaves := [.int .u64, .int .i64, .int .i64] }) (by kernel_rfl) rfl h
  obtain ⟨a, b, c, rfl⟩ := len3 hl
  obtain ⟨i0, j0, k0⟩ := hf (0, 36) (by simp)
  obtain ⟨i1, j1, k1⟩ := hf (1, 3) (by simp)
  obtain ⟨i2, j2, k2⟩ := hf (2, 3) (by simp)
  simp only at j0 j1 j2 k0 k1 k2
  rw [u3] at j1 j2
  rw [u36] at j0
  injection j0 with j0; injection j1 with j1; injection j2 with j2
  subst j0; subst j1; subst j2
  obtain ⟨x0, rfl, _⟩ := hasC_int u36 rfl k0
  obtain ⟨x1, rfl, _⟩ := hasC_int u3 rfl k1
  obtain ⟨x2, rfl, _⟩ := hasC_int u3 rfl k2
  exact ⟨⟨x0, x1, x2⟩, rfl, trivial⟩
theorem lawStampChains : ∀ xs, AllV T 8 [36, 74, 3] xs → ∃ k, vcall T F k 10 xs [] = some (.bool true, []) := by
  intro xs hxs
  obtain ⟨vk, xs, rfl, hvk, hxs⟩ := allV_cons hxs
  obtain ⟨v, xs, rfl, hv, hxs⟩ := allV_cons hxs
  obtain ⟨va, xs, rfl, hva, hxs⟩ := allV_cons hxs
  obtain rfl := allV_nil hxs
  obtain ⟨key, rfl, _⟩ := hasV_int u36 rfl hvk
  obtain ⟨k, rfl, _⟩ := hasV_int u3 rfl hva
  obtain ⟨n, l, rfl, _, hl, hn⟩ := hasV_list encW (fun _ => True) (i := { kind := .slice 142, size := 1, bytes := 24, zero := .sl true [], leaves := [] }) (by kernel_rfl) rfl (fun x hx => hasV_wsh hx) hv
  show Runs T F 10 [.int .u64 key, V.sl n (l.map encW), .int .i64 k] [] (.bool true, [])
  by_cases h : l.length > 200
  · exact Runs.way (F := F) (sh := Sh) (S := X10) (L := fun _ _ => .fail) X10_ok (fi := fi10) (by kernel_rfl) (fun _ _ _ _ h => by cases h) [(decide ((↑(List.map encW l).length : Int) > 200), true)] [2, 2, 2, 2, 2, 0, 0] (by kernel_rfl) ⟨by simp; omega, trivial⟩
  · exact Runs.way (F := F) (sh := Sh) (S := X10) (L := fun _ _ => .fail) X10_ok (fi := fi10) (by kernel_rfl) (fun _ _ _ _ h => by cases h) [(decide ((↑(List.map encW l).length : Int) > 200), false),
    (eqB (List.map encW l) (List.map encW (List.map decW (List.map encW l))), true),
    (decide ((List.map encW l).length ≤ 200), true)] [2, 2, 2, 2, 3, 4, 2, 0, 0] (by kernel_rfl) ⟨by simp; omega, eqB_eq (by rw [decW_enc]), by simp; omega, trivial⟩
end Go.Proofs.Ytgmdkjiflhklaaa
