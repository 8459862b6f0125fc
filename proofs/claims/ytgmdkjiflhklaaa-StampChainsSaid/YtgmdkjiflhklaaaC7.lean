/- C7: what is asked of the chains in the end: the loops within. -/
import Derived.Test.YtgmdkjiflhklaaaC6
namespace Go.Proofs.Ytgmdkjiflhklaaa
open Go Go.Vm
def l2 (j : Int) (b0 b1 : B) (r0 r1 : V) : St := ⟨[(141, .ref (.arr 2) 2), (142, .int .i64 2), (143, .int .i64 j)], [b0, b1, .cells [.ptr 0 0, r0, .ptr 1 0, r1]]⟩
def chB' (key la : Int) (c : V) : B := .cells [.int .u64 key, .int .u64 la, .bool true, c]
def i2 (p : Nat) (j i : Int) (al : V) (b0 b1 : B) (r0 r1 rx : V) : St := ⟨[(18, .ptr 3 0), (19, al), (25, .int .i64 i), (141, .ref (.arr 2) 2), (142, .int .i64 2), (143, .int .i64 j)], [b0, b1, .cells [.ptr 0 0, r0, .ptr 1 0, r1], .cells [.ptr p 0, rx]]⟩
def m2 (p : Nat) (j len i : Int) (al : V) (b0 b1 : B) (r0 r1 rx : V) : St := ⟨[(18, .ptr 3 0), (19, al), (141, .ref (.arr 2) 2), (142, .int .i64 2), (143, .int .i64 j), (213, .int .i64 len), (214, .int .i64 i)], [b0, b1, .cells [.ptr 0 0, r0, .ptr 1 0, r1], .cells [.ptr p 0, rx]]⟩
theorem sides_len : ∀ (m : Nat) (l : List Int) (k : Nat), (P.sidesN m l k).length ≤ m
  | 0, l, k => by simp [P.sidesN]
  | m + 1, l, k => by
    have ih := sides_len m (P.up l) (k / 2)
    simp only [P.sidesN]
    split
    · simp
    · split
      · simp; omega
      · simp; omega
theorem in_a (key la la0 : Int) (m : Bool) (y : List V) (c0 : V) : ∀ (d : Nat) (i : Int), -1 ≤ i → i + d = 0 + 1 → LRuns (vstep T (vlim T F) lplim fi28.cx 4 (lb fi28 2)) (i2 0 0 i (.ex 5 true []) (chB' key la (.sl true [])) (chB' key la0 c0) (.sl true []) (.sl m y) (.sl true [])) (.exit 4, ⟨(i2 0 0 (0 + 1) (.ex 5 true []) (chB' key la (.sl true [])) (chB' key la0 c0) (.sl true []) (.sl m y) (.sl true [])).env ++ [(186, .bool false)], (i2 0 0 (0 + 1) (.ex 5 true []) (chB' key la (.sl true [])) (chB' key la0 c0) (.sl true []) (.sl m y) (.sl true [])).heap⟩)
  | 0, i, h0, hd => by
    have hi : i = 0 + 1 := by omega
    subst hi
    refine rcast (LRuns.last (F := F) X73_ok (sh := Sh) (L := fun _ _ => .fail) (LGood.none (by kernel_rfl)) [] [1] (r := (Ex.exit 4, { env := [(18, V.ptr 3 0), (19, V.ex 5 true []), (25, V.int IntKind.i64 1), (141, V.ref (RK.arr 2) 2), (142, V.int IntKind.i64 2), (143, V.int IntKind.i64 0), (186, V.bool false)], heap := [B.cells [V.int IntKind.u64 key, V.int IntKind.u64 la, V.bool true, V.sl true []], B.cells [V.int IntKind.u64 key, V.int IntKind.u64 la0, V.bool true, c0], B.cells [V.ptr 0 0, V.sl true [], V.ptr 1 0, V.sl m y], B.cells [V.ptr 0 0, V.sl true []]] })) (by kernel_rfl) (by simp) ?_) ?_
    · exact trivial
    · rfl
  | d + 1, i, h0, hd => by
    have ih := in_a key la la0 m y c0 d (i + 1) (by omega) (by omega)
    have hw : IntKind.i64.wrap (i + 1) = i + 1 := i64in (by omega) (by omega)
    refine LRuns.next (F := F) X73_ok (sh := Sh) (L := fun _ _ => .fail) (LGood.none (by kernel_rfl)) [(decide (i ≤ 0), true),
    (decide (0 ≤ i ∧ i < 0), false),
    (eqB ([] : List V) [], true)] [2, 3, 4, 0, 3, 4, 4, 0, 1, 1, 1, 1, 1] (τ' := { env := [(18, V.ptr 3 0), (19, V.ex 5 true []), (25, V.int IntKind.i64 (IntKind.i64.wrap (i + 1))), (141, V.ref (RK.arr 2) 2), (142, V.int IntKind.i64 2), (143, V.int IntKind.i64 0)], heap := [B.cells [V.int IntKind.u64 key, V.int IntKind.u64 la, V.bool true, V.sl true []], B.cells [V.int IntKind.u64 key, V.int IntKind.u64 la0, V.bool true, c0], B.cells [V.ptr 0 0, V.sl true [], V.ptr 1 0, V.sl m y], B.cells [V.ptr 0 0, V.sl true []]] }) (by kernel_rfl) ?_ ?_
    · exact ⟨by simp; omega, by simp <;> omega, eqB_eq rfl, trivial⟩
    · rw [hw]; exact ih
theorem in_b (key la la0 : Int) (m : Bool) (y : List V) (c0 : V) (g : List Stp) (hg : g.length ≤ 1000) : ∀ (d : Nat) (i : Int), -1 ≤ i → i + d = (g.length : Int) + 1 → LRuns (vstep T (vlim T F) lplim fi28.cx 4 (lb fi28 2)) (i2 0 0 i (.ex 5 false (g.map encS)) (chB' key la (.ex 5 false (g.map encS))) (chB' key la0 c0) (.sl false (g.map encS)) (.sl m y) (.sl false (g.map encS))) (.exit 4, ⟨(i2 0 0 ((g.length : Int) + 1) (.ex 5 false (g.map encS)) (chB' key la (.ex 5 false (g.map encS))) (chB' key la0 c0) (.sl false (g.map encS)) (.sl m y) (.sl false (g.map encS))).env ++ [(186, .bool false)], (i2 0 0 ((g.length : Int) + 1) (.ex 5 false (g.map encS)) (chB' key la (.ex 5 false (g.map encS))) (chB' key la0 c0) (.sl false (g.map encS)) (.sl m y) (.sl false (g.map encS))).heap⟩)
  | 0, i, h0, hd => by
    have hi : i = (g.length : Int) + 1 := by omega
    subst hi
    refine rcast (LRuns.last (F := F) X73_ok (sh := Sh) (L := fun _ _ => .fail) (LGood.none (by kernel_rfl)) [(decide ((↑g.length : Int) + 1 ≤ (↑(List.map encS g).length : Int)), false)] [2] (r := (Ex.exit 4, { env := [(18, V.ptr 3 0), (19, V.ex 5 false (List.map encS g)), (25, V.int IntKind.i64 ((↑g.length : Int) + 1)), (141, V.ref (RK.arr 2) 2), (142, V.int IntKind.i64 2), (143, V.int IntKind.i64 0), (186, V.bool (decide ((↑g.length : Int) + 1 ≤ (↑(List.map encS g).length : Int))))], heap := [B.cells [V.int IntKind.u64 key, V.int IntKind.u64 la, V.bool true, V.ex 5 false (List.map encS g)], B.cells [V.int IntKind.u64 key, V.int IntKind.u64 la0, V.bool true, c0], B.cells [V.ptr 0 0, V.sl false (List.map encS g), V.ptr 1 0, V.sl m y], B.cells [V.ptr 0 0, V.sl false (List.map encS g)]] })) (by kernel_rfl) (by simp) ?_) ?_
    · exact ⟨by simp <;> omega, trivial⟩
    · rw [show decide ((g.length : Int) + 1 ≤ ((g.map encS).length : Int)) = false from decide_eq_false (by simp only [List.length_map]; omega)]; rfl
  | d + 1, i, h0, hd => by
    have ih := in_b key la la0 m y c0 g hg d (i + 1) (by omega) (by omega)
    have hw : IntKind.i64.wrap (i + 1) = i + 1 := i64in (by omega) (by omega)
    by_cases hi : 0 ≤ i ∧ i < (g.length : Int)
    · refine LRuns.next (F := F) X73_ok (sh := Sh) (L := fun _ _ => .fail) (LGood.none (by kernel_rfl)) [(decide (i ≤ (↑(List.map encS g).length : Int)), true),
    (eqB (List.map encS g) (List.map encS (List.map decS (List.map encS g))), true),
    (decide ((List.map encS g).length ≤ 1000), true),
    (decide (0 ≤ i ∧ i < (↑(List.map encS g).length : Int)), true),
    (eqB (List.map encD (P.sdS (List.map decS (List.map encS g)) i.toNat)) (List.map encD (P.sdS (List.map decS (List.map encS g)) i.toNat)), true),
    (eqB (List.map encD (P.sdS (List.map decS (List.map encS g)) i.toNat)) (List.map encD (List.map decD (List.map encD (P.sdS (List.map decS (List.map encS g)) i.toNat)))), true),
    (decide ((List.map encD (P.sdS (List.map decS (List.map encS g)) i.toNat)).length ≤ 2000), true)] [2, 3, 4, 5, 3, 4, 5, 6, 7, 8, 1, 1, 1, 1, 1] (τ' := { env := [(18, V.ptr 3 0), (19, V.ex 5 false (List.map encS g)), (25, V.int IntKind.i64 (IntKind.i64.wrap (i + 1))), (141, V.ref (RK.arr 2) 2), (142, V.int IntKind.i64 2), (143, V.int IntKind.i64 0)], heap := [B.cells [V.int IntKind.u64 key, V.int IntKind.u64 la, V.bool true, V.ex 5 false (List.map encS g)], B.cells [V.int IntKind.u64 key, V.int IntKind.u64 la0, V.bool true, c0], B.cells [V.ptr 0 0, V.sl false (List.map encS g), V.ptr 1 0, V.sl m y], B.cells [V.ptr 0 0, V.sl false (List.map encS g)]] }) (by kernel_rfl) ?_ ?_
      · have hsd : (P.sdS g i.toNat).length ≤ g.length := sides_len _ _ _
        refine ⟨by simp; omega, eqB_eq (by rw [decS_enc]), by simp; omega, by simp; omega, eqB_eq rfl, eqB_eq (by rw [decD_enc]), by rw [decS_enc]; simp; omega, trivial⟩
      · rw [hw]; exact ih
    · refine LRuns.next (F := F) X73_ok (sh := Sh) (L := fun _ _ => .fail) (LGood.none (by kernel_rfl)) [(decide (i ≤ (↑(List.map encS g).length : Int)), true),
    (eqB (List.map encS g) (List.map encS (List.map decS (List.map encS g))), true),
    (decide ((List.map encS g).length ≤ 1000), true),
    (decide (0 ≤ i ∧ i < (↑(List.map encS g).length : Int)), false),
    (eqB ([] : List V) [], true)] [2, 3, 4, 5, 3, 4, 5, 6, 6, 0, 1, 1, 1, 1, 1] (τ' := { env := [(18, V.ptr 3 0), (19, V.ex 5 false (List.map encS g)), (25, V.int IntKind.i64 (IntKind.i64.wrap (i + 1))), (141, V.ref (RK.arr 2) 2), (142, V.int IntKind.i64 2), (143, V.int IntKind.i64 0)], heap := [B.cells [V.int IntKind.u64 key, V.int IntKind.u64 la, V.bool true, V.ex 5 false (List.map encS g)], B.cells [V.int IntKind.u64 key, V.int IntKind.u64 la0, V.bool true, c0], B.cells [V.ptr 0 0, V.sl false (List.map encS g), V.ptr 1 0, V.sl m y], B.cells [V.ptr 0 0, V.sl false (List.map encS g)]] }) (by kernel_rfl) ?_ ?_
      · refine ⟨by simp; omega, eqB_eq (by rw [decS_enc]), by simp; omega, decide_eq_false (by rw [List.length_map]; exact hi), eqB_eq rfl, trivial⟩
      · rw [hw]; exact ih
theorem in_c (key la la0 : Int) (m : Bool) (y : List V) (c0 : V) (g : List Stp) (hg : g.length ≤ 1000) : ∀ (d : Nat) (i : Int), -1 ≤ i → i + d = (g.length : Int) + 1 → LRuns (vstep T (vlim T F) lplim fi28.cx 4 (lb fi28 2)) (i2 1 1 i (.ex 5 false (g.map encS)) (chB' key la c0) (chB' key la0 (.ex 5 false (g.map encS))) (.sl m y) (.sl false (g.map encS)) (.sl false (g.map encS))) (.exit 4, ⟨(i2 1 1 ((g.length : Int) + 1) (.ex 5 false (g.map encS)) (chB' key la c0) (chB' key la0 (.ex 5 false (g.map encS))) (.sl m y) (.sl false (g.map encS)) (.sl false (g.map encS))).env ++ [(186, .bool false)], (i2 1 1 ((g.length : Int) + 1) (.ex 5 false (g.map encS)) (chB' key la c0) (chB' key la0 (.ex 5 false (g.map encS))) (.sl m y) (.sl false (g.map encS)) (.sl false (g.map encS))).heap⟩)
  | 0, i, h0, hd => by
    have hi : i = (g.length : Int) + 1 := by omega
    subst hi
    refine rcast (LRuns.last (F := F) X73_ok (sh := Sh) (L := fun _ _ => .fail) (LGood.none (by kernel_rfl)) [(decide ((↑g.length : Int) + 1 ≤ (↑(List.map encS g).length : Int)), false)] [2] (r := (Ex.exit 4, { env := [(18, V.ptr 3 0), (19, V.ex 5 false (List.map encS g)), (25, V.int IntKind.i64 ((↑g.length : Int) + 1)), (141, V.ref (RK.arr 2) 2), (142, V.int IntKind.i64 2), (143, V.int IntKind.i64 1), (186, V.bool (decide ((↑g.length : Int) + 1 ≤ (↑(List.map encS g).length : Int))))], heap := [B.cells [V.int IntKind.u64 key, V.int IntKind.u64 la, V.bool true, c0], B.cells [V.int IntKind.u64 key, V.int IntKind.u64 la0, V.bool true, V.ex 5 false (List.map encS g)], B.cells [V.ptr 0 0, V.sl m y, V.ptr 1 0, V.sl false (List.map encS g)], B.cells [V.ptr 1 0, V.sl false (List.map encS g)]] })) (by kernel_rfl) (by simp) ?_) ?_
    · exact ⟨by simp <;> omega, trivial⟩
    · rw [show decide ((g.length : Int) + 1 ≤ ((g.map encS).length : Int)) = false from decide_eq_false (by simp only [List.length_map]; omega)]; rfl
  | d + 1, i, h0, hd => by
    have ih := in_c key la la0 m y c0 g hg d (i + 1) (by omega) (by omega)
    have hw : IntKind.i64.wrap (i + 1) = i + 1 := i64in (by omega) (by omega)
    by_cases hi : 0 ≤ i ∧ i < (g.length : Int)
    · refine LRuns.next (F := F) X73_ok (sh := Sh) (L := fun _ _ => .fail) (LGood.none (by kernel_rfl)) [(decide (i ≤ (↑(List.map encS g).length : Int)), true),
    (eqB (List.map encS g) (List.map encS (List.map decS (List.map encS g))), true),
    (decide ((List.map encS g).length ≤ 1000), true),
    (decide (0 ≤ i ∧ i < (↑(List.map encS g).length : Int)), true),
    (eqB (List.map encD (P.sdS (List.map decS (List.map encS g)) i.toNat)) (List.map encD (P.sdS (List.map decS (List.map encS g)) i.toNat)), true),
    (eqB (List.map encD (P.sdS (List.map decS (List.map encS g)) i.toNat)) (List.map encD (List.map decD (List.map encD (P.sdS (List.map decS (List.map encS g)) i.toNat)))), true),
    (decide ((List.map encD (P.sdS (List.map decS (List.map encS g)) i.toNat)).length ≤ 2000), true)] [2, 3, 4, 5, 3, 4, 5, 6, 7, 8, 1, 1, 1, 1, 1] (τ' := { env := [(18, V.ptr 3 0), (19, V.ex 5 false (List.map encS g)), (25, V.int IntKind.i64 (IntKind.i64.wrap (i + 1))), (141, V.ref (RK.arr 2) 2), (142, V.int IntKind.i64 2), (143, V.int IntKind.i64 1)], heap := [B.cells [V.int IntKind.u64 key, V.int IntKind.u64 la, V.bool true, c0], B.cells [V.int IntKind.u64 key, V.int IntKind.u64 la0, V.bool true, V.ex 5 false (List.map encS g)], B.cells [V.ptr 0 0, V.sl m y, V.ptr 1 0, V.sl false (List.map encS g)], B.cells [V.ptr 1 0, V.sl false (List.map encS g)]] }) (by kernel_rfl) ?_ ?_
      · have hsd : (P.sdS g i.toNat).length ≤ g.length := sides_len _ _ _
        refine ⟨by simp; omega, eqB_eq (by rw [decS_enc]), by simp; omega, by simp; omega, eqB_eq rfl, eqB_eq (by rw [decD_enc]), by rw [decS_enc]; simp; omega, trivial⟩
      · rw [hw]; exact ih
    · refine LRuns.next (F := F) X73_ok (sh := Sh) (L := fun _ _ => .fail) (LGood.none (by kernel_rfl)) [(decide (i ≤ (↑(List.map encS g).length : Int)), true),
    (eqB (List.map encS g) (List.map encS (List.map decS (List.map encS g))), true),
    (decide ((List.map encS g).length ≤ 1000), true),
    (decide (0 ≤ i ∧ i < (↑(List.map encS g).length : Int)), false),
    (eqB ([] : List V) [], true)] [2, 3, 4, 5, 3, 4, 5, 6, 6, 0, 1, 1, 1, 1, 1] (τ' := { env := [(18, V.ptr 3 0), (19, V.ex 5 false (List.map encS g)), (25, V.int IntKind.i64 (IntKind.i64.wrap (i + 1))), (141, V.ref (RK.arr 2) 2), (142, V.int IntKind.i64 2), (143, V.int IntKind.i64 1)], heap := [B.cells [V.int IntKind.u64 key, V.int IntKind.u64 la, V.bool true, c0], B.cells [V.int IntKind.u64 key, V.int IntKind.u64 la0, V.bool true, V.ex 5 false (List.map encS g)], B.cells [V.ptr 0 0, V.sl m y, V.ptr 1 0, V.sl false (List.map encS g)], B.cells [V.ptr 1 0, V.sl false (List.map encS g)]] }) (by kernel_rfl) ?_ ?_
      · refine ⟨by simp; omega, eqB_eq (by rw [decS_enc]), by simp; omega, decide_eq_false (by rw [List.length_map]; exact hi), eqB_eq rfl, trivial⟩
      · rw [hw]; exact ih
theorem in_d (key la la0 : Int) (m : Bool) (y : List V) (c0 : V) : ∀ (d : Nat) (i : Int), -1 ≤ i → i + d = 0 + 1 → LRuns (vstep T (vlim T F) lplim fi28.cx 4 (lb fi28 2)) (i2 1 1 i (.ex 5 true []) (chB' key la c0) (chB' key la0 (.ex 5 true [])) (.sl m y) (.sl true []) (.sl true [])) (.exit 4, ⟨(i2 1 1 (0 + 1) (.ex 5 true []) (chB' key la c0) (chB' key la0 (.ex 5 true [])) (.sl m y) (.sl true []) (.sl true [])).env ++ [(186, .bool false)], (i2 1 1 (0 + 1) (.ex 5 true []) (chB' key la c0) (chB' key la0 (.ex 5 true [])) (.sl m y) (.sl true []) (.sl true [])).heap⟩)
  | 0, i, h0, hd => by
    have hi : i = 0 + 1 := by omega
    subst hi
    refine rcast (LRuns.last (F := F) X73_ok (sh := Sh) (L := fun _ _ => .fail) (LGood.none (by kernel_rfl)) [] [1] (r := (Ex.exit 4, { env := [(18, V.ptr 3 0), (19, V.ex 5 true []), (25, V.int IntKind.i64 1), (141, V.ref (RK.arr 2) 2), (142, V.int IntKind.i64 2), (143, V.int IntKind.i64 1), (186, V.bool false)], heap := [B.cells [V.int IntKind.u64 key, V.int IntKind.u64 la, V.bool true, c0], B.cells [V.int IntKind.u64 key, V.int IntKind.u64 la0, V.bool true, V.ex 5 true []], B.cells [V.ptr 0 0, V.sl m y, V.ptr 1 0, V.sl true []], B.cells [V.ptr 1 0, V.sl true []]] })) (by kernel_rfl) (by simp) ?_) ?_
    · exact trivial
    · rfl
  | d + 1, i, h0, hd => by
    have ih := in_d key la la0 m y c0 d (i + 1) (by omega) (by omega)
    have hw : IntKind.i64.wrap (i + 1) = i + 1 := i64in (by omega) (by omega)
    refine LRuns.next (F := F) X73_ok (sh := Sh) (L := fun _ _ => .fail) (LGood.none (by kernel_rfl)) [(decide (i ≤ 0), true),
    (decide (0 ≤ i ∧ i < 0), false),
    (eqB ([] : List V) [], true)] [2, 3, 4, 0, 3, 4, 4, 0, 1, 1, 1, 1, 1] (τ' := { env := [(18, V.ptr 3 0), (19, V.ex 5 true []), (25, V.int IntKind.i64 (IntKind.i64.wrap (i + 1))), (141, V.ref (RK.arr 2) 2), (142, V.int IntKind.i64 2), (143, V.int IntKind.i64 1)], heap := [B.cells [V.int IntKind.u64 key, V.int IntKind.u64 la, V.bool true, c0], B.cells [V.int IntKind.u64 key, V.int IntKind.u64 la0, V.bool true, V.ex 5 true []], B.cells [V.ptr 0 0, V.sl m y, V.ptr 1 0, V.sl true []], B.cells [V.ptr 1 0, V.sl true []]] }) (by kernel_rfl) ?_ ?_
    · exact ⟨by simp; omega, by simp <;> omega, eqB_eq rfl, trivial⟩
    · rw [hw]; exact ih
theorem set_map (h : List Stp) (i : Nat) (hi : i < h.length) (x : Int) : (h.map encS).set i (mkOf ((h.map encS).getD i V.undef) (setCells ((h.map encS).getD i V.undef).cells 4 [V.int IntKind.u64 x])) = (h.set i { h[i] with sgn := x }).map encS := by
  rw [getD_map _ _ _ hi, List.map_set]
  rfl
theorem in_m (p : Nat) (j : Int) (b0 b1 : B) (r0 r1 rx : V) : ∀ (d i : Nat) (h : List Stp), h.length ≤ 1000 → i + d = h.length → ∃ h' : List Stp,
    LRuns (vstep T (vlim T F) lplim fi28.cx 4 (lb fi28 3)) (m2 p j h.length i (.ex 5 false (h.map encS)) b0 b1 r0 r1 rx) (.exit 6, ⟨(m2 p j h.length h.length (.ex 5 false (h'.map encS)) b0 b1 r0 r1 rx).env ++ [(215, .bool false)], (m2 p j h.length h.length (.ex 5 false (h'.map encS)) b0 b1 r0 r1 rx).heap⟩)
  | 0, i, h, hl, hd => by
    have hi : i = h.length := by omega
    subst hi
    refine ⟨h, ?_⟩
    have := LRuns.last (F := F) X73_ok (sh := Sh) (L := fun _ _ => .fail) (n := 4) (b := lb fi28 3) (cx := fi28.cx) (τ := m2 p j h.length h.length (.ex 5 false (h.map encS)) b0 b1 r0 r1 rx) (LGood.none (by kernel_rfl)) [(decide ((h.length : Int) < (h.length : Int)), false)] [2]
      (r := (.exit 6, ⟨(m2 p j h.length h.length (.ex 5 false (h.map encS)) b0 b1 r0 r1 rx).env ++ [(215, .bool (decide ((h.length : Int) < (h.length : Int))))], (m2 p j h.length h.length (.ex 5 false (h.map encS)) b0 b1 r0 r1 rx).heap⟩)) (by kernel_rfl) (by simp) ⟨by simp, trivial⟩
    simpa using this
  | d + 1, i, h, hl, hd => by
    have hi : i < h.length := by omega
    obtain ⟨h', ih⟩ := in_m p j b0 b1 r0 r1 rx d (i + 1) (h.set i { h[i] with sgn := IntKind.u64.wrap (Fd.sn h i + 1) }) (by simpa using hl) (by simp; omega)
    rw [List.length_set] at ih
    refine ⟨h', ?_⟩
    refine LRuns.next (F := F) X73_ok (sh := Sh) (L := fun _ _ => .fail) (LGood.none (by kernel_rfl)) [(decide ((↑i : Int) < (↑h.length : Int)), true),
    (decide ((↑i : Int) < (↑(List.map encS h).length : Int)), true),
    (decide (i < (List.map encS h).length), true),
    (fitP [TK.int IntKind.u64] 4 ((List.map encS h).getD i V.undef), true),
    (decide (5 ≤ ((List.map encS h).getD i V.undef).cells.length), true)] [2, 0, 3, 4, 5, 0, 3, 4, 6] (τ' := { env := [(18, V.ptr 3 0), (19, V.ex 5 false ((List.map encS h).set i (mkOf ((List.map encS h).getD i V.undef) (setCells ((List.map encS h).getD i V.undef).cells 4 [V.int IntKind.u64 (IntKind.u64.wrap (Fd.sn h i + 1))])))), (141, V.ref (RK.arr 2) 2), (142, V.int IntKind.i64 2), (143, V.int IntKind.i64 j), (213, V.int IntKind.i64 (↑h.length : Int)), (214, V.int IntKind.i64 (IntKind.i64.wrap ((↑i : Int) + 1)))], heap := [b0, b1, B.cells [V.ptr 0 0, r0, V.ptr 1 0, r1], B.cells [V.ptr p 0, rx]] }) (by kernel_rfl) ?_ ?_
    · refine ⟨?_, ?_, ?_, ?_, ?_, trivial⟩
      all_goals first
        | (simp; omega)
        | (simp [encS, fitP, fld, leafFits, V.cells, hi]; done)
    · rw [set_map h i hi, len_wrap (by omega)]; exact ih
theorem in_n (p : Nat) (j : Int) (b0 b1 : B) (r0 r1 rx : V) : LRuns (vstep T (vlim T F) lplim fi28.cx 4 (lb fi28 3)) (m2 p j 0 0 (.ex 5 true []) b0 b1 r0 r1 rx) (.exit 6, ⟨(m2 p j 0 0 (.ex 5 true []) b0 b1 r0 r1 rx).env ++ [(215, .bool false)], (m2 p j 0 0 (.ex 5 true []) b0 b1 r0 r1 rx).heap⟩) :=
  LRuns.last (F := F) X73_ok (sh := Sh) (L := fun _ _ => .fail) (LGood.none (by kernel_rfl)) [] [1] (by kernel_rfl) (by simp) trivial
end Go.Proofs.Ytgmdkjiflhklaaa
