/- C8: what is asked of the chains in the end. -/
import Derived.Test.YtgmdkjiflhklaaaC7
namespace Go.Proofs.Ytgmdkjiflhklaaa
open Go Go.Vm
theorem rr_eq {g : List Stp} (hg : g.length ≤ 1000) : (P.root (g.map (fun s => s.sgn)) != P.rr g) = false := by
  unfold P.rr
  rw [if_neg (by omega)]
  simp [sgns]
theorem out_a (key la la0 : Int) (m : Bool) (y : List V) (c0 : V) (r : Ex × St) (hr : LRuns (vstep T (vlim T F) lplim fi28.cx 3 (lb fi28 1)) (l2 1 (chB' key la (.sl true [])) (chB' key la0 c0) (.sl true []) (.sl m y)) r) : LRuns (vstep T (vlim T F) lplim fi28.cx 3 (lb fi28 1)) (l2 0 (chB' key la (.sl true [])) (chB' key la0 c0) (.sl true []) (.sl m y)) r := by
  have h1 := in_a key la la0 m y c0 2 (-1) (by omega) (by omega)
  have h2 := in_n 0 0 (chB' key la (.sl true [])) (chB' key la0 c0) (.sl true []) (.sl m y) (.sl true [])
  have e0 : loopsOf (lb fi28 1) = [lb fi28 2, lb fi28 3] := by kernel_rfl
  have f0 : firstRegion (lb fi28 2) = 26 := by kernel_rfl
  have f1 : firstRegion (lb fi28 3) = 33 := by kernel_rfl
  have hL : LGood T (vlim T F) lplim fi28.cx (loopsIs [(26, i2 0 0 (-1) (.ex 5 true []) (chB' key la (.sl true [])) (chB' key la0 c0) (.sl true []) (.sl m y) (.sl true []), (.exit 4, ⟨(i2 0 0 (0 + 1) (.ex 5 true []) (chB' key la (.sl true [])) (chB' key la0 c0) (.sl true []) (.sl m y) (.sl true [])).env ++ [(186, .bool false)], (i2 0 0 (0 + 1) (.ex 5 true []) (chB' key la (.sl true [])) (chB' key la0 c0) (.sl true []) (.sl m y) (.sl true [])).heap⟩)), (33, (m2 0 0 0 0 (.ex 5 true []) (chB' key la (.sl true [])) (chB' key la0 c0) (.sl true []) (.sl m y) (.sl true [])), (.exit 6, ⟨(m2 0 0 0 0 (.ex 5 true []) (chB' key la (.sl true [])) (chB' key la0 c0) (.sl true []) (.sl m y) (.sl true [])).env ++ [(215, .bool false)], (m2 0 0 0 0 (.ex 5 true []) (chB' key la (.sl true [])) (chB' key la0 c0) (.sl true []) (.sl m y) (.sl true [])).heap⟩))]) (lb fi28 1) := by
    refine LGood.is fun c hc x hx hf => ?_
    rw [e0] at hc
    simp only [List.mem_cons, List.not_mem_nil, or_false] at hc hx
    rcases hx with rfl | rfl <;> rcases hc with rfl | rfl
    · exact h1
    · simp only at hf; omega
    · simp only at hf; omega
    · exact h2
  refine LRuns.next (F := F) X73_ok (sh := Sh) (L := (loopsIs [(26, i2 0 0 (-1) (.ex 5 true []) (chB' key la (.sl true [])) (chB' key la0 c0) (.sl true []) (.sl m y) (.sl true []), (.exit 4, ⟨(i2 0 0 (0 + 1) (.ex 5 true []) (chB' key la (.sl true [])) (chB' key la0 c0) (.sl true []) (.sl m y) (.sl true [])).env ++ [(186, .bool false)], (i2 0 0 (0 + 1) (.ex 5 true []) (chB' key la (.sl true [])) (chB' key la0 c0) (.sl true []) (.sl m y) (.sl true [])).heap⟩)), (33, (m2 0 0 0 0 (.ex 5 true []) (chB' key la (.sl true [])) (chB' key la0 c0) (.sl true []) (.sl m y) (.sl true [])), (.exit 6, ⟨(m2 0 0 0 0 (.ex 5 true []) (chB' key la (.sl true [])) (chB' key la0 c0) (.sl true []) (.sl m y) (.sl true [])).env ++ [(215, .bool false)], (m2 0 0 0 0 (.ex 5 true []) (chB' key la (.sl true [])) (chB' key la0 c0) (.sl true []) (.sl m y) (.sl true [])).heap⟩))])) hL [(eqB ([] : List V) [], true),
    (is { env := [(18, V.ptr 3 0), (19, V.ex 5 true []), (25, V.int IntKind.i64 (-1)), (141, V.ref (RK.arr 2) 2), (142, V.int IntKind.i64 2), (143, V.int IntKind.i64 0)], heap := [B.cells [V.int IntKind.u64 key, V.int IntKind.u64 la, V.bool true, V.sl true []], B.cells [V.int IntKind.u64 key, V.int IntKind.u64 la0, V.bool true, c0], B.cells [V.ptr 0 0, V.sl true [], V.ptr 1 0, V.sl m y], B.cells [V.ptr 0 0, V.sl true []]] } { env := [(18, V.ptr 3 0), (19, V.ex 5 true []), (25, V.int IntKind.i64 (-1)), (141, V.ref (RK.arr 2) 2), (142, V.int IntKind.i64 2), (143, V.int IntKind.i64 0)], heap := [B.cells [V.int IntKind.u64 key, V.int IntKind.u64 la, V.bool true, V.sl true []], B.cells [V.int IntKind.u64 key, V.int IntKind.u64 la0, V.bool true, c0], B.cells [V.ptr 0 0, V.sl true [], V.ptr 1 0, V.sl m y], B.cells [V.ptr 0 0, V.sl true []]] }, true),
    (is { env := [(18, V.ptr 3 0), (19, V.ex 5 true []), (141, V.ref (RK.arr 2) 2), (142, V.int IntKind.i64 2), (143, V.int IntKind.i64 0), (213, V.int IntKind.i64 0), (214, V.int IntKind.i64 0)], heap := [B.cells [V.int IntKind.u64 key, V.int IntKind.u64 la, V.bool true, V.sl true []], B.cells [V.int IntKind.u64 key, V.int IntKind.u64 la0, V.bool true, c0], B.cells [V.ptr 0 0, V.sl true [], V.ptr 1 0, V.sl m y], B.cells [V.ptr 0 0, V.sl true []]] } { env := [(18, V.ptr 3 0), (19, V.ex 5 true []), (141, V.ref (RK.arr 2) 2), (142, V.int IntKind.i64 2), (143, V.int IntKind.i64 0), (213, V.int IntKind.i64 0), (214, V.int IntKind.i64 0)], heap := [B.cells [V.int IntKind.u64 key, V.int IntKind.u64 la, V.bool true, V.sl true []], B.cells [V.int IntKind.u64 key, V.int IntKind.u64 la0, V.bool true, c0], B.cells [V.ptr 0 0, V.sl true [], V.ptr 1 0, V.sl m y], B.cells [V.ptr 0 0, V.sl true []]] }, true)] [0, 0, 0, 1, 1, 1, 1, 1, 1, 1, 1, 2, 0, 0, 1, 1, 1, 1, 1, 1, 1, 1, 2, 0, 2, 1, 1, 1, 1, 1, 1, 1, 2, 2, 0, 0, 1, 1, 1, 1, 1, 1, 1, 3, 4, 1, 1, 1, 1, 1, 1, 1, 1, 2, 0, 0, 2, 2, 0, 1] (τ' := { env := [(141, V.ref (RK.arr 2) 2), (142, V.int IntKind.i64 2), (143, V.int IntKind.i64 1)], heap := [B.cells [V.int IntKind.u64 key, V.int IntKind.u64 la, V.bool true, V.sl true []], B.cells [V.int IntKind.u64 key, V.int IntKind.u64 la0, V.bool true, c0], B.cells [V.ptr 0 0, V.sl true [], V.ptr 1 0, V.sl m y]] }) (by kernel_rfl) ?_ ?_
  · refine ⟨?_, ?_, ?_, trivial⟩
    all_goals first
      | exact eqB_eq rfl
      | exact eqB_eq (by rw [decS_enc])
      | exact is_self _
      | exact is_eq rfl
      | exact is_eq (by simp [i2, m2])
      | exact apart_s _ _
      | (rw [decS_enc]; exact rr_eq hg)
      | (simp; omega)
  · exact hr
theorem out_b (key la la0 : Int) (m : Bool) (y : List V) (c0 : V) (g : List Stp) (hg : g.length ≤ 1000) (hg0 : 0 < g.length) (r : Ex × St) (hr : LRuns (vstep T (vlim T F) lplim fi28.cx 3 (lb fi28 1)) (l2 1 (chB' key la (.ex 5 false (g.map encS))) (chB' key la0 c0) (.sl false (g.map encS)) (.sl m y)) r) : LRuns (vstep T (vlim T F) lplim fi28.cx 3 (lb fi28 1)) (l2 0 (chB' key la (.ex 5 false (g.map encS))) (chB' key la0 c0) (.sl false (g.map encS)) (.sl m y)) r := by
  have h1 := in_b key la la0 m y c0 g hg (g.length + 2) (-1) (by omega) (by omega)
  obtain ⟨h, h2⟩ := in_m 0 0 (chB' key la (.ex 5 false (g.map encS))) (chB' key la0 c0) (.sl false (g.map encS)) (.sl m y) (.sl false (g.map encS)) g.length 0 g hg (by omega)
  have e0 : loopsOf (lb fi28 1) = [lb fi28 2, lb fi28 3] := by kernel_rfl
  have f0 : firstRegion (lb fi28 2) = 26 := by kernel_rfl
  have f1 : firstRegion (lb fi28 3) = 33 := by kernel_rfl
  have hL : LGood T (vlim T F) lplim fi28.cx (loopsIs [(26, i2 0 0 (-1) (.ex 5 false (g.map encS)) (chB' key la (.ex 5 false (g.map encS))) (chB' key la0 c0) (.sl false (g.map encS)) (.sl m y) (.sl false (g.map encS)), (.exit 4, ⟨(i2 0 0 ((g.length : Int) + 1) (.ex 5 false (g.map encS)) (chB' key la (.ex 5 false (g.map encS))) (chB' key la0 c0) (.sl false (g.map encS)) (.sl m y) (.sl false (g.map encS))).env ++ [(186, .bool false)], (i2 0 0 ((g.length : Int) + 1) (.ex 5 false (g.map encS)) (chB' key la (.ex 5 false (g.map encS))) (chB' key la0 c0) (.sl false (g.map encS)) (.sl m y) (.sl false (g.map encS))).heap⟩)), (33, (m2 0 0 (g.length : Int) 0 (.ex 5 false (g.map encS)) (chB' key la (.ex 5 false (g.map encS))) (chB' key la0 c0) (.sl false (g.map encS)) (.sl m y) (.sl false (g.map encS))), (.exit 6, ⟨(m2 0 0 (g.length : Int) (g.length : Int) (.ex 5 false (h.map encS)) (chB' key la (.ex 5 false (g.map encS))) (chB' key la0 c0) (.sl false (g.map encS)) (.sl m y) (.sl false (g.map encS))).env ++ [(215, .bool false)], (m2 0 0 (g.length : Int) (g.length : Int) (.ex 5 false (h.map encS)) (chB' key la (.ex 5 false (g.map encS))) (chB' key la0 c0) (.sl false (g.map encS)) (.sl m y) (.sl false (g.map encS))).heap⟩))]) (lb fi28 1) := by
    refine LGood.is fun c hc x hx hf => ?_
    rw [e0] at hc
    simp only [List.mem_cons, List.not_mem_nil, or_false] at hc hx
    rcases hx with rfl | rfl <;> rcases hc with rfl | rfl
    · exact h1
    · simp only at hf; omega
    · simp only at hf; omega
    · exact h2
  refine LRuns.next (F := F) X73_ok (sh := Sh) (L := (loopsIs [(26, i2 0 0 (-1) (.ex 5 false (g.map encS)) (chB' key la (.ex 5 false (g.map encS))) (chB' key la0 c0) (.sl false (g.map encS)) (.sl m y) (.sl false (g.map encS)), (.exit 4, ⟨(i2 0 0 ((g.length : Int) + 1) (.ex 5 false (g.map encS)) (chB' key la (.ex 5 false (g.map encS))) (chB' key la0 c0) (.sl false (g.map encS)) (.sl m y) (.sl false (g.map encS))).env ++ [(186, .bool false)], (i2 0 0 ((g.length : Int) + 1) (.ex 5 false (g.map encS)) (chB' key la (.ex 5 false (g.map encS))) (chB' key la0 c0) (.sl false (g.map encS)) (.sl m y) (.sl false (g.map encS))).heap⟩)), (33, (m2 0 0 (g.length : Int) 0 (.ex 5 false (g.map encS)) (chB' key la (.ex 5 false (g.map encS))) (chB' key la0 c0) (.sl false (g.map encS)) (.sl m y) (.sl false (g.map encS))), (.exit 6, ⟨(m2 0 0 (g.length : Int) (g.length : Int) (.ex 5 false (h.map encS)) (chB' key la (.ex 5 false (g.map encS))) (chB' key la0 c0) (.sl false (g.map encS)) (.sl m y) (.sl false (g.map encS))).env ++ [(215, .bool false)], (m2 0 0 (g.length : Int) (g.length : Int) (.ex 5 false (h.map encS)) (chB' key la (.ex 5 false (g.map encS))) (chB' key la0 c0) (.sl false (g.map encS)) (.sl m y) (.sl false (g.map encS))).heap⟩))])) hL [(eqB (List.map encS g) (List.map encS (List.map decS (List.map encS g))), true),
    (decide ((List.map encS g).length ≤ 1000), true),
    (apart (V.ex 5 false (List.map encS g)), true),
    (eqB (List.map encS g) (List.map encS g), true),
    (decide ((List.map encS g).length ≤ 2000), true),
    (P.root (List.map (fun s => s.5) (List.map decS (List.map encS g))) != P.rr (List.map decS (List.map encS g)), false),
    (is { env := [(18, V.ptr 3 0), (19, V.ex 5 false (List.map encS g)), (25, V.int IntKind.i64 (-1)), (141, V.ref (RK.arr 2) 2), (142, V.int IntKind.i64 2), (143, V.int IntKind.i64 0)], heap := [B.cells [V.int IntKind.u64 key, V.int IntKind.u64 la, V.bool true, V.ex 5 false (List.map encS g)], B.cells [V.int IntKind.u64 key, V.int IntKind.u64 la0, V.bool true, c0], B.cells [V.ptr 0 0, V.sl false (List.map encS g), V.ptr 1 0, V.sl m y], B.cells [V.ptr 0 0, V.sl false (List.map encS g)]] } { env := [(18, V.ptr 3 0), (19, V.ex 5 false (List.map encS g)), (25, V.int IntKind.i64 (-1)), (141, V.ref (RK.arr 2) 2), (142, V.int IntKind.i64 2), (143, V.int IntKind.i64 0)], heap := [B.cells [V.int IntKind.u64 key, V.int IntKind.u64 la, V.bool true, V.ex 5 false (List.map encS g)], B.cells [V.int IntKind.u64 key, V.int IntKind.u64 la0, V.bool true, c0], B.cells [V.ptr 0 0, V.sl false (List.map encS g), V.ptr 1 0, V.sl m y], B.cells [V.ptr 0 0, V.sl false (List.map encS g)]] }, true),
    (is { env := [(18, V.ptr 3 0), (19, V.ex 5 false (List.map encS g)), (141, V.ref (RK.arr 2) 2), (142, V.int IntKind.i64 2), (143, V.int IntKind.i64 0), (213, V.int IntKind.i64 (↑(List.map encS g).length : Int)), (214, V.int IntKind.i64 0)], heap := [B.cells [V.int IntKind.u64 key, V.int IntKind.u64 la, V.bool true, V.ex 5 false (List.map encS g)], B.cells [V.int IntKind.u64 key, V.int IntKind.u64 la0, V.bool true, c0], B.cells [V.ptr 0 0, V.sl false (List.map encS g), V.ptr 1 0, V.sl m y], B.cells [V.ptr 0 0, V.sl false (List.map encS g)]] } { env := [(18, V.ptr 3 0), (19, V.ex 5 false (List.map encS g)), (141, V.ref (RK.arr 2) 2), (142, V.int IntKind.i64 2), (143, V.int IntKind.i64 0), (213, V.int IntKind.i64 (↑g.length : Int)), (214, V.int IntKind.i64 0)], heap := [B.cells [V.int IntKind.u64 key, V.int IntKind.u64 la, V.bool true, V.ex 5 false (List.map encS g)], B.cells [V.int IntKind.u64 key, V.int IntKind.u64 la0, V.bool true, c0], B.cells [V.ptr 0 0, V.sl false (List.map encS g), V.ptr 1 0, V.sl m y], B.cells [V.ptr 0 0, V.sl false (List.map encS g)]] }, true)] [0, 0, 0, 1, 1, 1, 1, 1, 1, 1, 1, 2, 0, 3, 4, 1, 1, 1, 1, 1, 1, 1, 1, 2, 3, 0, 2, 1, 1, 1, 1, 1, 1, 1, 5, 2, 6, 0, 1, 1, 1, 1, 1, 1, 7, 8, 9, 1, 1, 1, 1, 1, 1, 1, 1, 2, 0, 3, 4, 5, 2, 6, 1] (τ' := { env := [(141, V.ref (RK.arr 2) 2), (142, V.int IntKind.i64 2), (143, V.int IntKind.i64 1)], heap := [B.cells [V.int IntKind.u64 key, V.int IntKind.u64 la, V.bool true, V.ex 5 false (List.map encS g)], B.cells [V.int IntKind.u64 key, V.int IntKind.u64 la0, V.bool true, c0], B.cells [V.ptr 0 0, V.sl false (List.map encS g), V.ptr 1 0, V.sl m y]] }) (by kernel_rfl) ?_ ?_
  · refine ⟨?_, ?_, ?_, ?_, ?_, ?_, ?_, ?_, trivial⟩
    all_goals first
      | exact eqB_eq rfl
      | exact eqB_eq (by rw [decS_enc])
      | exact is_self _
      | exact is_eq rfl
      | exact is_eq (by simp [i2, m2])
      | exact apart_s _ _
      | (rw [decS_enc]; exact rr_eq hg)
      | (simp; omega)
  · exact hr
theorem out_c (key la la0 : Int) (m : Bool) (y : List V) (c0 : V) (g : List Stp) (hg : g.length ≤ 1000) (hg0 : 0 < g.length) (r : Ex × St) (hr : LRuns (vstep T (vlim T F) lplim fi28.cx 3 (lb fi28 1)) (l2 2 (chB' key la c0) (chB' key la0 (.ex 5 false (g.map encS))) (.sl m y) (.sl false (g.map encS))) r) : LRuns (vstep T (vlim T F) lplim fi28.cx 3 (lb fi28 1)) (l2 1 (chB' key la c0) (chB' key la0 (.ex 5 false (g.map encS))) (.sl m y) (.sl false (g.map encS))) r := by
  have h1 := in_c key la la0 m y c0 g hg (g.length + 2) (-1) (by omega) (by omega)
  obtain ⟨h, h2⟩ := in_m 1 1 (chB' key la c0) (chB' key la0 (.ex 5 false (g.map encS))) (.sl m y) (.sl false (g.map encS)) (.sl false (g.map encS)) g.length 0 g hg (by omega)
  have e0 : loopsOf (lb fi28 1) = [lb fi28 2, lb fi28 3] := by kernel_rfl
  have f0 : firstRegion (lb fi28 2) = 26 := by kernel_rfl
  have f1 : firstRegion (lb fi28 3) = 33 := by kernel_rfl
  have hL : LGood T (vlim T F) lplim fi28.cx (loopsIs [(26, i2 1 1 (-1) (.ex 5 false (g.map encS)) (chB' key la c0) (chB' key la0 (.ex 5 false (g.map encS))) (.sl m y) (.sl false (g.map encS)) (.sl false (g.map encS)), (.exit 4, ⟨(i2 1 1 ((g.length : Int) + 1) (.ex 5 false (g.map encS)) (chB' key la c0) (chB' key la0 (.ex 5 false (g.map encS))) (.sl m y) (.sl false (g.map encS)) (.sl false (g.map encS))).env ++ [(186, .bool false)], (i2 1 1 ((g.length : Int) + 1) (.ex 5 false (g.map encS)) (chB' key la c0) (chB' key la0 (.ex 5 false (g.map encS))) (.sl m y) (.sl false (g.map encS)) (.sl false (g.map encS))).heap⟩)), (33, (m2 1 1 (g.length : Int) 0 (.ex 5 false (g.map encS)) (chB' key la c0) (chB' key la0 (.ex 5 false (g.map encS))) (.sl m y) (.sl false (g.map encS)) (.sl false (g.map encS))), (.exit 6, ⟨(m2 1 1 (g.length : Int) (g.length : Int) (.ex 5 false (h.map encS)) (chB' key la c0) (chB' key la0 (.ex 5 false (g.map encS))) (.sl m y) (.sl false (g.map encS)) (.sl false (g.map encS))).env ++ [(215, .bool false)], (m2 1 1 (g.length : Int) (g.length : Int) (.ex 5 false (h.map encS)) (chB' key la c0) (chB' key la0 (.ex 5 false (g.map encS))) (.sl m y) (.sl false (g.map encS)) (.sl false (g.map encS))).heap⟩))]) (lb fi28 1) := by
    refine LGood.is fun c hc x hx hf => ?_
    rw [e0] at hc
    simp only [List.mem_cons, List.not_mem_nil, or_false] at hc hx
    rcases hx with rfl | rfl <;> rcases hc with rfl | rfl
    · exact h1
    · simp only at hf; omega
    · simp only at hf; omega
    · exact h2
  refine LRuns.next (F := F) X73_ok (sh := Sh) (L := (loopsIs [(26, i2 1 1 (-1) (.ex 5 false (g.map encS)) (chB' key la c0) (chB' key la0 (.ex 5 false (g.map encS))) (.sl m y) (.sl false (g.map encS)) (.sl false (g.map encS)), (.exit 4, ⟨(i2 1 1 ((g.length : Int) + 1) (.ex 5 false (g.map encS)) (chB' key la c0) (chB' key la0 (.ex 5 false (g.map encS))) (.sl m y) (.sl false (g.map encS)) (.sl false (g.map encS))).env ++ [(186, .bool false)], (i2 1 1 ((g.length : Int) + 1) (.ex 5 false (g.map encS)) (chB' key la c0) (chB' key la0 (.ex 5 false (g.map encS))) (.sl m y) (.sl false (g.map encS)) (.sl false (g.map encS))).heap⟩)), (33, (m2 1 1 (g.length : Int) 0 (.ex 5 false (g.map encS)) (chB' key la c0) (chB' key la0 (.ex 5 false (g.map encS))) (.sl m y) (.sl false (g.map encS)) (.sl false (g.map encS))), (.exit 6, ⟨(m2 1 1 (g.length : Int) (g.length : Int) (.ex 5 false (h.map encS)) (chB' key la c0) (chB' key la0 (.ex 5 false (g.map encS))) (.sl m y) (.sl false (g.map encS)) (.sl false (g.map encS))).env ++ [(215, .bool false)], (m2 1 1 (g.length : Int) (g.length : Int) (.ex 5 false (h.map encS)) (chB' key la c0) (chB' key la0 (.ex 5 false (g.map encS))) (.sl m y) (.sl false (g.map encS)) (.sl false (g.map encS))).heap⟩))])) hL [(eqB (List.map encS g) (List.map encS (List.map decS (List.map encS g))), true),
    (decide ((List.map encS g).length ≤ 1000), true),
    (apart (V.ex 5 false (List.map encS g)), true),
    (eqB (List.map encS g) (List.map encS g), true),
    (decide ((List.map encS g).length ≤ 2000), true),
    (P.root (List.map (fun s => s.5) (List.map decS (List.map encS g))) != P.rr (List.map decS (List.map encS g)), false),
    (is { env := [(18, V.ptr 3 0), (19, V.ex 5 false (List.map encS g)), (25, V.int IntKind.i64 (-1)), (141, V.ref (RK.arr 2) 2), (142, V.int IntKind.i64 2), (143, V.int IntKind.i64 1)], heap := [B.cells [V.int IntKind.u64 key, V.int IntKind.u64 la, V.bool true, c0], B.cells [V.int IntKind.u64 key, V.int IntKind.u64 la0, V.bool true, V.ex 5 false (List.map encS g)], B.cells [V.ptr 0 0, V.sl m y, V.ptr 1 0, V.sl false (List.map encS g)], B.cells [V.ptr 1 0, V.sl false (List.map encS g)]] } { env := [(18, V.ptr 3 0), (19, V.ex 5 false (List.map encS g)), (25, V.int IntKind.i64 (-1)), (141, V.ref (RK.arr 2) 2), (142, V.int IntKind.i64 2), (143, V.int IntKind.i64 1)], heap := [B.cells [V.int IntKind.u64 key, V.int IntKind.u64 la, V.bool true, c0], B.cells [V.int IntKind.u64 key, V.int IntKind.u64 la0, V.bool true, V.ex 5 false (List.map encS g)], B.cells [V.ptr 0 0, V.sl m y, V.ptr 1 0, V.sl false (List.map encS g)], B.cells [V.ptr 1 0, V.sl false (List.map encS g)]] }, true),
    (is { env := [(18, V.ptr 3 0), (19, V.ex 5 false (List.map encS g)), (141, V.ref (RK.arr 2) 2), (142, V.int IntKind.i64 2), (143, V.int IntKind.i64 1), (213, V.int IntKind.i64 (↑(List.map encS g).length : Int)), (214, V.int IntKind.i64 0)], heap := [B.cells [V.int IntKind.u64 key, V.int IntKind.u64 la, V.bool true, c0], B.cells [V.int IntKind.u64 key, V.int IntKind.u64 la0, V.bool true, V.ex 5 false (List.map encS g)], B.cells [V.ptr 0 0, V.sl m y, V.ptr 1 0, V.sl false (List.map encS g)], B.cells [V.ptr 1 0, V.sl false (List.map encS g)]] } { env := [(18, V.ptr 3 0), (19, V.ex 5 false (List.map encS g)), (141, V.ref (RK.arr 2) 2), (142, V.int IntKind.i64 2), (143, V.int IntKind.i64 1), (213, V.int IntKind.i64 (↑g.length : Int)), (214, V.int IntKind.i64 0)], heap := [B.cells [V.int IntKind.u64 key, V.int IntKind.u64 la, V.bool true, c0], B.cells [V.int IntKind.u64 key, V.int IntKind.u64 la0, V.bool true, V.ex 5 false (List.map encS g)], B.cells [V.ptr 0 0, V.sl m y, V.ptr 1 0, V.sl false (List.map encS g)], B.cells [V.ptr 1 0, V.sl false (List.map encS g)]] }, true)] [0, 0, 0, 1, 1, 1, 1, 1, 1, 1, 1, 2, 0, 3, 4, 1, 1, 1, 1, 1, 1, 1, 1, 2, 3, 0, 2, 1, 1, 1, 1, 1, 1, 1, 5, 2, 6, 0, 1, 1, 1, 1, 1, 1, 7, 8, 9, 1, 1, 1, 1, 1, 1, 1, 1, 2, 0, 3, 4, 5, 2, 6, 1] (τ' := { env := [(141, V.ref (RK.arr 2) 2), (142, V.int IntKind.i64 2), (143, V.int IntKind.i64 2)], heap := [B.cells [V.int IntKind.u64 key, V.int IntKind.u64 la, V.bool true, c0], B.cells [V.int IntKind.u64 key, V.int IntKind.u64 la0, V.bool true, V.ex 5 false (List.map encS g)], B.cells [V.ptr 0 0, V.sl m y, V.ptr 1 0, V.sl false (List.map encS g)]] }) (by kernel_rfl) ?_ ?_
  · refine ⟨?_, ?_, ?_, ?_, ?_, ?_, ?_, ?_, trivial⟩
    all_goals first
      | exact eqB_eq rfl
      | exact eqB_eq (by rw [decS_enc])
      | exact is_self _
      | exact is_eq rfl
      | exact is_eq (by simp [i2, m2])
      | exact apart_s _ _
      | (rw [decS_enc]; exact rr_eq hg)
      | (simp; omega)
  · exact hr
theorem out_d (key la la0 : Int) (m : Bool) (y : List V) (c0 : V) (r : Ex × St) (hr : LRuns (vstep T (vlim T F) lplim fi28.cx 3 (lb fi28 1)) (l2 2 (chB' key la c0) (chB' key la0 (.ex 5 true [])) (.sl m y) (.sl true [])) r) : LRuns (vstep T (vlim T F) lplim fi28.cx 3 (lb fi28 1)) (l2 1 (chB' key la c0) (chB' key la0 (.ex 5 true [])) (.sl m y) (.sl true [])) r := by
  have h1 := in_d key la la0 m y c0 2 (-1) (by omega) (by omega)
  have h2 := in_n 1 1 (chB' key la c0) (chB' key la0 (.ex 5 true [])) (.sl m y) (.sl true []) (.sl true [])
  have e0 : loopsOf (lb fi28 1) = [lb fi28 2, lb fi28 3] := by kernel_rfl
  have f0 : firstRegion (lb fi28 2) = 26 := by kernel_rfl
  have f1 : firstRegion (lb fi28 3) = 33 := by kernel_rfl
  have hL : LGood T (vlim T F) lplim fi28.cx (loopsIs [(26, i2 1 1 (-1) (.ex 5 true []) (chB' key la c0) (chB' key la0 (.ex 5 true [])) (.sl m y) (.sl true []) (.sl true []), (.exit 4, ⟨(i2 1 1 (0 + 1) (.ex 5 true []) (chB' key la c0) (chB' key la0 (.ex 5 true [])) (.sl m y) (.sl true []) (.sl true [])).env ++ [(186, .bool false)], (i2 1 1 (0 + 1) (.ex 5 true []) (chB' key la c0) (chB' key la0 (.ex 5 true [])) (.sl m y) (.sl true []) (.sl true [])).heap⟩)), (33, (m2 1 1 0 0 (.ex 5 true []) (chB' key la c0) (chB' key la0 (.ex 5 true [])) (.sl m y) (.sl true []) (.sl true [])), (.exit 6, ⟨(m2 1 1 0 0 (.ex 5 true []) (chB' key la c0) (chB' key la0 (.ex 5 true [])) (.sl m y) (.sl true []) (.sl true [])).env ++ [(215, .bool false)], (m2 1 1 0 0 (.ex 5 true []) (chB' key la c0) (chB' key la0 (.ex 5 true [])) (.sl m y) (.sl true []) (.sl true [])).heap⟩))]) (lb fi28 1) := by
    refine LGood.is fun c hc x hx hf => ?_
    rw [e0] at hc
    simp only [List.mem_cons, List.not_mem_nil, or_false] at hc hx
    rcases hx with rfl | rfl <;> rcases hc with rfl | rfl
    · exact h1
    · simp only at hf; omega
    · simp only at hf; omega
    · exact h2
  refine LRuns.next (F := F) X73_ok (sh := Sh) (L := (loopsIs [(26, i2 1 1 (-1) (.ex 5 true []) (chB' key la c0) (chB' key la0 (.ex 5 true [])) (.sl m y) (.sl true []) (.sl true []), (.exit 4, ⟨(i2 1 1 (0 + 1) (.ex 5 true []) (chB' key la c0) (chB' key la0 (.ex 5 true [])) (.sl m y) (.sl true []) (.sl true [])).env ++ [(186, .bool false)], (i2 1 1 (0 + 1) (.ex 5 true []) (chB' key la c0) (chB' key la0 (.ex 5 true [])) (.sl m y) (.sl true []) (.sl true [])).heap⟩)), (33, (m2 1 1 0 0 (.ex 5 true []) (chB' key la c0) (chB' key la0 (.ex 5 true [])) (.sl m y) (.sl true []) (.sl true [])), (.exit 6, ⟨(m2 1 1 0 0 (.ex 5 true []) (chB' key la c0) (chB' key la0 (.ex 5 true [])) (.sl m y) (.sl true []) (.sl true [])).env ++ [(215, .bool false)], (m2 1 1 0 0 (.ex 5 true []) (chB' key la c0) (chB' key la0 (.ex 5 true [])) (.sl m y) (.sl true []) (.sl true [])).heap⟩))])) hL [(eqB ([] : List V) [], true),
    (is { env := [(18, V.ptr 3 0), (19, V.ex 5 true []), (25, V.int IntKind.i64 (-1)), (141, V.ref (RK.arr 2) 2), (142, V.int IntKind.i64 2), (143, V.int IntKind.i64 1)], heap := [B.cells [V.int IntKind.u64 key, V.int IntKind.u64 la, V.bool true, c0], B.cells [V.int IntKind.u64 key, V.int IntKind.u64 la0, V.bool true, V.ex 5 true []], B.cells [V.ptr 0 0, V.sl m y, V.ptr 1 0, V.sl true []], B.cells [V.ptr 1 0, V.sl true []]] } { env := [(18, V.ptr 3 0), (19, V.ex 5 true []), (25, V.int IntKind.i64 (-1)), (141, V.ref (RK.arr 2) 2), (142, V.int IntKind.i64 2), (143, V.int IntKind.i64 1)], heap := [B.cells [V.int IntKind.u64 key, V.int IntKind.u64 la, V.bool true, c0], B.cells [V.int IntKind.u64 key, V.int IntKind.u64 la0, V.bool true, V.ex 5 true []], B.cells [V.ptr 0 0, V.sl m y, V.ptr 1 0, V.sl true []], B.cells [V.ptr 1 0, V.sl true []]] }, true),
    (is { env := [(18, V.ptr 3 0), (19, V.ex 5 true []), (141, V.ref (RK.arr 2) 2), (142, V.int IntKind.i64 2), (143, V.int IntKind.i64 1), (213, V.int IntKind.i64 0), (214, V.int IntKind.i64 0)], heap := [B.cells [V.int IntKind.u64 key, V.int IntKind.u64 la, V.bool true, c0], B.cells [V.int IntKind.u64 key, V.int IntKind.u64 la0, V.bool true, V.ex 5 true []], B.cells [V.ptr 0 0, V.sl m y, V.ptr 1 0, V.sl true []], B.cells [V.ptr 1 0, V.sl true []]] } { env := [(18, V.ptr 3 0), (19, V.ex 5 true []), (141, V.ref (RK.arr 2) 2), (142, V.int IntKind.i64 2), (143, V.int IntKind.i64 1), (213, V.int IntKind.i64 0), (214, V.int IntKind.i64 0)], heap := [B.cells [V.int IntKind.u64 key, V.int IntKind.u64 la, V.bool true, c0], B.cells [V.int IntKind.u64 key, V.int IntKind.u64 la0, V.bool true, V.ex 5 true []], B.cells [V.ptr 0 0, V.sl m y, V.ptr 1 0, V.sl true []], B.cells [V.ptr 1 0, V.sl true []]] }, true)] [0, 0, 0, 1, 1, 1, 1, 1, 1, 1, 1, 2, 0, 0, 0, 1, 1, 1, 1, 1, 1, 1, 1, 2, 0, 0, 2, 1, 1, 1, 1, 1, 1, 1, 2, 2, 0, 0, 1, 1, 1, 1, 1, 1, 1, 3, 4, 1, 1, 1, 1, 1, 1, 1, 1, 2, 0, 0, 0, 2, 2, 0, 1] (τ' := { env := [(141, V.ref (RK.arr 2) 2), (142, V.int IntKind.i64 2), (143, V.int IntKind.i64 2)], heap := [B.cells [V.int IntKind.u64 key, V.int IntKind.u64 la, V.bool true, c0], B.cells [V.int IntKind.u64 key, V.int IntKind.u64 la0, V.bool true, V.ex 5 true []], B.cells [V.ptr 0 0, V.sl m y, V.ptr 1 0, V.sl true []]] }) (by kernel_rfl) ?_ ?_
  · refine ⟨?_, ?_, ?_, trivial⟩
    all_goals first
      | exact eqB_eq rfl
      | exact eqB_eq (by rw [decS_enc])
      | exact is_self _
      | exact is_eq rfl
      | exact is_eq (by simp [i2, m2])
      | exact apart_s _ _
      | (rw [decS_enc]; exact rr_eq hg)
      | (simp; omega)
  · exact hr
end Go.Proofs.Ytgmdkjiflhklaaa
