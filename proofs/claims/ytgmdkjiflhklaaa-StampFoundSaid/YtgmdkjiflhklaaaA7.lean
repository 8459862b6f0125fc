/- A7: the law StampOrdered over V. -/
import Derived.Test.YtgmdkjiflhklaaaW3
import Derived.Test.YtgmdkjiflhklaaaA5
import Derived.Test.YtgmdkjiflhklaaaA6
namespace Go.Proofs.Ytgmdkjiflhklaaa
open Go Go.Vm

theorem pass_left {l : List Stp} (s : Stp) {k : Nat} (p : Pass l k) : Pass (l ++ [s]) k := by
  have h := p.h
  have e : (l ++ [s])[k]'(by simp; omega) = l[k] := List.getElem_append_left h
  refine ⟨by simp; omega, ?_, ?_, ?_, ?_, ?_, ?_, fun h' => ?_⟩
  · rw [e]; exact p.ser
  · rw [e]; exact p.lo0
  · rw [e]; exact p.loM
  · rw [e]; exact p.hi0
  · rw [e]; exact p.hiM
  · rw [e]; exact p.le
  · have e' : (l ++ [s])[k - 1]'(by simp; omega) = l[k - 1]'(by omega) := List.getElem_append_left (by omega)
    have a1 := congrArg Stp.lo e
    have a2 := congrArg Stp.lo e'
    have a3 := p.mono h'
    omega

theorem Chain.props {key : Int} {l : List Stp} {ts : List Int} {la now : Int} (h : Chain key l ts la now) :
    (∀ k (hk : k < l.length), Pass l k) ∧ (∀ k (hk : k < l.length) (hk' : k < ts.length), l[k].lo ≤ ts[k] ∧ ts[k] ≤ l[k].hi ∧ ts[k] ≤ now) ∧
    (∀ j k (hj : j < ts.length) (hk : k < ts.length), j ≤ k → ts[j] ≤ ts[k]) ∧ Signed key (P.mix key 3) l 0 l.length ∧ la = (if h : 0 < l.length then (l[l.length - 1]'(by omega)).sgn else P.mix key 3) := by
  induction h with
  | nil => exact ⟨fun k hk => by simp at hk, fun k hk => by simp at hk, fun j k hj => by simp at hj, fun j hj => by simp at hj, by simp⟩
  | @snoc l ts la now s t hc h1 h2 h3 h4 h5 h6 h7 h8 ih =>
    obtain ⟨i1, i2, i3, i4, i5⟩ := ih
    obtain ⟨hts, hnow⟩ := hc.lens
    have es : (l ++ [s])[l.length]'(by simp) = s := by simp
    have el : ∀ k (hk : k < l.length), (l ++ [s])[k]'(by simp; omega) = l[k] := fun k hk => List.getElem_append_left hk
    have et : (ts ++ [t])[ts.length]'(by simp) = t := by simp
    have etl : ∀ k (hk : k < ts.length), (ts ++ [t])[k]'(by simp; omega) = ts[k] := fun k hk => List.getElem_append_left hk
    have ps : Pass (l ++ [s]) l.length := by
      refine ⟨by simp, ?_, ?_, ?_, ?_, ?_, ?_, fun h' => ?_⟩
      case refine_7 =>
        have a1 := congrArg Stp.lo es
        have a2 := congrArg Stp.lo (el (l.length - 1) (by omega))
        have a3 := h8 h'
        omega
      all_goals
        rw [es]; omega
    refine ⟨fun k hk => ?_, fun k hk hk' => ?_, fun j k hj hk hjk => ?_, fun j hj _ _ => ?_, by simp⟩
    · by_cases hkl : k < l.length
      · exact pass_left s (i1 k hkl)
      · have : k = l.length := by simp at hk; omega
        subst this; exact ps
    · by_cases hkl : k < l.length
      · rw [el k hkl, etl k (by omega)]
        have := i2 k hkl (by omega)
        exact ⟨this.1, this.2.1, by omega⟩
      · have : k = l.length := by simp at hk; omega
        subst this
        have et' : (ts ++ [t])[l.length]'hk' = t := by simp [← hts]
        rw [es, et']; exact ⟨h5, h6, Int.le_refl _⟩
    · by_cases hkl : k < ts.length
      · rw [etl k hkl, etl j (by omega)]; exact i3 j k (by omega) hkl hjk
      · have : k = ts.length := by simp at hk; omega
        subst this
        rw [et]
        by_cases hjl : j < ts.length
        · rw [etl j hjl]
          have := (i2 j (by omega) hjl).2.2
          omega
        · have : j = ts.length := by simp at hj; omega
          subst this; rw [et]; exact Int.le_refl _
    · by_cases hjl : j < l.length
      · obtain ⟨q1, q2⟩ := i4 j hjl (by omega) hjl
        refine ⟨pass_left s q1, ?_⟩
        rw [el j hjl, q2]
        congr 1
        by_cases hj0 : j = 0
        · rw [if_pos hj0, if_pos hj0]
        · rw [if_neg hj0, if_neg hj0, el (j - 1) (by omega)]
      · have : j = l.length := by simp at hj; omega
        subst this
        refine ⟨ps, ?_⟩
        rw [es, h3]
        congr 1
        rw [i5]
        by_cases hl0 : l.length = 0
        · rw [dif_neg (by omega), if_pos hl0]
        · rw [dif_pos (by omega), if_neg hl0, el (l.length - 1) (by omega)]

theorem Chain.okL {key : Int} {l : List Stp} {ts : List Int} {la now : Int} (h : Chain key l ts la now) (hl : l.length ≤ 30) : OkL l := by
  obtain ⟨p, _⟩ := h.props
  refine ⟨by omega, fun k hk => ⟨(p k hk).lo0, (p k hk).loM, (p k hk).hi0, (p k hk).hiM⟩, fun k hk => ?_⟩
  have := (p (k + 1) hk).mono (by omega)
  simpa using this

theorem Chain.looks {key : Int} {l : List Stp} {ts : List Int} {la now : Int} (h : Chain key l ts la now) (hl : l.length ≤ 30) : Looks l ts (sm (tp l)) := by
  obtain ⟨p, q, r, _⟩ := h.props
  obtain ⟨hts, _⟩ := h.lens
  have htl : (tp l).length = l.length := by simp [tp]
  have hz : (sm (tp l)).length = l.length := by rw [sm_length, htl]
  have tpk : ∀ k (hk : k < (tp l).length), (tp l)[k] = (l[k].lo, l[k].hi) := fun k hk => by simp [tp]
  have sp := fun k (hk : k < l.length) => sm_spec (tp l) k (by omega)
  refine ⟨hts.symm, by omega, by omega, fun k hk => (p k hk).ser, fun k hk hk' => ⟨(q k hk hk').1, (q k hk hk').2.1⟩, fun k hk hk' => ?_, fun k hk hk' => ?_, fun k hk hk' => ?_⟩
  · obtain ⟨s1, s2, s3, s4⟩ := sp k (by omega)
    rw [tpk k (by omega)] at s1
    refine ⟨by rw [s1]; exact (q k (by omega) hk').1, s4 _ fun j hj hkj => ?_⟩
    rw [tpk j hj]
    have h1 := r k j hk' (by omega) hkj
    have h2 := (q j (by omega) (by omega)).2.1
    simp only; omega
  · obtain ⟨s1, s2, s3, s4⟩ := sp k hk'
    rw [tpk k (by omega)] at s1 s2
    exact ⟨by rw [s1]; exact Int.le_refl _, s2⟩
  · obtain ⟨s1, s2, s3, s4⟩ := sp k (by omega)
    obtain ⟨t1, _⟩ := sp (k + 1) hk'
    rw [tpk k (by omega)] at s1
    rw [tpk (k + 1) (by omega)] at t1
    have hm := (p (k + 1) hk').mono (by omega)
    simp only [Nat.add_sub_cancel] at hm
    exact ⟨by rw [s1, t1]; exact hm, s3 (by omega), hm⟩

theorem given_runs {key : Int} {n : Bool} {bs : List Int} {l : List Stp} {la : Int} {ts : List Int} {now : Int} {i : Int} {b : Bool}
    (hr : LRuns (vstep T (vlim T F) lplim fi14.cx 1 (lb fi14 0)) (gst key n bs [] (P.mix key 3) [] 0 0) (.exit 0, ⟨(gst key n bs l la ts now i).env ++ [(25, .bool b)], (gst key n bs l la ts now i).heap⟩)) :
    Runs T F 14 [.int .u64 key, .sl n (bs.map encB)] [] (.tup [.ptr 0 0, .ex 1 ts.isEmpty (ts.map encI), .bool true], [B.cells [.int .u64 key, .int .u64 la, .bool true, chainV l]]) :=
  Runs.way (sh := Sh) (S := S46) (L := loopsIs [(5, gst key n bs [] (P.mix key 3) [] 0 0, _)]) S46_ok (fi := fi14) (by kernel_rfl) (LGood.one (b := lb fi14 0) (by kernel_rfl) hr)
    [(is (gst key n bs [] (P.mix key 3) [] 0 0) (gst key n bs [] (P.mix key 3) [] 0 0), true)] [2] (by kernel_rfl) ⟨is_self _, trivial⟩

theorem S4_ok {key : Int} {n : Bool} {bs : List Int} {cv : V} {la : Int} {ts : List Int} {l : List Stp}
    (h14 : Runs T F 14 [.int .u64 key, .sl n (bs.map encB)] [] (.tup [.ptr 0 0, .ex 1 ts.isEmpty (ts.map encI), .bool true], [B.cells [.int .u64 key, .int .u64 la, .bool true, cv]]))
    (h16 : ∀ n, Runs T F 16 [.sl n (l.map encS)] [] (.tup [.ex 2 (l.length == 0) ((sm (tp l)).map encP), .int .i64 0], []))
    (h17 : ∀ n, Runs T F 17 [.int .u64 key, .sl n (l.map encS)] [] (.tup [.int .i64 l.length, .int .i64 0], [])) : Vm.Good (vlim T F) (S4 key n bs cv la ts l) := by
  refine (((S46_ok.add fun a H r h => ?_).add fun a H r h => ?_).add fun a H r h => ?_).add fun a H r h => ?_
  · unfold givenS at h
    split at h
    · obtain ⟨h1, h2⟩ := Tr.must_some h
      have h1 := of_eqB h1
      injection h1 with e1 h1; injection h1 with e2 e3; subst e1; subst e2; subst e3
      have := ret_some h2; subst this
      exact h14
    · cases h
  · unfold tightS at h
    split at h
    · obtain ⟨h1, h2⟩ := Tr.must_some h
      have h1 := of_eqB h1; subst h1
      have := ret_some h2; subst this
      exact h16 _
    · cases h
  · unfold verS at h
    split at h
    · obtain ⟨h1, h2⟩ := Tr.must_some h
      have h1 := of_eqB h1
      injection h1 with e1 e2; subst e1; subst e2
      have := ret_some h2; subst this
      exact h17 _
    · cases h
  · unfold awakeS at h
    split at h
    · have := ret_some h; subst this
      exact ⟨60, awake_v⟩
    · cases h

/-- Arguments of numbers and of lists of numbers. -/
theorem lawStampOrdered : ∀ xs, AllV T 8 [36, 22] xs → ∃ k, vcall T F k 4 xs [] = some (.bool true, []) := by
  intro xs hxs
  match xs, hxs with
  | [x, y], ⟨hx, hy, _⟩ =>
    obtain ⟨key, rfl, _⟩ := hasV_int (i := { kind := .int .u64, size := 1, bytes := 8, zero := .int .u64 0, leaves := [] }) (by kernel_rfl) rfl hx
    obtain ⟨n, bs, rfl, hb, hbl, _⟩ := hasV_ints (i := { kind := .slice 5, size := 1, bytes := 24, zero := .sl true [], leaves := [] }) (j := { kind := .int .u8, size := 1, bytes := 1, zero := .int .u8 0, leaves := [] }) (by kernel_rfl) rfl (by kernel_rfl) rfl hy
    have hb' : ∀ x ∈ bs, 0 ≤ x ∧ x ≤ 255 := fun x hx => by
      have := hb x hx
      simp [Lit.wf, IntKind.min, IntKind.max, IntKind.signed, IntKind.bits] at this
      exact this
    show Runs T F 4 [.int .u64 key, .sl n (bs.map encB)] [] (.bool true, [])
    obtain ⟨l, la, ts, now, i, b, hl, hc, hr⟩ := given_loop key n bs hb' (by simpa [maxLen] using hbl) 30 0 [] (P.mix key 3) [] 0 rfl rfl .nil (by simp)
    have h14 := given_runs hr
    have hok := hc.okL hl
    have hlook := hc.looks hl
    obtain ⟨pp, pq, pr, hsig, _⟩ := hc.props
    obtain ⟨hts, _⟩ := hc.lens
    have htl : (tp l).length = l.length := by simp [tp]
    have hz : (sm (tp l)).length = l.length := by rw [sm_length, htl]
    have h16 : ∀ n, Runs T F 16 [.sl n (l.map encS)] [] (.tup [.ex 2 (l.length == 0) ((sm (tp l)).map encP), .int .i64 0], []) := fun n => tight_runs n l hok fun k hk => by
      have := hlook.a2 k hk (by omega)
      omega
    have h17 : ∀ n, Runs T F 17 [.int .u64 key, .sl n (l.map encS)] [] (.tup [.int .i64 l.length, .int .i64 0], []) := fun n => verify_right (by omega) hsig
    have hflat : ((l.map encS).all V.flat) = true := by simp [List.all_eq_true, encS, V.flat, flatC]
    by_cases hl0 : l.length = 0
    · have : l = [] := List.length_eq_zero_iff.1 hl0
      subst this
      have : ts = [] := List.length_eq_zero_iff.1 (by simpa using hts)
      subst this
      refine Runs.way (sh := Sh) (S := S4 key n bs (.sl true []) la [] []) (L := loopsIs [(10, lst true true true [] [] [] (B.cells [.int .u64 key, .int .u64 la, .bool true, .sl true []]) 0, _)]) (S4_ok h14 h16 h17) (fi := fi4) (by kernel_rfl)
        (LGood.one (b := lb fi4 0) (by kernel_rfl) (look_loop true true true [] [] [] _ hlook 0 0 rfl))
        [(eqB (key, n, List.map encB bs) (key, n, List.map encB bs), true), (eqB ([] : List V) (List.map encS []), true), (eqB (key, ([] : List V)) (key, List.map encS []), true),
         (is (lst true true true [] [] [] (B.cells [.int .u64 key, .int .u64 la, .bool true, .sl true []]) 0) (lst true true true [] [] [] (B.cells [.int .u64 key, .int .u64 la, .bool true, .sl true []]) 0), true)]
        [2, 1, 1, 1, 1, 1, 1, 1, 1, 1, 0, 3, 4, 1, 1, 1, 1, 1, 1, 1, 1, 1, 1, 1, 1, 1, 1, 1, 1, 1, 1, 1, 1, 1, 1, 1, 1, 5]
        (by kernel_rfl) ⟨eqB_eq rfl, eqB_eq rfl, eqB_eq rfl, is_self _, trivial⟩
    · have hcv : chainV l = .ex 5 false (l.map encS) := chainV_ne (by omega)
      rw [hcv] at h14
      refine Runs.way (sh := Sh) (S := S4 key n bs (.ex 5 false (l.map encS)) la ts l) (L := loopsIs [(10, lst false (l.length == 0) ts.isEmpty l (sm (tp l)) ts (B.cells [.int .u64 key, .int .u64 la, .bool true, .ex 5 false (l.map encS)]) 0, _)]) (S4_ok h14 h16 h17) (fi := fi4) (by kernel_rfl)
        (LGood.one (b := lb fi4 0) (by kernel_rfl) (look_loop false (l.length == 0) ts.isEmpty l (sm (tp l)) ts _ hlook ts.length 0 (by omega)))
        [(eqB (key, n, List.map encB bs) (key, n, List.map encB bs), true), (rooms (0 + (List.map encS l).length) 40, true), (decide (0 + (List.map encS l).length < 4611686018427387904), true),
         ((List.map encS l).all fun y => y.cells.length == 5, true), (apart (V.ex 5 false ([] ++ List.map encS l)), true), (eqB ([] ++ List.map encS l) (List.map encS l), true), (eqB (key, [] ++ List.map encS l) (key, List.map encS l), true),
         ((↑l.length : Int) != ↑(List.map encI ts).length, false), ((↑([] ++ List.map encS l).length : Int) != ↑(List.map encI ts).length, false), ((↑(List.map encP (sm (tp l))).length : Int) != ↑(List.map encI ts).length, false),
         (is ⟨[(8, V.sl false ([] ++ List.map encS l)), (10, V.sl (l.length == 0) (List.map encP (sm (tp l)))), (71, V.sl ts.isEmpty (List.map encI ts)), (72, V.int IntKind.i64 ↑(List.map encI ts).length), (73, V.int IntKind.i64 0)], [B.cells [V.int IntKind.u64 key, V.int IntKind.u64 la, V.bool true, V.ex 5 false (List.map encS l)]]⟩
           (lst false (l.length == 0) ts.isEmpty l (sm (tp l)) ts (B.cells [.int .u64 key, .int .u64 la, .bool true, .ex 5 false (l.map encS)]) 0), true)]
        [2, 1, 1, 1, 1, 1, 1, 1, 1, 1, 1, 3, 4, 5, 6, 7, 8, 1, 1, 1, 1, 1, 1, 1, 1, 1, 1, 1, 9, 9, 9, 9, 9, 9, 10, 10, 10, 10, 10, 10, 11, 12]
        (by kernel_rfl) ⟨eqB_eq rfl, ?_, ?_, ?_, ?_, eqB_eq rfl, eqB_eq rfl, ?_, ?_, ?_, is_eq ?_, trivial⟩
      · simp [rooms, maxRoom]; omega
      · simp; omega
      · simp [List.all_eq_true, encS]
      · simpa [apart, V.cells, apartC] using hflat
      · simp [hts]
      · simp [hts]
      · simp [hz, hts]
      · simp [lst]

end Go.Proofs.Ytgmdkjiflhklaaa
