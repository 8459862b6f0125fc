/- M1: Verify, of any stamps; the reference's. -/
import Derived.Test.YtgmdkjiflhklaaaL3
import Derived.Test.YtgmdkjiflhklaaaK0
namespace Go.Proofs.Ytgmdkjiflhklaaa
open Go Go.Vm
def Fd.s0 (l : List Stp) (i : Nat) : Int := intOf (fld 0 ((l.map encS).getD i V.undef))
def Fd.s1 (l : List Stp) (i : Nat) : Int := intOf (fld 1 ((l.map encS).getD i V.undef))
def Fd.s2 (l : List Stp) (i : Nat) : Int := intOf (fld 2 ((l.map encS).getD i V.undef))
def Fd.s3 (l : List Stp) (i : Nat) : Int := intOf (fld 3 ((l.map encS).getD i V.undef))
theorem s0_at (l : List Stp) (k : Nat) (h : k < l.length) : Fd.s0 l k = l[k].ser := by simp [Fd.s0, encS, h]
theorem s1_at (l : List Stp) (k : Nat) (h : k < l.length) : Fd.s1 l k = l[k].doc := by simp [Fd.s1, encS, h]
theorem s2_at (l : List Stp) (k : Nat) (h : k < l.length) : Fd.s2 l k = l[k].lo := by simp [Fd.s2, encS, h]
theorem s3_at (l : List Stp) (k : Nat) (h : k < l.length) : Fd.s3 l k = l[k].hi := by simp [Fd.s3, encS, h]
noncomputable def U44 : Vm.Spec := Q78.add 44 winS
theorem U44_ok : Vm.Good (vlim T F) U44 := Q78_ok.add winS_ok
theorem mixR_ok : ∀ a H r, (mixS a H).run = some r → Runs T F 61 a H r := by
  intro a H r h
  unfold mixS at h
  split at h
  · have := ret_some h; subst this
    exact funT_ok (sh := Sh) (S := noSpec) (L := fun _ _ => .fail) Vm.Good.no (fi := fi61) (by kernel_rfl) (LGood.none (by kernel_rfl)) (by kernel_rfl)
  · cases h
noncomputable def U61 : Vm.Spec := U44.add 61 mixS
theorem U61_ok : Vm.Good (vlim T F) U61 := U44_ok.add mixR_ok
noncomputable def U89 : Vm.Spec := U61.add 89 (inl T Sh U61 0 0 fi89)
theorem U89_ok : Vm.Good (vlim T F) U89 := U61_ok.inl (by kernel_rfl) 0 0 (by kernel_rfl)
noncomputable def U91 : Vm.Spec := U89.add 91 (inl T Sh U89 0 0 fi91)
theorem U91_ok : Vm.Good (vlim T F) U91 := U89_ok.inl (by kernel_rfl) 0 0 (by kernel_rfl)
/-- What is wrong with a stamp. -/
def vbad (key : Int) (k : Nat) (la p : Int) (s : Stp) : Int :=
  if s.ser != (k : Int) then 110 else if !P.win 1000000000000000 [s.lo, s.hi] then 6 else if decide (s.lo > s.hi) then 12 else if decide ((k : Int) > 0) && decide (s.lo < p) then 11 else if s.sgn != Fd.sgn key la s.ser s.doc s.lo s.hi then 7 else 0
def noS : Stp := ⟨0, 0, 0, 0, 0⟩
def verN (key : Int) (l : List Stp) : Nat → Nat → Int → Int × Int
  | 0, k, _ => (k, 0)
  | m + 1, k, la => if vbad key k la (l.getD (k - 1) noS).lo (l.getD k noS) = 0 then verN key l m (k + 1) (l.getD k noS).sgn else (k, vbad key k la (l.getD (k - 1) noS).lo (l.getD k noS))
def vrS (key : Int) (n : Bool) (l : List Stp) (la k : Int) : St := ⟨[(0, .int .u64 key), (1, V.sl n (l.map encS)), (6, V.int IntKind.u64 la), (7, V.int IntKind.i64 k)], []⟩
theorem getD_at {l : List Stp} {k : Nat} (h : k < l.length) : l.getD k noS = l[k] := by rw [List.getD_eq_getElem?_getD, List.getElem?_eq_getElem h]; rfl
theorem ver_loop (key : Int) (n : Bool) (l : List Stp) (hl : l.length ≤ 1000) : ∀ (m k : Nat) (la : Int), k + m = l.length →
    ((verN key l m k la).2 = 0 → ∃ la', LRuns (vstep T (vlim T F) lplim fi17.cx 1 (lb fi17 0)) (vst key n l k la) (.exit 0, ⟨(vst key n l l.length la').env ++ [(17, .bool false)], (vst key n l l.length la').heap⟩)) ∧
    ((verN key l m k la).2 ≠ 0 → ∃ c1 c2, LRuns (vstep T (vlim T F) lplim fi17.cx 1 (lb fi17 0)) (vst key n l k la) (.ret, ⟨[(4, .int .i64 (verN key l m k la).1), (5, .int .i64 (verN key l m k la).2)], [.cells c1, .cells c2]⟩)) ∧ ((verN key l m k la).2 = 0 → (verN key l m k la).1 = l.length)
  | 0, k, la, hd => by
    have hk : k = l.length := by omega
    subst hk
    refine ⟨fun _ => ⟨la, ?_⟩, fun h => absurd rfl h, fun _ => rfl⟩
    have := LRuns.last (F := F) U44_ok (sh := Sh) (L := fun _ _ => .fail) (n := 1) (b := lb fi17 0) (cx := fi17.cx) (τ := vst key n l l.length la) (LGood.none (by kernel_rfl)) [(decide ((l.length : Int) < (l.length : Int)), false)] [2]
      (r := (.exit 0, ⟨(vst key n l l.length la).env ++ [(17, .bool (decide ((l.length : Int) < (l.length : Int))))], (vst key n l l.length la).heap⟩)) (by kernel_rfl) (by simp) ⟨by simp, trivial⟩
    simpa using this
  | m + 1, k, la, hd => by
    have hk : k < l.length := by omega
    have hkm : k - 1 < l.length := by omega
    have hw := len_wrap (k := k) (by omega)
    have g0 := s0_at l k hk
    have g1 := s1_at l k hk
    have g2 := s2_at l k hk
    have g3 := s3_at l k hk
    have g4 := sn_at l k hk
    have hp : 0 < k → IntKind.i64.wrap ((k : Int) - 1) = ((k - 1 : Nat) : Int) := fun h => by rw [i64in (by omega) (by omega)]; omega
    have ih := ver_loop key n l hl m (k + 1) l[k].sgn (by omega)
    have hv : verN key l (m + 1) k la = if vbad key k la (l.getD (k - 1) noS).lo l[k] = 0 then verN key l m (k + 1) l[k].sgn else (k, vbad key k la (l.getD (k - 1) noS).lo l[k]) := by
      simp only [verN, getD_at hk]
    have hb : vbad key k la (l.getD (k - 1) noS).lo l[k] = if Fd.s0 l k != (k : Int) then 110 else if !P.win 1000000000000000 [Fd.s2 l k, Fd.s3 l k] then 6 else if decide (Fd.s2 l k > Fd.s3 l k) then 12 else if decide ((k : Int) > 0) && decide (Fd.s2 l k < (l.getD (k - 1) noS).lo) then 11 else if Fd.sn l k != Fd.sgn key la (Fd.s0 l k) (Fd.s1 l k) (Fd.s2 l k) (Fd.s3 l k) then 7 else 0 := by
      rw [g0, g1, g2, g3, g4]; rfl
    rw [hv]
    cases q1 : (Fd.s0 l k != (k : Int)) with
    | true =>
      rw [q1, if_pos rfl] at hb
      rw [hb, if_neg (by decide)]
      refine ⟨fun h => (by cases h), fun _ => ?_, fun h => (by cases h)⟩
      refine ⟨_, _, LRuns.last (F := F) U44_ok (sh := Sh) (L := fun _ _ => .fail) (LGood.none (by kernel_rfl)) [(decide ((↑k : Int) < (↑l.length : Int)), true),
    (decide ((↑k : Int) < (↑(List.map encS l).length : Int)), true),
    (((List.map encS l).getD k V.undef).cells.length == 5 && fitP [TK.int IntKind.i64, TK.int IntKind.u64, TK.int IntKind.i64, TK.int IntKind.i64, TK.int IntKind.u64] 0 ((List.map encS l).getD k V.undef), true),
    (Fd.s0 l k != (↑k : Int), true)] [2, 0, 3, 4, 5] (r := (Ex.ret, { env := [(4, V.int IntKind.i64 (↑k : Int)), (5, V.int IntKind.i64 110)], heap := [B.cells [V.int IntKind.u64 key, V.int IntKind.u64 la, V.bool true], B.cells [V.int IntKind.i64 (Fd.s0 l k), V.int IntKind.u64 (Fd.s1 l k), V.int IntKind.i64 (Fd.s2 l k), V.int IntKind.i64 (Fd.s3 l k), V.int IntKind.u64 (Fd.sn l k)]] })) (by kernel_rfl) (by simp) ?_⟩
      have hp1 := trivial; have hp2 := trivial
      refine ⟨?_, ?_, ?_, ?_, trivial⟩
      all_goals first
              | assumption
              | (simp; omega)
              | (simp [encS, fitP, fld, leafFits, V.cells, hk]; done)
              | (rw [hp1]; simp; omega)
              | (simp only [hp1, hp2, List.length_map]; simp; omega)
              | (simp only [hp2]; simp [encS, fitP, fld, leafFits, V.cells, hkm]; done)
    | false =>
    rw [q1, if_neg (by simp)] at hb
    cases q2 : (!P.win 1000000000000000 [Fd.s2 l k, Fd.s3 l k]) with
    | true =>
      rw [q2, if_pos rfl] at hb
      rw [hb, if_neg (by decide)]
      refine ⟨fun h => (by cases h), fun _ => ?_, fun h => (by cases h)⟩
      refine ⟨_, _, LRuns.last (F := F) U44_ok (sh := Sh) (L := fun _ _ => .fail) (LGood.none (by kernel_rfl)) [(decide ((↑k : Int) < (↑l.length : Int)), true),
    (decide ((↑k : Int) < (↑(List.map encS l).length : Int)), true),
    (((List.map encS l).getD k V.undef).cells.length == 5 && fitP [TK.int IntKind.i64, TK.int IntKind.u64, TK.int IntKind.i64, TK.int IntKind.i64, TK.int IntKind.u64] 0 ((List.map encS l).getD k V.undef), true),
    (Fd.s0 l k != (↑k : Int), false),
    (!P.win 1000000000000000 [Fd.s2 l k, Fd.s3 l k], true)] [2, 0, 3, 4, 5, 0, 0, 0, 6] (r := (Ex.ret, { env := [(4, V.int IntKind.i64 (↑k : Int)), (5, V.int IntKind.i64 6)], heap := [B.cells [V.int IntKind.u64 key, V.int IntKind.u64 la, V.bool true], B.cells [V.int IntKind.i64 (Fd.s0 l k), V.int IntKind.u64 (Fd.s1 l k), V.int IntKind.i64 (Fd.s2 l k), V.int IntKind.i64 (Fd.s3 l k), V.int IntKind.u64 (Fd.sn l k)]] })) (by kernel_rfl) (by simp) ?_⟩
      have hp1 := trivial; have hp2 := trivial
      refine ⟨?_, ?_, ?_, ?_, ?_, trivial⟩
      all_goals first
              | assumption
              | (simp; omega)
              | (simp [encS, fitP, fld, leafFits, V.cells, hk]; done)
              | (rw [hp1]; simp; omega)
              | (simp only [hp1, hp2, List.length_map]; simp; omega)
              | (simp only [hp2]; simp [encS, fitP, fld, leafFits, V.cells, hkm]; done)
    | false =>
    rw [q2, if_neg (by simp)] at hb
    cases q3 : decide (Fd.s2 l k > Fd.s3 l k) with
    | true =>
      rw [q3, if_pos rfl] at hb
      rw [hb, if_neg (by decide)]
      refine ⟨fun h => (by cases h), fun _ => ?_, fun h => (by cases h)⟩
      refine ⟨_, _, LRuns.last (F := F) U44_ok (sh := Sh) (L := fun _ _ => .fail) (LGood.none (by kernel_rfl)) [(decide ((↑k : Int) < (↑l.length : Int)), true),
    (decide ((↑k : Int) < (↑(List.map encS l).length : Int)), true),
    (((List.map encS l).getD k V.undef).cells.length == 5 && fitP [TK.int IntKind.i64, TK.int IntKind.u64, TK.int IntKind.i64, TK.int IntKind.i64, TK.int IntKind.u64] 0 ((List.map encS l).getD k V.undef), true),
    (Fd.s0 l k != (↑k : Int), false),
    (!P.win 1000000000000000 [Fd.s2 l k, Fd.s3 l k], false),
    (decide (Fd.s2 l k > Fd.s3 l k), true)] [2, 0, 3, 4, 5, 0, 0, 0, 6, 7] (r := (Ex.ret, { env := [(4, V.int IntKind.i64 (↑k : Int)), (5, V.int IntKind.i64 12)], heap := [B.cells [V.int IntKind.u64 key, V.int IntKind.u64 la, V.bool true], B.cells [V.int IntKind.i64 (Fd.s0 l k), V.int IntKind.u64 (Fd.s1 l k), V.int IntKind.i64 (Fd.s2 l k), V.int IntKind.i64 (Fd.s3 l k), V.int IntKind.u64 (Fd.sn l k)]] })) (by kernel_rfl) (by simp) ?_⟩
      have hp1 := trivial; have hp2 := trivial
      refine ⟨?_, ?_, ?_, ?_, ?_, ?_, trivial⟩
      all_goals first
              | assumption
              | (simp; omega)
              | (simp [encS, fitP, fld, leafFits, V.cells, hk]; done)
              | (rw [hp1]; simp; omega)
              | (simp only [hp1, hp2, List.length_map]; simp; omega)
              | (simp only [hp2]; simp [encS, fitP, fld, leafFits, V.cells, hkm]; done)
    | false =>
    rw [q3, if_neg (by simp)] at hb
    by_cases hk0 : 0 < k
    · have hp1 := hp hk0
      have hp2 : (IntKind.i64.wrap ((k : Int) - 1)).toNat = k - 1 := by rw [hp1]; omega
      have hpl : Fd.lo l (IntKind.i64.wrap ((k : Int) - 1)) = (l.getD (k - 1) noS).lo := by rw [hp1, lo_at l (k - 1) hkm, getD_at hkm]
      rw [← hpl] at hb
      have hkp : decide ((k : Int) > 0) = true := by simp; omega
      rw [hkp, Bool.true_and] at hb
      cases q5 : decide (Fd.s2 l k < Fd.lo l (IntKind.i64.wrap ((k : Int) - 1))) with
      | true =>
        rw [q5, if_pos rfl] at hb
        rw [← hpl, hb, if_neg (by decide)]
        refine ⟨fun h => (by cases h), fun _ => ?_, fun h => (by cases h)⟩
        refine ⟨_, _, LRuns.last (F := F) U44_ok (sh := Sh) (L := fun _ _ => .fail) (LGood.none (by kernel_rfl)) [(decide ((↑k : Int) < (↑l.length : Int)), true),
    (decide ((↑k : Int) < (↑(List.map encS l).length : Int)), true),
    (((List.map encS l).getD k V.undef).cells.length == 5 && fitP [TK.int IntKind.i64, TK.int IntKind.u64, TK.int IntKind.i64, TK.int IntKind.i64, TK.int IntKind.u64] 0 ((List.map encS l).getD k V.undef), true),
    (Fd.s0 l k != (↑k : Int), false),
    (!P.win 1000000000000000 [Fd.s2 l k, Fd.s3 l k], false),
    (decide (Fd.s2 l k > Fd.s3 l k), false),
    (decide ((↑k : Int) > 0), true),
    (decide (0 ≤ IntKind.i64.wrap ((↑k : Int) - 1)), true),
    (decide (IntKind.i64.wrap ((↑k : Int) - 1) < (↑(List.map encS l).length : Int)), true),
    (((List.map encS l).getD (IntKind.i64.wrap ((↑k : Int) - 1)).toNat V.undef).cells.length == 5 && fitP [TK.int IntKind.i64, TK.int IntKind.u64, TK.int IntKind.i64, TK.int IntKind.i64, TK.int IntKind.u64] 0 ((List.map encS l).getD (IntKind.i64.wrap ((↑k : Int) - 1)).toNat V.undef), true),
    (decide (Fd.s2 l k < Fd.lo l (IntKind.i64.wrap ((↑k : Int) - 1))), true)] [2, 0, 3, 4, 5, 0, 0, 0, 6, 7, 8, 8, 8, 8, 8, 8, 9, 10, 11, 8, 8, 8, 8, 12] (r := (Ex.ret, { env := [(4, V.int IntKind.i64 (↑k : Int)), (5, V.int IntKind.i64 11)], heap := [B.cells [V.int IntKind.u64 key, V.int IntKind.u64 la, V.bool true], B.cells [V.int IntKind.i64 (Fd.s0 l k), V.int IntKind.u64 (Fd.s1 l k), V.int IntKind.i64 (Fd.s2 l k), V.int IntKind.i64 (Fd.s3 l k), V.int IntKind.u64 (Fd.sn l k)]] })) (by kernel_rfl) (by simp) ?_⟩
        refine ⟨?_, ?_, ?_, ?_, ?_, ?_, ?_, ?_, ?_, ?_, ?_, trivial⟩
        all_goals first
              | assumption
              | (simp; omega)
              | (simp [encS, fitP, fld, leafFits, V.cells, hk]; done)
              | (rw [hp1]; simp; omega)
              | (simp only [hp1, hp2, List.length_map]; simp; omega)
              | (simp only [hp2]; simp [encS, fitP, fld, leafFits, V.cells, hkm]; done)
      | false =>
      rw [q5, if_neg (by simp)] at hb
      cases q6 : (Fd.sn l k != Fd.sgn key la (Fd.s0 l k) (Fd.s1 l k) (Fd.s2 l k) (Fd.s3 l k)) with
      | true =>
        rw [q6, if_pos rfl] at hb
        rw [← hpl, hb, if_neg (by decide)]
        refine ⟨fun h => (by cases h), fun _ => ?_, fun h => (by cases h)⟩
        refine ⟨_, _, LRuns.last (F := F) U44_ok (sh := Sh) (L := fun _ _ => .fail) (LGood.none (by kernel_rfl)) [(decide ((↑k : Int) < (↑l.length : Int)), true),
    (decide ((↑k : Int) < (↑(List.map encS l).length : Int)), true),
    (((List.map encS l).getD k V.undef).cells.length == 5 && fitP [TK.int IntKind.i64, TK.int IntKind.u64, TK.int IntKind.i64, TK.int IntKind.i64, TK.int IntKind.u64] 0 ((List.map encS l).getD k V.undef), true),
    (Fd.s0 l k != (↑k : Int), false),
    (!P.win 1000000000000000 [Fd.s2 l k, Fd.s3 l k], false),
    (decide (Fd.s2 l k > Fd.s3 l k), false),
    (decide ((↑k : Int) > 0), true),
    (decide (0 ≤ IntKind.i64.wrap ((↑k : Int) - 1)), true),
    (decide (IntKind.i64.wrap ((↑k : Int) - 1) < (↑(List.map encS l).length : Int)), true),
    (((List.map encS l).getD (IntKind.i64.wrap ((↑k : Int) - 1)).toNat V.undef).cells.length == 5 && fitP [TK.int IntKind.i64, TK.int IntKind.u64, TK.int IntKind.i64, TK.int IntKind.i64, TK.int IntKind.u64] 0 ((List.map encS l).getD (IntKind.i64.wrap ((↑k : Int) - 1)).toNat V.undef), true),
    (decide (Fd.s2 l k < Fd.lo l (IntKind.i64.wrap ((↑k : Int) - 1))), false),
    (Fd.sn l k != Fd.sgn key la (Fd.s0 l k) (Fd.s1 l k) (Fd.s2 l k) (Fd.s3 l k), true)] [2, 0, 3, 4, 5, 0, 0, 0, 6, 7, 8, 8, 8, 8, 8, 8, 9, 10, 11, 8, 8, 8, 8, 12, 0, 0, 0, 0, 0, 1, 13] (r := (Ex.ret, { env := [(4, V.int IntKind.i64 (↑k : Int)), (5, V.int IntKind.i64 7)], heap := [B.cells [V.int IntKind.u64 key, V.int IntKind.u64 (Fd.sgn key la (Fd.s0 l k) (Fd.s1 l k) (Fd.s2 l k) (Fd.s3 l k)), V.bool true], B.cells [V.int IntKind.i64 (Fd.s0 l k), V.int IntKind.u64 (Fd.s1 l k), V.int IntKind.i64 (Fd.s2 l k), V.int IntKind.i64 (Fd.s3 l k), V.int IntKind.u64 (Fd.sn l k)]] })) (by kernel_rfl) (by simp) ?_⟩
        refine ⟨?_, ?_, ?_, ?_, ?_, ?_, ?_, ?_, ?_, ?_, ?_, ?_, trivial⟩
        all_goals first
              | assumption
              | (simp; omega)
              | (simp [encS, fitP, fld, leafFits, V.cells, hk]; done)
              | (rw [hp1]; simp; omega)
              | (simp only [hp1, hp2, List.length_map]; simp; omega)
              | (simp only [hp2]; simp [encS, fitP, fld, leafFits, V.cells, hkm]; done)
      | false =>
        rw [q6, if_neg (by simp)] at hb
        rw [← hpl, hb, if_pos rfl]
        have hsg : Fd.sgn key la (Fd.s0 l k) (Fd.s1 l k) (Fd.s2 l k) (Fd.s3 l k) = l[k].sgn := by rw [← g4]; exact (by simpa using q6 : Fd.sn l k = _).symm
        have hn : ∀ r, LRuns (vstep T (vlim T F) lplim fi17.cx 1 (lb fi17 0)) (vst key n l (k + 1 : Nat) l[k].sgn) r → LRuns (vstep T (vlim T F) lplim fi17.cx 1 (lb fi17 0)) (vst key n l k la) r := fun r hr => by
          refine LRuns.next (F := F) U44_ok (sh := Sh) (L := fun _ _ => .fail) (LGood.none (by kernel_rfl)) [(decide ((↑k : Int) < (↑l.length : Int)), true),
    (decide ((↑k : Int) < (↑(List.map encS l).length : Int)), true),
    (((List.map encS l).getD k V.undef).cells.length == 5 && fitP [TK.int IntKind.i64, TK.int IntKind.u64, TK.int IntKind.i64, TK.int IntKind.i64, TK.int IntKind.u64] 0 ((List.map encS l).getD k V.undef), true),
    (Fd.s0 l k != (↑k : Int), false),
    (!P.win 1000000000000000 [Fd.s2 l k, Fd.s3 l k], false),
    (decide (Fd.s2 l k > Fd.s3 l k), false),
    (decide ((↑k : Int) > 0), true),
    (decide (0 ≤ IntKind.i64.wrap ((↑k : Int) - 1)), true),
    (decide (IntKind.i64.wrap ((↑k : Int) - 1) < (↑(List.map encS l).length : Int)), true),
    (((List.map encS l).getD (IntKind.i64.wrap ((↑k : Int) - 1)).toNat V.undef).cells.length == 5 && fitP [TK.int IntKind.i64, TK.int IntKind.u64, TK.int IntKind.i64, TK.int IntKind.i64, TK.int IntKind.u64] 0 ((List.map encS l).getD (IntKind.i64.wrap ((↑k : Int) - 1)).toNat V.undef), true),
    (decide (Fd.s2 l k < Fd.lo l (IntKind.i64.wrap ((↑k : Int) - 1))), false),
    (Fd.sn l k != Fd.sgn key la (Fd.s0 l k) (Fd.s1 l k) (Fd.s2 l k) (Fd.s3 l k), false)] [2, 0, 3, 4, 5, 0, 0, 0, 6, 7, 8, 8, 8, 8, 8, 8, 9, 10, 11, 8, 8, 8, 8, 12, 0, 0, 0, 0, 0, 1, 13] (τ' := { env := [(1, V.sl n (List.map encS l)), (6, V.ptr 0 0), (14, V.sl n (List.map encS l)), (15, V.int IntKind.i64 (↑l.length : Int)), (16, V.int IntKind.i64 (IntKind.i64.wrap ((↑k : Int) + 1)))], heap := [B.cells [V.int IntKind.u64 key, V.int IntKind.u64 (Fd.sgn key la (Fd.s0 l k) (Fd.s1 l k) (Fd.s2 l k) (Fd.s3 l k)), V.bool true]] }) (by kernel_rfl) ?_ ?_
          · refine ⟨?_, ?_, ?_, ?_, ?_, ?_, ?_, ?_, ?_, ?_, ?_, ?_, trivial⟩
            all_goals first
              | assumption
              | (simp; omega)
              | (simp [encS, fitP, fld, leafFits, V.cells, hk]; done)
              | (rw [hp1]; simp; omega)
              | (simp only [hp1, hp2, List.length_map]; simp; omega)
              | (simp only [hp2]; simp [encS, fitP, fld, leafFits, V.cells, hkm]; done)
          · rw [hw, hsg]; exact hr
        exact ⟨fun h => (ih.1 h).imp fun _ hr => hn _ hr, fun h => (ih.2.1 h).imp fun _ hr => hr.imp fun _ hr => hn _ hr, ih.2.2⟩
    · have hp1 := trivial
      have hp2 := trivial
      have hkp : decide ((k : Int) > 0) = false := by simp; omega
      rw [hkp, Bool.false_and, if_neg (by simp)] at hb
      cases q6 : (Fd.sn l k != Fd.sgn key la (Fd.s0 l k) (Fd.s1 l k) (Fd.s2 l k) (Fd.s3 l k)) with
      | true =>
        rw [q6, if_pos rfl] at hb
        rw [hb, if_neg (by decide)]
        refine ⟨fun h => (by cases h), fun _ => ?_, fun h => (by cases h)⟩
        refine ⟨_, _, LRuns.last (F := F) U44_ok (sh := Sh) (L := fun _ _ => .fail) (LGood.none (by kernel_rfl)) [(decide ((↑k : Int) < (↑l.length : Int)), true),
    (decide ((↑k : Int) < (↑(List.map encS l).length : Int)), true),
    (((List.map encS l).getD k V.undef).cells.length == 5 && fitP [TK.int IntKind.i64, TK.int IntKind.u64, TK.int IntKind.i64, TK.int IntKind.i64, TK.int IntKind.u64] 0 ((List.map encS l).getD k V.undef), true),
    (Fd.s0 l k != (↑k : Int), false),
    (!P.win 1000000000000000 [Fd.s2 l k, Fd.s3 l k], false),
    (decide (Fd.s2 l k > Fd.s3 l k), false),
    (decide ((↑k : Int) > 0), false),
    (Fd.sn l k != Fd.sgn key la (Fd.s0 l k) (Fd.s1 l k) (Fd.s2 l k) (Fd.s3 l k), true)] [2, 0, 3, 4, 5, 0, 0, 0, 6, 7, 8, 8, 8, 8, 8, 8, 8, 8, 8, 8, 1, 0, 0, 0, 0, 0, 1, 9] (r := (Ex.ret, { env := [(4, V.int IntKind.i64 (↑k : Int)), (5, V.int IntKind.i64 7)], heap := [B.cells [V.int IntKind.u64 key, V.int IntKind.u64 (Fd.sgn key la (Fd.s0 l k) (Fd.s1 l k) (Fd.s2 l k) (Fd.s3 l k)), V.bool true], B.cells [V.int IntKind.i64 (Fd.s0 l k), V.int IntKind.u64 (Fd.s1 l k), V.int IntKind.i64 (Fd.s2 l k), V.int IntKind.i64 (Fd.s3 l k), V.int IntKind.u64 (Fd.sn l k)]] })) (by kernel_rfl) (by simp) ?_⟩
        refine ⟨?_, ?_, ?_, ?_, ?_, ?_, ?_, ?_, trivial⟩
        all_goals first
              | assumption
              | (simp; omega)
              | (simp [encS, fitP, fld, leafFits, V.cells, hk]; done)
              | (rw [hp1]; simp; omega)
              | (simp only [hp1, hp2, List.length_map]; simp; omega)
              | (simp only [hp2]; simp [encS, fitP, fld, leafFits, V.cells, hkm]; done)
      | false =>
        rw [q6, if_neg (by simp)] at hb
        rw [hb, if_pos rfl]
        have hsg : Fd.sgn key la (Fd.s0 l k) (Fd.s1 l k) (Fd.s2 l k) (Fd.s3 l k) = l[k].sgn := by rw [← g4]; exact (by simpa using q6 : Fd.sn l k = _).symm
        have hn : ∀ r, LRuns (vstep T (vlim T F) lplim fi17.cx 1 (lb fi17 0)) (vst key n l (k + 1 : Nat) l[k].sgn) r → LRuns (vstep T (vlim T F) lplim fi17.cx 1 (lb fi17 0)) (vst key n l k la) r := fun r hr => by
          refine LRuns.next (F := F) U44_ok (sh := Sh) (L := fun _ _ => .fail) (LGood.none (by kernel_rfl)) [(decide ((↑k : Int) < (↑l.length : Int)), true),
    (decide ((↑k : Int) < (↑(List.map encS l).length : Int)), true),
    (((List.map encS l).getD k V.undef).cells.length == 5 && fitP [TK.int IntKind.i64, TK.int IntKind.u64, TK.int IntKind.i64, TK.int IntKind.i64, TK.int IntKind.u64] 0 ((List.map encS l).getD k V.undef), true),
    (Fd.s0 l k != (↑k : Int), false),
    (!P.win 1000000000000000 [Fd.s2 l k, Fd.s3 l k], false),
    (decide (Fd.s2 l k > Fd.s3 l k), false),
    (decide ((↑k : Int) > 0), false),
    (Fd.sn l k != Fd.sgn key la (Fd.s0 l k) (Fd.s1 l k) (Fd.s2 l k) (Fd.s3 l k), false)] [2, 0, 3, 4, 5, 0, 0, 0, 6, 7, 8, 8, 8, 8, 8, 8, 8, 8, 8, 8, 1, 0, 0, 0, 0, 0, 1, 9] (τ' := { env := [(1, V.sl n (List.map encS l)), (6, V.ptr 0 0), (14, V.sl n (List.map encS l)), (15, V.int IntKind.i64 (↑l.length : Int)), (16, V.int IntKind.i64 (IntKind.i64.wrap ((↑k : Int) + 1)))], heap := [B.cells [V.int IntKind.u64 key, V.int IntKind.u64 (Fd.sgn key la (Fd.s0 l k) (Fd.s1 l k) (Fd.s2 l k) (Fd.s3 l k)), V.bool true]] }) (by kernel_rfl) ?_ ?_
          · refine ⟨?_, ?_, ?_, ?_, ?_, ?_, ?_, ?_, trivial⟩
            all_goals first
              | assumption
              | (simp; omega)
              | (simp [encS, fitP, fld, leafFits, V.cells, hk]; done)
              | (rw [hp1]; simp; omega)
              | (simp only [hp1, hp2, List.length_map]; simp; omega)
              | (simp only [hp2]; simp [encS, fitP, fld, leafFits, V.cells, hkm]; done)
          · rw [hw, hsg]; exact hr
        exact ⟨fun h => (ih.1 h).imp fun _ hr => hn _ hr, fun h => (ih.2.1 h).imp fun _ hr => hr.imp fun _ hr => hn _ hr, ih.2.2⟩
theorem win_pair {a b : Int} : P.win 1000000000000000 [a, b] = (decide (a ≥ 0) && decide (a ≤ 1000000000000000) && (decide (b ≥ 0) && decide (b ≤ 1000000000000000))) := by simp [P.win]
theorem vrr_loop (key : Int) (n : Bool) (l : List Stp) (hl : l.length ≤ 1000) : ∀ (m k : Nat) (la : Int), k + m = l.length →
    ((verN key l m k la).2 = 0 → ∃ la', LRuns (vstep T (vlim T F) lplim fi62.cx 0 (lb fi62 0)) (vrS key n l la k) (.exit 0, ⟨(vrS key n l la' l.length).env ++ [(17, .bool false)], []⟩)) ∧
    ((verN key l m k la).2 ≠ 0 → ∃ c1, LRuns (vstep T (vlim T F) lplim fi62.cx 0 (lb fi62 0)) (vrS key n l la k) (.ret, ⟨[(4, .int .i64 (verN key l m k la).1), (5, .int .i64 (verN key l m k la).2)], [.cells c1]⟩))
  | 0, k, la, hd => by
    have hk : k = l.length := by omega
    subst hk
    refine ⟨fun _ => ⟨la, ?_⟩, fun h => absurd rfl h⟩
    have := LRuns.last (F := F) U91_ok (sh := Sh) (L := fun _ _ => .fail) (n := 0) (b := lb fi62 0) (cx := fi62.cx) (τ := vrS key n l la l.length) (LGood.none (by kernel_rfl)) [(decide ((l.length : Int) < ((l.map encS).length : Int)), false)] [2]
      (r := (.exit 0, ⟨(vrS key n l la l.length).env ++ [(17, .bool (decide ((l.length : Int) < ((l.map encS).length : Int))))], []⟩)) (by kernel_rfl) (by simp) ⟨by simp, trivial⟩
    simpa using this
  | m + 1, k, la, hd => by
    have hk : k < l.length := by omega
    have hkm : k - 1 < l.length := by omega
    have hw := len_wrap (k := k) (by omega)
    have g0 := s0_at l k hk
    have g1 := s1_at l k hk
    have g2 := s2_at l k hk
    have g3 := s3_at l k hk
    have g4 := sn_at l k hk
    have hp : 0 < k → IntKind.i64.wrap ((k : Int) - 1) = ((k - 1 : Nat) : Int) := fun h => by rw [i64in (by omega) (by omega)]; omega
    have ih := vrr_loop key n l hl m (k + 1) l[k].sgn (by omega)
    have hv : verN key l (m + 1) k la = if vbad key k la (l.getD (k - 1) noS).lo l[k] = 0 then verN key l m (k + 1) l[k].sgn else (k, vbad key k la (l.getD (k - 1) noS).lo l[k]) := by
      simp only [verN, getD_at hk]
    have hb : vbad key k la (l.getD (k - 1) noS).lo l[k] = if Fd.s0 l k != (k : Int) then 110 else if !(decide (Fd.s2 l k ≥ 0) && decide (Fd.s2 l k ≤ 1000000000000000) && (decide (Fd.s3 l k ≥ 0) && decide (Fd.s3 l k ≤ 1000000000000000))) then 6 else if decide (Fd.s2 l k > Fd.s3 l k) then 12 else if decide ((k : Int) > 0) && decide (Fd.s2 l k < (l.getD (k - 1) noS).lo) then 11 else if Fd.sn l k != Fd.sgn key la (Fd.s0 l k) (Fd.s1 l k) (Fd.s2 l k) (Fd.s3 l k) then 7 else 0 := by
      rw [g0, g1, g2, g3, g4, ← win_pair]; rfl
    rw [hv]
    cases q1 : (Fd.s0 l k != (k : Int)) with
    | true =>
      rw [q1, if_pos rfl] at hb
      rw [hb, if_neg (by decide)]
      refine ⟨fun h => (by cases h), fun _ => ?_⟩
      refine ⟨_, LRuns.last (F := F) U91_ok (sh := Sh) (L := fun _ _ => .fail) (LGood.none (by kernel_rfl)) [(decide ((↑k : Int) < (↑(List.map encS l).length : Int)), true),
    (((List.map encS l).getD k V.undef).cells.length == 5 && fitP [TK.int IntKind.i64, TK.int IntKind.u64, TK.int IntKind.i64, TK.int IntKind.i64, TK.int IntKind.u64] 0 ((List.map encS l).getD k V.undef), true),
    (Fd.s0 l k != (↑k : Int), true)] [2, 0, 2, 3, 4] (r := (Ex.ret, { env := [(4, V.int IntKind.i64 (↑k : Int)), (5, V.int IntKind.i64 110)], heap := [B.cells [V.int IntKind.i64 (Fd.s0 l k), V.int IntKind.u64 (Fd.s1 l k), V.int IntKind.i64 (Fd.s2 l k), V.int IntKind.i64 (Fd.s3 l k), V.int IntKind.u64 (Fd.sn l k)]] })) (by kernel_rfl) (by simp) ?_⟩
      have hp1 := trivial; have hp2 := trivial; have q3 := trivial; have q4 := trivial; have q5 := trivial; have q6 := trivial
      refine ⟨?_, ?_, ?_, trivial⟩
      all_goals first
              | assumption
              | (rw [q3]; rfl)
              | (rw [q4]; rfl)
              | (rw [q5]; rfl)
              | (rw [q6]; rfl)
              | (simp; omega)
              | (simp [encS, fitP, fld, leafFits, V.cells, hk]; done)
              | (rw [hp1]; simp; omega)
              | (simp only [hp1, hp2, List.length_map]; simp; omega)
              | (simp only [hp2]; simp [encS, fitP, fld, leafFits, V.cells, hkm]; done)
    | false =>
    rw [q1, if_neg (by simp)] at hb
    cases q3 : decide (Fd.s2 l k ≥ 0) with
    | false =>
      rw [q3] at hb
      rw [hb, Bool.false_and, Bool.false_and, Bool.not_false, if_pos rfl, if_neg (by decide)]
      refine ⟨fun h => (by cases h), fun _ => ?_⟩
      refine ⟨_, LRuns.last (F := F) U91_ok (sh := Sh) (L := fun _ _ => .fail) (LGood.none (by kernel_rfl)) [(decide ((↑k : Int) < (↑(List.map encS l).length : Int)), true),
    (((List.map encS l).getD k V.undef).cells.length == 5 && fitP [TK.int IntKind.i64, TK.int IntKind.u64, TK.int IntKind.i64, TK.int IntKind.i64, TK.int IntKind.u64] 0 ((List.map encS l).getD k V.undef), true),
    (Fd.s0 l k != (↑k : Int), false),
    (decide (Fd.s2 l k ≥ 0), false)] [2, 0, 2, 3, 4, 5, 5, 5, 5, 0, 0, 0, 0, 0, 0] (r := (Ex.ret, { env := [(4, V.int IntKind.i64 (↑k : Int)), (5, V.int IntKind.i64 6)], heap := [B.cells [V.int IntKind.i64 (Fd.s0 l k), V.int IntKind.u64 (Fd.s1 l k), V.int IntKind.i64 (Fd.s2 l k), V.int IntKind.i64 (Fd.s3 l k), V.int IntKind.u64 (Fd.sn l k)]] })) (by kernel_rfl) (by simp) ?_⟩
      have hp1 := trivial; have hp2 := trivial; have q4 := trivial; have q5 := trivial; have q6 := trivial
      refine ⟨?_, ?_, ?_, ?_, trivial⟩
      all_goals first
              | assumption
              | (rw [q3]; rfl)
              | (rw [q4]; rfl)
              | (rw [q5]; rfl)
              | (rw [q6]; rfl)
              | (simp; omega)
              | (simp [encS, fitP, fld, leafFits, V.cells, hk]; done)
              | (rw [hp1]; simp; omega)
              | (simp only [hp1, hp2, List.length_map]; simp; omega)
              | (simp only [hp2]; simp [encS, fitP, fld, leafFits, V.cells, hkm]; done)
    | true =>
    rw [q3, Bool.true_and] at hb
    cases q4 : decide (Fd.s2 l k ≤ 1000000000000000) with
    | false =>
      rw [q4] at hb
      rw [hb, Bool.false_and, Bool.not_false, if_pos rfl, if_neg (by decide)]
      refine ⟨fun h => (by cases h), fun _ => ?_⟩
      refine ⟨_, LRuns.last (F := F) U91_ok (sh := Sh) (L := fun _ _ => .fail) (LGood.none (by kernel_rfl)) [(decide ((↑k : Int) < (↑(List.map encS l).length : Int)), true),
    (((List.map encS l).getD k V.undef).cells.length == 5 && fitP [TK.int IntKind.i64, TK.int IntKind.u64, TK.int IntKind.i64, TK.int IntKind.i64, TK.int IntKind.u64] 0 ((List.map encS l).getD k V.undef), true),
    (Fd.s0 l k != (↑k : Int), false),
    (decide (Fd.s2 l k ≥ 0), true),
    (!decide (Fd.s2 l k ≤ 1000000000000000), true)] [2, 0, 2, 3, 4, 5, 5, 5, 5, 6, 6, 6, 6, 6, 0] (r := (Ex.ret, { env := [(4, V.int IntKind.i64 (↑k : Int)), (5, V.int IntKind.i64 6)], heap := [B.cells [V.int IntKind.i64 (Fd.s0 l k), V.int IntKind.u64 (Fd.s1 l k), V.int IntKind.i64 (Fd.s2 l k), V.int IntKind.i64 (Fd.s3 l k), V.int IntKind.u64 (Fd.sn l k)]] })) (by kernel_rfl) (by simp) ?_⟩
      have hp1 := trivial; have hp2 := trivial; have q5 := trivial; have q6 := trivial
      refine ⟨?_, ?_, ?_, ?_, ?_, trivial⟩
      all_goals first
              | assumption
              | (rw [q3]; rfl)
              | (rw [q4]; rfl)
              | (rw [q5]; rfl)
              | (rw [q6]; rfl)
              | (simp; omega)
              | (simp [encS, fitP, fld, leafFits, V.cells, hk]; done)
              | (rw [hp1]; simp; omega)
              | (simp only [hp1, hp2, List.length_map]; simp; omega)
              | (simp only [hp2]; simp [encS, fitP, fld, leafFits, V.cells, hkm]; done)
    | true =>
    rw [q4, Bool.true_and] at hb
    cases q5 : decide (Fd.s3 l k ≥ 0) with
    | false =>
      rw [q5] at hb
      rw [hb, Bool.false_and, Bool.not_false, if_pos rfl, if_neg (by decide)]
      refine ⟨fun h => (by cases h), fun _ => ?_⟩
      refine ⟨_, LRuns.last (F := F) U91_ok (sh := Sh) (L := fun _ _ => .fail) (LGood.none (by kernel_rfl)) [(decide ((↑k : Int) < (↑(List.map encS l).length : Int)), true),
    (((List.map encS l).getD k V.undef).cells.length == 5 && fitP [TK.int IntKind.i64, TK.int IntKind.u64, TK.int IntKind.i64, TK.int IntKind.i64, TK.int IntKind.u64] 0 ((List.map encS l).getD k V.undef), true),
    (Fd.s0 l k != (↑k : Int), false),
    (decide (Fd.s2 l k ≥ 0), true),
    (!decide (Fd.s2 l k ≤ 1000000000000000), false),
    (decide (Fd.s3 l k ≥ 0), false)] [2, 0, 2, 3, 4, 5, 5, 5, 5, 6, 6, 6, 7, 7, 7, 7, 6, 6, 0] (r := (Ex.ret, { env := [(4, V.int IntKind.i64 (↑k : Int)), (5, V.int IntKind.i64 6)], heap := [B.cells [V.int IntKind.i64 (Fd.s0 l k), V.int IntKind.u64 (Fd.s1 l k), V.int IntKind.i64 (Fd.s2 l k), V.int IntKind.i64 (Fd.s3 l k), V.int IntKind.u64 (Fd.sn l k)]] })) (by kernel_rfl) (by simp) ?_⟩
      have hp1 := trivial; have hp2 := trivial; have q6 := trivial
      refine ⟨?_, ?_, ?_, ?_, ?_, ?_, trivial⟩
      all_goals first
              | assumption
              | (rw [q3]; rfl)
              | (rw [q4]; rfl)
              | (rw [q5]; rfl)
              | (rw [q6]; rfl)
              | (simp; omega)
              | (simp [encS, fitP, fld, leafFits, V.cells, hk]; done)
              | (rw [hp1]; simp; omega)
              | (simp only [hp1, hp2, List.length_map]; simp; omega)
              | (simp only [hp2]; simp [encS, fitP, fld, leafFits, V.cells, hkm]; done)
    | true =>
    rw [q5, Bool.true_and] at hb
    cases q6 : decide (Fd.s3 l k ≤ 1000000000000000) with
    | false =>
      rw [q6] at hb
      rw [hb, Bool.not_false, if_pos rfl, if_neg (by decide)]
      refine ⟨fun h => (by cases h), fun _ => ?_⟩
      refine ⟨_, LRuns.last (F := F) U91_ok (sh := Sh) (L := fun _ _ => .fail) (LGood.none (by kernel_rfl)) [(decide ((↑k : Int) < (↑(List.map encS l).length : Int)), true),
    (((List.map encS l).getD k V.undef).cells.length == 5 && fitP [TK.int IntKind.i64, TK.int IntKind.u64, TK.int IntKind.i64, TK.int IntKind.i64, TK.int IntKind.u64] 0 ((List.map encS l).getD k V.undef), true),
    (Fd.s0 l k != (↑k : Int), false),
    (decide (Fd.s2 l k ≥ 0), true),
    (!decide (Fd.s2 l k ≤ 1000000000000000), false),
    (decide (Fd.s3 l k ≥ 0), true),
    (!decide (Fd.s3 l k ≤ 1000000000000000), true)] [2, 0, 2, 3, 4, 5, 5, 5, 5, 6, 6, 6, 7, 7, 7, 7, 6, 6, 8] (r := (Ex.ret, { env := [(4, V.int IntKind.i64 (↑k : Int)), (5, V.int IntKind.i64 6)], heap := [B.cells [V.int IntKind.i64 (Fd.s0 l k), V.int IntKind.u64 (Fd.s1 l k), V.int IntKind.i64 (Fd.s2 l k), V.int IntKind.i64 (Fd.s3 l k), V.int IntKind.u64 (Fd.sn l k)]] })) (by kernel_rfl) (by simp) ?_⟩
      have hp1 := trivial; have hp2 := trivial
      refine ⟨?_, ?_, ?_, ?_, ?_, ?_, ?_, trivial⟩
      all_goals first
              | assumption
              | (rw [q3]; rfl)
              | (rw [q4]; rfl)
              | (rw [q5]; rfl)
              | (rw [q6]; rfl)
              | (simp; omega)
              | (simp [encS, fitP, fld, leafFits, V.cells, hk]; done)
              | (rw [hp1]; simp; omega)
              | (simp only [hp1, hp2, List.length_map]; simp; omega)
              | (simp only [hp2]; simp [encS, fitP, fld, leafFits, V.cells, hkm]; done)
    | true =>
    rw [q6, Bool.not_true, if_neg (by simp)] at hb
    cases q7 : decide (Fd.s2 l k > Fd.s3 l k) with
    | true =>
      rw [q7, if_pos rfl] at hb
      rw [hb, if_neg (by decide)]
      refine ⟨fun h => (by cases h), fun _ => ?_⟩
      refine ⟨_, LRuns.last (F := F) U91_ok (sh := Sh) (L := fun _ _ => .fail) (LGood.none (by kernel_rfl)) [(decide ((↑k : Int) < (↑(List.map encS l).length : Int)), true),
    (((List.map encS l).getD k V.undef).cells.length == 5 && fitP [TK.int IntKind.i64, TK.int IntKind.u64, TK.int IntKind.i64, TK.int IntKind.i64, TK.int IntKind.u64] 0 ((List.map encS l).getD k V.undef), true),
    (Fd.s0 l k != (↑k : Int), false),
    (decide (Fd.s2 l k ≥ 0), true),
    (!decide (Fd.s2 l k ≤ 1000000000000000), false),
    (decide (Fd.s3 l k ≥ 0), true),
    (!decide (Fd.s3 l k ≤ 1000000000000000), false),
    (decide (Fd.s2 l k > Fd.s3 l k), true)] [2, 0, 2, 3, 4, 5, 5, 5, 5, 6, 6, 6, 7, 7, 7, 7, 6, 6, 8, 9] (r := (Ex.ret, { env := [(4, V.int IntKind.i64 (↑k : Int)), (5, V.int IntKind.i64 12)], heap := [B.cells [V.int IntKind.i64 (Fd.s0 l k), V.int IntKind.u64 (Fd.s1 l k), V.int IntKind.i64 (Fd.s2 l k), V.int IntKind.i64 (Fd.s3 l k), V.int IntKind.u64 (Fd.sn l k)]] })) (by kernel_rfl) (by simp) ?_⟩
      have hp1 := trivial; have hp2 := trivial
      refine ⟨?_, ?_, ?_, ?_, ?_, ?_, ?_, ?_, trivial⟩
      all_goals first
              | assumption
              | (rw [q3]; rfl)
              | (rw [q4]; rfl)
              | (rw [q5]; rfl)
              | (rw [q6]; rfl)
              | (simp; omega)
              | (simp [encS, fitP, fld, leafFits, V.cells, hk]; done)
              | (rw [hp1]; simp; omega)
              | (simp only [hp1, hp2, List.length_map]; simp; omega)
              | (simp only [hp2]; simp [encS, fitP, fld, leafFits, V.cells, hkm]; done)
    | false =>
    rw [q7, if_neg (by simp)] at hb
    by_cases hk0 : 0 < k
    · have hp1 := hp hk0
      have hp2 : (IntKind.i64.wrap ((k : Int) - 1)).toNat = k - 1 := by rw [hp1]; omega
      have hpl : Fd.lo l (IntKind.i64.wrap ((k : Int) - 1)) = (l.getD (k - 1) noS).lo := by rw [hp1, lo_at l (k - 1) hkm, getD_at hkm]
      rw [← hpl] at hb
      have hkp : decide ((k : Int) > 0) = true := by simp; omega
      rw [hkp, Bool.true_and] at hb
      cases q8 : decide (Fd.s2 l k < Fd.lo l (IntKind.i64.wrap ((k : Int) - 1))) with
      | true =>
        rw [q8, if_pos rfl] at hb
        rw [← hpl, hb, if_neg (by decide)]
        refine ⟨fun h => (by cases h), fun _ => ?_⟩
        refine ⟨_, LRuns.last (F := F) U91_ok (sh := Sh) (L := fun _ _ => .fail) (LGood.none (by kernel_rfl)) [(decide ((↑k : Int) < (↑(List.map encS l).length : Int)), true),
    (((List.map encS l).getD k V.undef).cells.length == 5 && fitP [TK.int IntKind.i64, TK.int IntKind.u64, TK.int IntKind.i64, TK.int IntKind.i64, TK.int IntKind.u64] 0 ((List.map encS l).getD k V.undef), true),
    (Fd.s0 l k != (↑k : Int), false),
    (decide (Fd.s2 l k ≥ 0), true),
    (!decide (Fd.s2 l k ≤ 1000000000000000), false),
    (decide (Fd.s3 l k ≥ 0), true),
    (!decide (Fd.s3 l k ≤ 1000000000000000), false),
    (decide (Fd.s2 l k > Fd.s3 l k), false),
    (decide ((↑k : Int) > 0), true),
    (decide (0 ≤ IntKind.i64.wrap ((↑k : Int) - 1)), true),
    (decide (IntKind.i64.wrap ((↑k : Int) - 1) < (↑(List.map encS l).length : Int)), true),
    (((List.map encS l).getD (IntKind.i64.wrap ((↑k : Int) - 1)).toNat V.undef).cells.length == 5 && fitP [TK.int IntKind.i64, TK.int IntKind.u64, TK.int IntKind.i64, TK.int IntKind.i64, TK.int IntKind.u64] 0 ((List.map encS l).getD (IntKind.i64.wrap ((↑k : Int) - 1)).toNat V.undef), true),
    (decide (Fd.lo l (IntKind.i64.wrap ((↑k : Int) - 1)) > Fd.s2 l k), true)] [2, 0, 2, 3, 4, 5, 5, 5, 5, 6, 6, 6, 7, 7, 7, 7, 6, 6, 8, 9, 10, 10, 10, 10, 11, 12, 13, 10, 10, 10, 10, 10, 10, 14] (r := (Ex.ret, { env := [(4, V.int IntKind.i64 (↑k : Int)), (5, V.int IntKind.i64 11)], heap := [B.cells [V.int IntKind.i64 (Fd.s0 l k), V.int IntKind.u64 (Fd.s1 l k), V.int IntKind.i64 (Fd.s2 l k), V.int IntKind.i64 (Fd.s3 l k), V.int IntKind.u64 (Fd.sn l k)]] })) (by kernel_rfl) (by simp) ?_⟩
        refine ⟨?_, ?_, ?_, ?_, ?_, ?_, ?_, ?_, ?_, ?_, ?_, ?_, ?_, trivial⟩
        all_goals first
              | assumption
              | (rw [q3]; rfl)
              | (rw [q4]; rfl)
              | (rw [q5]; rfl)
              | (rw [q6]; rfl)
              | (simp; omega)
              | (simp [encS, fitP, fld, leafFits, V.cells, hk]; done)
              | (rw [hp1]; simp; omega)
              | (simp only [hp1, hp2, List.length_map]; simp; omega)
              | (simp only [hp2]; simp [encS, fitP, fld, leafFits, V.cells, hkm]; done)
      | false =>
      rw [q8, if_neg (by simp)] at hb
      cases q9 : (Fd.sn l k != Fd.sgn key la (Fd.s0 l k) (Fd.s1 l k) (Fd.s2 l k) (Fd.s3 l k)) with
      | true =>
        have q9' : (Fd.sgn key la (Fd.s0 l k) (Fd.s1 l k) (Fd.s2 l k) (Fd.s3 l k) != Fd.sn l k) = true := by rw [bne_comm]; exact q9
        rw [q9, if_pos rfl] at hb
        rw [← hpl, hb, if_neg (by decide)]
        refine ⟨fun h => (by cases h), fun _ => ?_⟩
        refine ⟨_, LRuns.last (F := F) U91_ok (sh := Sh) (L := fun _ _ => .fail) (LGood.none (by kernel_rfl)) [(decide ((↑k : Int) < (↑(List.map encS l).length : Int)), true),
    (((List.map encS l).getD k V.undef).cells.length == 5 && fitP [TK.int IntKind.i64, TK.int IntKind.u64, TK.int IntKind.i64, TK.int IntKind.i64, TK.int IntKind.u64] 0 ((List.map encS l).getD k V.undef), true),
    (Fd.s0 l k != (↑k : Int), false),
    (decide (Fd.s2 l k ≥ 0), true),
    (!decide (Fd.s2 l k ≤ 1000000000000000), false),
    (decide (Fd.s3 l k ≥ 0), true),
    (!decide (Fd.s3 l k ≤ 1000000000000000), false),
    (decide (Fd.s2 l k > Fd.s3 l k), false),
    (decide ((↑k : Int) > 0), true),
    (decide (0 ≤ IntKind.i64.wrap ((↑k : Int) - 1)), true),
    (decide (IntKind.i64.wrap ((↑k : Int) - 1) < (↑(List.map encS l).length : Int)), true),
    (((List.map encS l).getD (IntKind.i64.wrap ((↑k : Int) - 1)).toNat V.undef).cells.length == 5 && fitP [TK.int IntKind.i64, TK.int IntKind.u64, TK.int IntKind.i64, TK.int IntKind.i64, TK.int IntKind.u64] 0 ((List.map encS l).getD (IntKind.i64.wrap ((↑k : Int) - 1)).toNat V.undef), true),
    (decide (Fd.lo l (IntKind.i64.wrap ((↑k : Int) - 1)) > Fd.s2 l k), false),
    (Fd.sgn key la (Fd.s0 l k) (Fd.s1 l k) (Fd.s2 l k) (Fd.s3 l k) != Fd.sn l k, true)] [2, 0, 2, 3, 4, 5, 5, 5, 5, 6, 6, 6, 7, 7, 7, 7, 6, 6, 8, 9, 10, 10, 10, 10, 11, 12, 13, 10, 10, 10, 10, 10, 10, 14, 15] (r := (Ex.ret, { env := [(4, V.int IntKind.i64 (↑k : Int)), (5, V.int IntKind.i64 7)], heap := [B.cells [V.int IntKind.i64 (Fd.s0 l k), V.int IntKind.u64 (Fd.s1 l k), V.int IntKind.i64 (Fd.s2 l k), V.int IntKind.i64 (Fd.s3 l k), V.int IntKind.u64 (Fd.sn l k)]] })) (by kernel_rfl) (by simp) ?_⟩
        refine ⟨?_, ?_, ?_, ?_, ?_, ?_, ?_, ?_, ?_, ?_, ?_, ?_, ?_, ?_, trivial⟩
        all_goals first
              | assumption
              | (rw [q3]; rfl)
              | (rw [q4]; rfl)
              | (rw [q5]; rfl)
              | (rw [q6]; rfl)
              | (simp; omega)
              | (simp [encS, fitP, fld, leafFits, V.cells, hk]; done)
              | (rw [hp1]; simp; omega)
              | (simp only [hp1, hp2, List.length_map]; simp; omega)
              | (simp only [hp2]; simp [encS, fitP, fld, leafFits, V.cells, hkm]; done)
      | false =>
        have q9' : (Fd.sgn key la (Fd.s0 l k) (Fd.s1 l k) (Fd.s2 l k) (Fd.s3 l k) != Fd.sn l k) = false := by rw [bne_comm]; exact q9
        rw [q9, if_neg (by simp)] at hb
        rw [← hpl, hb, if_pos rfl]
        have hn : ∀ r, LRuns (vstep T (vlim T F) lplim fi62.cx 0 (lb fi62 0)) (vrS key n l l[k].sgn (k + 1 : Nat)) r → LRuns (vstep T (vlim T F) lplim fi62.cx 0 (lb fi62 0)) (vrS key n l la k) r := fun r hr => by
          refine LRuns.next (F := F) U91_ok (sh := Sh) (L := fun _ _ => .fail) (LGood.none (by kernel_rfl)) [(decide ((↑k : Int) < (↑(List.map encS l).length : Int)), true),
    (((List.map encS l).getD k V.undef).cells.length == 5 && fitP [TK.int IntKind.i64, TK.int IntKind.u64, TK.int IntKind.i64, TK.int IntKind.i64, TK.int IntKind.u64] 0 ((List.map encS l).getD k V.undef), true),
    (Fd.s0 l k != (↑k : Int), false),
    (decide (Fd.s2 l k ≥ 0), true),
    (!decide (Fd.s2 l k ≤ 1000000000000000), false),
    (decide (Fd.s3 l k ≥ 0), true),
    (!decide (Fd.s3 l k ≤ 1000000000000000), false),
    (decide (Fd.s2 l k > Fd.s3 l k), false),
    (decide ((↑k : Int) > 0), true),
    (decide (0 ≤ IntKind.i64.wrap ((↑k : Int) - 1)), true),
    (decide (IntKind.i64.wrap ((↑k : Int) - 1) < (↑(List.map encS l).length : Int)), true),
    (((List.map encS l).getD (IntKind.i64.wrap ((↑k : Int) - 1)).toNat V.undef).cells.length == 5 && fitP [TK.int IntKind.i64, TK.int IntKind.u64, TK.int IntKind.i64, TK.int IntKind.i64, TK.int IntKind.u64] 0 ((List.map encS l).getD (IntKind.i64.wrap ((↑k : Int) - 1)).toNat V.undef), true),
    (decide (Fd.lo l (IntKind.i64.wrap ((↑k : Int) - 1)) > Fd.s2 l k), false),
    (Fd.sgn key la (Fd.s0 l k) (Fd.s1 l k) (Fd.s2 l k) (Fd.s3 l k) != Fd.sn l k, false)] [2, 0, 2, 3, 4, 5, 5, 5, 5, 6, 6, 6, 7, 7, 7, 7, 6, 6, 8, 9, 10, 10, 10, 10, 11, 12, 13, 10, 10, 10, 10, 10, 10, 14, 15] (τ' := { env := [(0, V.int IntKind.u64 key), (1, V.sl n (List.map encS l)), (6, V.int IntKind.u64 (Fd.sn l k)), (7, V.int IntKind.i64 (IntKind.i64.wrap ((↑k : Int) + 1)))], heap := [] }) (by kernel_rfl) ?_ ?_
          · refine ⟨?_, ?_, ?_, ?_, ?_, ?_, ?_, ?_, ?_, ?_, ?_, ?_, ?_, ?_, trivial⟩
            all_goals first
              | assumption
              | (rw [q3]; rfl)
              | (rw [q4]; rfl)
              | (rw [q5]; rfl)
              | (rw [q6]; rfl)
              | (simp; omega)
              | (simp [encS, fitP, fld, leafFits, V.cells, hk]; done)
              | (rw [hp1]; simp; omega)
              | (simp only [hp1, hp2, List.length_map]; simp; omega)
              | (simp only [hp2]; simp [encS, fitP, fld, leafFits, V.cells, hkm]; done)
          · rw [hw, g4]; exact hr
        exact ⟨fun h => (ih.1 h).imp fun _ hr => hn _ hr, fun h => (ih.2 h).imp fun _ hr => hn _ hr⟩
    · have hp1 := trivial
      have hp2 := trivial
      have hkp : decide ((k : Int) > 0) = false := by simp; omega
      rw [hkp, Bool.false_and, if_neg (by simp)] at hb
      cases q9 : (Fd.sn l k != Fd.sgn key la (Fd.s0 l k) (Fd.s1 l k) (Fd.s2 l k) (Fd.s3 l k)) with
      | true =>
        have q9' : (Fd.sgn key la (Fd.s0 l k) (Fd.s1 l k) (Fd.s2 l k) (Fd.s3 l k) != Fd.sn l k) = true := by rw [bne_comm]; exact q9
        rw [q9, if_pos rfl] at hb
        rw [hb, if_neg (by decide)]
        refine ⟨fun h => (by cases h), fun _ => ?_⟩
        refine ⟨_, LRuns.last (F := F) U91_ok (sh := Sh) (L := fun _ _ => .fail) (LGood.none (by kernel_rfl)) [(decide ((↑k : Int) < (↑(List.map encS l).length : Int)), true),
    (((List.map encS l).getD k V.undef).cells.length == 5 && fitP [TK.int IntKind.i64, TK.int IntKind.u64, TK.int IntKind.i64, TK.int IntKind.i64, TK.int IntKind.u64] 0 ((List.map encS l).getD k V.undef), true),
    (Fd.s0 l k != (↑k : Int), false),
    (decide (Fd.s2 l k ≥ 0), true),
    (!decide (Fd.s2 l k ≤ 1000000000000000), false),
    (decide (Fd.s3 l k ≥ 0), true),
    (!decide (Fd.s3 l k ≤ 1000000000000000), false),
    (decide (Fd.s2 l k > Fd.s3 l k), false),
    (decide ((↑k : Int) > 0), false),
    (Fd.sgn key la (Fd.s0 l k) (Fd.s1 l k) (Fd.s2 l k) (Fd.s3 l k) != Fd.sn l k, true)] [2, 0, 2, 3, 4, 5, 5, 5, 5, 6, 6, 6, 7, 7, 7, 7, 6, 6, 8, 9, 10, 10, 10, 10, 10, 10, 10, 10, 10, 10, 1, 11] (r := (Ex.ret, { env := [(4, V.int IntKind.i64 (↑k : Int)), (5, V.int IntKind.i64 7)], heap := [B.cells [V.int IntKind.i64 (Fd.s0 l k), V.int IntKind.u64 (Fd.s1 l k), V.int IntKind.i64 (Fd.s2 l k), V.int IntKind.i64 (Fd.s3 l k), V.int IntKind.u64 (Fd.sn l k)]] })) (by kernel_rfl) (by simp) ?_⟩
        refine ⟨?_, ?_, ?_, ?_, ?_, ?_, ?_, ?_, ?_, ?_, trivial⟩
        all_goals first
              | assumption
              | (rw [q3]; rfl)
              | (rw [q4]; rfl)
              | (rw [q5]; rfl)
              | (rw [q6]; rfl)
              | (simp; omega)
              | (simp [encS, fitP, fld, leafFits, V.cells, hk]; done)
              | (rw [hp1]; simp; omega)
              | (simp only [hp1, hp2, List.length_map]; simp; omega)
              | (simp only [hp2]; simp [encS, fitP, fld, leafFits, V.cells, hkm]; done)
      | false =>
        have q9' : (Fd.sgn key la (Fd.s0 l k) (Fd.s1 l k) (Fd.s2 l k) (Fd.s3 l k) != Fd.sn l k) = false := by rw [bne_comm]; exact q9
        rw [q9, if_neg (by simp)] at hb
        rw [hb, if_pos rfl]
        have hn : ∀ r, LRuns (vstep T (vlim T F) lplim fi62.cx 0 (lb fi62 0)) (vrS key n l l[k].sgn (k + 1 : Nat)) r → LRuns (vstep T (vlim T F) lplim fi62.cx 0 (lb fi62 0)) (vrS key n l la k) r := fun r hr => by
          refine LRuns.next (F := F) U91_ok (sh := Sh) (L := fun _ _ => .fail) (LGood.none (by kernel_rfl)) [(decide ((↑k : Int) < (↑(List.map encS l).length : Int)), true),
    (((List.map encS l).getD k V.undef).cells.length == 5 && fitP [TK.int IntKind.i64, TK.int IntKind.u64, TK.int IntKind.i64, TK.int IntKind.i64, TK.int IntKind.u64] 0 ((List.map encS l).getD k V.undef), true),
    (Fd.s0 l k != (↑k : Int), false),
    (decide (Fd.s2 l k ≥ 0), true),
    (!decide (Fd.s2 l k ≤ 1000000000000000), false),
    (decide (Fd.s3 l k ≥ 0), true),
    (!decide (Fd.s3 l k ≤ 1000000000000000), false),
    (decide (Fd.s2 l k > Fd.s3 l k), false),
    (decide ((↑k : Int) > 0), false),
    (Fd.sgn key la (Fd.s0 l k) (Fd.s1 l k) (Fd.s2 l k) (Fd.s3 l k) != Fd.sn l k, false)] [2, 0, 2, 3, 4, 5, 5, 5, 5, 6, 6, 6, 7, 7, 7, 7, 6, 6, 8, 9, 10, 10, 10, 10, 10, 10, 10, 10, 10, 10, 1, 11] (τ' := { env := [(0, V.int IntKind.u64 key), (1, V.sl n (List.map encS l)), (6, V.int IntKind.u64 (Fd.sn l k)), (7, V.int IntKind.i64 (IntKind.i64.wrap ((↑k : Int) + 1)))], heap := [] }) (by kernel_rfl) ?_ ?_
          · refine ⟨?_, ?_, ?_, ?_, ?_, ?_, ?_, ?_, ?_, ?_, trivial⟩
            all_goals first
              | assumption
              | (rw [q3]; rfl)
              | (rw [q4]; rfl)
              | (rw [q5]; rfl)
              | (rw [q6]; rfl)
              | (simp; omega)
              | (simp [encS, fitP, fld, leafFits, V.cells, hk]; done)
              | (rw [hp1]; simp; omega)
              | (simp only [hp1, hp2, List.length_map]; simp; omega)
              | (simp only [hp2]; simp [encS, fitP, fld, leafFits, V.cells, hkm]; done)
          · rw [hw, g4]; exact hr
        exact ⟨fun h => (ih.1 h).imp fun _ hr => hn _ hr, fun h => (ih.2 h).imp fun _ hr => hn _ hr⟩
/-- What Verify tells. -/
def P.vr (key : Int) (l : List Stp) : Int × Int := if l.length > 1000 then (0, 2) else verN key l l.length 0 (P.mix key 3)
theorem vr_runs (key : Int) (n : Bool) (l : List Stp) : Runs T F 17 [.int .u64 key, .sl n (l.map encS)] [] (.tup [.int .i64 (P.vr key l).1, .int .i64 (P.vr key l).2], []) := by
  unfold P.vr
  by_cases hl : l.length > 1000
  · rw [if_pos hl]
    exact Runs.way (F := F) (sh := Sh) (S := U44) U44_ok (fi := fi17) (by kernel_rfl) (L := fun _ _ => .fail) (fun _ _ _ _ h => by cases h) [(decide ((↑(List.map encS l).length : Int) > 1000), true)] [2] (by kernel_rfl) ⟨by simp; omega, trivial⟩
  · rw [if_neg hl]
    have hr := ver_loop key n l (by omega) l.length 0 (P.mix key 3) (by omega)
    generalize verN key l l.length 0 (P.mix key 3) = v at *
    obtain ⟨c, e⟩ := v
    simp only at hr ⊢
    by_cases he : e = 0
    · obtain ⟨la, h1⟩ := hr.1 he
      have h3 := hr.2.2 he
      subst he
      subst h3
      rw [show (l.length : Int) = ((l.map encS).length : Int) by rw [List.length_map]]
      refine Runs.way (F := F) (sh := Sh) (S := U44) U44_ok (fi := fi17) (by kernel_rfl) (LGood.one (b := lb fi17 0) (k := 5) (σ0 := vst key n l 0 (P.mix key 3)) (by kernel_rfl) h1) [(decide ((↑(List.map encS l).length : Int) > 1000), false),
    (is { env := [(1, V.sl n (List.map encS l)), (6, V.ptr 0 0), (14, V.sl n (List.map encS l)), (15, V.int IntKind.i64 (↑(List.map encS l).length : Int)), (16, V.int IntKind.i64 0)], heap := [B.cells [V.int IntKind.u64 key, V.int IntKind.u64 (P.mix key 3), V.bool true]] } { env := [(1, V.sl n (List.map encS l)), (6, V.ptr 0 0), (14, V.sl n (List.map encS l)), (15, V.int IntKind.i64 (↑l.length : Int)), (16, V.int IntKind.i64 0)], heap := [B.cells [V.int IntKind.u64 key, V.int IntKind.u64 (P.mix key 3), V.bool true]] }, true)] [2, 3] (by kernel_rfl) ⟨by simp; omega, is_eq (by simp), trivial⟩
    · obtain ⟨c1, c2, h1⟩ := hr.2.1 he
      exact Runs.way (F := F) (sh := Sh) (S := U44) U44_ok (fi := fi17) (by kernel_rfl) (LGood.one (b := lb fi17 0) (k := 5) (σ0 := vst key n l 0 (P.mix key 3)) (by kernel_rfl) h1) [(decide ((↑(List.map encS l).length : Int) > 1000), false),
    (is { env := [(1, V.sl n (List.map encS l)), (6, V.ptr 0 0), (14, V.sl n (List.map encS l)), (15, V.int IntKind.i64 (↑(List.map encS l).length : Int)), (16, V.int IntKind.i64 0)], heap := [B.cells [V.int IntKind.u64 key, V.int IntKind.u64 (P.mix key 3), V.bool true]] } { env := [(1, V.sl n (List.map encS l)), (6, V.ptr 0 0), (14, V.sl n (List.map encS l)), (15, V.int IntKind.i64 (↑l.length : Int)), (16, V.int IntKind.i64 0)], heap := [B.cells [V.int IntKind.u64 key, V.int IntKind.u64 (P.mix key 3), V.bool true]] }, true)] [2, 3] (by kernel_rfl) ⟨by simp; omega, is_eq (by simp), trivial⟩
theorem vrr_runs (key : Int) (n : Bool) (l : List Stp) : Runs T F 62 [.int .u64 key, .sl n (l.map encS)] [] (.tup [.int .i64 (P.vr key l).1, .int .i64 (P.vr key l).2], []) := by
  unfold P.vr
  by_cases hl : l.length > 1000
  · rw [if_pos hl]
    exact Runs.way (F := F) (sh := Sh) (S := U91) U91_ok (fi := fi62) (by kernel_rfl) (L := fun _ _ => .fail) (fun _ _ _ _ h => by cases h) [(decide ((↑(List.map encS l).length : Int) > 1000), true)] [2] (by kernel_rfl) ⟨by simp; omega, trivial⟩
  · rw [if_neg hl]
    have hr := vrr_loop key n l (by omega) l.length 0 (P.mix key 3) (by omega)
    have hr3 := (ver_loop key n l (by omega) l.length 0 (P.mix key 3) (by omega)).2.2
    generalize verN key l l.length 0 (P.mix key 3) = v at *
    obtain ⟨c, e⟩ := v
    simp only at hr hr3 ⊢
    by_cases he : e = 0
    · obtain ⟨la, h1⟩ := hr.1 he
      have h3 := hr3 he
      subst he
      subst h3
      rw [show (l.length : Int) = ((l.map encS).length : Int) by rw [List.length_map]]
      exact Runs.way (F := F) (sh := Sh) (S := U91) U91_ok (fi := fi62) (by kernel_rfl) (LGood.one (b := lb fi62 0) (k := 5) (σ0 := vrS key n l (P.mix key 3) 0) (by kernel_rfl) h1) [(decide ((↑(List.map encS l).length : Int) > 1000), false),
    (is { env := [(0, V.int IntKind.u64 key), (1, V.sl n (List.map encS l)), (6, V.int IntKind.u64 (P.mix key 3)), (7, V.int IntKind.i64 0)], heap := [] } { env := [(0, V.int IntKind.u64 key), (1, V.sl n (List.map encS l)), (6, V.int IntKind.u64 (P.mix key 3)), (7, V.int IntKind.i64 0)], heap := [] }, true)] [2, 3] (by kernel_rfl) ⟨by simp; omega, is_eq (by simp), trivial⟩
    · obtain ⟨c1, h1⟩ := hr.2 he
      exact Runs.way (F := F) (sh := Sh) (S := U91) U91_ok (fi := fi62) (by kernel_rfl) (LGood.one (b := lb fi62 0) (k := 5) (σ0 := vrS key n l (P.mix key 3) 0) (by kernel_rfl) h1) [(decide ((↑(List.map encS l).length : Int) > 1000), false),
    (is { env := [(0, V.int IntKind.u64 key), (1, V.sl n (List.map encS l)), (6, V.int IntKind.u64 (P.mix key 3)), (7, V.int IntKind.i64 0)], heap := [] } { env := [(0, V.int IntKind.u64 key), (1, V.sl n (List.map encS l)), (6, V.int IntKind.u64 (P.mix key 3)), (7, V.int IntKind.i64 0)], heap := [] }, true)] [2, 3] (by kernel_rfl) ⟨by simp; omega, is_eq (by simp), trivial⟩
noncomputable def verG : List V → Heap → Tr (V × Heap) := fun a H => match a, H with
  | [.int .u64 key, .sl _ xs], [] => .must (eqB xs ((xs.map decS).map encS)) (.ret (.tup [.int .i64 (P.vr key (xs.map decS)).1, .int .i64 (P.vr key (xs.map decS)).2], []))
  | _, _ => .fail
theorem verG_ok : ∀ a H r, (verG a H).run = some r → Runs T F 17 a H r := by
  intro a H r h
  unfold verG at h
  split at h
  · rename_i key n xs
    obtain ⟨h0, h⟩ := Tr.must_some h
    have hr := ret_some h; clear h; subst hr
    have h0 := of_eqB h0
    generalize xs.map decS = l at *
    subst h0
    exact vr_runs key n l
  · cases h
theorem verR_ok : ∀ a H r, (verG a H).run = some r → Runs T F 62 a H r := by
  intro a H r h
  unfold verG at h
  split at h
  · rename_i key n xs
    obtain ⟨h0, h⟩ := Tr.must_some h
    have hr := ret_some h; clear h; subst hr
    have h0 := of_eqB h0
    generalize xs.map decS = l at *
    subst h0
    exact vrr_runs key n l
  · cases h
noncomputable def U62 : Vm.Spec := (U91.add 17 verG).add 62 verG
theorem U62_ok : Vm.Good (vlim T F) U62 := (U91_ok.add verG_ok).add verR_ok
end Go.Proofs.Ytgmdkjiflhklaaa
