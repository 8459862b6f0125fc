/- A2: chains as they are given. -/
import Derived.Test.YtgmdkjiflhklaaaH1
import Derived.Test.YtgmdkjiflhklaaaA4
namespace Go.Proofs.Ytgmdkjiflhklaaa
open Go Go.Vm

/-- The next time, the bound, the reading; the ends of the stamp. -/
def Fd.nx (now b : Int) : Int := IntKind.i64.wrap (now + IntKind.i64.wrap (IntKind.i64.wrap (b.tmod 64) * 10))
def Fd.rd (now b c : Int) : Int := Fd.imax (IntKind.i64.wrap (IntKind.i64.wrap (now - IntKind.i64.wrap b) + IntKind.i64.wrap ((IntKind.i64.wrap (IntKind.i64.wrap (2 * IntKind.i64.wrap b) * IntKind.i64.wrap c)).tdiv 255))) 0
def Fd.glo (r b : Int) : Int := Fd.imax (IntKind.i64.wrap (r - IntKind.i64.wrap b)) 0
def Fd.ghi (r b : Int) : Int := Fd.imin (IntKind.i64.wrap (r + IntKind.i64.wrap b)) 1000000000000000
def chainV (l : List Stp) : V := match l with
  | [] => .sl true []
  | s :: l => .ex 5 false (encS s :: l.map encS)
def gst (key : Int) (n : Bool) (bs : List Int) (l : List Stp) (la : Int) (ts : List Int) (now i : Int) : St :=
  ⟨[(1, V.sl n (bs.map encB)), (7, V.ptr 0 0), (8, V.ex 1 (ts.isEmpty) (ts.map encI)), (9, V.int IntKind.i64 now), (10, V.int IntKind.i64 i)], [B.cells [V.int IntKind.u64 key, V.int IntKind.u64 la, V.bool true, chainV l]]⟩
theorem nx_eq {now b : Int} (h1 : 0 ≤ now) (h2 : now ≤ 100000) (h3 : 0 ≤ b) (h4 : b ≤ 255) : Fd.nx now b = now + b % 64 * 10 := by
  unfold Fd.nx
  rw [Int.tmod_eq_emod_of_nonneg h3, i64in (n := b % 64) (by omega) (by omega), i64in (n := b % 64 * 10) (by omega) (by omega), i64in (by omega) (by omega)]
theorem rd_in {now b c : Int} (h1 : 0 ≤ now) (h2 : now ≤ 100000) (h3 : 0 ≤ b) (h4 : b ≤ 255) (h5 : 0 ≤ c) (h6 : c ≤ 255) : 0 ≤ Fd.rd now b c ∧ now - b ≤ Fd.rd now b c ∧ Fd.rd now b c ≤ now + b := by
  have hm : 2 * b * c ≤ 2 * b * 255 := Int.mul_le_mul_of_nonneg_left h6 (by omega)
  have hm0 : 0 ≤ 2 * b * c := Int.mul_nonneg (by omega) h5
  unfold Fd.rd
  rw [imax_eq, i64in (n := b) (by omega) (by omega), i64in (n := c) (by omega) (by omega), i64in (n := 2 * b) (by omega) (by omega), i64in (n := 2 * b * c) (by omega) (by omega), Int.tdiv_eq_ediv_of_nonneg hm0,
    i64in (n := now - b) (by omega) (by omega), i64in (n := 2 * b * c / 255) (by omega) (by omega), i64in (by omega) (by omega)]
  omega
theorem glo_eq {r b : Int} (h1 : 0 ≤ r) (h2 : r ≤ 200000) (h3 : 0 ≤ b) (h4 : b ≤ 255) : Fd.glo r b = max (r - b) 0 := by
  unfold Fd.glo; rw [imax_eq, i64in (n := b) (by omega) (by omega), i64in (by omega) (by omega)]
theorem ghi_eq {r b : Int} (h1 : 0 ≤ r) (h2 : r ≤ 200000) (h3 : 0 ≤ b) (h4 : b ≤ 255) : Fd.ghi r b = r + b := by
  unfold Fd.ghi; rw [imin_eq, i64in (n := b) (by omega) (by omega), i64in (by omega) (by omega)]; omega

/-- Stamps as they are given at true times; the last sign, the last time. -/
inductive Chain (key : Int) : List Stp → List Int → Int → Int → Prop where
  | nil : Chain key [] [] (P.mix key 3) 0
  | snoc {l : List Stp} {ts : List Int} {la now : Int} (s : Stp) (t : Int) (h : Chain key l ts la now) (h1 : now ≤ t) (h2 : s.ser = l.length) (h3 : s.sgn = Fd.sgn key la s.ser s.doc s.lo s.hi) (h4 : 0 ≤ s.lo) (h5 : s.lo ≤ t) (h6 : t ≤ s.hi)
      (h7 : s.hi ≤ 1000000) (h8 : ∀ (h : 0 < l.length), (l[l.length - 1]'(by omega)).lo ≤ s.lo) : Chain key (l ++ [s]) (ts ++ [t]) s.sgn t

theorem chainV_ne {l : List Stp} (h : 0 < l.length) : chainV l = .ex 5 false (l.map encS) := by
  cases l with
  | nil => simp at h
  | cons s l => rfl
theorem Chain.lens {key : Int} {l : List Stp} {ts : List Int} {la now : Int} (h : Chain key l ts la now) : ts.length = l.length ∧ 0 ≤ now := by
  induction h with
  | nil => exact ⟨rfl, Int.le_refl _⟩
  | snoc s t h h1 _ _ h4 h5 _ _ _ ih => exact ⟨by simp [ih.1], by omega⟩
theorem Chain.last_lo {key : Int} {l : List Stp} {ts : List Int} {la now : Int} (h : Chain key l ts la now) : ∀ (h' : 0 < l.length), (l[l.length - 1]'(by omega)).lo ≤ now := by
  cases h with
  | nil => intro h'; simp at h'
  | snoc s t h h1 _ _ h4 h5 _ _ _ => intro h'; simp; exact h5

theorem given_end (key : Int) (n : Bool) (bs : List Int) (l : List Stp) (la : Int) (ts : List Int) (now : Int) (i : Nat) (h : ¬ (IntKind.i64.wrap ((i : Int) + 2) < bs.length ∧ (i : Int) < 90)) : ∃ b,
    LRuns (vstep T (vlim T F) lplim fi14.cx 1 (lb fi14 0)) (gst key n bs l la ts now i) (.exit 0, ⟨(gst key n bs l la ts now i).env ++ [(25, .bool b)], (gst key n bs l la ts now i).heap⟩) := by
  by_cases h1 : IntKind.i64.wrap ((i : Int) + 2) < bs.length
  · have h2 : ¬ (i : Int) < 90 := fun h2 => h ⟨h1, h2⟩
    refine ⟨_, LRuns.last (F := F) S46_ok (sh := Sh) (L := fun _ _ => .fail) (LGood.none (by kernel_rfl)) [(decide (IntKind.i64.wrap ((i : Int) + 2) < ↑(List.map encB bs).length), true), (decide ((i : Int) < 90), false)] [2, 2, 2, 3]
      (r := (.exit 0, ⟨(gst key n bs l la ts now i).env ++ [(25, .bool (decide ((i : Int) < 90)))], (gst key n bs l la ts now i).heap⟩)) (by kernel_rfl) (by simp) ⟨by simpa using h1, by simpa using h2, trivial⟩⟩
  · exact ⟨_, LRuns.last (F := F) S46_ok (sh := Sh) (L := fun _ _ => .fail) (LGood.none (by kernel_rfl)) [(decide (IntKind.i64.wrap ((i : Int) + 2) < ↑(List.map encB bs).length), false)] [2, 2, 2, 1]
      (r := (.exit 0, ⟨(gst key n bs l la ts now i).env ++ [(25, .bool false)], (gst key n bs l la ts now i).heap⟩)) (by kernel_rfl) (by simp) ⟨by simpa using h1, trivial⟩⟩

theorem given_loop (key : Int) (n : Bool) (bs : List Int) (hb : ∀ x ∈ bs, 0 ≤ x ∧ x ≤ 255) (hbl : bs.length ≤ 9223372036854775807) : ∀ (d i : Nat) (l : List Stp) (la : Int) (ts : List Int) (now : Int), l.length + d = 30 → i = 3 * l.length → Chain key l ts la now → now ≤ 630 * l.length →
    ∃ l' la' ts' now' i' b, l'.length ≤ 30 ∧ Chain key l' ts' la' now' ∧ LRuns (vstep T (vlim T F) lplim fi14.cx 1 (lb fi14 0)) (gst key n bs l la ts now i) (.exit 0, ⟨(gst key n bs l' la' ts' now' i').env ++ [(25, .bool b)], (gst key n bs l' la' ts' now' i').heap⟩)
  | d, i, l, la, ts, now, hd, hi, hc, hn => by
    by_cases hgo : IntKind.i64.wrap ((i : Int) + 2) < bs.length ∧ (i : Int) < 90
    case neg =>
      obtain ⟨b, hb⟩ := given_end key n bs l la ts now i hgo
      exact ⟨l, la, ts, now, i, b, by omega, hc, hb⟩
    obtain ⟨hg1, hg2⟩ := hgo
    match d, hd with
    | 0, hd => omega
    | d + 1, hd =>
    have hw1 : IntKind.i64.wrap ((i : Int) + 1) = ((i + 1 : Nat) : Int) := by rw [i64in (by omega) (by omega)]; rfl
    have hw2 : IntKind.i64.wrap ((i : Int) + 2) = ((i + 2 : Nat) : Int) := by rw [i64in (by omega) (by omega)]; rfl
    have hw3 : IntKind.i64.wrap ((i : Int) + 3) = ((i + 3 : Nat) : Int) := by rw [i64in (by omega) (by omega)]; rfl
    rw [hw2] at hg1
    have k0 : i < bs.length := by omega
    have k1 : i + 1 < bs.length := by omega
    have k2 : i + 2 < bs.length := by omega
    have e0 : Fd.by bs (i : Int) = bs[i] := by_at bs i k0
    have e1 : Fd.by bs (IntKind.i64.wrap ((i : Int) + 1)) = bs[i + 1] := by rw [hw1]; exact by_at bs (i + 1) k1
    have e2 : Fd.by bs (IntKind.i64.wrap ((i : Int) + 2)) = bs[i + 2] := by rw [hw2]; exact by_at bs (i + 2) k2
    obtain ⟨p0, q0⟩ := hb bs[i] (List.getElem_mem _)
    obtain ⟨p1, q1⟩ := hb bs[i + 1] (List.getElem_mem _)
    obtain ⟨p2, q2⟩ := hb bs[i + 2] (List.getElem_mem _)
    obtain ⟨hts, hnow⟩ := hc.lens
    have hnx := nx_eq hnow (by omega) p0 q0
    obtain ⟨r0, r1, r2⟩ := rd_in (now := Fd.nx now bs[i]) (by omega) (by omega) p1 q1 p2 q2
    have hglo := glo_eq r0 (by omega) p1 q1
    have hghi := ghi_eq r0 (by omega) p1 q1
    have hwb : IntKind.i64.wrap bs[i + 1] = bs[i + 1] := i64in (by omega) (by omega)
    by_cases hl : l.length = 0
    · have : l = [] := List.length_eq_zero_iff.1 hl
      subst this
      obtain ⟨l', la', ts', now', i', b, g1, g2, g3⟩ := given_loop key n bs hb hbl d (i + 3) ([] ++ [⟨0, IntKind.u64.wrap bs[i], Fd.glo (Fd.rd (Fd.nx now bs[i]) bs[i + 1] bs[i + 2]) bs[i + 1], Fd.ghi (Fd.rd (Fd.nx now bs[i]) bs[i + 1] bs[i + 2]) bs[i + 1], Fd.sgn key la 0 (IntKind.u64.wrap bs[i]) (Fd.glo (Fd.rd (Fd.nx now bs[i]) bs[i + 1] bs[i + 2]) bs[i + 1]) (Fd.ghi (Fd.rd (Fd.nx now bs[i]) bs[i + 1] bs[i + 2]) bs[i + 1])⟩]) _ (ts ++ [Fd.nx now bs[i]]) (Fd.nx now bs[i])
        (by simp at hd ⊢; omega) (by simp at hi ⊢; omega) (.snoc _ _ hc (by omega) rfl rfl (by simp only [hglo]; omega) (by simp only [hglo]; omega) (by simp only [hghi]; omega) (by simp only [hghi]; omega) (by simp)) (by simp at hn ⊢; omega)
      refine ⟨l', la', ts', now', i', b, g1, g2, ?_⟩
      refine LRuns.next (F := F) S46_ok (sh := Sh) (L := fun _ _ => .fail) (LGood.none (by kernel_rfl)) [(decide (IntKind.i64.wrap ((i : Int) + 2) < ↑(List.map encB bs).length), true),
        (decide ((i : Int) < 90), true),
        (decide (0 ≤ (i : Int)), true),
        (decide ((i : Int) < ↑(List.map encB bs).length), true),
        (((List.map encB bs).getD ((i : Int)).toNat V.undef).cells.length == 1 && fitP [TK.int IntKind.u8] 0 ((List.map encB bs).getD ((i : Int)).toNat V.undef), true),
        (decide (0 ≤ IntKind.i64.wrap ((i : Int) + 1)), true),
        (decide (IntKind.i64.wrap ((i : Int) + 1) < ↑(List.map encB bs).length), true),
        (((List.map encB bs).getD (IntKind.i64.wrap ((i : Int) + 1)).toNat V.undef).cells.length == 1 && fitP [TK.int IntKind.u8] 0 ((List.map encB bs).getD (IntKind.i64.wrap ((i : Int) + 1)).toNat V.undef), true),
        (decide (0 ≤ IntKind.i64.wrap ((i : Int) + 2)), true),
        (((List.map encB bs).getD (IntKind.i64.wrap ((i : Int) + 2)).toNat V.undef).cells.length == 1 && fitP [TK.int IntKind.u8] 0 ((List.map encB bs).getD (IntKind.i64.wrap ((i : Int) + 2)).toNat V.undef), true),
        (decide ((Fd.rd (Fd.nx now (Fd.by bs (i : Int))) (Fd.by bs (IntKind.i64.wrap ((i : Int) + 1))) (Fd.by bs (IntKind.i64.wrap ((i : Int) + 2)))) < 0), false),
        (decide ((Fd.rd (Fd.nx now (Fd.by bs (i : Int))) (Fd.by bs (IntKind.i64.wrap ((i : Int) + 1))) (Fd.by bs (IntKind.i64.wrap ((i : Int) + 2)))) > 1000000000000000), false),
        (decide (IntKind.i64.wrap (Fd.by bs (IntKind.i64.wrap ((i : Int) + 1))) < 0), false),
        (decide (IntKind.i64.wrap (Fd.by bs (IntKind.i64.wrap ((i : Int) + 1))) > 1000000000000000), false),
        (decide (Fd.glo (Fd.rd (Fd.nx now (Fd.by bs (i : Int))) (Fd.by bs (IntKind.i64.wrap ((i : Int) + 1))) (Fd.by bs (IntKind.i64.wrap ((i : Int) + 2)))) (Fd.by bs (IntKind.i64.wrap ((i : Int) + 1))) > Fd.ghi (Fd.rd (Fd.nx now (Fd.by bs (i : Int))) (Fd.by bs (IntKind.i64.wrap ((i : Int) + 1))) (Fd.by bs (IntKind.i64.wrap ((i : Int) + 2)))) (Fd.by bs (IntKind.i64.wrap ((i : Int) + 1)))), false),
        (rooms ((List.map encI ts).length + 1) 8, true),
        (decide ((List.map encI ts).length + 1 < 4611686018427387904), true)]
        [2, 2, 2, 3, 4, 5, 6, 0, 7, 8, 9, 10, 2, 11, 0, 4, 5, 6, 1, 1, 1, 1, 1, 1, 1, 1, 1, 0, 0, 0, 0, 12, 12, 12, 12, 13, 0, 0, 0, 0, 14, 14, 14, 14, 15, 1, 0, 1, 1, 16, 0, 0, 0, 0, 0, 1, 0, 0, 0, 1, 17, 18, 0]
        (τ' := ⟨[(1, V.sl n (List.map encB bs)), (7, V.ptr 0 0), (8, V.ex 1 (ts.isEmpty && false) (List.map encI ts ++ [V.int IntKind.i64 (Fd.nx now (Fd.by bs (i : Int)))])), (9, V.int IntKind.i64 (Fd.nx now (Fd.by bs (i : Int)))), (10, V.int IntKind.i64 (IntKind.i64.wrap ((i : Int) + 3)))], [B.cells [V.int IntKind.u64 key, V.int IntKind.u64 (Fd.sgn key la 0 (IntKind.u64.wrap (Fd.by bs (i : Int))) (Fd.glo (Fd.rd (Fd.nx now (Fd.by bs (i : Int))) (Fd.by bs (IntKind.i64.wrap ((i : Int) + 1))) (Fd.by bs (IntKind.i64.wrap ((i : Int) + 2)))) (Fd.by bs (IntKind.i64.wrap ((i : Int) + 1)))) (Fd.ghi (Fd.rd (Fd.nx now (Fd.by bs (i : Int))) (Fd.by bs (IntKind.i64.wrap ((i : Int) + 1))) (Fd.by bs (IntKind.i64.wrap ((i : Int) + 2)))) (Fd.by bs (IntKind.i64.wrap ((i : Int) + 1))))), V.bool true, V.ex 5 false [V.agg [V.int IntKind.i64 0, V.int IntKind.u64 (IntKind.u64.wrap (Fd.by bs (i : Int))), V.int IntKind.i64 (Fd.glo (Fd.rd (Fd.nx now (Fd.by bs (i : Int))) (Fd.by bs (IntKind.i64.wrap ((i : Int) + 1))) (Fd.by bs (IntKind.i64.wrap ((i : Int) + 2)))) (Fd.by bs (IntKind.i64.wrap ((i : Int) + 1)))), V.int IntKind.i64 (Fd.ghi (Fd.rd (Fd.nx now (Fd.by bs (i : Int))) (Fd.by bs (IntKind.i64.wrap ((i : Int) + 1))) (Fd.by bs (IntKind.i64.wrap ((i : Int) + 2)))) (Fd.by bs (IntKind.i64.wrap ((i : Int) + 1)))), V.int IntKind.u64 (Fd.sgn key la 0 (IntKind.u64.wrap (Fd.by bs (i : Int))) (Fd.glo (Fd.rd (Fd.nx now (Fd.by bs (i : Int))) (Fd.by bs (IntKind.i64.wrap ((i : Int) + 1))) (Fd.by bs (IntKind.i64.wrap ((i : Int) + 2)))) (Fd.by bs (IntKind.i64.wrap ((i : Int) + 1)))) (Fd.ghi (Fd.rd (Fd.nx now (Fd.by bs (i : Int))) (Fd.by bs (IntKind.i64.wrap ((i : Int) + 1))) (Fd.by bs (IntKind.i64.wrap ((i : Int) + 2)))) (Fd.by bs (IntKind.i64.wrap ((i : Int) + 1)))))]]]]⟩) (by kernel_rfl) ?_ ?_
      · refine ⟨?_, ?_, ?_, ?_, ?_, ?_, ?_, ?_, ?_, ?_, ?_, ?_, ?_, ?_, ?_, ?_, ?_, trivial⟩
        all_goals first
          | (simp only [hw1, hw2, Int.toNat_natCast]; simp [encB, fitP, fld, leafFits, V.cells, k0, k1, k2]; done)
          | (simp only [hw1, hw2, List.length_map, decide_eq_true_eq, decide_eq_false_iff_not]; omega)
          | (rw [e0, e1, e2]; simp only [hwb, hglo, hghi, decide_eq_true_eq, decide_eq_false_iff_not]; omega)
          | (rw [e1]; simp only [hwb, decide_eq_true_eq, decide_eq_false_iff_not]; omega)
          | (simp [rooms, maxRoom, hts]; done)
      · rw [e0, e1, e2, hw3]
        have e : (ts.isEmpty && false) = (ts ++ [Fd.nx now bs[i]]).isEmpty := by simp
        rw [e]
        simpa [gst, chainV, encS, encI] using g3
    · have hl0 : 0 < l.length := by omega
      have hL : IntKind.i64.wrap (↑(List.map encS l).length - 1) = ((l.length - 1 : Nat) : Int) := by rw [List.length_map, i64in (by omega) (by omega)]; omega
      have hL2 : IntKind.i64.wrap (↑l.length - 1) = ((l.length - 1 : Nat) : Int) := by rw [i64in (by omega) (by omega)]; omega
      have hlo := lo_at l (l.length - 1) (by omega)
      have hll := hc.last_lo hl0
      obtain ⟨l', la', ts', now', i', b, g1, g2, g3⟩ := given_loop key n bs hb hbl d (i + 3) (l ++ [⟨l.length, IntKind.u64.wrap bs[i], max (Fd.glo (Fd.rd (Fd.nx now bs[i]) bs[i + 1] bs[i + 2]) bs[i + 1]) (l[l.length - 1]'(by omega)).lo, Fd.ghi (Fd.rd (Fd.nx now bs[i]) bs[i + 1] bs[i + 2]) bs[i + 1], Fd.sgn key la l.length (IntKind.u64.wrap bs[i]) (max (Fd.glo (Fd.rd (Fd.nx now bs[i]) bs[i + 1] bs[i + 2]) bs[i + 1]) (l[l.length - 1]'(by omega)).lo) (Fd.ghi (Fd.rd (Fd.nx now bs[i]) bs[i + 1] bs[i + 2]) bs[i + 1])⟩]) _ (ts ++ [Fd.nx now bs[i]]) (Fd.nx now bs[i])
        (by simp; omega) (by simp; omega) (.snoc _ _ hc (by omega) rfl rfl (by simp only [hglo]; omega) (by simp only [hglo]; omega) (by simp only [hghi]; omega) (by simp only [hghi]; omega) (by intro _; simp only; omega)) (by simp; omega)
      refine ⟨l', la', ts', now', i', b, g1, g2, ?_⟩
      have e0' : gst key n bs l la ts now i = ⟨[(1, V.sl n (bs.map encB)), (7, V.ptr 0 0), (8, V.ex 1 (ts.isEmpty) (ts.map encI)), (9, V.int IntKind.i64 now), (10, V.int IntKind.i64 i)], [B.cells [V.int IntKind.u64 key, V.int IntKind.u64 la, V.bool true, .ex 5 false (l.map encS)]]⟩ := by
        unfold gst; rw [chainV_ne hl0]
      rw [e0']
      refine LRuns.next (F := F) S46_ok (sh := Sh) (L := fun _ _ => .fail) (LGood.none (by kernel_rfl)) [(decide (IntKind.i64.wrap ((i : Int) + 2) < ↑(List.map encB bs).length), true),
        (decide ((i : Int) < 90), true),
        (decide (0 ≤ (i : Int)), true),
        (decide ((i : Int) < ↑(List.map encB bs).length), true),
        (((List.map encB bs).getD ((i : Int)).toNat V.undef).cells.length == 1 && fitP [TK.int IntKind.u8] 0 ((List.map encB bs).getD ((i : Int)).toNat V.undef), true),
        (decide (0 ≤ IntKind.i64.wrap ((i : Int) + 1)), true),
        (decide (IntKind.i64.wrap ((i : Int) + 1) < ↑(List.map encB bs).length), true),
        (((List.map encB bs).getD (IntKind.i64.wrap ((i : Int) + 1)).toNat V.undef).cells.length == 1 && fitP [TK.int IntKind.u8] 0 ((List.map encB bs).getD (IntKind.i64.wrap ((i : Int) + 1)).toNat V.undef), true),
        (decide (0 ≤ IntKind.i64.wrap ((i : Int) + 2)), true),
        (((List.map encB bs).getD (IntKind.i64.wrap ((i : Int) + 2)).toNat V.undef).cells.length == 1 && fitP [TK.int IntKind.u8] 0 ((List.map encB bs).getD (IntKind.i64.wrap ((i : Int) + 2)).toNat V.undef), true),
        ((↑(List.map encS l).length : Int) == 1000, false),
        (decide ((Fd.rd (Fd.nx now (Fd.by bs (i : Int))) (Fd.by bs (IntKind.i64.wrap ((i : Int) + 1))) (Fd.by bs (IntKind.i64.wrap ((i : Int) + 2)))) < 0), false),
        (decide ((Fd.rd (Fd.nx now (Fd.by bs (i : Int))) (Fd.by bs (IntKind.i64.wrap ((i : Int) + 1))) (Fd.by bs (IntKind.i64.wrap ((i : Int) + 2)))) > 1000000000000000), false),
        (decide (IntKind.i64.wrap (Fd.by bs (IntKind.i64.wrap ((i : Int) + 1))) < 0), false),
        (decide (IntKind.i64.wrap (Fd.by bs (IntKind.i64.wrap ((i : Int) + 1))) > 1000000000000000), false),
        (decide ((↑(List.map encS l).length : Int) > 0), true),
        (decide (0 ≤ IntKind.i64.wrap (↑(List.map encS l).length - 1)), true),
        (decide (IntKind.i64.wrap (↑(List.map encS l).length - 1) < ↑(List.map encS l).length), true),
        (decide ((IntKind.i64.wrap (↑(List.map encS l).length - 1)).toNat < (List.map encS l).length), true),
        (fitP [TK.int IntKind.i64] 2 ((List.map encS l).getD (IntKind.i64.wrap (↑(List.map encS l).length - 1)).toNat V.undef), true),
        (decide (Fd.imax (Fd.glo (Fd.rd (Fd.nx now (Fd.by bs (i : Int))) (Fd.by bs (IntKind.i64.wrap ((i : Int) + 1))) (Fd.by bs (IntKind.i64.wrap ((i : Int) + 2)))) (Fd.by bs (IntKind.i64.wrap ((i : Int) + 1)))) (Fd.lo l (IntKind.i64.wrap (↑(List.map encS l).length - 1))) > Fd.ghi (Fd.rd (Fd.nx now (Fd.by bs (i : Int))) (Fd.by bs (IntKind.i64.wrap ((i : Int) + 1))) (Fd.by bs (IntKind.i64.wrap ((i : Int) + 2)))) (Fd.by bs (IntKind.i64.wrap ((i : Int) + 1)))), false),
        (rooms ((List.map encS l).length + 1) 40, true),
        (decide ((List.map encS l).length + 1 < 4611686018427387904), true),
        (rooms ((List.map encI ts).length + 1) 8, true),
        (decide ((List.map encI ts).length + 1 < 4611686018427387904), true)]
        [2, 2, 2, 3, 4, 5, 6, 0, 7, 8, 9, 10, 2, 11, 0, 4, 5, 6, 1, 1, 1, 1, 1, 1, 1, 1, 12, 0, 0, 0, 0, 13, 13, 13, 13, 14, 0, 0, 0, 0, 15, 15, 15, 15, 16, 1, 0, 1, 17, 18, 19, 20, 21, 22, 0, 0, 0, 0, 0, 1, 23, 24, 0, 1, 25, 26, 0]
        (τ' := ⟨[(1, V.sl n (List.map encB bs)), (7, V.ptr 0 0), (8, V.ex 1 (ts.isEmpty && false) (List.map encI ts ++ [V.int IntKind.i64 (Fd.nx now (Fd.by bs (i : Int)))])), (9, V.int IntKind.i64 (Fd.nx now (Fd.by bs (i : Int)))), (10, V.int IntKind.i64 (IntKind.i64.wrap ((i : Int) + 3)))], [B.cells [V.int IntKind.u64 key, V.int IntKind.u64 (Fd.sgn key la (↑(List.map encS l).length) (IntKind.u64.wrap (Fd.by bs (i : Int))) (Fd.imax (Fd.glo (Fd.rd (Fd.nx now (Fd.by bs (i : Int))) (Fd.by bs (IntKind.i64.wrap ((i : Int) + 1))) (Fd.by bs (IntKind.i64.wrap ((i : Int) + 2)))) (Fd.by bs (IntKind.i64.wrap ((i : Int) + 1)))) (Fd.lo l (IntKind.i64.wrap (↑(List.map encS l).length - 1)))) (Fd.ghi (Fd.rd (Fd.nx now (Fd.by bs (i : Int))) (Fd.by bs (IntKind.i64.wrap ((i : Int) + 1))) (Fd.by bs (IntKind.i64.wrap ((i : Int) + 2)))) (Fd.by bs (IntKind.i64.wrap ((i : Int) + 1))))), V.bool true, V.ex 5 false (List.map encS l ++ [V.agg [V.int IntKind.i64 (↑(List.map encS l).length), V.int IntKind.u64 (IntKind.u64.wrap (Fd.by bs (i : Int))), V.int IntKind.i64 (Fd.imax (Fd.glo (Fd.rd (Fd.nx now (Fd.by bs (i : Int))) (Fd.by bs (IntKind.i64.wrap ((i : Int) + 1))) (Fd.by bs (IntKind.i64.wrap ((i : Int) + 2)))) (Fd.by bs (IntKind.i64.wrap ((i : Int) + 1)))) (Fd.lo l (IntKind.i64.wrap (↑(List.map encS l).length - 1)))), V.int IntKind.i64 (Fd.ghi (Fd.rd (Fd.nx now (Fd.by bs (i : Int))) (Fd.by bs (IntKind.i64.wrap ((i : Int) + 1))) (Fd.by bs (IntKind.i64.wrap ((i : Int) + 2)))) (Fd.by bs (IntKind.i64.wrap ((i : Int) + 1)))), V.int IntKind.u64 (Fd.sgn key la (↑(List.map encS l).length) (IntKind.u64.wrap (Fd.by bs (i : Int))) (Fd.imax (Fd.glo (Fd.rd (Fd.nx now (Fd.by bs (i : Int))) (Fd.by bs (IntKind.i64.wrap ((i : Int) + 1))) (Fd.by bs (IntKind.i64.wrap ((i : Int) + 2)))) (Fd.by bs (IntKind.i64.wrap ((i : Int) + 1)))) (Fd.lo l (IntKind.i64.wrap (↑(List.map encS l).length - 1)))) (Fd.ghi (Fd.rd (Fd.nx now (Fd.by bs (i : Int))) (Fd.by bs (IntKind.i64.wrap ((i : Int) + 1))) (Fd.by bs (IntKind.i64.wrap ((i : Int) + 2)))) (Fd.by bs (IntKind.i64.wrap ((i : Int) + 1)))))]])]]⟩) (by kernel_rfl) ?_ ?_
      · refine ⟨?_, ?_, ?_, ?_, ?_, ?_, ?_, ?_, ?_, ?_, ?_, ?_, ?_, ?_, ?_, ?_, ?_, ?_, ?_, ?_, ?_, ?_, ?_, ?_, ?_, trivial⟩
        all_goals first
          | (simp only [hw1, hw2, Int.toNat_natCast]; simp [encB, fitP, fld, leafFits, V.cells, k0, k1, k2]; done)
          | (simp only [hw1, hw2, List.length_map, decide_eq_true_eq, decide_eq_false_iff_not]; omega)
          | (rw [e0, e1, e2]; simp only [hwb, decide_eq_true_eq, decide_eq_false_iff_not]; omega)
          | (rw [e1]; simp only [hwb, decide_eq_true_eq, decide_eq_false_iff_not]; omega)
          | (simp only [List.length_map, hL2, Int.toNat_natCast, decide_eq_true_eq]; omega)
          | (rw [hL, Int.toNat_natCast, getD_map _ _ _ (by omega)]; simp [encS, fitP, fld, leafFits]; done)
          | (rw [e0, e1, e2, hL, hlo, imax_eq]; simp only [hglo, hghi, decide_eq_true_eq, decide_eq_false_iff_not]; omega)
          | (simp; omega)
          | (simp [rooms, maxRoom, hts]; omega)
      · rw [e0, e1, e2, hw3, hL, hlo, imax_eq]
        have e : (ts.isEmpty && false) = (ts ++ [Fd.nx now bs[i]]).isEmpty := by simp
        have e' : ∀ (s : Stp) (la t : Int) (ts : List Int) (i : Int), gst key n bs (l ++ [s]) la ts t i = ⟨[(1, V.sl n (bs.map encB)), (7, V.ptr 0 0), (8, V.ex 1 (ts.isEmpty) (ts.map encI)), (9, V.int IntKind.i64 t), (10, V.int IntKind.i64 i)], [B.cells [V.int IntKind.u64 key, V.int IntKind.u64 la, V.bool true, .ex 5 false ((l ++ [s]).map encS)]]⟩ := by
          intro s la t ts i
          unfold gst; rw [chainV_ne (by simp)]
        rw [e'] at g3
        rw [e]
        simpa [encS, encI] using g3
end Go.Proofs.Ytgmdkjiflhklaaa
