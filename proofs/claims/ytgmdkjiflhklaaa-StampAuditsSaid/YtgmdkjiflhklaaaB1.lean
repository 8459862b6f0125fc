/- B1: fractions, as the code has them. -/
import Derived.Test.YtgmdkjiflhklaaaA1
namespace Go.Proofs.Ytgmdkjiflhklaaa
open Go Go.Vm

/-- A check. -/
structure Chk where
  at_ : Int
  lo : Int
  hi : Int
def encC (c : Chk) : V := .agg [.int .i64 c.at_, .int .i64 c.lo, .int .i64 c.hi]

theorem divisor_loop : ∀ (n : Nat) (a b : Int), b.natAbs ≤ n → ∃ a', a'.natAbs = Int.gcd a b ∧ LRuns (vstep T (vlim T F) lplim fi85.cx 0 (lb fi85 0)) ⟨[(0, .int .i64 a), (1, .int .i64 b)], []⟩ (.exit 0, ⟨[(0, .int .i64 a'), (1, .int .i64 0), (6, .bool false)], []⟩) := by
  intro n
  induction n with
  | zero =>
    intro a b hb
    have : b = 0 := by omega
    subst this
    refine ⟨a, by simp, ?_⟩
    exact LRuns.last (F := F) Vm.Good.no (sh := Sh) (L := fun _ _ => .fail) (LGood.none (by kernel_rfl)) [] [1] (by kernel_rfl) (by simp) trivial
  | succ n ih =>
    intro a b hb
    by_cases hb0 : b = 0
    · subst hb0
      refine ⟨a, by simp, ?_⟩
      exact LRuns.last (F := F) Vm.Good.no (sh := Sh) (L := fun _ _ => .fail) (LGood.none (by kernel_rfl)) [] [1] (by kernel_rfl) (by simp) trivial
    · have hm : (a.tmod b).natAbs = a.natAbs % b.natAbs := Int.natAbs_tmod a b
      have hlt : (a.tmod b).natAbs < b.natAbs := by rw [hm]; exact Nat.mod_lt _ (by omega)
      obtain ⟨a', h1, h2⟩ := ih b (a.tmod b) (by omega)
      refine ⟨a', ?_, LRuns.next (F := F) Vm.Good.no (sh := Sh) (L := fun _ _ => .fail) (LGood.none (by kernel_rfl)) [(b != 0, true), (!decide (b = 0), true)] [2, 3] (τ' := ⟨[(0, .int .i64 b), (1, .int .i64 (a.tmod b))], []⟩) (by kernel_rfl) ⟨by simp [hb0], by simp [hb0], trivial⟩ h2⟩
      rw [h1]
      show Nat.gcd b.natAbs (a.tmod b).natAbs = Nat.gcd a.natAbs b.natAbs
      rw [hm, Nat.gcd_comm a.natAbs, Nat.gcd_rec b.natAbs a.natAbs, Nat.gcd_comm]

namespace P
/-- The greatest common divisor; a fraction's lowest terms. -/
def gcd (a b : Int) : Int := (Int.gcd a b : Int)
def rn (n d : Int) : Int := n.tdiv (gcd n d)
def rd (n d : Int) : Int := d.tdiv (gcd n d)
end P
def gcdS : List V → Heap → Tr (V × Heap)
  | [.int .i64 a, .int .i64 b], [] => .must (decide (-1000000000000000000 ≤ a)) (.must (decide (a ≤ 1000000000000000000)) (.must (decide (-1000000000000000000 ≤ b)) (.must (decide (b ≤ 1000000000000000000)) (.ret (.int .i64 (P.gcd a b), [])))))
  | _, _ => .fail
theorem gcd_bound {a b : Int} (h1 : -1000000000000000000 ≤ a) (h2 : a ≤ 1000000000000000000) (h3 : -1000000000000000000 ≤ b) (h4 : b ≤ 1000000000000000000) : 0 ≤ P.gcd a b ∧ P.gcd a b ≤ 1000000000000000000 := by
  unfold P.gcd
  refine ⟨by omega, ?_⟩
  by_cases h : a = 0
  · subst h; simp; omega
  · have := Nat.le_of_dvd (by omega) (Nat.gcd_dvd_left a.natAbs b.natAbs)
    have h' : Int.gcd a b ≤ a.natAbs := this
    omega
theorem gcdS_ok : ∀ a H r, (gcdS a H).run = some r → Runs T F 85 a H r := by
  intro a H r h
  unfold gcdS at h
  split at h
  · rename_i a b
    obtain ⟨h1, h⟩ := Tr.must_some h
    obtain ⟨h2, h⟩ := Tr.must_some h
    obtain ⟨h3, h⟩ := Tr.must_some h
    obtain ⟨h4, h⟩ := Tr.must_some h
    simp only [decide_eq_true_eq] at h1 h2 h3 h4
    have := ret_some h; subst this
    obtain ⟨a', e1, e2⟩ := divisor_loop b.natAbs a b (Nat.le_refl _)
    obtain ⟨g1, g2⟩ := gcd_bound h1 h2 h3 h4
    have hg : P.gcd a b = (a'.natAbs : Int) := by unfold P.gcd; rw [← e1]
    have hm : Fd.imax a' (IntKind.i64.wrap (0 - a')) = P.gcd a b := by
      rw [imax_eq, i64in (by omega) (by omega)]; omega
    rw [← hm]
    exact Runs.way (sh := Sh) (S := noSpec) (L := loopsIs [(1, ⟨[(0, .int .i64 a), (1, .int .i64 b)], []⟩, (.exit 0, ⟨[(0, .int .i64 a'), (1, .int .i64 0), (6, .bool false)], []⟩))]) Vm.Good.no (fi := fi85) (by kernel_rfl) (LGood.one (b := lb fi85 0) (by kernel_rfl) e2)
      [(is ⟨[(0, .int .i64 a), (1, .int .i64 b)], []⟩ ⟨[(0, .int .i64 a), (1, .int .i64 b)], []⟩, true)] [2] (by kernel_rfl) ⟨is_self _, trivial⟩
  · cases h

noncomputable def S85 : Vm.Spec := S44.add 85 gcdS
theorem S85_ok : Vm.Good (vlim T F) S85 := S44_ok.add gcdS_ok
/-- A fraction in lowest terms. -/
def ratioS : List V → Heap → Tr (V × Heap)
  | [.int .i64 n, .int .i64 d], [] => .must (decide (-1000000000000000 ≤ n)) (.must (decide (n ≤ 1000000000000000)) (.must (decide (0 < d)) (.must (decide (d ≤ 1000000000000000)) (.ret (.agg [.int .i64 (P.rn n d), .int .i64 (P.rd n d)], [])))))
  | _, _ => .fail
theorem tdiv_bound {a g : Int} (h1 : -1000000000000000000 ≤ a) (h2 : a ≤ 1000000000000000000) : -1000000000000000000 ≤ a.tdiv g ∧ a.tdiv g ≤ 1000000000000000000 := by
  have h : (a.tdiv g).natAbs ≤ a.natAbs := by rw [Int.natAbs_tdiv]; exact Nat.div_le_self _ _
  omega
theorem ratioS_ok : ∀ a H r, (ratioS a H).run = some r → Runs T F 58 a H r := by
  intro a H r h
  unfold ratioS at h
  split at h
  · rename_i n d
    obtain ⟨h1, h⟩ := Tr.must_some h
    obtain ⟨h2, h⟩ := Tr.must_some h
    obtain ⟨h3, h⟩ := Tr.must_some h
    obtain ⟨h4, h⟩ := Tr.must_some h
    simp only [decide_eq_true_eq] at h1 h2 h3 h4
    have := ret_some h; subst this
    have hg : P.gcd n d ≠ 0 := by
      unfold P.gcd
      have : 0 < Int.gcd n d := Int.gcd_pos_of_ne_zero_right n (by omega)
      omega
    have e1 : IntKind.i64.wrap (n.tdiv (P.gcd n d)) = P.rn n d := by
      have := tdiv_bound (a := n) (g := P.gcd n d) (by omega) (by omega)
      rw [i64in (by omega) (by omega)]; rfl
    have e2 : IntKind.i64.wrap (d.tdiv (P.gcd n d)) = P.rd n d := by
      have := tdiv_bound (a := d) (g := P.gcd n d) (by omega) (by omega)
      rw [i64in (by omega) (by omega)]; rfl
    rw [← e1, ← e2]
    exact Runs.way (sh := Sh) (S := S85) (L := fun _ _ => .fail) S85_ok (fi := fi58) (by kernel_rfl) (LGood.none (by kernel_rfl))
      [(decide (-1000000000000000000 ≤ n), true), (decide (n ≤ 1000000000000000000), true), (decide (-1000000000000000000 ≤ d), true), (decide (d ≤ 1000000000000000000), true), (!decide (P.gcd n d = 0), true)]
      [2, 3, 4, 5, 6, 6] (by kernel_rfl) ⟨by simp; omega, by simp; omega, by simp; omega, by simp; omega, by simp [hg], trivial⟩
  · cases h
noncomputable def S58 : Vm.Spec := S85.add 58 ratioS
theorem S58_ok : Vm.Good (vlim T F) S58 := S85_ok.add ratioS_ok
namespace P
/-- Fractions compared. -/
def cmp (a b c d : Int) : Int := if a * d < c * b then -1 else if a * d > c * b then 1 else 0
end P
def cmpS : List V → Heap → Tr (V × Heap)
  | [.agg [.int .i64 a, .int .i64 b], .agg [.int .i64 c, .int .i64 d]], [] => .must (decide (-9000000000000000000 ≤ a * d)) (.must (decide (a * d ≤ 9000000000000000000)) (.must (decide (-9000000000000000000 ≤ c * b)) (.must (decide (c * b ≤ 9000000000000000000)) (.ret (.int .i64 (P.cmp a b c d), [])))))
  | _, _ => .fail
theorem cmpS_ok : ∀ a H r, (cmpS a H).run = some r → Runs T F 42 a H r := by
  intro a H r h
  unfold cmpS at h
  split at h
  · rename_i a b c d
    obtain ⟨h1, h⟩ := Tr.must_some h
    obtain ⟨h2, h⟩ := Tr.must_some h
    obtain ⟨h3, h⟩ := Tr.must_some h
    obtain ⟨h4, h⟩ := Tr.must_some h
    simp only [decide_eq_true_eq] at h1 h2 h3 h4
    have := ret_some h; subst this
    have w1 : IntKind.i64.wrap (a * d) = a * d := i64in (by omega) (by omega)
    have w2 : IntKind.i64.wrap (c * b) = c * b := i64in (by omega) (by omega)
    unfold P.cmp
    by_cases q1 : a * d < c * b
    · rw [if_pos q1]
      exact Runs.way (sh := Sh) (S := S58) (L := fun _ _ => .fail) S58_ok (fi := fi42) (by kernel_rfl) (LGood.none (by kernel_rfl))
        [(decide (IntKind.i64.wrap (a * d) < IntKind.i64.wrap (c * b)), true)] [2] (by kernel_rfl) ⟨by rw [w1, w2]; simpa using q1, trivial⟩
    · rw [if_neg q1]
      by_cases q2 : a * d > c * b
      · rw [if_pos q2]
        exact Runs.way (sh := Sh) (S := S58) (L := fun _ _ => .fail) S58_ok (fi := fi42) (by kernel_rfl) (LGood.none (by kernel_rfl))
          [(decide (IntKind.i64.wrap (a * d) < IntKind.i64.wrap (c * b)), false), (decide (IntKind.i64.wrap (a * d) > IntKind.i64.wrap (c * b)), true)] [2, 3] (by kernel_rfl) ⟨by rw [w1, w2]; simpa using q1, by rw [w1, w2]; simpa using q2, trivial⟩
      · rw [if_neg q2]
        exact Runs.way (sh := Sh) (S := S58) (L := fun _ _ => .fail) S58_ok (fi := fi42) (by kernel_rfl) (LGood.none (by kernel_rfl))
          [(decide (IntKind.i64.wrap (a * d) < IntKind.i64.wrap (c * b)), false), (decide (IntKind.i64.wrap (a * d) > IntKind.i64.wrap (c * b)), false)] [2, 3] (by kernel_rfl) ⟨by rw [w1, w2]; simpa using q1, by rw [w1, w2]; simpa using q2, trivial⟩
  · cases h
noncomputable def S42 : Vm.Spec := S58.add 42 cmpS
theorem S42_ok : Vm.Good (vlim T F) S42 := S58_ok.add cmpS_ok
noncomputable def S41 : Vm.Spec := S42.add 41 (inl T Sh S42 0 0 fi41)
theorem S41_ok : Vm.Good (vlim T F) S41 := S42_ok.inl (by kernel_rfl) 0 0 (by kernel_rfl)

def Fd.cat (l : List Chk) (i : Int) : Int := intOf (fld 0 ((l.map encC).getD i.toNat V.undef))
def Fd.clo (l : List Chk) (i : Int) : Int := intOf (fld 1 ((l.map encC).getD i.toNat V.undef))
def Fd.chi (l : List Chk) (i : Int) : Int := intOf (fld 2 ((l.map encC).getD i.toNat V.undef))
theorem cat_at (l : List Chk) (k : Nat) (h : k < l.length) : Fd.cat l k = l[k].at_ := by simp [Fd.cat, encC, h]
theorem clo_at (l : List Chk) (k : Nat) (h : k < l.length) : Fd.clo l k = l[k].lo := by simp [Fd.clo, encC, h]
theorem chi_at (l : List Chk) (k : Nat) (h : k < l.length) : Fd.chi l k = l[k].hi := by simp [Fd.chi, encC, h]
end Go.Proofs.Ytgmdkjiflhklaaa
