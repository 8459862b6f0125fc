/- C6: all wishes: what a chain is in the end. -/
import Derived.Test.YtgmdkjiflhklaaaC5
namespace Go.Proofs.Ytgmdkjiflhklaaa
open Go Go.Vm
theorem ch_after (key : Int) (n : Bool) (l : List Wsh) (hl : l.length ≤ 200) (k : Nat) (g0 : List Stp) : ∀ (d i : Nat) (g : List Stp), i + d = l.length → k < i → Gv g i → ∃ g', Gv g' l.length ∧
    LRuns (vstep T (vlim T F) lplim fi28.cx 1 (lb fi28 0)) (chC key n l k i (P.last key g) (refV g) (chainV g) (refV g0) (cpB key g0)) (.exit 0, chF key n l k g' g0)
  | 0, i, g, hd, hki, hv => by
    have hi : i = l.length := by omega
    subst hi
    refine ⟨g, hv, ?_⟩
    by_cases hg : 0 < g.length
    · exact chC1_end key n l hl k (by omega) g hg _ _ _ _ _
    · have : g = [] := List.eq_nil_of_length_eq_zero (by omega)
      subst this
      exact chC0_end key n l hl k (by omega) _ _ _ _ _
  | d + 1, i, g, hd, hki, hv => by
    have hi : i < l.length := by omega
    by_cases hE : P.gE g l[i].rd l[i].bd = 0
    · obtain ⟨g', h1, h2⟩ := ch_after key n l hl k g0 d (i + 1) (g ++ [P.gS key g l[i].doc l[i].rd l[i].bd]) (by omega) (by omega) (hv.snoc hE)
      refine ⟨g', h1, ?_⟩
      by_cases hg : 0 < g.length
      · exact chC1_ok key n l hl k _ _ _ _ _ g hg i hi (by omega) hv _ rfl hE h2
      · have : g = [] := List.eq_nil_of_length_eq_zero (by omega)
        subst this
        exact chC0_ok key n l hl k _ _ _ _ _ i hi (by omega) _ rfl hE h2
    · obtain ⟨g', h1, h2⟩ := ch_after key n l hl k g0 d (i + 1) g (by omega) (by omega) hv.up
      refine ⟨g', h1, ?_⟩
      by_cases hg : 0 < g.length
      · exact chC1_er key n l hl k _ _ _ _ _ g hg i hi (by omega) hv _ rfl hE h2
      · have : g = [] := List.eq_nil_of_length_eq_zero (by omega)
        subst this
        exact chC0_er key n l hl k _ _ _ _ _ i hi (by omega) _ rfl hE h2
theorem ch_all (key : Int) (n : Bool) (l : List Wsh) (hl : l.length ≤ 200) (k : Nat) (hk : k ≤ l.length) : ∀ (d i : Nat) (g : List Stp), i + d = k → Gv g i → ∃ g' g0, Gv g' l.length ∧ Gv g0 l.length ∧
    LRuns (vstep T (vlim T F) lplim fi28.cx 1 (lb fi28 0)) (chA key n l k i (P.last key g) (refV g) (chainV g)) (.exit 0, chF key n l k g' g0)
  | 0, i, g, hd, hv => by
    have hi : i = k := by omega
    subst hi
    by_cases he : i = l.length
    · subst he
      refine ⟨g, g, hv, hv, ?_⟩
      by_cases hg : 0 < g.length
      · exact cp1_end key n l hl g hg hv _
      · have : g = [] := List.eq_nil_of_length_eq_zero (by omega)
        subst this
        exact cp0_end key n l hl _
    · have hi : i < l.length := by omega
      have hv0 : Gv g l.length := ⟨by have := hv.len; omega, hv.lo, hv.hi⟩
      by_cases hE : P.gE g l[i].rd l[i].bd = 0
      · obtain ⟨g', h1, h2⟩ := ch_after key n l hl i g (l.length - (i + 1)) (i + 1) (g ++ [P.gS key g l[i].doc l[i].rd l[i].bd]) (by omega) (by omega) (hv.snoc hE)
        refine ⟨g', g, h1, hv0, ?_⟩
        by_cases hg : 0 < g.length
        · exact cp1_ok key n l hl _ g hg i hi hv _ rfl hE h2
        · have : g = [] := List.eq_nil_of_length_eq_zero (by omega)
          subst this
          exact cp0_ok key n l hl _ i hi _ rfl hE h2
      · obtain ⟨g', h1, h2⟩ := ch_after key n l hl i g (l.length - (i + 1)) (i + 1) g (by omega) (by omega) hv.up
        refine ⟨g', g, h1, hv0, ?_⟩
        by_cases hg : 0 < g.length
        · exact cp1_er key n l hl _ g hg i hi hv _ rfl hE h2
        · have : g = [] := List.eq_nil_of_length_eq_zero (by omega)
          subst this
          exact cp0_er key n l hl _ i hi _ rfl hE h2
  | d + 1, i, g, hd, hv => by
    have hi : i < l.length := by omega
    by_cases hE : P.gE g l[i].rd l[i].bd = 0
    · obtain ⟨g', g0, h1, h0, h2⟩ := ch_all key n l hl k hk d (i + 1) (g ++ [P.gS key g l[i].doc l[i].rd l[i].bd]) (by omega) (hv.snoc hE)
      refine ⟨g', g0, h1, h0, ?_⟩
      by_cases hg : 0 < g.length
      · exact chA1_ok key n l hl k _ g hg i hi (by omega) hv _ rfl hE h2
      · have : g = [] := List.eq_nil_of_length_eq_zero (by omega)
        subst this
        exact chA0_ok key n l hl k _ i hi (by omega) _ rfl hE h2
    · obtain ⟨g', g0, h1, h0, h2⟩ := ch_all key n l hl k hk d (i + 1) g (by omega) hv.up
      refine ⟨g', g0, h1, h0, ?_⟩
      by_cases hg : 0 < g.length
      · exact chA1_er key n l hl k _ g hg i hi (by omega) hv _ rfl hE h2
      · have : g = [] := List.eq_nil_of_length_eq_zero (by omega)
        subst this
        exact chA0_er key n l hl k _ i hi (by omega) _ rfl hE h2
end Go.Proofs.Ytgmdkjiflhklaaa
