/- B10: the law StampFours over V. -/
import Derived.Test.YtgmdkjiflhklaaaB9
import Derived.Test.YtgmdkjiflhklaaaA6
namespace Go.Proofs.Ytgmdkjiflhklaaa
open Go Go.Vm

/-- Whether the first sets of two to four checks all pass. -/
def keptB (l : List Chk) : Nat → Bool
  | 0 => true
  | s + 1 => keptB l s && (if (subF s l l.length).length < 2 ∨ 4 < (subF s l l.length).length then true else audE (subF s l l.length) == 0)
theorem keptB_iff (l : List Chk) : ∀ n, keptB l n = true ↔ ∀ s, s < n → 2 ≤ (subF s l l.length).length → (subF s l l.length).length ≤ 4 → audE (subF s l l.length) = 0
  | 0 => by simp [keptB]
  | n + 1 => by
    simp only [keptB, Bool.and_eq_true, keptB_iff l n]
    constructor
    · rintro ⟨h1, h2⟩ s hs h3 h4
      by_cases hsn : s = n
      · subst hsn
        rw [if_neg (by omega)] at h2
        simpa using h2
      · exact h1 s (by omega) h3 h4
    · intro h
      refine ⟨fun s hs => h s (by omega), ?_⟩
      split
      · rfl
      · simpa using h n (by omega) (by omega) (by omega)
def oSt (m k : Bool) (l : List Chk) (e N s : Int) (x : List V) : St :=
  ⟨[(3, V.ex 3 m (List.map encC l)), (8, V.int IntKind.i64 e), (9, V.bool k), (70, V.int IntKind.i64 N), (71, V.int IntKind.i64 s)], [.cells x]⟩
theorem sets_loop (m : Bool) (l : List Chk) (a : Int) (hg : Grow l a) (hl : l.length ≤ 8) (h2 : 2 ≤ l.length) (e : Int) (hae : e = audE l) (n : Nat) (hn : n = 2 ^ l.length) (N : Int) (hN : N = n) (x : List V) : ∀ d s, s + d = n →
    LRuns (vstep T (vlim T F) lplim fi3.cx 1 (lb fi3 1)) (oSt m (keptB l s) l e N s x) (.exit 2, ⟨(oSt m (keptB l n) l e N n x).env ++ [(72, .bool false)], [.cells x]⟩)
  | 0, s, hd => by
    have hs : s = n := by omega
    subst hs
    have := LRuns.last (F := F) SAu_ok (sh := Sh) (L := loopsIs []) (n := 1) (b := lb fi3 1) (cx := fi3.cx) (τ := oSt m (keptB l s) l e N s x) (LGood.is (l := []) (fun _ _ x hx => by cases hx)) [(decide ((s : Int) < N), false)] [2]
      (r := (.exit 2, ⟨(oSt m (keptB l s) l e N s x).env ++ [(72, .bool (decide ((s : Int) < N)))], [.cells x]⟩)) (by kernel_rfl) (by simp) ⟨by simp [hN], trivial⟩
    simpa [hN] using this
  | d + 1, s, hd => by
    have hsn : s < n := by omega
    have hn8 : n ≤ 256 := by rw [hn]; exact Nat.pow_le_pow_right (by omega) hl
    have ih := sets_loop m l a hg hl h2 e hae n hn N hN x d (s + 1) (by omega)
    have hw : IntKind.i64.wrap ((s : Int) + 1) = ((s + 1 : Nat) : Int) := by rw [i64in (by omega) (by omega)]; rfl
    have hin0 := fun k => sub_loop m k l e N s x hl (by omega) l.length 0 (by omega)
    have hlen := subF_length s l l.length
    have hall : (subF s l l.length).all okCb = true := List.all_eq_true.2 fun c hc => okCb_iff.2 (hg.ok hl c (sub_sub c hc))
    generalize hkq : keptB l s = k
    have hin := hin0 k
    by_cases c1 : (subF s l l.length).length < 2
    · have hkn : keptB l (s + 1) = k := by simp only [keptB, hkq]; rw [if_pos (.inl c1), Bool.and_true]
      refine LRuns.next (F := F) SAu_ok (sh := Sh) (L := loopsIs [(18, iSt m k l [] e N s 0 x, (.exit 4, iEnd m k l (subF s l l.length) e N s l.length x false))]) (LGood.one (b := lb fi3 2) (by kernel_rfl) hin) [(decide ((s : Int) < N), true), (is (iSt m k l [] e N s 0 x) (iSt m k l [] e N s 0 x), true), (decide ((↑(List.map encC (subF s l l.length)).length : Int) < 2), true)]
        [2, 3, 4, 4, 4, 4, 0] (τ' := oSt m k l e N (IntKind.i64.wrap ((s : Int) + 1)) x) (by kernel_rfl) ?_ ?_
      · refine ⟨?_, ?_, ?_, trivial⟩
        all_goals first
          | exact is_self _
          | exact eqB_eq (by rw [dec_enc])
          | (rw [dec_enc]; exact hall)
          | (rw [dec_enc]; simp [P.audE, haud, hk]; done)
          | (simp [hk, he]; done)
          | (simp; omega)
      · rw [hw]; rw [hkn] at ih; exact ih
    · by_cases c2 : 4 < (subF s l l.length).length
      · have hkn : keptB l (s + 1) = k := by simp only [keptB, hkq]; rw [if_pos (.inr c2), Bool.and_true]
        refine LRuns.next (F := F) SAu_ok (sh := Sh) (L := loopsIs [(18, iSt m k l [] e N s 0 x, (.exit 4, iEnd m k l (subF s l l.length) e N s l.length x false))]) (LGood.one (b := lb fi3 2) (by kernel_rfl) hin) [(decide ((s : Int) < N), true), (is (iSt m k l [] e N s 0 x) (iSt m k l [] e N s 0 x), true), (decide ((↑(List.map encC (subF s l l.length)).length : Int) < 2), false), (decide ((↑(List.map encC (subF s l l.length)).length : Int) > 4), true)]
          [2, 3, 4, 4, 4, 4, 5] (τ' := oSt m k l e N (IntKind.i64.wrap ((s : Int) + 1)) x) (by kernel_rfl) ?_ ?_
        · refine ⟨?_, ?_, ?_, ?_, trivial⟩
          all_goals first
            | exact is_self _
            | exact eqB_eq (by rw [dec_enc])
            | (rw [dec_enc]; exact hall)
            | (rw [dec_enc]; simp [P.audE, haud, hk]; done)
            | (simp [hk, he]; done)
            | (simp; omega)
        · rw [hw]; rw [hkn] at ih; exact ih
      · have hkn0 : keptB l (s + 1) = (k && (audE (subF s l l.length) == 0)) := by simp only [keptB, hkq]; rw [if_neg (by omega)]
        have hfd := sub_found hg (s := s) (by omega)
        by_cases c3 : e = 0
        · have he := c3
          have haud : audE (subF s l l.length) = 0 := mono_zero hg sub_sub hfd (by omega)
          by_cases hkt : k = true
          · have hk := hkt
            have hkn : keptB l (s + 1) = (P.audE (List.map decC (List.map encC (subF s l l.length))) == 0) := by rw [hkn0, hk, dec_enc]; rfl
            refine LRuns.next (F := F) SAu_ok (sh := Sh) (L := loopsIs [(18, iSt m k l [] e N s 0 x, (.exit 4, iEnd m k l (subF s l l.length) e N s l.length x false))]) (LGood.one (b := lb fi3 2) (by kernel_rfl) hin) [(decide ((s : Int) < N), true), (is (iSt m k l [] e N s 0 x) (iSt m k l [] e N s 0 x), true), (decide ((↑(List.map encC (subF s l l.length)).length : Int) < 2), false), (decide ((↑(List.map encC (subF s l l.length)).length : Int) > 4), false), (eqB (List.map encC (subF s l l.length)) (List.map encC (List.map decC (List.map encC (subF s l l.length)))), true), ((List.map decC (List.map encC (subF s l l.length))).all okCb, true), (decide ((List.map encC (subF s l l.length)).length ≤ 40), true), (k, true), (e == 0, true), (P.audE (List.map decC (List.map encC (subF s l l.length))) != 0, false)]
              [2, 3, 4, 4, 4, 4, 5, 6, 7, 8, 0, 9, 9, 9, 10, 10, 10, 11, 11, 11, 11, 11, 11, 11, 11, 1] (τ' := oSt m (P.audE (List.map decC (List.map encC (subF s l l.length))) == 0) l e N (IntKind.i64.wrap ((s : Int) + 1)) x) (by kernel_rfl) ?_ ?_
            · refine ⟨?_, ?_, ?_, ?_, ?_, ?_, ?_, ?_, ?_, ?_, trivial⟩
              all_goals first
                | exact is_self _
                | exact eqB_eq (by rw [dec_enc])
                | (rw [dec_enc]; exact hall)
                | (rw [dec_enc]; simp [P.audE, haud, hk]; done)
                | (simp [hk, he]; done)
                | (simp; omega)
            · rw [hw]; rw [hkn] at ih; exact ih
          · have hk : k = false := by simpa using hkt
            have hkn : keptB l (s + 1) = false := by rw [hkn0, hk]; rfl
            refine LRuns.next (F := F) SAu_ok (sh := Sh) (L := loopsIs [(18, iSt m k l [] e N s 0 x, (.exit 4, iEnd m k l (subF s l l.length) e N s l.length x false))]) (LGood.one (b := lb fi3 2) (by kernel_rfl) hin) [(decide ((s : Int) < N), true), (is (iSt m k l [] e N s 0 x) (iSt m k l [] e N s 0 x), true), (decide ((↑(List.map encC (subF s l l.length)).length : Int) < 2), false), (decide ((↑(List.map encC (subF s l l.length)).length : Int) > 4), false), (eqB (List.map encC (subF s l l.length)) (List.map encC (List.map decC (List.map encC (subF s l l.length)))), true), ((List.map decC (List.map encC (subF s l l.length))).all okCb, true), (decide ((List.map encC (subF s l l.length)).length ≤ 40), true), (k, false), (e == 0, true), (P.audE (List.map decC (List.map encC (subF s l l.length))) != 0, false)]
              [2, 3, 4, 4, 4, 4, 5, 6, 7, 8, 0, 9, 9, 9, 10, 10, 10, 11, 11, 11, 11, 11, 11, 11, 11, 1] (τ' := oSt m false l e N (IntKind.i64.wrap ((s : Int) + 1)) x) (by kernel_rfl) ?_ ?_
            · refine ⟨?_, ?_, ?_, ?_, ?_, ?_, ?_, ?_, ?_, ?_, trivial⟩
              all_goals first
                | exact is_self _
                | exact eqB_eq (by rw [dec_enc])
                | (rw [dec_enc]; exact hall)
                | (rw [dec_enc]; simp [P.audE, haud, hk]; done)
                | (simp [hk, he]; done)
                | (simp; omega)
            · rw [hw]; rw [hkn] at ih; exact ih
        · have he := c3
          rcases audE_cases _ hfd with haud | haud
          · by_cases hkt : k = true
            · have hk := hkt
              have hkn : keptB l (s + 1) = (P.audE (List.map decC (List.map encC (subF s l l.length))) == 0) := by rw [hkn0, hk, dec_enc]; rfl
              refine LRuns.next (F := F) SAu_ok (sh := Sh) (L := loopsIs [(18, iSt m k l [] e N s 0 x, (.exit 4, iEnd m k l (subF s l l.length) e N s l.length x false))]) (LGood.one (b := lb fi3 2) (by kernel_rfl) hin) [(decide ((s : Int) < N), true), (is (iSt m k l [] e N s 0 x) (iSt m k l [] e N s 0 x), true), (decide ((↑(List.map encC (subF s l l.length)).length : Int) < 2), false), (decide ((↑(List.map encC (subF s l l.length)).length : Int) > 4), false), (eqB (List.map encC (subF s l l.length)) (List.map encC (List.map decC (List.map encC (subF s l l.length)))), true), ((List.map decC (List.map encC (subF s l l.length))).all okCb, true), (decide ((List.map encC (subF s l l.length)).length ≤ 40), true), (k, true), (e == 0, false), (P.audE (List.map decC (List.map encC (subF s l l.length))) != 0, false)]
                [2, 3, 4, 4, 4, 4, 5, 6, 7, 8, 0, 9, 9, 9, 10, 10, 10, 1, 1, 1, 11, 11, 1, 11, 1, 1] (τ' := oSt m (P.audE (List.map decC (List.map encC (subF s l l.length))) == 0) l e N (IntKind.i64.wrap ((s : Int) + 1)) x) (by kernel_rfl) ?_ ?_
              · refine ⟨?_, ?_, ?_, ?_, ?_, ?_, ?_, ?_, ?_, ?_, trivial⟩
                all_goals first
                  | exact is_self _
                  | exact eqB_eq (by rw [dec_enc])
                  | (rw [dec_enc]; exact hall)
                  | (rw [dec_enc]; simp [P.audE, haud, hk]; done)
                  | (simp [hk, he]; done)
                  | (simp; omega)
              · rw [hw]; rw [hkn] at ih; exact ih
            · have hk : k = false := by simpa using hkt
              have hkn : keptB l (s + 1) = false := by rw [hkn0, hk]; rfl
              refine LRuns.next (F := F) SAu_ok (sh := Sh) (L := loopsIs [(18, iSt m k l [] e N s 0 x, (.exit 4, iEnd m k l (subF s l l.length) e N s l.length x false))]) (LGood.one (b := lb fi3 2) (by kernel_rfl) hin) [(decide ((s : Int) < N), true), (is (iSt m k l [] e N s 0 x) (iSt m k l [] e N s 0 x), true), (decide ((↑(List.map encC (subF s l l.length)).length : Int) < 2), false), (decide ((↑(List.map encC (subF s l l.length)).length : Int) > 4), false), (eqB (List.map encC (subF s l l.length)) (List.map encC (List.map decC (List.map encC (subF s l l.length)))), true), ((List.map decC (List.map encC (subF s l l.length))).all okCb, true), (decide ((List.map encC (subF s l l.length)).length ≤ 40), true), (k, false), (e == 0, false), (P.audE (List.map decC (List.map encC (subF s l l.length))) != 0, false)]
                [2, 3, 4, 4, 4, 4, 5, 6, 7, 8, 0, 9, 9, 9, 10, 10, 10, 1, 1, 1, 11, 11, 1, 11, 1, 1] (τ' := oSt m false l e N (IntKind.i64.wrap ((s : Int) + 1)) x) (by kernel_rfl) ?_ ?_
              · refine ⟨?_, ?_, ?_, ?_, ?_, ?_, ?_, ?_, ?_, ?_, trivial⟩
                all_goals first
                  | exact is_self _
                  | exact eqB_eq (by rw [dec_enc])
                  | (rw [dec_enc]; exact hall)
                  | (rw [dec_enc]; simp [P.audE, haud, hk]; done)
                  | (simp [hk, he]; done)
                  | (simp; omega)
              · rw [hw]; rw [hkn] at ih; exact ih
          · by_cases hkt : k = true
            · have hk := hkt
              have hkn : keptB l (s + 1) = (P.audE (List.map decC (List.map encC (subF s l l.length))) == 0) := by rw [hkn0, hk, dec_enc]; rfl
              refine LRuns.next (F := F) SAu_ok (sh := Sh) (L := loopsIs [(18, iSt m k l [] e N s 0 x, (.exit 4, iEnd m k l (subF s l l.length) e N s l.length x false))]) (LGood.one (b := lb fi3 2) (by kernel_rfl) hin) [(decide ((s : Int) < N), true), (is (iSt m k l [] e N s 0 x) (iSt m k l [] e N s 0 x), true), (decide ((↑(List.map encC (subF s l l.length)).length : Int) < 2), false), (decide ((↑(List.map encC (subF s l l.length)).length : Int) > 4), false), (eqB (List.map encC (subF s l l.length)) (List.map encC (List.map decC (List.map encC (subF s l l.length)))), true), ((List.map decC (List.map encC (subF s l l.length))).all okCb, true), (decide ((List.map encC (subF s l l.length)).length ≤ 40), true), (k, true), (e == 0, false), (P.audE (List.map decC (List.map encC (subF s l l.length))) != 0, true), (P.audE (List.map decC (List.map encC (subF s l l.length))) != 12, false)]
                [2, 3, 4, 4, 4, 4, 5, 6, 7, 8, 0, 9, 9, 9, 10, 10, 10, 1, 1, 1, 11, 11, 1, 11, 1, 12] (τ' := oSt m (P.audE (List.map decC (List.map encC (subF s l l.length))) == 0) l e N (IntKind.i64.wrap ((s : Int) + 1)) x) (by kernel_rfl) ?_ ?_
              · refine ⟨?_, ?_, ?_, ?_, ?_, ?_, ?_, ?_, ?_, ?_, ?_, trivial⟩
                all_goals first
                  | exact is_self _
                  | exact eqB_eq (by rw [dec_enc])
                  | (rw [dec_enc]; exact hall)
                  | (rw [dec_enc]; simp [P.audE, haud, hk]; done)
                  | (simp [hk, he]; done)
                  | (simp; omega)
              · rw [hw]; rw [hkn] at ih; exact ih
            · have hk : k = false := by simpa using hkt
              have hkn : keptB l (s + 1) = false := by rw [hkn0, hk]; rfl
              refine LRuns.next (F := F) SAu_ok (sh := Sh) (L := loopsIs [(18, iSt m k l [] e N s 0 x, (.exit 4, iEnd m k l (subF s l l.length) e N s l.length x false))]) (LGood.one (b := lb fi3 2) (by kernel_rfl) hin) [(decide ((s : Int) < N), true), (is (iSt m k l [] e N s 0 x) (iSt m k l [] e N s 0 x), true), (decide ((↑(List.map encC (subF s l l.length)).length : Int) < 2), false), (decide ((↑(List.map encC (subF s l l.length)).length : Int) > 4), false), (eqB (List.map encC (subF s l l.length)) (List.map encC (List.map decC (List.map encC (subF s l l.length)))), true), ((List.map decC (List.map encC (subF s l l.length))).all okCb, true), (decide ((List.map encC (subF s l l.length)).length ≤ 40), true), (k, false), (e == 0, false), (P.audE (List.map decC (List.map encC (subF s l l.length))) != 0, true), (P.audE (List.map decC (List.map encC (subF s l l.length))) != 12, false)]
                [2, 3, 4, 4, 4, 4, 5, 6, 7, 8, 0, 9, 9, 9, 10, 10, 10, 1, 1, 1, 11, 11, 1, 11, 1, 12] (τ' := oSt m false l e N (IntKind.i64.wrap ((s : Int) + 1)) x) (by kernel_rfl) ?_ ?_
              · refine ⟨?_, ?_, ?_, ?_, ?_, ?_, ?_, ?_, ?_, ?_, ?_, trivial⟩
                all_goals first
                  | exact is_self _
                  | exact eqB_eq (by rw [dec_enc])
                  | (rw [dec_enc]; exact hall)
                  | (rw [dec_enc]; simp [P.audE, haud, hk]; done)
                  | (simp [hk, he]; done)
                  | (simp; omega)
              · rw [hw]; rw [hkn] at ih; exact ih
end Go.Proofs.Ytgmdkjiflhklaaa
