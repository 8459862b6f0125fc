/- V29: what an operation reads is left alone by one that does not write it. -/
import Derived.Test.YtgmdkjiflhklaaaV28
namespace Go.Vm
open Go

/-- Two states in which an operation sees the same. -/
structure Alike (b : Bool) (σ τ : St) (x : Operand) : Prop where
  opd : opd σ.env x = opd τ.env x
  look : ∀ p, (Vm.opd σ.env x).refsTo p = true → look σ p = look τ p
  blk : b = true → ∀ id off, Vm.opd σ.env x = .ptr id off → bcells σ.heap id = bcells τ.heap id

section
variable {σ : St} {d : Option Nat} {e : Eff}

theorem told_none {t : Nat} (h : Res.slot t ∉ writes d e) : told d e t = none := by
  cases ht : told d e t with
  | none => rfl
  | some v => exact absurd (told_writes ht) h

theorem blk_left (he : Tame e) {id : Nat} (h : Res.blk id ∉ writes d e) : bcells (apply σ d e).heap id = bcells σ.heap id := by
  rw [(bcells_apply d e he.all id).1, bcells_apply_none h]

theorem kills_ex {v : V} (h : isEx v = true) : kills d e v = false := by
  cases v <;> simp [isEx] at h
  unfold kills
  rw [memKills_nonway rfl]
  cases d <;> simp [killedBy, V.refsTo]

/-- Forth. -/
theorem alike_forth {b : Bool} (he : Tame e) {x : Operand} (hs : seen σ x = true) (hw : ∀ r ∈ opReads b σ.env x, r ∉ writes d e) : Alike b σ (apply σ d e) x := by
  have hk : kills d e (opd σ.env x) = false := by
    cases hk : kills d e (opd σ.env x) with
    | false => rfl
    | true =>
      obtain ⟨r, h1, h2⟩ := kills_writes he.all hk
      exact absurd h2 (hw r (by unfold opReads; simp [h1]))
  have ho : opd σ.env x = opd (apply σ d e).env x := by
    cases x with
    | tmp t =>
      have hn := told_none (hw (.slot t) (by unfold opReads; simp))
      simp only [opd] at hk ⊢
      rw [get_apply d e he.ways, hn]
      simp only [hk, Bool.false_eq_true, if_false]
    | _ => rfl
  refine ⟨ho, fun p hp => ?_, fun hb id off hp => ?_⟩
  · have hr : plRes p ∉ writes d e := hw _ (by unfold opReads; simp [refRes_of hp])
    have hex : isEx (look σ p) = true := by
      unfold seen at hs
      simp only [Bool.and_eq_true] at hs
      cases hv : opd σ.env x <;> rw [hv] at hp hs <;> simp [V.refsTo] at hp <;> subst hp <;> exact hs.2
    cases p with
    | slot u =>
      simp only [look] at hex ⊢
      rw [get_apply d e he.ways, told_none hr]
      simp only [kills_ex hex, Bool.false_eq_true, if_false]
    | cell id off => simp only [look]; rw [blk_left he hr]
  · subst hb; rw [blk_left he (hw _ (by unfold opReads; simp [hp]))]

/-- Back. -/
theorem alike_back {b : Bool} (he : Tame e) {x : Operand} (hs : seen (apply σ d e) x = true) (hw : ∀ r ∈ opReads b (apply σ d e).env x, r ∉ writes d e) : Alike b σ (apply σ d e) x := by
  unfold seen at hs
  simp only [Bool.and_eq_true, Bool.not_eq_true'] at hs
  obtain ⟨hs1, hs2⟩ := hs
  have ho : opd σ.env x = opd (apply σ d e).env x := by
    cases x with
    | tmp t =>
      have hn := told_none (hw (.slot t) (by unfold opReads; simp))
      simp only [opd] at hs1 ⊢
      rw [get_apply d e he.ways, hn] at hs1 ⊢
      simp only at hs1 ⊢
      by_cases hk : kills d e (get σ.env t) = true
      · simp [hk, isUndef] at hs1
      · simp only [hk, Bool.false_eq_true, if_false]
    | _ => rfl
  refine ⟨ho, fun p hp => ?_, fun hb id off hp => ?_⟩
  · rw [ho] at hp
    have hr : plRes p ∉ writes d e := hw _ (by unfold opReads; simp [refRes_of hp])
    have hex : isEx (look (apply σ d e) p) = true := by
      cases hv : opd (apply σ d e).env x <;> rw [hv] at hp hs2 <;> simp [V.refsTo] at hp <;> subst hp <;> exact hs2
    cases p with
    | slot u =>
      simp only [look] at hex ⊢
      rw [get_apply d e he.ways, told_none hr] at hex ⊢
      simp only at hex ⊢
      by_cases hk : kills d e (get σ.env u) = true
      · simp [hk, isEx] at hex
      · simp only [hk, Bool.false_eq_true, if_false]
    | cell id off => simp only [look]; rw [blk_left he hr]
  · subst hb
    rw [ho] at hp
    rw [blk_left he (hw _ (by unfold opReads; simp [hp]))]

end
end Go.Vm
