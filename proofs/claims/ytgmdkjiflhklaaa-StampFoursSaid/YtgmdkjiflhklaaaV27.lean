/- V27: what an operation leaves of what it does not write. -/
import Derived.Test.YtgmdkjiflhklaaaV26
import Derived.Test.YtgmdkjiflhklaaaV20
namespace Go.Vm
open Go

theorem refRes_of {v : V} {p : Place} (h : v.refsTo p = true) : plRes p ∈ refRes v := by
  cases v <;> simp [V.refsTo] at h <;> subst h <;> simp [refRes]

def lastAt (t : Nat) : List (Place × V) → Option V
  | [] => none
  | (p, v) :: ps => match lastAt t ps with
    | some x => some x
    | none => if p = .slot t then some v else none
def killedBy (ps : List (Place × V)) (x : V) : Bool := ps.any fun y => x.refsTo y.1
def memKills : HE → V → Bool
  | .keep, _ => false
  | .set id off cs, .lent (.cell i o) => decide (i = id ∧ off ≤ o ∧ o < off + cs.length)
  | .set id off cs, .xptr (.cell i o) _ _ => decide (i = id ∧ off ≤ o ∧ o < off + cs.length)
  | .set _ _ _, _ => false
  | .init _ _, _ => false
  | .all _, .lent (.cell _ _) => true
  | .all _, .xptr (.cell _ _) _ _ => true
  | .all _, _ => false
  | .put ks _, .lent (.cell i _) => ks.contains i
  | .put ks _, .xptr (.cell i _) _ _ => ks.contains i
  | .put _ _, _ => false

theorem refsTo_nonway {v : V} (h : isWay v = false) (p : Place) : v.refsTo p = false := by cases v <;> first | rfl | (simp [isWay] at h)

section
variable {σ τ : St}

theorem get_setPlace (p : Place) (v : V) (t : Nat) : get (setPlace σ p v).env t = if p = .slot t then v else if (get σ.env t).refsTo p then .undef else get σ.env t := by
  cases p with
  | slot u =>
    simp only [setPlace]
    by_cases h : u = t
    · subst h; simp [get_cons_same]
    · have hne : ¬ Place.slot u = Place.slot t := by simp [h]
      rw [get_cons_ne _ _ h, get_kill]; simp only [hne, if_false]
  | cell id off =>
    have hne : ¬ Place.cell id off = Place.slot t := by simp
    simp only [setPlace, get_kill, hne, if_false]

theorem get_setPlaces : ∀ (ps : List (Place × V)) (σ : St) (t : Nat), (∀ x ∈ ps, isWay x.2 = false) →
    get (setPlaces σ ps).env t = match lastAt t ps with | some v => v | none => if killedBy ps (get σ.env t) then .undef else get σ.env t
  | [], σ, t, _ => by simp [setPlaces, lastAt, killedBy]
  | (p, v) :: ps, σ, t, h => by
    simp only [setPlaces, lastAt]
    rw [get_setPlaces ps (setPlace σ p v) t (fun x hx => h x (by simp [hx]))]
    have hv := h (p, v) (by simp)
    simp only at hv
    cases lastAt t ps with
    | some x => rfl
    | none =>
      simp only
      rw [get_setPlace]
      by_cases hp : p = .slot t
      · have hk : killedBy ps v = false := by
          simp only [killedBy, List.any_eq_false]
          intro y _; rw [refsTo_nonway hv]; simp
        simp only [if_pos hp, hk, Bool.false_eq_true, if_false]
      · rw [if_neg hp]
        by_cases hr : (get σ.env t).refsTo p = true
        · have hk : killedBy ((p, v) :: ps) (get σ.env t) = true := by simp only [killedBy, List.any_cons, hr, Bool.true_or]
          have hu : killedBy ps .undef = false := by simp [killedBy, V.refsTo]
          rw [if_pos hr, hk, hu]; simp only [hp, if_false, if_true, Bool.false_eq_true]
        · have hk : killedBy ((p, v) :: ps) (get σ.env t) = killedBy ps (get σ.env t) := by
            have : (get σ.env t).refsTo p = false := by simpa using hr
            simp only [killedBy, List.any_cons, this, Bool.false_or]
          rw [if_neg hr, hk]; simp only [hp, if_false]

theorem get_setMem (m : HE) (t : Nat) : get (setMem σ m).env t = if memKills m (get σ.env t) then .undef else get σ.env t := by
  cases m with
  | keep => simp [setMem, memKills]
  | init id cs => simp [setMem, memKills]
  | set id off cs =>
    simp only [setMem]
    rw [get_map (killIn id off cs.length) rfl]
    cases hv : get σ.env t with
    | lent p => cases p <;> simp [killIn, memKills]
    | xptr p i o => cases p <;> simp [killIn, memKills]
    | _ => simp [killIn, memKills]
  | all H =>
    simp only [setMem]
    rw [get_map killCell rfl]
    cases hv : get σ.env t with
    | lent p => cases p <;> simp [killCell, memKills]
    | xptr p i o => cases p <;> simp [killCell, memKills]
    | _ => simp [killCell, memKills]
  | put ks H =>
    simp only [setMem]
    rw [get_map (killCellsIn ks) rfl]
    cases hv : get σ.env t with
    | lent p => cases p <;> simp [killCellsIn, memKills]
    | xptr p i o => cases p <;> simp [killCellsIn, memKills]
    | _ => simp [killCellsIn, memKills]

theorem get_put (d : Option Nat) (v : V) (t : Nat) : get (put σ d v).env t = if d = some t then v else if (match d with | some d => (get σ.env t).refsTo (.slot d) | none => false) then .undef else get σ.env t := by
  cases d with
  | none => simp [put]
  | some d =>
    simp only [put]
    by_cases h : d = t
    · subst h; simp [get_cons_same]
    · have hne : ¬ some d = some t := by simp [h]
      rw [get_cons_ne _ _ h, get_kill]; simp only [hne, if_false]

/-- Who of the ways an operation cuts. -/
def kills (d : Option Nat) (e : Eff) (x : V) : Bool := killedBy e.places x || memKills e.mem x || (match d with | some d => x.refsTo (.slot d) | none => false)
/-- A slot that it writes. -/
def told (d : Option Nat) (e : Eff) (t : Nat) : Option V := if d = some t then some e.val else lastAt t e.places

theorem lastAt_mem {t : Nat} : ∀ {ps : List (Place × V)} {v : V}, lastAt t ps = some v → (Place.slot t, v) ∈ ps
  | [], v, h => by simp [lastAt] at h
  | (p, u) :: ps, v, h => by
    simp only [lastAt] at h
    cases hl : lastAt t ps with
    | some x => simp only [hl] at h; injection h with h; subst h; exact List.mem_cons_of_mem _ (lastAt_mem hl)
    | none =>
      simp only [hl] at h
      split at h
      · rename_i hp; injection h with h; subst h; subst hp; simp
      · cases h

theorem memKills_nonway {m : HE} {v : V} (h : isWay v = false) : memKills m v = false := by
  cases m <;> cases v <;> first | rfl | (simp [isWay] at h)

theorem get_apply (d : Option Nat) (e : Eff) (he : ∀ x ∈ e.places, isWay x.2 = false) (t : Nat) :
    get (apply σ d e).env t = match told d e t with | some v => v | none => if kills d e (get σ.env t) then .undef else get σ.env t := by
  unfold apply told
  rw [get_put, get_setMem, get_setPlaces _ _ _ he]
  by_cases hd : d = some t
  · simp [hd]
  · simp only [if_neg hd]
    cases hl : lastAt t e.places with
    | some v =>
      simp only
      have hv : isWay v = false := he (.slot t, v) (lastAt_mem hl)
      rw [memKills_nonway hv]
      cases d <;> simp [refsTo_nonway hv]
    | none =>
      simp only [kills]
      have hu : memKills e.mem .undef = false := memKills_nonway rfl
      by_cases h1 : killedBy e.places (get σ.env t) = true
      · simp only [h1, if_true, hu, Bool.false_eq_true, if_false, Bool.true_or]
        cases d <;> simp [V.refsTo]
      · by_cases h2 : memKills e.mem (get σ.env t) = true
        · simp only [h1, h2, Bool.false_eq_true, if_false, if_true, Bool.or_true, Bool.true_or]
          cases d <;> simp [V.refsTo]
        · simp only [h1, h2, Bool.false_eq_true, if_false, Bool.false_or]

theorem told_writes {d : Option Nat} {e : Eff} {t : Nat} {v : V} (h : told d e t = some v) : Res.slot t ∈ writes d e := by
  unfold told at h
  unfold writes
  split at h
  · rename_i hd; subst hd; simp
  · have := lastAt_mem h
    simp only [List.mem_append, List.mem_map]
    exact .inl (.inr ⟨_, this, rfl⟩)

theorem kills_writes {d : Option Nat} {e : Eff} (hm : ∀ H, e.mem ≠ .all H) {x : V} (h : kills d e x = true) : ∃ r ∈ refRes x, r ∈ writes d e := by
  unfold kills at h
  simp only [Bool.or_eq_true] at h
  unfold writes
  rcases h with (h | h) | h
  · simp only [killedBy, List.any_eq_true] at h
    obtain ⟨y, hy, hr⟩ := h
    refine ⟨_, refRes_of hr, ?_⟩
    simp only [List.mem_append, List.mem_map]
    exact .inl (.inr ⟨y, hy, rfl⟩)
  · cases hmm : e.mem with
    | keep => simp [hmm, memKills] at h
    | init id cs => simp [hmm, memKills] at h
    | all H => exact absurd hmm (hm H)
    | put ks H =>
      rw [hmm] at h
      cases x <;> simp only [memKills] at h <;> try (cases h; done)
      · rename_i p i o
        cases p with
        | slot t => simp [memKills] at h
        | cell i' o' => exact ⟨.blk i', by simp [refRes, plRes], by simp [memKills] at h; simp [h]⟩
      · rename_i p
        cases p with
        | slot t => simp [memKills] at h
        | cell i' o' => exact ⟨.blk i', by simp [refRes, plRes], by simp [memKills] at h; simp [h]⟩
    | set id off cs =>
      rw [hmm] at h
      cases x <;> simp only [memKills] at h <;> try (cases h; done)
      · rename_i p i o
        cases p <;> simp [memKills] at h
        exact ⟨.blk id, by simp [refRes, plRes, h.1], by simp⟩
      · rename_i p
        cases p <;> simp [memKills] at h
        exact ⟨.blk id, by simp [refRes, plRes, h.1], by simp⟩
  · cases d with
    | none => simp at h
    | some d => exact ⟨.slot d, refRes_of (p := .slot d) h, by simp⟩

end
end Go.Vm
