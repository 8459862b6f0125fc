/- V28: two operations that do not touch each other's places. -/
import Derived.Test.YtgmdkjiflhklaaaV27
namespace Go.Vm
open Go

section
variable {σ τ : St}

def memB (m : HE) (n id : Nat) (c : Option (List V)) : Option (List V) :=
  match m with
  | .set i off vs => if i = id then c.map (fun cs => setCells cs off vs) else c
  | .init i vs => if i = id ∧ i < n then some vs else c
  | .put ks H => if id < n ∧ ks.contains id = true then bcells H id else c
  | _ => c

theorem bcells_setB {H : Heap} (id : Nat) (cs : List V) (i : Nat) : bcells (H.set id (.cells cs)) i = if id = i ∧ id < H.length then some cs else bcells H i := by
  by_cases h : id < H.length
  · rw [bcells_set h]
    by_cases hi : i = id
    · subst hi; simp [h]
    · rw [if_neg hi, if_neg (by simp [Ne.symm hi])]
  · rw [List.set_eq_of_length_le (by omega), if_neg (by simp [h])]

theorem bcells_put1 (ks : List Nat) (H H' : Heap) (id : Nat) : bcells (putH ks H H') id = if id < H.length ∧ ks.contains id = true then bcells H' id else bcells H id := by
  unfold bcells putH
  rw [zipIdx_map_getElem?]
  rcases Nat.lt_or_ge id H.length with hlt | hge
  · rw [List.getElem?_eq_getElem hlt]
    cases hk : ks.contains id
    · simp only [Option.map_some, hk, Bool.false_eq_true, and_false, if_false]
    · simp only [Option.map_some, hk, if_true]
      rw [if_pos ⟨hlt, trivial⟩, List.getD_eq_getElem?_getD]
      cases H'[id]? <;> simp
  · rw [List.getElem?_eq_none hge, if_neg (fun hq => by omega)]; rfl

theorem bcells_apply (d : Option Nat) (e : Eff) (hm : ∀ H, e.mem ≠ .all H) (id : Nat) :
    bcells (apply σ d e).heap id = memB e.mem σ.heap.length id (placesB id e.places (bcells σ.heap id)) ∧ (apply σ d e).heap.length = σ.heap.length := by
  unfold apply
  rw [put_heap]
  obtain ⟨h1, h2⟩ := bcells_setPlaces e.places σ id
  cases hmm : e.mem with
  | keep => exact ⟨h1, h2⟩
  | all H => exact absurd hmm (hm H)
  | put ks H =>
    refine ⟨?_, by simp only [setMem, putH_length, h2]⟩
    simp only [setMem, memB]
    rw [bcells_put1, h1, h2]
  | init i vs =>
    refine ⟨?_, by simp [setMem, h2]⟩
    simp only [setMem, memB]
    rw [bcells_setB, h1, h2]
  | set i off vs =>
    simp only [setMem, memB]
    cases hc : bcells (setPlaces σ e.places).heap i with
    | none =>
      refine ⟨?_, h2⟩
      simp only
      rw [h1]
      by_cases hi : i = id
      · subst hi; rw [h1] at hc; rw [hc]; simp
      · rw [if_neg hi]
    | some ds =>
      refine ⟨?_, by simp [h2]⟩
      simp only
      rw [bcells_set (bcells_lt hc), h1]
      by_cases hi : i = id
      · subst hi; rw [h1] at hc; rw [hc]; simp
      · rw [if_neg (Ne.symm hi), if_neg hi]

theorem placesB_none {id : Nat} : ∀ {ps : List (Place × V)} {c : Option (List V)}, (∀ x ∈ ps, plRes x.1 ≠ .blk id) → placesB id ps c = c
  | [], c, _ => rfl
  | (.slot t, v) :: ps, c, h => by
    show placesB id ps c = c
    exact placesB_none (ps := ps) (fun x hx => h x (List.mem_cons_of_mem _ hx))
  | (.cell i off, v) :: ps, c, h => by
    have hne : i ≠ id := fun hi => h (.cell i off, v) (by simp) (by simp [plRes, hi])
    simp only [placesB, if_neg hne]
    exact placesB_none (ps := ps) (fun x hx => h x (List.mem_cons_of_mem _ hx))

theorem bcells_apply_none {d : Option Nat} {e : Eff} {id : Nat} (hw : Res.blk id ∉ writes d e) {n : Nat} (c : Option (List V)) : memB e.mem n id (placesB id e.places c) = c := by
  unfold writes at hw
  simp only [List.mem_append, List.mem_map, not_or, not_exists, not_and] at hw
  rw [placesB_none (fun x hx => hw.1.2 x hx)]
  cases hm : e.mem with
  | keep => rfl
  | all H => rfl
  | put ks H =>
    have : ks.contains id = false := by
      cases hk : ks.contains id with
      | false => rfl
      | true => exact absurd (by simp [hm]; simpa using hk) hw.2
    simp only [memB, this, Bool.false_eq_true, and_false, if_false]
  | init i vs =>
    have : i ≠ id := fun hi => hw.2 (by simp [hm, hi])
    simp [memB, this]
  | set i off vs =>
    have : i ≠ id := fun hi => hw.2 (by simp [hm, hi])
    simp [memB, this]

/-- What is asked of an operation's effect where the order is drawn. -/
structure Tame (e : Eff) : Prop where
  ways : ∀ x ∈ e.places, isWay x.2 = false
  all : ∀ H, e.mem ≠ .all H

theorem kills_undef {d : Option Nat} {e : Eff} : kills d e .undef = false := by
  unfold kills
  rw [memKills_nonway rfl]
  cases d <;> simp [killedBy, V.refsTo]

theorem told_safe {d1 d2 : Option Nat} {e1 e2 : Eff} (h1 : Tame e1) (h2 : Tame e2) (hv : ∀ r ∈ refRes e1.val, r ∉ writes d2 e2) {t : Nat} {v : V} (ht : told d1 e1 t = some v) : kills d2 e2 v = false := by
  cases hk : kills d2 e2 v with
  | false => rfl
  | true =>
    obtain ⟨r, hr1, hr2⟩ := kills_writes h2.all hk
    unfold told at ht
    split at ht
    · injection ht with ht; subst ht; exact absurd hr2 (hv r hr1)
    · have := h1.ways _ (lastAt_mem ht)
      simp only at this
      have hkk : kills d2 e2 v = false := by
        unfold kills
        rw [memKills_nonway this]
        cases d2 <;> simp [killedBy, refsTo_nonway this]
      rw [hkk] at hk; cases hk

/-- **They may be exchanged.** -/
theorem comm {d1 d2 : Option Nat} {e1 e2 : Eff} (h1 : Tame e1) (h2 : Tame e2) (hw : ∀ r ∈ writes d1 e1, r ∉ writes d2 e2) (hv1 : ∀ r ∈ refRes e1.val, r ∉ writes d2 e2) (hv2 : ∀ r ∈ refRes e2.val, r ∉ writes d1 e1) :
    Eqv (Vm.apply (Vm.apply σ d1 e1) d2 e2) (Vm.apply (Vm.apply σ d2 e2) d1 e1) := by
  refine ⟨fun t => ?_, heap_ext ?_ fun id => ?_⟩
  · rw [get_apply d2 e2 h2.ways, get_apply d1 e1 h1.ways, get_apply d1 e1 h1.ways, get_apply d2 e2 h2.ways]
    cases ht1 : told d1 e1 t with
    | some v1 =>
      have hn : told d2 e2 t = none := by
        cases ht2 : told d2 e2 t with
        | none => rfl
        | some v2 => exact absurd (told_writes ht2) (hw _ (told_writes ht1))
      simp only [hn, told_safe h1 h2 hv1 ht1, Bool.false_eq_true, if_false]
    | none =>
      cases ht2 : told d2 e2 t with
      | some v2 => simp only [told_safe h2 h1 hv2 ht2, Bool.false_eq_true, if_false]
      | none =>
        simp only
        by_cases k1 : kills d1 e1 (get σ.env t) = true <;> by_cases k2 : kills d2 e2 (get σ.env t) = true <;> simp [k1, k2, kills_undef]
  · rw [(bcells_apply d2 e2 h2.all 0).2, (bcells_apply d1 e1 h1.all 0).2, (bcells_apply d1 e1 h1.all 0).2, (bcells_apply d2 e2 h2.all 0).2]
  · rw [(bcells_apply d2 e2 h2.all id).1, (bcells_apply d1 e1 h1.all id).1, (bcells_apply d1 e1 h1.all id).1, (bcells_apply d2 e2 h2.all id).1, (bcells_apply d1 e1 h1.all 0).2, (bcells_apply d2 e2 h2.all 0).2]
    by_cases hm : Res.blk id ∈ writes d1 e1
    · have := hw _ hm
      rw [bcells_apply_none this, bcells_apply_none this]
    · rw [bcells_apply_none hm, bcells_apply_none hm]

end
end Go.Vm
