/- V3: small changes of V's state and what they leave: a place gives up its array, or freezes it; a slot is written. -/
import Derived.Test.YtgmdkjiflhklaaaV2
namespace Go.Vm
open Go

theorem get_cons_same (t : Nat) (v : V) (r : Env) : get ((t, v) :: r) t = v := by simp [get]
theorem get_cons_ne {t u : Nat} (v : V) (r : Env) (h : u ≠ t) : get ((u, v) :: r) t = get r t := by simp [get, h]
theorem get_map (f : V → V) (hf : f .undef = .undef) (t : Nat) : ∀ env : Env, get (env.map fun x => (x.1, f x.2)) t = f (get env t)
  | [] => by simp [get, hf]
  | (u, v) :: r => by
    simp only [List.map_cons, get]
    split
    · rfl
    · exact get_map f hf t r
theorem get_kill (p : Place) (env : Env) (t : Nat) : get (kill p env) t = if (get env t).refsTo p then .undef else get env t :=
  get_map (fun v => if v.refsTo p then .undef else v) (by simp [V.refsTo]) t env

theorem refsTo_ex {p : Place} {sz : Nat} {n : Bool} {xs : List V} : (V.ex sz n xs).refsTo p = false := rfl

/-- What a value needs of the rest of the state. -/
theorem ER.keep {own own' : Own} {β β' : Nat → Nat} {w w' : World} {σ σ' : St} {tmps tmps' : Array Value} {t : Nat} {v : V} {c : Value}
    (h : ER own β w σ tmps t v c) (hk : ∀ b, own b = .im → own' b = .im ∧ w'.heap[b]? = w.heap[b]?)
    (hb : ∀ id, own (β id) = .blk id → own' (β' id) = .blk id ∧ β' id = β id)
    (hl : ∀ i j b, own b = .slot t i j → own' b = .slot t i j ∧ w'.heap[b]? = w.heap[b]?)
    (hp : ∀ p, v.refsTo p = true → (∀ sz n xs, look σ p = .ex sz n xs → ∃ n' xs', look σ' p = .ex sz n' xs' ∧ xs'.length = xs.length) ∧
      (∀ c, conc β tmps w p = some c → conc β' tmps' w' p = some c) ∧ ∀ b, own b = locOf p → own' b = locOf p) : ER own' β' w' σ' tmps' t v c := by
  cases v with
  | lent p =>
    obtain ⟨sz, n, xs, h1, h2⟩ := h
    obtain ⟨hp1, hp2, hp3⟩ := hp p (by simp [V.refsTo])
    obtain ⟨n', xs', h3, _⟩ := hp1 _ _ _ h1
    exact ⟨sz, n', xs', h3, hp2 _ h2⟩
  | xptr p i off =>
    obtain ⟨sz, n, xs, b, len, cap, h1, h2, h3, h4, h5⟩ := h
    obtain ⟨hp1, hp2, hp3⟩ := hp p (by simp [V.refsTo])
    obtain ⟨n', xs', h6, h7⟩ := hp1 _ _ _ h1
    exact ⟨sz, n', xs', b, len, cap, h6, hp2 _ h2, hp3 b h3, by rw [h7]; exact h4, h5⟩
  | _ => simp only [ER] at h ⊢; exact h.mono hk hb hl

theorem ER.undef (own : Own) (β : Nat → Nat) (w : World) (σ : St) (tmps : Array Value) (t : Nat) (c : Value) : ER own β w σ tmps t .undef c := by
  simp only [ER, TR, VR]

/-- Blocks change hands. -/
structure Reloc (ρ : Loc → Loc) : Prop where
  im : ρ .im = .im
  other : ρ .other = .other
  blk : ∀ id, ρ (.blk id) = .blk id
  noblk : ∀ l id, ρ l = .blk id → l = .blk id
  noother : ∀ l, ρ l = .other → l = .other

theorem FR.reloc {own : Own} {w : World} {ρ : Loc → Loc} (hr : Reloc ρ) {v : V} {c : Value} (h : FR own w v c) : FR (fun b => ρ (own b)) w v c :=
  h.mono fun b hb => ⟨by simp only [hb, hr.im], rfl⟩
theorem EXR.reloc {own : Own} {w : World} {ρ : Loc → Loc} (hr : Reloc ρ) {l : Loc} {sz : Nat} {n : Bool} {xs : List V} {c : Value} (h : EXR own w l sz n xs c) :
    EXR (fun b => ρ (own b)) w (ρ l) sz n xs c := by
  rcases h with h | h | ⟨hn, b, cap, T, arr, h1, h2, h3, h4, h5, h6⟩
  · exact .inl h
  · exact .inr (.inl h)
  · exact .inr (.inr ⟨hn, b, cap, T, arr, h1, by simp only [h2], h3, h4, h5, fun i x hx => ⟨(h6 i x hx).1, fun j y c hy hc => ((h6 i x hx).2 j y c hy hc).reloc hr⟩⟩)
theorem PR.reloc {own : Own} {β : Nat → Nat} {w : World} {ρ : Loc → Loc} (hr : Reloc ρ) {v : V} {c : Value} (h : PR own β w v c) : PR (fun b => ρ (own b)) β w v c :=
  h.mono (fun b hb => ⟨by simp only [hb, hr.im], rfl⟩) fun id hb => ⟨by simp only [hb, hr.blk], rfl⟩
theorem CR.reloc {own : Own} {β : Nat → Nat} {w : World} {ρ : Loc → Loc} (hr : Reloc ρ) {l : Loc} {v : V} {c : Value} (h : CR own β w l v c) :
    CR (fun b => ρ (own b)) β w (ρ l) v c := by
  cases v <;> simp only [CR] at h ⊢ <;> first
    | exact FR.reloc hr h
    | exact ⟨h.1, by simp only [h.2, hr.blk]⟩
    | exact EXR.reloc hr h
    | (obtain ⟨ca, cb, h1, h2, h3, h4, h5⟩ := h
       exact ⟨ca, cb, h1, h2, h3, fun j v c hv hc => (h4 j v c hv hc).reloc hr, fun j v c hv hc => (h5 j v c hv hc).reloc hr⟩)
theorem VR.reloc {own : Own} {β : Nat → Nat} {w : World} {ρ : Loc → Loc} (hr : Reloc ρ) {L : Nat → Loc} {v : V} {c : Value} (h : VR own β w L v c) :
    VR (fun b => ρ (own b)) β w (fun j => ρ (L j)) v c := by
  cases v with
  | agg cs =>
    obtain ⟨arr, h1, h2, h3⟩ := h
    exact ⟨arr, h1, h2, fun j v c hv hc => (h3 j v c hv hc).reloc hr⟩
  | rptr cs off =>
    obtain ⟨b, o, h1, h2, h3⟩ := h
    refine ⟨b, o, h1, by simp only [h2, hr.im], fun j v hv => ?_⟩
    obtain ⟨c', h4, h5⟩ := h3 j v hv
    exact ⟨c', h4, h5.reloc hr⟩
  | undef => trivial
  | _ => simp only [VR] at h ⊢; exact h.reloc hr
theorem TR.reloc {own : Own} {β : Nat → Nat} {w : World} {ρ : Loc → Loc} (hr : Reloc ρ) {L : Nat → Nat → Loc} {v : V} {c : Value} (h : TR own β w L v c) :
    TR (fun b => ρ (own b)) β w (fun i j => ρ (L i j)) v c := by
  cases v with
  | tup vs =>
    obtain ⟨arr, h1, h2, h3⟩ := h
    exact ⟨arr, h1, h2, fun i v c hv hc => (h3 i v c hv hc).reloc hr⟩
  | _ => simp only [TR] at h ⊢; exact h.reloc hr

theorem Stay.reloc {own : Own} {w : World} {ρ : Loc → Loc} (hr : Reloc ρ) : Stay own w (fun b => ρ (own b)) w :=
  ⟨fun b h => ⟨by simp only [h, hr.im], rfl⟩, fun b _ h => ⟨by simp only [h, hr.other], rfl⟩, Nat.le_refl _, rfl, rfl, rfl⟩

/-- A frozen array is data. -/
theorem EXR.freeze {own : Own} {w : World} {sz : Nat} {n : Bool} {xs : List V} {c : Value} (h : EXR own w .im sz n xs c) : FR own w (.sl n xs) c := by
  rcases h with ⟨rfl, rfl, rfl⟩ | ⟨rfl, rfl, a, rfl⟩ | ⟨rfl, b, cap, T, arr, rfl, h2, h3, h4, h5, h6⟩
  · exact .nil
  · exact .none a 0
  · refine .sl b 0 cap sz xs (fun i j => arr.getD (i * sz + j) undef) h2 h4 (fun i x hx => ⟨(h6 i x hx).1, fun j hj => ?_⟩) (fun i x j y hx hy => ?_)
    · have hi : i < xs.length := (List.getElem?_eq_some_iff.1 hx).1
      have hlt : i * sz + j < arr.size := by
        rw [h5]
        have : (i + 1) * sz ≤ cap * sz := Nat.mul_le_mul_right _ (by omega)
        rw [Nat.succ_mul] at this; omega
      rw [Nat.zero_add, cell_of_row w b _ arr T _ h3, Array.getElem?_eq_getElem hlt]
      simp [Array.getD, hlt]
    · have hi : i < xs.length := (List.getElem?_eq_some_iff.1 hx).1
      have hj : j < sz := by rw [← (h6 i x hx).1]; exact (List.getElem?_eq_some_iff.1 hy).1
      have hlt : i * sz + j < arr.size := by
        rw [h5]
        have : (i + 1) * sz ≤ cap * sz := Nat.mul_le_mul_right _ (by omega)
        rw [Nat.succ_mul] at this; omega
      refine (h6 i x hx).2 j y _ hy ?_
      rw [Array.getElem?_eq_getElem hlt]; simp [Array.getD, hlt]

/-- From one place to another, or into the frozen ones. -/
def moved (a b : Loc) (l : Loc) : Loc := if l = a then b else l
theorem moved_reloc {a b : Loc} (h1 : a ≠ .im) (h2 : a ≠ .other) (h3 : ∀ id, a ≠ .blk id) (h4 : ∀ id, b ≠ .blk id) (h5 : b ≠ .other) : Reloc (moved a b) := by
  refine ⟨by simp [moved, h1.symm], by simp [moved, h2.symm], fun id => by simp [moved, (h3 id).symm], fun l id h => ?_, fun l h => ?_⟩
  · unfold moved at h; split at h
    · exact absurd h (h4 id)
    · exact h
  · unfold moved at h; split at h
    · exact absurd h h5
    · exact h
/-- All that stands in a slot, to the result. -/
def slotOut (t : Nat) (l : Loc) : Loc := match l with | .slot u i j => if u = t then .res i j else l | l => l
theorem slotOut_reloc (t : Nat) : Reloc (slotOut t) := by
  refine ⟨rfl, rfl, fun _ => rfl, fun l id h => ?_, fun l h => ?_⟩
  · cases l <;> simp only [slotOut] at h <;> first | rfl | exact h | (split at h <;> cases h)
  · cases l <;> simp only [slotOut] at h <;> first | rfl | exact h | (split at h <;> cases h)
/-- The result, into a slot. -/
def resIn (d : Nat) (l : Loc) : Loc := match l with | .res i j => .slot d i j | l => l
theorem resIn_reloc (d : Nat) : Reloc (resIn d) := by
  refine ⟨rfl, rfl, fun _ => rfl, fun l id h => ?_, fun l h => ?_⟩
  · cases l <;> simp only [resIn] at h <;> first | rfl | exact h | cases h
  · cases l <;> simp only [resIn] at h <;> first | rfl | exact h | cases h

theorem HR.reloc {own : Own} {β : Nat → Nat} {w : World} {H : Heap} {ρ : Loc → Loc} (hr : Reloc ρ) (h : HR own β w H)
    (hc : ∀ id j, ρ (.cell id j) = .cell id j) : HR (fun b => ρ (own b)) β w H := by
  refine ⟨fun id cs hi => ?_, fun b id hb => h.inv b id (hr.noblk _ _ hb), fun b hb => h.lt b fun he => hb (by simp only [he, hr.other])⟩
  obtain ⟨h1, h2, arr, T, h3, h4, h5⟩ := h.blk id cs hi
  refine ⟨by simp only [h1, hr.blk], h2, arr, T, h3, h4, fun j v c hv hcv => ?_⟩
  have := (h5 j v c hv hcv).reloc hr
  rwa [hc] at this

/-- The same where a cell gives up its array. -/
theorem HR.reloc_cell {own : Own} {β : Nat → Nat} {w : World} {H : Heap} {ρ : Loc → Loc} (hr : Reloc ρ) (h : HR own β w H) {id off : Nat} {cs : List V} {v' : V}
    (hcs : bcells H id = some cs) (hc : ∀ i j, (i ≠ id ∨ j ≠ off) → ρ (.cell i j) = .cell i j) (hok : okBelow (id + 1) v' = true)
    (hv : ∀ v c, cs[off]? = some v → w.cell? ⟨β id, off, none⟩ = some c → CR own β w (.cell id off) v c → CR (fun b => ρ (own b)) β w (.cell id off) v' c) :
    HR (fun b => ρ (own b)) β w (H.set id (.cells (cs.set off v'))) := by
  have hid : id < H.length := by
    unfold bcells at hcs
    cases hh : H[id]? with
    | none => simp [hh] at hcs
    | some x => exact (List.getElem?_eq_some_iff.1 hh).1
  have hb : ∀ i, bcells (H.set id (.cells (cs.set off v'))) i = if i = id then some (cs.set off v') else bcells H i := by
    intro i
    unfold bcells
    by_cases hi : i = id
    · subst hi; simp [hid]
    · rw [List.getElem?_set_ne (Ne.symm hi)]; simp [hi]
  refine ⟨fun i ds hi => ?_, fun b i hbi => ?_, fun b hb => h.lt b fun he => hb (by simp only [he, hr.other])⟩
  · rw [hb] at hi
    split at hi
    · rename_i hii
      subst hii
      injection hi with hi; subst hi
      obtain ⟨h1, h2, arr, T, h3, h4, h5⟩ := h.blk i cs hcs
      refine ⟨by simp only [h1, hr.blk], fun v hv' => ?_, arr, T, h3, by simpa using h4, fun j v c hvj hcj => ?_⟩
      · rcases List.mem_or_eq_of_mem_set hv' with hm | rfl
        · exact h2 v hm
        · exact hok
      · by_cases hj : j = off
        · subst hj
          have hlt : j < cs.length := by
            have := (List.getElem?_eq_some_iff.1 hvj).1; simpa using this
          rw [List.getElem?_set_self hlt] at hvj
          injection hvj with hvj; subst hvj
          have hold : cs[j]? = some cs[j] := List.getElem?_eq_getElem hlt
          exact hv _ c hold (by rw [cell_of_row w _ j arr T _ h3]; exact hcj) (h5 j _ c hold hcj)
        · rw [List.getElem?_set_ne (Ne.symm hj)] at hvj
          have := (h5 j v c hvj hcj).reloc hr
          rwa [hc i j (.inr hj)] at this
    · rename_i hii
      obtain ⟨h1, h2, arr, T, h3, h4, h5⟩ := h.blk i ds hi
      refine ⟨by simp only [h1, hr.blk], h2, arr, T, h3, h4, fun j v c hvj hcj => ?_⟩
      have := (h5 j v c hvj hcj).reloc hr
      rwa [hc i j (.inl hii)] at this
  · obtain ⟨h1, ds, h2⟩ := h.inv b i (hr.noblk _ _ hbi)
    refine ⟨h1, ?_⟩
    rw [hb]
    split
    · exact ⟨_, rfl⟩
    · exact ⟨ds, h2⟩

theorem bcells_lt {H : Heap} {id : Nat} {cs : List V} (h : bcells H id = some cs) : id < H.length := by
  unfold bcells at h
  cases hh : H[id]? with
  | none => simp [hh] at h
  | some x => exact (List.getElem?_eq_some_iff.1 hh).1

theorem bcells_set {H : Heap} {id : Nat} (hid : id < H.length) (cs : List V) (i : Nat) : bcells (H.set id (.cells cs)) i = if i = id then some cs else bcells H i := by
  unfold bcells
  by_cases hi : i = id
  · subst hi; simp [hid]
  · rw [List.getElem?_set_ne (Ne.symm hi)]; simp [hi]


theorem refsTo_eq {p q : Place} {v : V} (h : v.refsTo p = true) (h' : v.refsTo q = true) : p = q := by
  cases v <;> simp [V.refsTo] at h h' <;> exact h.symm.trans h'

def isWay : V → Bool
  | .lent _ | .xptr _ _ _ => true
  | _ => false
theorem ER.of_TR {own : Own} {β : Nat → Nat} {w : World} {σ : St} {tmps : Array Value} {t : Nat} {v : V} {c : Value} (h : TR own β w (fun i j => .slot t i j) v c)
    (hv : isWay v = false) : ER own β w σ tmps t v c := by
  cases v <;> first | exact h | (simp [isWay] at hv)
theorem ER.to_TR {own : Own} {β : Nat → Nat} {w : World} {σ : St} {tmps : Array Value} {t : Nat} {v : V} {c : Value} (h : ER own β w σ tmps t v c)
    (hv : isWay v = false) : TR own β w (fun i j => .slot t i j) v c := by
  cases v <;> first | exact h | (simp [isWay] at hv)

/-- A slot's value is another one, of what it was, and blocks that it held change hands. -/
theorem SR.slot {own : Own} {β : Nat → Nat} {w : World} {σ : St} {tmps : Array Value} {ρ : Loc → Loc} (hr : Reloc ρ) (h : SR own β w σ tmps) {t : Nat} {v' : V}
    (hs : ∀ u i j, u ≠ t → ρ (.slot u i j) = .slot u i j) (hc : ∀ id j, ρ (.cell id j) = .cell id j) (hv : isWay v' = false)
    (hn : TR (fun b => ρ (own b)) β w (fun i j => .slot t i j) v' (tmps.getD t undef)) :
    SR (fun b => ρ (own b)) β w (setPlace σ (.slot t) v') tmps := by
  refine ⟨fun u => ?_, h.heap.reloc hr hc⟩
  by_cases hu : u = t
  · subst hu
    simp only [setPlace, get_cons_same]
    exact ER.of_TR hn hv
  · simp only [setPlace, get_cons_ne _ _ (Ne.symm hu), get_kill]
    split
    · exact ER.undef _ _ _ _ _ _ _
    · rename_i hk
      refine (h.env u).keep (fun b hb => ⟨by simp only [hb, hr.im], rfl⟩) (fun id hb => ⟨by simp only [hb, hr.blk], rfl⟩)
        (fun i j b hb => ⟨by simp only [hb, hs u i j hu], rfl⟩) (fun p hp => ?_)
      have hne : p ≠ .slot t := fun he => hk (he ▸ hp)
      refine ⟨fun sz n xs hl => ⟨n, xs, ?_, rfl⟩, fun c hc => hc, fun b hb => ?_⟩
      · cases p with
        | slot x =>
          have hx : x ≠ t := fun he => hne (by rw [he])
          simp only [look] at hl ⊢
          rw [get_cons_ne _ _ (Ne.symm hx), get_kill, hl]
          rfl
        | cell id off => exact hl
      · cases p with
        | slot x =>
          have hx : x ≠ t := fun he => hne (by rw [he])
          simp only [locOf] at hb ⊢
          simp only [hb, hs x 0 0 hx]
        | cell id off => simp only [locOf] at hb ⊢; simp only [hb, hc]

/-- A cell of a block gives up its array, or freezes it. -/
theorem SR.cell {own : Own} {β : Nat → Nat} {w : World} {σ : St} {tmps : Array Value} {ρ : Loc → Loc} (hr : Reloc ρ) (h : SR own β w σ tmps) {id off : Nat} {cs : List V} {v' : V}
    (hcs : bcells σ.heap id = some cs) (hs : ∀ u i j, ρ (.slot u i j) = .slot u i j) (hc : ∀ i j, (i ≠ id ∨ j ≠ off) → ρ (.cell i j) = .cell i j)
    (hok : okBelow (id + 1) v' = true)
    (hv : ∀ v c, cs[off]? = some v → w.cell? ⟨β id, off, none⟩ = some c → CR own β w (.cell id off) v c → CR (fun b => ρ (own b)) β w (.cell id off) v' c) :
    SR (fun b => ρ (own b)) β w (setPlace σ (.cell id off) v') tmps := by
  have hh := h.heap.reloc_cell hr hcs hc hok hv
  refine ⟨fun u => ?_, by simpa only [setPlace, hcs] using hh⟩
  simp only [setPlace, get_kill, hcs]
  split
  · exact ER.undef _ _ _ _ _ _ _
  · rename_i hk
    refine (h.env u).keep (fun b hb => ⟨by simp only [hb, hr.im], rfl⟩) (fun id hb => ⟨by simp only [hb, hr.blk], rfl⟩)
      (fun i j b hb => ⟨by simp only [hb, hs u i j], rfl⟩) (fun p hp => ?_)
    have hne : p ≠ .cell id off := fun he => hk (he ▸ hp)
    refine ⟨fun sz n xs hl => ⟨n, xs, ?_, rfl⟩, fun c hc => hc, fun b hb => ?_⟩
    · cases p with
      | slot x =>
        simp only [look] at hl ⊢
        rw [get_kill, hl]
        rfl
      | cell i o =>
        simp only [look] at hl ⊢
        rw [bcells_set (bcells_lt hcs)]
        by_cases hi : i = id
        · subst hi
          have ho : o ≠ off := fun he => hne (by rw [he])
          simp only [hcs] at hl
          simp only [if_true]
          rw [← hl]
          simp [List.getD_eq_getElem?_getD, List.getElem?_set_ne (Ne.symm ho)]
        · simp only [if_neg hi]; exact hl
    · cases p with
      | slot x => simp only [locOf] at hb ⊢; simp only [hb, hs]
      | cell i o =>
        simp only [locOf] at hb ⊢
        have : i ≠ id ∨ o ≠ off := by
          by_cases hi : i = id
          · exact .inr fun ho => hne (by rw [hi, ho])
          · exact .inl hi
        simp only [hb, hc i o this]

/-- What the state knows of an array that a place holds. -/
theorem SR.at_ {own : Own} {β : Nat → Nat} {w : World} {σ : St} {tmps : Array Value} (h : SR own β w σ tmps) {p : Place} {sz : Nat} {n : Bool} {xs : List V}
    (hl : look σ p = .ex sz n xs) : ∃ c, conc β tmps w p = some c ∧ EXR own w (locOf p) sz n xs c := by
  cases p with
  | slot t =>
    have := h.env t
    simp only [look] at hl
    rw [hl] at this
    exact ⟨_, rfl, this⟩
  | cell id off =>
    simp only [look] at hl
    cases hc : bcells σ.heap id with
    | none => simp [hc] at hl
    | some cs =>
      simp only [hc] at hl
      obtain ⟨h1, h2, arr, T, h3, h4, h5⟩ := h.heap.blk id cs hc
      have hlt : off < cs.length := by
        rcases Nat.lt_or_ge off cs.length with h' | h'
        · exact h'
        · simp [List.getD_eq_getElem?_getD, List.getElem?_eq_none h'] at hl
      have hcs : cs[off]? = some (.ex sz n xs) := by
        rw [List.getD_eq_getElem?_getD, List.getElem?_eq_getElem hlt] at hl
        rw [List.getElem?_eq_getElem hlt]; simpa using hl
      have ha : off < arr.size := by omega
      have := h5 off _ arr[off] hcs (Array.getElem?_eq_getElem ha)
      refine ⟨arr[off], ?_, this⟩
      simp only [conc]
      rw [cell_of_row w _ _ arr T _ h3, Array.getElem?_eq_getElem ha]

theorem Place.cases_look {σ : St} {id off : Nat} {sz : Nat} {n : Bool} {xs : List V} (hl : look σ (.cell id off) = .ex sz n xs) :
    ∃ cs, bcells σ.heap id = some cs ∧ cs[off]? = some (.ex sz n xs) := by
  simp only [look] at hl
  cases hc : bcells σ.heap id with
  | none => simp [hc] at hl
  | some cs =>
    simp only [hc] at hl
    refine ⟨cs, rfl, ?_⟩
    have hlt : off < cs.length := by
      rcases Nat.lt_or_ge off cs.length with h' | h'
      · exact h'
      · simp [List.getD_eq_getElem?_getD, List.getElem?_eq_none h'] at hl
    rw [List.getD_eq_getElem?_getD, List.getElem?_eq_getElem hlt] at hl
    rw [List.getElem?_eq_getElem hlt]; simpa using hl

theorem moved_at (a b : Loc) : moved a b a = b := by simp [moved]
theorem moved_ne {a b l : Loc} (h : l ≠ a) : moved a b l = l := by simp [moved, h]
theorem locOf_reloc (p : Place) {b : Loc} (h4 : ∀ id, b ≠ .blk id) (h5 : b ≠ .other) : Reloc (moved (locOf p) b) := by
  cases p <;> exact moved_reloc (by simp [locOf]) (by simp [locOf]) (by simp [locOf]) h4 h5

/-- A place freezes its array. -/
theorem SR.freeze {own : Own} {β : Nat → Nat} {w : World} {σ : St} {tmps : Array Value} (h : SR own β w σ tmps) {p : Place} {sz : Nat} {n : Bool} {xs : List V}
    (hl : look σ p = .ex sz n xs) : ∃ own' c, conc β tmps w p = some c ∧ FR own' w (.sl n xs) c ∧ SR own' β w (setPlace σ p (.sl n xs)) tmps ∧ Stay own w own' w ∧
      own' = fun b => moved (locOf p) .im (own b) := by
  obtain ⟨c, h1, h2⟩ := h.at_ hl
  have hr : Reloc (moved (locOf p) .im) := locOf_reloc p (by simp) (by simp)
  have hf : FR (fun b => moved (locOf p) .im (own b)) w (.sl n xs) c := by
    have := h2.reloc hr
    rw [moved_at] at this
    exact this.freeze
  refine ⟨_, c, h1, hf, ?_, Stay.reloc hr, rfl⟩
  cases p with
  | slot t =>
    refine h.slot hr (fun u i j hu => moved_ne (by simp [locOf, hu])) (fun id j => moved_ne (by simp [locOf])) rfl ?_
    simp only [conc] at h1
    injection h1 with h1
    rw [h1]; exact hf
  | cell id off =>
    obtain ⟨cs, hc, hcs⟩ := Place.cases_look hl
    refine h.cell hr hc (fun u i j => moved_ne (by simp [locOf])) (fun i j hij => moved_ne (by simp only [locOf]; rintro ⟨⟩; simp at hij)) rfl ?_
    intro v c' hv _ hcr
    rw [hcs] at hv
    injection hv with hv; subst hv
    have := (show EXR own w (.cell id off) sz n xs c' from hcr).reloc hr
    rw [show moved (locOf (.cell id off)) .im (.cell id off) = .im from moved_at _ _] at this
    exact this.freeze

/-- A place gives its array away. -/
theorem SR.give {own : Own} {β : Nat → Nat} {w : World} {σ : St} {tmps : Array Value} (h : SR own β w σ tmps) {p : Place} {sz : Nat} {n : Bool} {xs : List V} (l : Loc)
    (h4 : ∀ id, l ≠ .blk id) (h5 : l ≠ .other)
    (hl : look σ p = .ex sz n xs) : ∃ own' c, conc β tmps w p = some c ∧ EXR own' w l sz n xs c ∧ SR own' β w (setPlace σ p .undef) tmps ∧ Stay own w own' w ∧
      own' = fun b => moved (locOf p) l (own b) := by
  obtain ⟨c, h1, h2⟩ := h.at_ hl
  have hr : Reloc (moved (locOf p) l) := locOf_reloc p h4 h5
  have hf : EXR (fun b => moved (locOf p) l (own b)) w l sz n xs c := by
    have := h2.reloc hr
    rwa [moved_at] at this
  refine ⟨_, c, h1, hf, ?_, Stay.reloc hr, rfl⟩
  cases p with
  | slot t => exact h.slot hr (fun u i j hu => moved_ne (by simp [locOf, hu])) (fun id j => moved_ne (by simp [locOf])) rfl (by simp only [TR, VR])
  | cell id off =>
    obtain ⟨cs, hc, hcs⟩ := Place.cases_look hl
    exact h.cell hr hc (fun u i j => moved_ne (by simp [locOf])) (fun i j hij => moved_ne (by simp only [locOf]; rintro ⟨⟩; simp at hij)) rfl (fun v c' hv _ hcr => .undef _ hcr.one)

/-- A slot gives away all that it holds. -/
theorem SR.giveSlot {own : Own} {β : Nat → Nat} {w : World} {σ : St} {tmps : Array Value} (h : SR own β w σ tmps) (t : Nat) (hw : isWay (get σ.env t) = false) :
    TR (fun b => slotOut t (own b)) β w (fun i j => .res i j) (get σ.env t) (tmps.getD t undef) ∧
      SR (fun b => slotOut t (own b)) β w (setPlace σ (.slot t) .undef) tmps ∧ Stay own w (fun b => slotOut t (own b)) w := by
  have hr := slotOut_reloc t
  refine ⟨?_, h.slot hr (fun u i j hu => by simp [slotOut, hu]) (fun id j => rfl) rfl (by simp only [TR, VR]), Stay.reloc hr⟩
  have := ((h.env t).to_TR hw).reloc hr
  simpa [slotOut] using this

/-- A slot is written. -/
theorem SR.put {own : Own} {β : Nat → Nat} {w : World} {σ : St} {tmps : Array Value} (h : SR own β w σ tmps) {d : Nat} {v : V} {c : Value} (hd : d < tmps.size)
    (hv : isWay v = false) (hn : TR own β w (fun i j => .res i j) v c) :
    SR (fun b => resIn d (own b)) β w (Go.Vm.put σ (some d) v) (tmps.setIfInBounds d c) ∧ Stay own w (fun b => resIn d (own b)) w := by
  have hr := resIn_reloc d
  refine ⟨⟨fun u => ?_, h.heap.reloc hr (fun _ _ => rfl)⟩, Stay.reloc hr⟩
  by_cases hu : u = d
  · subst hu
    simp only [Go.Vm.put, get_cons_same]
    have he : (tmps.setIfInBounds u c).getD u undef = c := by simp [hd]
    rw [he]
    exact ER.of_TR (hn.reloc hr) hv
  · have he : (tmps.setIfInBounds d c).getD u undef = tmps.getD u undef := by simp [Array.getElem?_setIfInBounds_ne (Ne.symm hu)]
    rw [he]
    simp only [Go.Vm.put, get_cons_ne _ _ (Ne.symm hu), get_kill]
    split
    · exact ER.undef _ _ _ _ _ _ _
    · rename_i hk
      refine (h.env u).keep (fun b hb => ⟨by simp only [hb, hr.im], rfl⟩) (fun id hb => ⟨by simp only [hb, hr.blk], rfl⟩)
        (fun i j b hb => ⟨by simp only [hb, resIn], rfl⟩) (fun p hp => ?_)
      have hne : p ≠ .slot d := fun he => hk (he ▸ hp)
      refine ⟨fun sz n xs hl => ⟨n, xs, ?_, rfl⟩, fun c hc => ?_, fun b hb => ?_⟩
      · cases p with
        | slot x =>
          have hx : x ≠ d := fun he => hne (by rw [he])
          simp only [look] at hl ⊢
          rw [get_cons_ne _ _ (Ne.symm hx), get_kill, hl]
          rfl
        | cell id off => exact hl
      · cases p with
        | slot x =>
          have hx : x ≠ d := fun he => hne (by rw [he])
          simp only [conc] at hc ⊢
          rw [← hc]; simp [Array.getElem?_setIfInBounds_ne (Ne.symm hx)]
        | cell id off => exact hc
      · cases p <;> simp only [locOf] at hb ⊢ <;> simp only [hb, resIn]

/-- The same with a way to a place that stays. -/
theorem SR.putWay {own : Own} {β : Nat → Nat} {w : World} {σ : St} {tmps : Array Value} (h : SR own β w σ tmps) {d : Nat} {v : V} {c : Value} (hd : d < tmps.size)
    (hv : isWay v = true) (hnd : v.refsTo (.slot d) = false) (hn : ER own β w σ tmps d v c) :
    SR own β w (Go.Vm.put σ (some d) v) (tmps.setIfInBounds d c) := by
  have key : ∀ p v, v.refsTo p = true → p ≠ .slot d → (∀ sz n xs, look σ p = .ex sz n xs → ∃ n' xs', look (Go.Vm.put σ (some d) v) p = .ex sz n' xs' ∧ xs'.length = xs.length) ∧
      (∀ c', conc β tmps w p = some c' → conc β (tmps.setIfInBounds d c) w p = some c') ∧ ∀ b, own b = locOf p → own b = locOf p := by
    intro p v hp hne
    refine ⟨fun sz n xs hl => ⟨n, xs, ?_, rfl⟩, fun c' hc => ?_, fun b hb => hb⟩
    · cases p with
      | slot x =>
        have hx : x ≠ d := fun he => hne (by rw [he])
        simp only [look] at hl ⊢
        simp only [Go.Vm.put]
        rw [get_cons_ne _ _ (Ne.symm hx), get_kill, hl]
        rfl
      | cell id off => exact hl
    · cases p with
      | slot x =>
        have hx : x ≠ d := fun he => hne (by rw [he])
        simp only [conc] at hc ⊢
        rw [← hc]; simp [Array.getElem?_setIfInBounds_ne (Ne.symm hx)]
      | cell id off => exact hc
  have key2 : ∀ (vv : V) p, vv.refsTo p = true → p ≠ .slot d → (∀ sz n xs, look σ p = .ex sz n xs → ∃ n' xs', look (Go.Vm.put σ (some d) v) p = .ex sz n' xs' ∧ xs'.length = xs.length) ∧
      (∀ c', conc β tmps w p = some c' → conc β (tmps.setIfInBounds d c) w p = some c') ∧ ∀ b, own b = locOf p → own b = locOf p := by
    intro vv p hp hne
    refine ⟨fun sz n xs hl => ⟨n, xs, ?_, rfl⟩, (key p vv hp hne).2.1, fun b hb => hb⟩
    cases p with
    | slot x =>
      have hx : x ≠ d := fun he => hne (by rw [he])
      simp only [look] at hl ⊢
      simp only [Go.Vm.put]
      rw [get_cons_ne _ _ (Ne.symm hx), get_kill, hl]
      rfl
    | cell id off => exact hl
  refine ⟨fun u => ?_, h.heap⟩
  by_cases hu : u = d
  · subst hu
    simp only [Go.Vm.put, get_cons_same]
    have he : (tmps.setIfInBounds u c).getD u undef = c := by simp [hd]
    rw [he]
    refine hn.keep (fun b hb => ⟨hb, rfl⟩) (fun id hb => ⟨hb, rfl⟩) (fun i j b hb => ⟨hb, rfl⟩) (fun p hp => key2 v p hp ?_)
    rintro rfl; rw [hnd] at hp; cases hp
  · have he : (tmps.setIfInBounds d c).getD u undef = tmps.getD u undef := by simp [Array.getElem?_setIfInBounds_ne (Ne.symm hu)]
    rw [he]
    simp only [Go.Vm.put, get_cons_ne _ _ (Ne.symm hu), get_kill]
    split
    · exact ER.undef _ _ _ _ _ _ _
    · rename_i hk
      exact (h.env u).keep (fun b hb => ⟨hb, rfl⟩) (fun id hb => ⟨hb, rfl⟩) (fun i j b hb => ⟨hb, rfl⟩) (fun p hp => key2 _ p hp fun he => hk (he ▸ hp))

/-- The world grows; nothing of ours changes. -/
theorem SR.world {own : Own} {β : Nat → Nat} {w w' : World} {σ : St} {tmps : Array Value} (h : SR own β w σ tmps) (hs : w.heap.size ≤ w'.heap.size)
    (hk : ∀ b, own b ≠ .other → (∀ i j, own b ≠ .res i j) → w'.heap[b]? = w.heap[b]?) : SR own β w' σ tmps := by
  refine ⟨fun u => ?_, ⟨fun id cs hi => ?_, h.heap.inv, fun b hb => Nat.lt_of_lt_of_le (h.heap.lt b hb) hs⟩⟩
  · refine (h.env u).keep (fun b hb => ⟨hb, hk b (by simp [hb]) (by simp [hb])⟩) (fun id hb => ⟨hb, rfl⟩) (fun i j b hb => ⟨hb, hk b (by simp [hb]) (by simp [hb])⟩) (fun p hp => ⟨fun sz n xs hl => ⟨n, xs, hl, rfl⟩, fun c hc => ?_, fun b hb => hb⟩)
    have hE := h.env u
    cases p with
    | slot x => exact hc
    | cell id off =>
      simp only [conc] at hc ⊢
      cases hv : get σ.env u <;> rw [hv] at hp hE <;> simp [V.refsTo] at hp <;> subst hp
      · obtain ⟨sz, n, xs, b, len, cap, h1, h2⟩ := hE
        obtain ⟨cs, h3, h4⟩ := Place.cases_look h1
        have := (h.heap.blk id cs h3).1
        rw [← hc]
        exact World.cell?_of_block (w := w) (hk (β id) (by simp [this]) (by simp [this]))
      · obtain ⟨sz, n, xs, h1, h2⟩ := hE
        obtain ⟨cs, h3, h4⟩ := Place.cases_look h1
        have := (h.heap.blk id cs h3).1
        rw [← hc]
        exact World.cell?_of_block (w := w) (hk (β id) (by simp [this]) (by simp [this]))
  · have hb := h.heap.blk id cs hi
    exact hb.mono (fun b hb => ⟨hb, hk b (by simp [hb]) (by simp [hb])⟩) (fun id hb => ⟨hb, rfl⟩) (fun j b hb => ⟨hb, hk b (by simp [hb]) (by simp [hb])⟩) (hk _ (by simp [hb.1]) (by simp [hb.1]))

end Go.Vm
