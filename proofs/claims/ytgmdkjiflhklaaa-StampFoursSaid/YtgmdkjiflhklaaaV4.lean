/- V4: changes of memory: a block is laid, cells are stored, an array is made, written, appended to. -/
import Derived.Test.YtgmdkjiflhklaaaV3
import Derived.Deep.AppendSrc
import Derived.Deep.MidRow
import Derived.Laws.CopyRow
namespace Go.Vm
open Go

theorem bcells_none {H : Heap} {own : Own} {β : Nat → Nat} {w : World} (h : HR own β w H) {id : Nat} (hi : bcells H id = none) (b : Nat) : own b ≠ .blk id := fun hb => by
  obtain ⟨_, cs, hc⟩ := h.inv b id hb
  rw [hi] at hc; cases hc

/-- The world grows by one block. -/
theorem alloc_other (w : World) (o : Obj) (b : Nat) (hb : b < w.heap.size) : (w.alloc o).heap[b]? = w.heap[b]? := heap_alloc_old w o b hb

/-- A block of V's is laid. -/
theorem SR.init {own : Own} {β : Nat → Nat} {w : World} {σ : St} {tmps : Array Value} (h : SR own β w σ tmps) {id : Nat} {cs : List V} {arr : Array Value} {T : TypeId}
    (hid : id < σ.heap.length) (hnone : bcells σ.heap id = none) (hs : arr.size = cs.length) (hok : ∀ v ∈ cs, okBelow (id + 1) v = true)
    (hc : ∀ (j : Nat) (v : V) (c : Value), cs[j]? = some v → arr[j]? = some c → (∀ sz n xs, v ≠ .ex sz n xs) ∧ CR own β w .im v c) :
    ∃ own' β', SR own' β' (w.alloc (.cells arr T)) { σ with heap := σ.heap.set id (.cells cs) } tmps ∧ Stay own w own' (w.alloc (.cells arr T)) ∧
      BX β β' σ.heap (σ.heap.set id (.cells cs)) ∧ β' id = w.heap.size ∧ own' (β' id) = .blk id := by
  have hnew : own w.heap.size = .other := by
    cases ho : own w.heap.size <;> first | rfl | exact absurd (h.heap.lt _ (by simp [ho])) (Nat.lt_irrefl _)
  let own' : Own := fun b => if b = w.heap.size then .blk id else own b
  let β' : Nat → Nat := fun i => if i = id then w.heap.size else β i
  have h1 : ∀ b, own b ≠ .other → own' b = own b ∧ (w.alloc (.cells arr T)).heap[b]? = w.heap[b]? := fun b hb => by
    have hlt := h.heap.lt b hb
    exact ⟨by simp only [own']; rw [if_neg (by omega)], alloc_other w _ b hlt⟩
  have hk : ∀ b, own b = .im → own' b = .im ∧ (w.alloc (.cells arr T)).heap[b]? = w.heap[b]? := fun b hb => by
    have := h1 b (by simp [hb]); exact ⟨this.1.trans hb, this.2⟩
  have hb : ∀ i, own (β i) = .blk i → own' (β' i) = .blk i ∧ β' i = β i := fun i hi => by
    have hne : i ≠ id := fun he => bcells_none h.heap hnone _ (he ▸ hi)
    have : β' i = β i := by simp only [β']; rw [if_neg hne]
    rw [this]; exact ⟨(h1 _ (by simp [hi])).1.trans hi, rfl⟩
  have hl : ∀ l : Loc, l ≠ .other → ∀ b, own b = l → own' b = l ∧ (w.alloc (.cells arr T)).heap[b]? = w.heap[b]? := fun l hl b hb => by
    have := h1 b (by rw [hb]; exact hl); exact ⟨this.1.trans hb, this.2⟩
  refine ⟨own', β', ⟨fun t => ?_, ⟨fun i ds hi => ?_, fun b i hbi => ?_, fun b hbo => ?_⟩⟩, ⟨hk, fun b hlt ho => ?_, by simp, rfl, rfl, rfl⟩, ⟨by simp, fun i ds hi => ?_⟩, by simp [β'], by simp [β', own']⟩
  · refine (h.env t).keep hk hb (fun i j b hbb => hl _ (by simp) b hbb) (fun p hp => ⟨fun sz n xs hlk => ⟨n, xs, ?_, rfl⟩, fun c hcc => ?_, fun b hbb => (hl _ (by cases p <;> simp [locOf]) b hbb).1⟩)
    · cases p with
      | slot x => exact hlk
      | cell i off =>
        obtain ⟨ds, h3, h4⟩ := Place.cases_look hlk
        simp only [look] at hlk ⊢
        rw [bcells_set hid]
        rw [if_neg (fun he => by rw [he, hnone] at h3; cases h3)]
        exact hlk
    · cases p with
      | slot x => exact hcc
      | cell i off =>
        simp only [conc] at hcc ⊢
        have hE := h.env t
        have hi : ∃ sz n xs, look σ (.cell i off) = .ex sz n xs := by
          cases hv : get σ.env t <;> rw [hv] at hp hE <;> simp [V.refsTo] at hp <;> subst hp
          · obtain ⟨sz, n, xs, b, len, cap, q1, q2⟩ := hE; exact ⟨_, _, _, q1⟩
          · obtain ⟨sz, n, xs, q1, q2⟩ := hE; exact ⟨_, _, _, q1⟩
        obtain ⟨sz, n, xs, hi⟩ := hi
        obtain ⟨ds, h3, h4⟩ := Place.cases_look hi
        have hbl := (h.heap.blk i ds h3).1
        rw [(hb i hbl).2, ← hcc]
        exact World.cell?_of_block (w := w) (h1 _ (by simp [hbl])).2
  · rw [bcells_set hid] at hi
    split at hi
    · rename_i hii; subst hii
      injection hi with hi; subst hi
      refine ⟨by simp [β', own'], hok, arr, T, by simp only [β', if_true]; exact heap_alloc_new w _, hs, fun j v c hv hcv => ?_⟩
      obtain ⟨hn, hcr⟩ := hc j v c hv hcv
      exact (hcr.mono hk hb (hl .im (by simp))).place hn
    · rename_i hii
      have hbl := (h.heap.blk i ds hi).1
      exact (h.heap.blk i ds hi).mono hk hb (fun j b hbb => hl _ (by simp) b hbb) (h1 _ (by simp [hbl])).2
  · simp only [own'] at hbi
    split at hbi
    · rename_i hbn; injection hbi with hbi; subst hbi
      exact ⟨by simp [β', hbn], cs, by rw [bcells_set hid]; simp⟩
    · obtain ⟨q1, ds, q2⟩ := h.heap.inv b i hbi
      have hne : i ≠ id := fun he => bcells_none h.heap hnone _ (he ▸ hbi)
      exact ⟨by simp only [β']; rw [if_neg hne]; exact q1, ds, by rw [bcells_set hid, if_neg hne]; exact q2⟩
  · simp only [own'] at hbo
    split at hbo
    · rename_i hbn; rw [hbn]; simp
    · have := h.heap.lt b hbo; simp; omega
  · exact ⟨by simp only [own']; rw [if_neg (by omega)]; exact ho, alloc_other w _ b hlt⟩
  · have hne : i ≠ id := fun he => by rw [he, hnone] at hi; cases hi
    exact ⟨by simp only [β']; rw [if_neg hne], ds, by rw [bcells_set hid, if_neg hne]; exact hi⟩


/-- A temporary array is made: it is the result's. -/
theorem SR.fresh {own : Own} {β : Nat → Nat} {w w' : World} {σ : St} {tmps : Array Value} (h : SR own β w σ tmps) {sz : Nat} {xs : List V} {arr : Array Value} {T : TypeId} {cap : Nat}
    (hw : w'.heap = w.heap.push (.cells arr T)) (hos : w'.os = w.os) (htape : w'.tape = w.tape) (hout : w'.output = w.output)
    (hcap : xs.length ≤ cap) (hs : arr.size = cap * sz) (hx : Lay own w sz xs arr) :
    ∃ own', SR own' β w' σ tmps ∧ Stay own w own' w' ∧ EXR own' w' (.res 0 0) sz false xs (.slice (some ⟨w.heap.size, 0, none⟩) xs.length cap) ∧
      (∀ b, own b ≠ .other → own' b = own b ∧ w'.heap[b]? = w.heap[b]?) := by
  have hnew : own w.heap.size = .other := by
    cases ho : own w.heap.size <;> first | rfl | exact absurd (h.heap.lt _ (by simp [ho])) (Nat.lt_irrefl _)
  let own' : Own := fun b => if b = w.heap.size then .res 0 0 else own b
  have hsize : w'.heap.size = w.heap.size + 1 := by rw [hw]; simp
  have hold : ∀ b, b < w.heap.size → w'.heap[b]? = w.heap[b]? := fun b hb => by
    rw [hw, Array.getElem?_push]; rw [if_neg (by omega)]
  have h1 : ∀ b, own b ≠ .other → own' b = own b ∧ w'.heap[b]? = w.heap[b]? := fun b hb => by
    have hlt := h.heap.lt b hb
    exact ⟨by simp only [own']; rw [if_neg (by omega)], hold b hlt⟩
  have hk : ∀ b, own b = .im → own' b = .im ∧ w'.heap[b]? = w.heap[b]? := fun b hb => by
    have := h1 b (by simp [hb]); exact ⟨this.1.trans hb, this.2⟩
  have hb : ∀ i, own (β i) = .blk i → own' (β i) = .blk i ∧ β i = β i := fun i hi => ⟨(h1 _ (by simp [hi])).1.trans hi, rfl⟩
  have hl : ∀ l : Loc, l ≠ .other → ∀ b, own b = l → own' b = l ∧ w'.heap[b]? = w.heap[b]? := fun l hl b hb => by
    have := h1 b (by rw [hb]; exact hl); exact ⟨this.1.trans hb, this.2⟩
  have hw1 := h.world (w' := w') (by rw [hsize]; omega) (fun b hb _ => (h1 b hb).2)
  refine ⟨own', ⟨fun t => ?_, ⟨fun i ds hi => ?_, fun b i hbi => ?_, fun b hbo => ?_⟩⟩, ⟨hk, fun b hlt ho => ⟨by simp only [own']; rw [if_neg (by omega)]; exact ho, hold b hlt⟩, by rw [hsize]; omega, hos, htape, hout⟩,
    .inr (.inr ⟨rfl, w.heap.size, cap, T, arr, rfl, by simp [own'], by rw [hw]; simp, hcap, hs, fun i x hi => ⟨(hx i x hi).1, fun j y c hy hc => ((hx i x hi).2 j y c hy hc).mono hk⟩⟩), h1⟩
  · exact (hw1.env t).keep (fun b hb => ⟨(hk b hb).1, rfl⟩) hb (fun i j b hbb => ⟨(hl _ (by simp) b hbb).1, rfl⟩) (fun p hp => ⟨fun sz n xs hlk => ⟨n, xs, hlk, rfl⟩, fun c hcc => hcc, fun b hbb => (hl _ (by cases p <;> simp [locOf]) b hbb).1⟩)
  · exact (hw1.heap.blk i ds hi).mono (fun b hb => ⟨(hk b hb).1, rfl⟩) hb (fun j b hbb => ⟨(hl _ (by simp) b hbb).1, rfl⟩) rfl
  · simp only [own'] at hbi
    split at hbi
    · cases hbi
    · exact h.heap.inv b i hbi
  · simp only [own'] at hbo
    split at hbo
    · rename_i hbn; rw [hbn, hsize]; omega
    · have := h.heap.lt b hbo; rw [hsize]; omega


theorem SR.congr {own : Own} {β : Nat → Nat} {w : World} {σ σ' : St} {tmps : Array Value} (h : SR own β w σ tmps) (hg : ∀ t, get σ'.env t = get σ.env t)
    (hh : σ'.heap = σ.heap) : SR own β w σ' tmps := by
  have hlook : ∀ p, look σ' p = look σ p := fun p => by cases p <;> simp [look, hg, hh]
  refine ⟨fun t => ?_, by rw [hh]; exact h.heap⟩
  rw [hg]
  exact (h.env t).keep (fun b hb => ⟨hb, rfl⟩) (fun id hb => ⟨hb, rfl⟩) (fun i j b hb => ⟨hb, rfl⟩)
    (fun p hp => ⟨fun sz n xs hl => ⟨n, xs, by rw [hlook]; exact hl, rfl⟩, fun c hc => hc, fun b hb => hb⟩)

/-- What the result holds is written. -/
theorem SR.pokeRes {own : Own} {β : Nat → Nat} {w w' : World} {σ : St} {tmps : Array Value} (h : SR own β w σ tmps) {g : Nat} (hg : own g = .res 0 0)
    (hs : w'.heap.size = w.heap.size) (hb : ∀ b, b ≠ g → w'.heap[b]? = w.heap[b]?) (hos : w'.os = w.os) (htape : w'.tape = w.tape) (hout : w'.output = w.output) :
    SR own β w' σ tmps ∧ Stay own w own w' := by
  refine ⟨h.world (by omega) (fun b _ hr => hb b fun he => hr 0 0 (he ▸ hg)), fun b hbi => ⟨hbi, hb b fun he => ?_⟩, fun b _ hbo => ⟨hbo, hb b fun he => ?_⟩, by omega, hos, htape, hout⟩
  · rw [he, hg] at hbi; cases hbi
  · rw [he, hg] at hbo; cases hbo

/-- The result's array goes (back) into a place that has none. -/
theorem SR.back {own : Own} {β : Nat → Nat} {w : World} {σ : St} {tmps : Array Value} (h : SR own β w σ tmps) (p : Place) {sz : Nat} {n : Bool} {xs : List V} {c : Value}
    (hp : ∀ id off, p = .cell id off → ∃ cs, bcells σ.heap id = some cs ∧ off < cs.length)
    (hc : conc β tmps w p = some c) (hx : EXR own w (.res 0 0) sz n xs c) : ∃ own', SR own' β w (setPlace σ p (.ex sz n xs)) tmps ∧ Stay own w own' w := by
  have hr : Reloc (moved (.res 0 0) (locOf p)) := moved_reloc (by simp) (by simp) (by simp) (by cases p <;> simp [locOf]) (by cases p <;> simp [locOf])
  have hx' := hx.reloc hr
  rw [moved_at] at hx'
  refine ⟨_, ?_, Stay.reloc hr⟩
  cases p with
  | slot t =>
    simp only [conc] at hc
    injection hc with hc
    exact h.slot hr (fun u i j hu => moved_ne (by simp)) (fun id j => moved_ne (by simp)) rfl (by rw [hc]; exact hx')
  | cell id off =>
    obtain ⟨cs, h1, h2⟩ := hp id off rfl
    refine h.cell hr h1 (fun u i j => moved_ne (by simp)) (fun i j hij => moved_ne (by simp)) rfl ?_
    intro v c' hv hcell _
    simp only [conc] at hc
    rw [hc] at hcell
    injection hcell with hcell
    subst hcell
    exact hx'

/-! ### Lists of cells -/
theorem setCells_length : ∀ (vs : List V) (cs : List V) (off : Nat), (setCells cs off vs).length = cs.length
  | [], cs, off => rfl
  | v :: vs, cs, off => by simp only [setCells]; rw [setCells_length vs]; simp
theorem setCells_get : ∀ (vs : List V) (cs : List V) (off k : Nat), off + vs.length ≤ cs.length →
    (setCells cs off vs)[k]? = if off ≤ k ∧ k < off + vs.length then vs[k - off]? else cs[k]?
  | [], cs, off, k, _ => by simp [setCells]; intro h1 h2; omega
  | v :: vs, cs, off, k, h => by
    simp only [setCells]
    simp only [List.length_cons] at h
    rw [setCells_get vs (cs.set off v) (off + 1) k (by simp; omega)]
    by_cases hk : k = off
    · subst hk
      rw [if_neg (by omega), if_pos (by simp)]
      rw [List.getElem?_set_self (by omega)]; simp
    · rw [List.getElem?_set_ne (Ne.symm hk)]
      simp only [List.length_cons]
      by_cases h1 : off + 1 ≤ k ∧ k < off + 1 + vs.length
      · rw [if_pos h1, if_pos (by omega)]
        have : k - off = (k - (off + 1)) + 1 := by omega
        rw [this, List.getElem?_cons_succ]
      · rw [if_neg h1, if_neg (by omega)]

/-- An array with some cells overwritten. -/
def patch (arr : Array Value) (off : Nat) (vs : List Value) : Array Value := (arr.toList.take off ++ vs ++ arr.toList.drop (off + vs.length)).toArray
theorem patch_size (arr : Array Value) (off : Nat) (vs : List Value) (h : off + vs.length ≤ arr.size) : (patch arr off vs).size = arr.size := by
  simp [patch]; omega
theorem patch_get (arr : Array Value) (off : Nat) (vs : List Value) (h : off + vs.length ≤ arr.size) (k : Nat) :
    (patch arr off vs)[k]? = if off ≤ k ∧ k < off + vs.length then vs[k - off]? else arr[k]? := by
  simp only [patch, List.getElem?_toArray]
  rw [List.append_assoc, List.getElem?_append]
  have hl : (arr.toList.take off).length = off := by simp; omega
  rw [hl]
  by_cases h1 : k < off
  · rw [if_pos h1, if_neg (by omega), List.getElem?_take, if_pos h1]; simp
  · rw [if_neg h1, List.getElem?_append]
    by_cases h2 : k - off < vs.length
    · rw [if_pos h2, if_pos (by omega)]
    · rw [if_neg h2, if_neg (by omega), List.getElem?_drop]
      have : off + vs.length + (k - off - vs.length) = k := by omega
      rw [this]; simp

theorem setRow_at (w : World) (g : Nat) (cur cs : Array Value) (T : TypeId) (fr : Nat × Nat) (hg : w.heap[g]? = some (.cells cur T fr)) : (w.setRow g cs).heap[g]? = some (.cells cs T fr) :=
  setRow_heap w g cur cs T fr hg

/-- Cells are stored into a block of V's. -/
theorem SR.store {own : Own} {β : Nat → Nat} {w : World} {σ : St} {tmps : Array Value} (h : SR own β w σ tmps) {id off : Nat} {cs vs : List V} {cvs : List Value}
    (hcs : bcells σ.heap id = some cs) (hlen : cvs.length = vs.length) (hfit : off + vs.length ≤ cs.length) (hok : ∀ v ∈ vs, okBelow (id + 1) v = true)
    (hv : ∀ (j : Nat) (v : V) (c : Value), vs[j]? = some v → cvs[j]? = some c → CR own β w (.res 0 j) v c) :
    ∃ own' arr T, w.heap[β id]? = some (.cells arr T (0, 0)) ∧ off + cvs.length ≤ arr.size ∧ (∀ u ∈ cvs, u.oneCell' = true) ∧
      SR own' β (w.setRow (β id) (patch arr off cvs)) (setMem σ (.set id off vs)) tmps ∧ Stay own w own' (w.setRow (β id) (patch arr off cvs)) ∧
      BX β β σ.heap (setMem σ (.set id off vs)).heap := by
  obtain ⟨hbl, hok0, arr, T, harr, hsz, hcr⟩ := h.heap.blk id cs hcs
  let ρ : Loc → Loc := fun l => match l with | .res 0 j => .cell id (off + j) | l => l
  have hr : Reloc ρ := by
    refine ⟨rfl, rfl, fun _ => rfl, fun l i hl => ?_, fun l hl => ?_⟩
    · cases l <;> simp only [ρ] at hl <;> first | rfl | exact hl | (split at hl <;> first | cases hl | exact hl)
    · cases l <;> simp only [ρ] at hl <;> first | rfl | exact hl | (split at hl <;> first | cases hl | exact hl)
  have hfit' : off + cvs.length ≤ arr.size := by omega
  have hone : ∀ u ∈ cvs, u.oneCell' = true := fun u hu => by
    obtain ⟨j, hj⟩ := List.getElem?_of_mem hu
    have hlt : j < vs.length := by rw [← hlen]; exact (List.getElem?_eq_some_iff.1 hj).1
    exact (hv j vs[j] u (List.getElem?_eq_getElem hlt) hj).one
  have hoth : ∀ b, b ≠ β id → (w.setRow (β id) (patch arr off cvs)).heap[b]? = w.heap[b]? := fun b hb => setRow_other w _ b _ hb
  have hne : ∀ l, l ≠ .blk id → ∀ b, own b = l → (w.setRow (β id) (patch arr off cvs)).heap[b]? = w.heap[b]? := fun l hl b hb => hoth b fun he => hl (by rw [← hb, he, hbl])
  have hk : ∀ b, own b = .im → ρ (own b) = .im ∧ (w.setRow (β id) (patch arr off cvs)).heap[b]? = w.heap[b]? := fun b hb => ⟨by simp only [hb, ρ], hne .im (by simp) b hb⟩
  have hb : ∀ i, own (β i) = .blk i → ρ (own (β i)) = .blk i ∧ β i = β i := fun i hi => ⟨by simp only [hi, ρ], rfl⟩
  have hset : setMem σ (.set id off vs) = { env := σ.env.map (fun x => (x.1, killIn id off vs.length x.2)), heap := σ.heap.set id (.cells (setCells cs off vs)) } := by simp only [setMem, hcs]
  have hid := bcells_lt hcs
  refine ⟨fun b => ρ (own b), arr, T, harr, hfit', hone, ?_, ⟨hk, fun b hlt hbo => ⟨by simp only [hbo, ρ], hne .other (by simp) b hbo⟩, by simp, rfl, rfl, rfl⟩, ?_⟩
  · rw [hset]
    refine ⟨fun t => ?_, ⟨fun i ds hi => ?_, fun b i hbi => ?_, fun b hbo => ?_⟩⟩
    · let f : V → V := killIn id off vs.length
      have hg : get (σ.env.map fun x => (x.1, f x.2)) t = f (get σ.env t) := get_map f rfl t σ.env
      show ER _ _ _ _ _ t (get (σ.env.map fun x => (x.1, f x.2)) t) _
      rw [hg]
      by_cases hkill : f (get σ.env t) = .undef
      · rw [hkill]; exact ER.undef _ _ _ _ _ _ _
      · have hsame : f (get σ.env t) = get σ.env t := by
          simp only [f] at hkill ⊢
          cases hv' : get σ.env t <;> rw [hv'] at hkill <;> try rfl
          · rename_i p _ _; cases p with
            | slot x => rfl
            | cell i o => simp only [killIn] at hkill ⊢; split <;> first | rfl | (rename_i hh; rw [if_pos hh] at hkill; exact absurd rfl hkill)
          · rename_i p; cases p with
            | slot x => rfl
            | cell i o => simp only [killIn] at hkill ⊢; split <;> first | rfl | (rename_i hh; rw [if_pos hh] at hkill; exact absurd rfl hkill)
        have hcellne : ∀ i o, (get σ.env t).refsTo (.cell i o) = true → ¬ (i = id ∧ off ≤ o ∧ o < off + vs.length) := by
          intro i o hp hh
          cases hv' : get σ.env t <;> rw [hv'] at hp hkill <;> simp [V.refsTo] at hp <;> subst hp <;> simp [f, killIn, hh] at hkill
        rw [hsame]
        have hfo : ∀ x, get (σ.env.map fun x => (x.1, f x.2)) x = f (get σ.env x) := fun x => get_map f rfl x σ.env
        refine (h.env t).keep hk hb (fun i j b hbb => ⟨by simp only [hbb, ρ], hne _ (by simp) b hbb⟩) (fun p hp => ⟨fun sz n xs hlk => ⟨n, xs, ?_, rfl⟩, fun c hcc => ?_, fun b hbb => ?_⟩)
        · cases p with
          | slot x =>
            simp only [look] at hlk ⊢
            show get (σ.env.map fun x => (x.1, f x.2)) x = _
            rw [hfo, hlk]; rfl
          | cell i o =>
            simp only [look] at hlk ⊢
            rw [bcells_set hid]
            by_cases hi : i = id
            · subst hi
              simp only [hcs, if_true] at hlk ⊢
              have := hcellne i o hp
              rw [List.getD_eq_getElem?_getD, setCells_get vs cs off o hfit, if_neg (by omega), ← List.getD_eq_getElem?_getD]
              exact hlk
            · rw [if_neg hi]; exact hlk
        · cases p with
          | slot x => exact hcc
          | cell i o =>
            simp only [conc] at hcc ⊢
            have hE := h.env t
            have hlk : ∃ sz n xs, look σ (.cell i o) = .ex sz n xs := by
              cases hv' : get σ.env t <;> rw [hv'] at hp hE <;> simp [V.refsTo] at hp <;> subst hp
              · obtain ⟨sz, n, xs, b, len, cap, q1, q2⟩ := hE; exact ⟨_, _, _, q1⟩
              · obtain ⟨sz, n, xs, q1, q2⟩ := hE; exact ⟨_, _, _, q1⟩
            obtain ⟨sz, n, xs, hlk⟩ := hlk
            obtain ⟨ds, h3, h4⟩ := Place.cases_look hlk
            by_cases hi : i = id
            · subst hi
              have := hcellne i o hp
              rw [cell_of_row _ _ o _ T _ (setRow_at w _ arr _ T _ harr), patch_get arr off cvs hfit', if_neg (by omega)]
              rw [cell_of_row w _ o arr T _ harr] at hcc; exact hcc
            · have hbl' := (h.heap.blk i ds h3).1
              rw [← hcc]
              exact World.cell?_of_block (w := w) (hne (.blk i) (by simp [hi]) _ hbl')
        · cases p <;> simp only [locOf] at hbb ⊢ <;> simp only [hbb, ρ]
    · simp only at hi
      rw [bcells_set hid] at hi
      split at hi
      · rename_i hii; subst hii
        injection hi with hi; subst hi
        refine ⟨by simp only [hbl, ρ], fun v hv' => ?_, patch arr off cvs, T, setRow_at w _ arr _ T _ harr, by rw [patch_size arr off cvs hfit', setCells_length]; exact hsz, fun j v c hvj hcj => ?_⟩
        · obtain ⟨j, hj⟩ := List.getElem?_of_mem hv'
          rw [setCells_get vs cs off j hfit] at hj
          split at hj
          · exact hok v (List.mem_of_getElem? hj)
          · exact hok0 v (List.mem_of_getElem? hj)
        · rw [setCells_get vs cs off j hfit] at hvj
          rw [patch_get arr off cvs hfit', hlen] at hcj
          split at hvj
          · rename_i hin
            rw [if_pos hin] at hcj
            have := (hv (j - off) v c hvj hcj).reloc hr
            have he : ρ (.res 0 (j - off)) = .cell i j := by simp only [ρ]; congr 1; omega
            rw [he] at this
            exact this.mono (fun b hb' => ⟨hb', by
              have : own b = .im := by
                cases ho : own b <;> simp only [ho, ρ] at hb' <;> first | rfl | cases hb' | (split at hb' <;> cases hb')
              exact hne .im (by simp) b this⟩) (fun k hk' => ⟨hk', rfl⟩) (fun b hb' => ⟨hb', by
              refine hoth b fun heb => ?_
              simp only [heb, hbl, ρ] at hb'; cases hb'⟩)
          · rename_i hin
            rw [if_neg hin] at hcj
            have := (hcr j v c hvj hcj).mono hk hb (fun b hbb => ⟨by simp only [hbb, ρ], hne _ (by simp) b hbb⟩)
            exact this
      · rename_i hii
        have hbl' := (h.heap.blk i ds hi).1
        exact (h.heap.blk i ds hi).mono hk hb (fun j b hbb => ⟨by simp only [hbb, ρ], hne _ (by simp) b hbb⟩) (hne (.blk i) (by simp [hii]) _ hbl')
    · obtain ⟨q1, ds, q2⟩ := h.heap.inv b i (hr.noblk _ _ hbi)
      refine ⟨q1, ?_⟩
      simp only
      rw [bcells_set hid]
      split
      · exact ⟨_, rfl⟩
      · exact ⟨ds, q2⟩
    · have := h.heap.lt b fun he => hbo (by simp only [he, ρ])
      simpa using this
  · rw [hset]
    refine ⟨by simp, fun i ds hi => ⟨rfl, ?_⟩⟩
    simp only
    rw [bcells_set hid]
    split
    · exact ⟨_, rfl⟩
    · exact ⟨ds, hi⟩

end Go.Vm
