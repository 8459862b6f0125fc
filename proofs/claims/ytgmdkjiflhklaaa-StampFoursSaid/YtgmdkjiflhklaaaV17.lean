/- V17: calls with data. -/
import Derived.Test.YtgmdkjiflhklaaaV16
namespace Go.Vm
open Go

section
variable {P : Program} {o : Oper} {own own' : Own} {β β' : Nat → Nat} {w : World} {σ : St} {a : Act} {n : Nat}

def oneC : V → Bool
  | .agg _ | .rptr _ _ | .undef => false
  | _ => true
theorem VR_one {own : Own} {β : Nat → Nat} {w : World} {L : Nat → Loc} {v : V} {c : Value} (h : oneC v = true) : VR own β w L v c = CR own β w (L 0) v c := by
  cases v <;> first | rfl | (simp [oneC] at h)
def oneT : V → Bool
  | .tup _ => false
  | _ => true
theorem TR_one {own : Own} {β : Nat → Nat} {w : World} {L : Nat → Nat → Loc} {v : V} {c : Value} (h : oneT v = true) : TR own β w L v c = VR own β w (L 0) v c := by
  cases v <;> first | rfl | (simp [oneT] at h)

theorem PR.shift (him : ∀ b, own b = .im → own' b = .im) (hblk : ∀ id, own (β id) = .blk id → own' (β' (id + n)) = .blk (id + n) ∧ β' (id + n) = β id) {v : V} {c : Value} (h : PR own β w v c) :
    PR own' β' w (shiftP n v) c := by
  cases v <;> simp only [PR, shiftP] at h ⊢ <;> first
    | exact h.mono fun b hb => ⟨him b hb, rfl⟩
    | exact ⟨by rw [(hblk _ h.2).2]; exact h.1, (hblk _ h.2).1⟩

theorem CR.shift (him : ∀ b, own b = .im → own' b = .im) (hblk : ∀ id, own (β id) = .blk id → own' (β' (id + n)) = .blk (id + n) ∧ β' (id + n) = β id) {l l' : Loc} (hl : ∀ b, own b = l → own' b = l')
    {v : V} {c : Value} (h : CR own β w l v c) : CR own' β' w l' (shiftC n v) c := by
  cases v <;> simp only [CR, shiftC] at h ⊢ <;> first
    | exact h.mono fun b hb => ⟨him b hb, rfl⟩
    | exact ⟨by rw [(hblk _ h.2).2]; exact h.1, (hblk _ h.2).1⟩
    | (rcases h with h | h | ⟨hn, b, cap, T, arr, h1, h2, h3, h4, h5, h6⟩
       · exact .inl h
       · exact .inr (.inl h)
       · exact .inr (.inr ⟨hn, b, cap, T, arr, h1, hl b h2, h3, h4, h5, fun i x hx => ⟨(h6 i x hx).1, fun j y c hy hc => ((h6 i x hx).2 j y c hy hc).mono fun b hb => ⟨him b hb, rfl⟩⟩⟩))
    | (obtain ⟨ca, cb, h1, h2, h3, h4, h5⟩ := h
       refine ⟨ca, cb, h1, by simpa using h2, by simpa using h3, fun j v c hv hc => ?_, fun j v c hv hc => ?_⟩
       · rw [List.getElem?_map, Option.map_eq_some_iff] at hv
         obtain ⟨u, hu, rfl⟩ := hv
         exact (h4 j u c hu hc).shift him hblk
       · rw [List.getElem?_map, Option.map_eq_some_iff] at hv
         obtain ⟨u, hu, rfl⟩ := hv
         exact (h5 j u c hu hc).shift him hblk)

theorem VR.shift (him : ∀ b, own b = .im → own' b = .im) (hblk : ∀ id, own (β id) = .blk id → own' (β' (id + n)) = .blk (id + n) ∧ β' (id + n) = β id) {L : Nat → Loc} (hl : ∀ j b, own b = L j → own' b = L j)
    {v : V} {c : Value} (h : VR own β w L v c) : VR own' β' w L (shift1 n v) c := by
  cases v with
  | agg cs =>
    obtain ⟨arr, h1, h2, h3⟩ := h
    refine ⟨arr, h1, by simpa using h2, fun j v c hv hc => ?_⟩
    rw [List.getElem?_map, Option.map_eq_some_iff] at hv
    obtain ⟨u, hu, rfl⟩ := hv
    exact (h3 j u c hu hc).shift him hblk (hl j)
  | rptr cs off =>
    obtain ⟨b, o, h1, h2, h3⟩ := h
    refine ⟨b, o, h1, him b h2, fun j v hv => ?_⟩
    obtain ⟨c', h4, h5⟩ := h3 j v hv
    exact ⟨c', h4, h5.mono fun b hb => ⟨him b hb, rfl⟩⟩
  | undef => trivial
  | lent p => exact absurd h.notWay.1 (by simp [isWay])
  | xptr p i off => exact absurd h.notWay.1 (by simp [isWay])
  | tup vs => exact absurd rfl (h.notWay.2 _)
  | _ =>
    rw [VR_one rfl] at h ⊢
    exact CR.shift (n := n) him hblk (hl 0) h

theorem TR.shift (him : ∀ b, own b = .im → own' b = .im) (hblk : ∀ id, own (β id) = .blk id → own' (β' (id + n)) = .blk (id + n) ∧ β' (id + n) = β id) {L : Nat → Nat → Loc} (hl : ∀ i j b, own b = L i j → own' b = L i j)
    {v : V} {c : Value} (h : TR own β w L v c) : TR own' β' w L (Vm.shift n v) c := by
  cases v with
  | tup vs =>
    obtain ⟨arr, h1, h2, h3⟩ := h
    refine ⟨arr, h1, by simpa using h2, fun j v c hv hc => ?_⟩
    rw [List.getElem?_map, Option.map_eq_some_iff] at hv
    obtain ⟨u, hu, rfl⟩ := hv
    exact (h3 j u c hu hc).shift him hblk (hl j)
  | lent p => exact absurd (TR.notWay h) (by simp [isWay])
  | xptr p i off => exact absurd (TR.notWay h) (by simp [isWay])
  | undef => trivial
  | _ =>
    rw [TR_one rfl] at h ⊢
    exact VR.shift (n := n) him hblk (hl 0) h

theorem okBelow_shift {k : Nat} {v : V} (h : okBelow k v = true) : okBelow (k + n) (shiftC n v) = true := by
  cases v with
  | ptr id off => simp [okBelow, shiftC] at h ⊢; exact h
  | clo f x y =>
    simp only [okBelow, shiftC, List.all_eq_true, List.mem_append, ← List.map_append] at h ⊢
    rintro v hv
    obtain ⟨u, hu, rfl⟩ := List.mem_map.1 hv
    have := h u (List.mem_append.1 hu)
    cases u <;> simp [shiftP] at this ⊢
    exact this
  | lent p => cases p <;> simp [okBelow, shiftC] at h ⊢ <;> omega
  | xptr p i off => cases p <;> simp [okBelow, shiftC] at h ⊢ <;> omega
  | _ => rfl

/-- No way out of data that is apart. -/
theorem FR.flat {own own' : Own} {w w' : World} {v : V} {c : Value} (h : FR own w v c) (hf : flatC v = true) : FR own' w' v c := by
  cases h <;> first
    | (simp [flatC] at hf; done)
    | exact .undef _ ‹_›
    | exact .bool _
    | exact .int _ _
    | exact .str _
    | exact .nilp
    | exact .nilf

theorem CR.apart {l : Loc} {v : V} {c : Value} (h : CR own β w l v c) (ha : apartC v = true) (hl : ∀ b, own b = l → own' b = l) : CR own' β' w l v c := by
  cases v with
  | ex sz m xs =>
    simp only [apartC, List.all_eq_true] at ha
    rcases h with h | h | ⟨hn, b, cap, T, arr, h1, h2, h3, h4, h5, h6⟩
    · exact .inl h
    · exact .inr (.inl h)
    · refine .inr (.inr ⟨hn, b, cap, T, arr, h1, hl b h2, h3, h4, h5, fun i x hx => ⟨(h6 i x hx).1, fun j y c hy hc => ?_⟩⟩)
      have hx' := ha x (List.mem_of_getElem? hx)
      simp only [V.flat, List.all_eq_true] at hx'
      exact ((h6 i x hx).2 j y c hy hc).flat (hx' y (List.mem_of_getElem? hy))
  | sl m xs =>
    simp only [apartC, Bool.and_eq_true, List.isEmpty_iff] at ha
    obtain ⟨rfl, rfl⟩ := ha
    simp only [CR] at h ⊢
    cases h
    exact .nil
  | _ => first
    | (simp [apartC] at ha; done)
    | (simp only [CR] at h ⊢; exact h.flat rfl)

theorem VR.apart {L : Nat → Loc} {v : V} {c : Value} (h : VR own β w L v c) (ha : v.cells.all apartC = true) (hl : ∀ j b, own b = L j → own' b = L j) : VR own' β' w L v c := by
  cases v with
  | agg cs =>
    simp only [V.cells, List.all_eq_true] at ha
    obtain ⟨arr, h1, h2, h3⟩ := h
    exact ⟨arr, h1, h2, fun j v c hv hc => (h3 j v c hv hc).apart (ha v (List.mem_of_getElem? hv)) (hl j)⟩
  | undef => trivial
  | rptr cs off => simp [V.cells, apartC] at ha
  | lent p => exact absurd h.notWay.1 (by simp [isWay])
  | xptr p i off => exact absurd h.notWay.1 (by simp [isWay])
  | tup vs => exact absurd rfl (h.notWay.2 _)
  | _ =>
    rw [VR_one rfl] at h ⊢
    exact CR.apart h (by simpa [V.cells] using ha) (hl 0)

theorem TR.apart {L : Nat → Nat → Loc} {v : V} {c : Value} (h : TR own β w L v c) (ha : Vm.apart v = true) (hl : ∀ i j b, own b = L i j → own' b = L i j) : TR own' β' w L v c := by
  cases v with
  | tup vs =>
    simp only [Vm.apart, List.all_eq_true] at ha
    obtain ⟨arr, h1, h2, h3⟩ := h
    exact ⟨arr, h1, h2, fun j v c hv hc => (h3 j v c hv hc).apart (List.all_eq_true.2 (ha v (List.mem_of_getElem? hv))) (hl j)⟩
  | lent p => exact absurd (TR.notWay h) (by simp [isWay])
  | xptr p i off => exact absurd (TR.notWay h) (by simp [isWay])
  | undef => trivial
  | _ =>
    rw [TR_one rfl] at h ⊢
    exact VR.apart h ha (hl 0)

/-- What lies in memory is as it was; new variables stand behind ours. -/
theorem grown (h : SR own β w σ a.tmps) {o1 : Own} {β1 : Nat → Nat} {w1 : World} {H1 : Heap} (hh : HR o1 β1 w1 H1) (hold : ∀ b, b < w.heap.size → w1.heap[b]? = w.heap[b]? ∧ (o1 b = .im ∨ o1 b = .other))
    (him : ∀ b, b < w.heap.size → o1 b = .im → own b = .im ∨ H1 = [])
    (hsz : w.heap.size ≤ w1.heap.size) (o2 : Own) (β2 : Nat → Nat)
    (h2 : ∀ b, b < w.heap.size → o2 b = own b) (h3 : ∀ b, w.heap.size ≤ b → o2 b = match o1 b with | .blk id => .blk (id + σ.heap.length) | .cell id j => .cell (id + σ.heap.length) j | l => l)
    (h4 : ∀ id, id < σ.heap.length → β2 id = β id) (h5 : ∀ id, β2 (id + σ.heap.length) = β1 id) :
    SR o2 β2 w1 { env := σ.env, heap := σ.heap ++ H1.map (shiftB σ.heap.length) } a.tmps ∧ BX β β2 σ.heap (σ.heap ++ H1.map (shiftB σ.heap.length)) := by
  have imv : ∀ b, own b = .im → o2 b = .im ∧ w1.heap[b]? = w.heap[b]? := fun b hb => by
    have hlt := h.heap.lt b (by rw [hb]; simp)
    exact ⟨by rw [h2 b hlt, hb], (hold b hlt).1⟩
  have idlt : ∀ id cs, bcells σ.heap id = some cs → id < σ.heap.length := fun id cs hi => bcells_lt hi
  have bold : ∀ id, id < σ.heap.length → bcells (σ.heap ++ H1.map (shiftB σ.heap.length)) id = bcells σ.heap id := fun id hi => by
    unfold bcells; rw [List.getElem?_append_left hi]
  have bnew : ∀ id cs, bcells (σ.heap ++ H1.map (shiftB σ.heap.length)) id = some cs → σ.heap.length ≤ id → ∃ cs0, bcells H1 (id - σ.heap.length) = some cs0 ∧ cs = cs0.map (shiftC σ.heap.length) := fun id cs hc hi => by
    unfold bcells at hc ⊢
    rw [List.getElem?_append_right hi, List.getElem?_map] at hc
    cases hx : H1[id - σ.heap.length]? with
    | none => simp [hx] at hc
    | some b =>
      cases b with
      | dead => simp [hx, shiftB] at hc
      | cells cs0 => simp [hx, shiftB] at hc; exact ⟨cs0, rfl, hc.symm⟩
  have blkv : ∀ id, own (β id) = .blk id → o2 (β2 id) = .blk id ∧ β2 id = β id := fun id hb => by
    obtain ⟨_, cs, hcs⟩ := h.heap.inv _ _ hb
    have e := h4 id (idlt id cs hcs)
    exact ⟨by rw [e, h2 _ (h.heap.lt _ (by rw [hb]; simp)), hb], e⟩
  have anyv : ∀ l, l ≠ .other → ∀ b, own b = l → o2 b = l ∧ w1.heap[b]? = w.heap[b]? := fun l hl b hb => by
    have hlt := h.heap.lt b (by rw [hb]; exact hl)
    exact ⟨by rw [h2 b hlt, hb], (hold b hlt).1⟩
  have lookv : ∀ p sz n xs, look σ p = .ex sz n xs → look { env := σ.env, heap := σ.heap ++ H1.map (shiftB σ.heap.length) } p = .ex sz n xs := fun p sz n xs hl => by
    cases p with
    | slot t => exact hl
    | cell id off =>
      obtain ⟨cs, hc, _⟩ := Place.cases_look hl
      simp only [look] at hl ⊢
      rw [bold id (idlt id cs hc)]; exact hl
  refine ⟨⟨fun u => ?_, fun id cs hi => ?_, fun b id hb => ?_, fun b hb => ?_⟩, by simp, fun id cs hi => ⟨h4 id (idlt id cs hi), cs, by rw [bold id (idlt id cs hi)]; exact hi⟩⟩
  · have hu := h.env u
    cases hv : get σ.env u with
    | lent p =>
      rw [hv] at hu
      obtain ⟨sz, n, xs, q1, q2⟩ := hu
      refine ⟨sz, n, xs, lookv p sz n xs q1, ?_⟩
      cases p with
      | slot x => exact q2
      | cell id off =>
        obtain ⟨cs, hc, _⟩ := Place.cases_look q1
        simp only [conc] at q2 ⊢
        rw [h4 id (idlt id cs hc), ← q2]
        exact World.cell?_of_block (w := w) (anyv _ (by simp) (β id) (h.heap.blk id cs hc).1).2
    | xptr p i off =>
      rw [hv] at hu
      obtain ⟨sz, n, xs, b, len, cap, q1, q2, q3, q4⟩ := hu
      refine ⟨sz, n, xs, b, len, cap, lookv p sz n xs q1, ?_, (anyv _ (by cases p <;> simp [locOf]) b q3).1, q4⟩
      cases p with
      | slot x => exact q2
      | cell id off =>
        obtain ⟨cs, hc, _⟩ := Place.cases_look q1
        simp only [conc] at q2 ⊢
        rw [h4 id (idlt id cs hc), ← q2]
        exact World.cell?_of_block (w := w) (anyv _ (by simp) (β id) (h.heap.blk id cs hc).1).2
    | _ =>
      have hw : isWay (get σ.env u) = false := by rw [hv]; rfl
      have := (hu.to_TR hw).mono imv blkv (fun i j b hb => anyv _ (by simp) b hb)
      rw [hv] at this
      exact ER.of_TR this rfl
  · rcases Nat.lt_or_ge id σ.heap.length with hlt | hge
    · rw [bold id hlt] at hi
      have hB := h.heap.blk id cs hi
      exact hB.mono imv blkv (fun j b hb => anyv _ (by simp) b hb) (anyv _ (by simp) _ hB.1).2
    · obtain ⟨cs0, hc0, rfl⟩ := bnew id cs hi hge
      obtain ⟨g1, g2, arr, T, g3, g4, g5⟩ := hh.blk _ _ hc0
      have hid : id = (id - σ.heap.length) + σ.heap.length := by omega
      have hne : H1 ≠ [] := by rintro rfl; simp [bcells] at hc0
      have hge' : w.heap.size ≤ β1 (id - σ.heap.length) := by
        rcases Nat.lt_or_ge (β1 (id - σ.heap.length)) w.heap.size with hlt | hge'
        · rcases (hold _ hlt).2 with e | e <;> rw [g1] at e <;> cases e
        · exact hge'
      have eβ : β2 id = β1 (id - σ.heap.length) := by rw [hid, h5]; congr 1; omega
      refine ⟨?_, fun v hv => ?_, arr, T, by rw [eβ]; exact g3, by simpa using g4, fun j v c hv hc => ?_⟩
      · rw [eβ, h3 _ hge', g1]
        simp only
        congr 1; omega
      · obtain ⟨u, hu, rfl⟩ := List.mem_map.1 hv
        have := okBelow_shift (n := σ.heap.length) (g2 u hu)
        rw [show id - σ.heap.length + 1 + σ.heap.length = id + 1 by omega] at this
        exact this
      · rw [List.getElem?_map, Option.map_eq_some_iff] at hv
        obtain ⟨u, hu, rfl⟩ := hv
        refine (g5 j u c hu hc).shift (fun b hb => ?_) (fun id' hb => ?_) (fun b hb => ?_)
        · rcases Nat.lt_or_ge b w.heap.size with hlt | hge''
          · rw [h2 b hlt]; exact (him b hlt hb).resolve_right hne
          · rw [h3 b hge'', hb]
        · have hge'' : w.heap.size ≤ β1 id' := by
            rcases Nat.lt_or_ge (β1 id') w.heap.size with hlt | hge''
            · rcases (hold _ hlt).2 with e | e <;> rw [hb] at e <;> cases e
            · exact hge''
          refine ⟨by rw [h5, h3 _ hge'', hb], h5 id'⟩
        · have hge'' : w.heap.size ≤ b := by
            rcases Nat.lt_or_ge b w.heap.size with hlt | hge''
            · rcases (hold _ hlt).2 with e | e <;> rw [hb] at e <;> cases e
            · exact hge''
          rw [h3 b hge'', hb]
          simp only
          congr 1; omega
  · rcases Nat.lt_or_ge b w.heap.size with hlt | hge
    · rw [h2 b hlt] at hb
      obtain ⟨e1, cs, hcs⟩ := h.heap.inv b id hb
      have hl := idlt id cs hcs
      exact ⟨by rw [h4 id hl]; exact e1, cs, by rw [bold id hl]; exact hcs⟩
    · rw [h3 b hge] at hb
      split at hb
      · rename_i id' hq
        injection hb with hb
        obtain ⟨e1, cs, hcs⟩ := hh.inv b id' hq
        subst hb
        refine ⟨by rw [h5]; exact e1, cs.map (shiftC σ.heap.length), ?_⟩
        unfold bcells at hcs ⊢
        rw [List.getElem?_append_right (by omega), Nat.add_sub_cancel, List.getElem?_map]
        cases hx : H1[id']? with
        | none => simp [hx] at hcs
        | some x =>
          cases x with
          | dead => simp [hx] at hcs
          | cells ds => simp [hx] at hcs; subst hcs; rfl
      · cases hb
      · rename_i hq1 hq2
        exact absurd hb (hq1 id)
  · rcases Nat.lt_or_ge b w.heap.size with hlt | hge
    · omega
    · rw [h3 b hge] at hb
      refine hh.lt b fun hq => hb (by rw [hq])

end
end Go.Vm
