/- V21: back to so many variables; stretches of code. -/
import Derived.Test.YtgmdkjiflhklaaaV33
import Derived.LoopN
namespace Go.Vm
open Go

section
variable {P : Program} {own own' : Own} {β : Nat → Nat} {w : World} {σ : St} {a : Act} {k : Nat}

theorem PR.cut (him : ∀ b, own b = .im → own' b = .im) (hb : ∀ id, id < k → own (β id) = .blk id → own' (β id) = .blk id) {v : V} {c : Value} (h : PR own β w v c)
    (ok : ∀ id off, v = .ptr id off → id < k) : PR own' β w v c := by
  cases v <;> simp only [PR] at h ⊢ <;> first
    | exact h.mono fun b hb => ⟨him b hb, rfl⟩
    | exact ⟨h.1, hb _ (ok _ _ rfl) h.2⟩

theorem CR.cut (him : ∀ b, own b = .im → own' b = .im) (hb : ∀ id, id < k → own (β id) = .blk id → own' (β id) = .blk id) {l : Loc} (hl : ∀ b, own b = l → own' b = l)
    {v : V} {c : Value} (h : CR own β w l v c) (ok : okBelow k v = true) : CR own' β w l v c := by
  cases v <;> simp only [CR] at h ⊢ <;> first
    | exact h.mono fun b hb => ⟨him b hb, rfl⟩
    | exact ⟨h.1, hb _ (by simpa [okBelow] using ok) h.2⟩
    | exact EXR.mono h (fun b hb => ⟨him b hb, rfl⟩) (fun b hb => ⟨hl b hb, rfl⟩)
    | (obtain ⟨ca, cb, h1, h2, h3, h4, h5⟩ := h
       simp only [okBelow, List.all_eq_true, List.mem_append] at ok
       refine ⟨ca, cb, h1, h2, h3, fun j v c hv hc => (h4 j v c hv hc).cut him hb fun id off he => ?_, fun j v c hv hc => (h5 j v c hv hc).cut him hb fun id off he => ?_⟩
       · have := ok v (.inl (List.mem_of_getElem? hv)); subst he; simpa using this
       · have := ok v (.inr (List.mem_of_getElem? hv)); subst he; simpa using this)

theorem VR.cut (him : ∀ b, own b = .im → own' b = .im) (hb : ∀ id, id < k → own (β id) = .blk id → own' (β id) = .blk id) {L : Nat → Loc} (hl : ∀ j b, own b = L j → own' b = L j)
    {v : V} {c : Value} (h : VR own β w L v c) (ok : v.cells.all (okBelow k) = true) : VR own' β w L v c := by
  cases v with
  | agg cs =>
    simp only [V.cells, List.all_eq_true] at ok
    obtain ⟨arr, h1, h2, h3⟩ := h
    exact ⟨arr, h1, h2, fun j v c hv hc => (h3 j v c hv hc).cut him hb (hl j) (ok v (List.mem_of_getElem? hv))⟩
  | undef => trivial
  | rptr cs off =>
    obtain ⟨b, o, h1, h2, h3⟩ := h
    refine ⟨b, o, h1, him b h2, fun j v hv => ?_⟩
    obtain ⟨c', h4, h5⟩ := h3 j v hv
    exact ⟨c', h4, h5.mono fun b hb => ⟨him b hb, rfl⟩⟩
  | _ =>
    rw [VR_one rfl] at h ⊢
    exact CR.cut him hb (hl 0) h (by simpa [V.cells] using ok)

theorem TR.cut (him : ∀ b, own b = .im → own' b = .im) (hb : ∀ id, id < k → own (β id) = .blk id → own' (β id) = .blk id) {L : Nat → Nat → Loc} (hl : ∀ i j b, own b = L i j → own' b = L i j)
    {v : V} {c : Value} (h : TR own β w L v c) (ok : okBelowV k v = true) : TR own' β w L v c := by
  cases v with
  | tup vs =>
    simp only [okBelowV, List.all_eq_true] at ok
    obtain ⟨arr, h1, h2, h3⟩ := h
    exact ⟨arr, h1, h2, fun j v c hv hc => (h3 j v c hv hc).cut him hb (hl j) (List.all_eq_true.2 (ok v (List.mem_of_getElem? hv)))⟩
  | _ =>
    rw [TR_one rfl] at h ⊢
    exact VR.cut him hb (hl 0) h ok

def below (n : Nat) (l : Loc) : Loc := match l with | .blk id => if id < n then .blk id else .other | l => l
theorem below_ne {n : Nat} {l : Loc} (h : ∀ id, l ≠ .blk id) : below n l = l := by cases l <;> first | rfl | exact absurd rfl (h _)
theorem below_blk {n id : Nat} {l : Loc} (h : below n l = .blk id) : l = .blk id ∧ id < n := by
  cases l <;> simp only [below] at h <;> try (cases h; done)
  split at h
  · rename_i hlt; injection h with h; subst h; exact ⟨rfl, hlt⟩
  · cases h
theorem below_other {n : Nat} : below n .other = .other := rfl

theorem bcells_take {H : Heap} {n id : Nat} (h : id < n) : bcells (H.take n) id = bcells H id := by
  unfold bcells; rw [List.getElem?_take_of_lt h]
theorem bcells_take_lt {H : Heap} {n id : Nat} {cs : List V} (h : bcells (H.take n) id = some cs) : id < n := by
  have := bcells_lt h; simp at this; omega

theorem HR.cut {H : Heap} (h : HR own β w H) (n : Nat) : HR (fun b => below n (own b)) β w (H.take n) := by
  refine ⟨fun id cs hi => ?_, fun b id hb => ?_, fun b hb => h.lt b fun hn => hb (by simp only [hn, below])⟩
  · have hlt := bcells_take_lt hi
    rw [bcells_take hlt] at hi
    obtain ⟨h1, h2, arr, T, h3, h4, h5⟩ := h.blk id cs hi
    refine ⟨by simp only [h1, below, if_pos hlt], h2, arr, T, h3, h4, fun j v c hv hc => ?_⟩
    exact (h5 j v c hv hc).cut (k := id + 1) (fun b hb => by simp only [hb, below]) (fun i hi hb => by simp only [hb, below]; rw [if_pos (by omega)]) (fun b hb => by simp only [hb, below]) (h2 v (List.mem_of_getElem? hv))
  · obtain ⟨e1, e2⟩ := below_blk hb
    obtain ⟨g1, cs, g2⟩ := h.inv b id e1
    exact ⟨g1, cs, by rw [bcells_take e2]; exact g2⟩

theorem Stay.below (own : Own) (w : World) (n : Nat) : Stay own w (fun b => below n (own b)) w :=
  ⟨fun b hb => ⟨by simp only [hb, Vm.below], rfl⟩, fun b _ hb => ⟨by simp only [hb, Vm.below], rfl⟩, Nat.le_refl _, rfl, rfl, rfl⟩

theorem get_cut (n t : Nat) : get (cut n σ).env t = if okBelowV n (get σ.env t) then get σ.env t else .undef :=
  get_map (fun v => if okBelowV n v then v else .undef) (by simp) t σ.env

theorem SR.cut (h : SR own β w σ a.tmps) (n : Nat) : SR (fun b => below n (own b)) β w (Vm.cut n σ) a.tmps := by
  refine ⟨fun t => ?_, h.heap.cut n⟩
  rw [get_cut]
  split
  · rename_i hok
    have ht := h.env t
    have lk : ∀ p sz m xs, okBelow n (.lent p) = true → look σ p = .ex sz m xs → look (Vm.cut n σ) p = .ex sz m xs := fun p sz m xs ho hl => by
      cases p with
      | slot x =>
        simp only [look] at hl ⊢
        rw [get_cut, hl]; simp [okBelowV, V.cells, okBelow]
      | cell id off =>
        have : id < n := by simpa [okBelow] using ho
        simp only [look, Vm.cut] at hl ⊢
        rw [bcells_take this]; exact hl
    cases hv : get σ.env t with
    | lent p =>
      rw [hv] at ht hok
      obtain ⟨sz, m, xs, q1, q2⟩ := ht
      exact ⟨sz, m, xs, lk p sz m xs (by simpa [okBelowV, V.cells] using hok) q1, q2⟩
    | xptr p i off =>
      rw [hv] at ht hok
      obtain ⟨sz, m, xs, b, len, cap, q1, q2, q3, q4⟩ := ht
      refine ⟨sz, m, xs, b, len, cap, lk p sz m xs ?_ q1, q2, ?_, q4⟩
      · cases p <;> simp [okBelowV, V.cells, okBelow] at hok ⊢; exact hok
      · simp only [q3]; cases p <;> rfl
    | _ =>
      have hw : isWay (get σ.env t) = false := by rw [hv]; rfl
      have := TR.cut (own' := fun b => below n (own b)) (k := n) (fun b hb => by simp only [hb, below]) (fun id hi hb => by simp only [hb, below]; rw [if_pos hi]) (fun i j b hb => by simp only [hb, below]) (ht.to_TR hw) hok
      rw [hv] at this
      exact ER.of_TR this rfl
  · exact ER.undef _ _ _ _ _ _ _

theorem Nxt.cut {o1 : Own} {β1 : Nat → Nat} {w1 : World} {σ1 : St} {a1 : Act} (h : Nxt own β w σ a o1 β1 w1 σ1 a1) (hd : Option (List Nat)) :
    ∃ o2, Nxt own β w σ a o2 β1 w1 (Vm.cut σ.heap.length (Vm.prune hd σ1)) a1 := by
  refine ⟨_, (h.sr.prune hd).cut _, h.stay.trans (Stay.below _ _ _), ?_, h.defers, h.size⟩
  have hh : (Vm.cut σ.heap.length (Vm.prune hd σ1)).heap = σ1.heap.take σ.heap.length := by cases hd <;> rfl
  rw [hh]
  have hlen := h.bx.1
  refine ⟨by simp; omega, fun id cs hi => ?_⟩
  have hlt := bcells_lt hi
  obtain ⟨e, cs', hc⟩ := h.bx.2 id cs hi
  exact ⟨e, cs', by rw [bcells_take hlt]; exact hc⟩

/-- The slots that a stretch of code writes are there. -/
def codeB (n : Nat) (cx : Cx) : Code → Bool
  | .region id ops draw => (ops.toList.all fun o => match o.dst with | some d => d < n | none => true) && (!draw || drawB ops (cx.free id))
  | .seq x y => codeB n cx x && codeB n cx y
  | .cond _ x y => codeB n cx x && codeB n cx y
  | .block _ x => codeB n cx x
  | .loop x => codeB n cx x
  | _ => true

def exitOf : Ex → Exit
  | .normal => .normal
  | .exit id => .exit id
  | .ret => .ret

theorem ok_code {T : Types} {call : CallF} {cx : Cx} (n : Nat) (hS : Sound P call) (hT : TOk P T) : ∀ (c : Code) (own : Own) (β : Nat → Nat) (w : World) (σ : St) (a : Act) (Q : Exit → Act → World → Prop) (ex : Ex) (σ' : St),
    SR own β w σ a.tmps → codeB a.tmps.size cx c = true → vcode T call (fun s => rounds s n) cx c σ = some (ex, σ') →
    (∀ own' β' w' a', Nxt own β w σ a own' β' w' σ' a' → Q (exitOf ex) a' w') → c.wp P Q a w
  | .skip, own, β, w, σ, a, Q, ex, σ', h, hB, hv, hQ => by
    simp only [vcode] at hv; injection hv with hv; injection hv with e1 e2; subst e1; subst e2
    exact wp_skip (hQ _ _ _ _ (Nxt.refl h))
  | .region id ops draw, own, β, w, σ, a, Q, ex, σ', h, hB, hv, hQ => by
    simp only [vcode, Option.map_eq_some_iff] at hv
    obtain ⟨σ1, h1, h2⟩ := hv
    injection h2 with e1 e2; subst e1; subst e2
    simp only [codeB, Bool.and_eq_true, List.all_eq_true, Bool.or_eq_true, Bool.not_eq_true'] at hB
    refine ok_region hS hT Q h (fun o ho d hd => ?_) (fun hdr => hB.2.resolve_left (by simp [hdr])) h1 hQ
    have := hB.1 o ho
    simpa [hd] using this
  | .seq x y, own, β, w, σ, a, Q, ex, σ', h, hB, hv, hQ => by
    simp only [codeB, Bool.and_eq_true] at hB
    simp only [vcode] at hv
    refine wp_seq ?_
    split at hv
    · rename_i σ1 h1
      refine ok_code n hS hT x own β w σ a _ .normal σ1 h hB.1 h1 (fun own1 β1 w1 a1 hn => ?_)
      exact ok_code n hS hT y own1 β1 w1 σ1 a1 Q ex σ' hn.sr (by rw [hn.size]; exact hB.2) hv (fun o2 β2 w2 a2 hn2 => hQ _ _ _ _ (hn.trans hn2))
    · rename_i hne
      refine ok_code n hS hT x own β w σ a _ ex σ' h hB.1 hv (fun own1 β1 w1 a1 hn => ?_)
      cases ex with
      | normal => exact absurd hv (hne σ')
      | exit i => exact hQ _ _ _ _ hn
      | ret => exact hQ _ _ _ _ hn
  | .cond c x y, own, β, w, σ, a, Q, ex, σ', h, hB, hv, hQ => by
    simp only [codeB, Bool.and_eq_true] at hB
    simp only [vcode] at hv
    cases hc : opd σ.env c <;> simp only [hc] at hv <;> try (cases hv; done)
    rename_i t
    refine wp_cond (opd_bool h hc) ?_
    cases t
    · exact ok_code n hS hT y own β w σ a Q ex σ' h hB.2 (by simpa using hv) hQ
    · exact ok_code n hS hT x own β w σ a Q ex σ' h hB.1 (by simpa using hv) hQ
  | .block id x, own, β, w, σ, a, Q, ex, σ', h, hB, hv, hQ => by
    simp only [codeB] at hB
    simp only [vcode] at hv
    refine wp_block ?_
    split at hv
    · rename_i i σ1 h1
      split at hv
      · rename_i hi
        injection hv with hv; injection hv with e1 e2; subst e1; subst e2
        refine ok_code n hS hT x own β w σ a _ (.exit i) σ1 h hB h1 (fun o1 β1 w1 a1 hn => ?_)
        simp only [exitOf, Exit.inBlock, hi, if_true]
        exact hQ _ _ _ _ hn
      · rename_i hi
        injection hv with hv; injection hv with e1 e2; subst e1; subst e2
        refine ok_code n hS hT x own β w σ a _ (.exit i) σ1 h hB h1 (fun o1 β1 w1 a1 hn => ?_)
        simp only [exitOf, Exit.inBlock, hi, if_false]
        exact hQ _ _ _ _ hn
    · rename_i hne
      refine ok_code n hS hT x own β w σ a _ ex σ' h hB hv (fun o1 β1 w1 a1 hn => ?_)
      cases ex with
      | normal => exact hQ _ _ _ _ hn
      | exit i => exact absurd hv (hne i σ')
      | ret => exact hQ _ _ _ _ hn
  | .exit id, own, β, w, σ, a, Q, ex, σ', h, hB, hv, hQ => by
    simp only [vcode] at hv; injection hv with hv; injection hv with e1 e2; subst e1; subst e2
    exact wp_exit (hQ _ _ _ _ (Nxt.refl h))
  | .ret, own, β, w, σ, a, Q, ex, σ', h, hB, hv, hQ => by
    simp only [vcode] at hv; injection hv with hv; injection hv with e1 e2; subst e1; subst e2
    exact wp_ret (hQ _ _ _ _ (Nxt.refl h))
  | .loop b, own, β, w, σ, a, Q, ex, σ', h, hB, hv, hQ => by
    simp only [codeB] at hB
    simp only [vcode] at hv
    have key : ∀ (m : Nat) (own : Own) (β : Nat → Nat) (w : World) (τ : St) (a : Act), SR own β w τ a.tmps → codeB a.tmps.size cx b = true → τ.heap.length = σ.heap.length →
        rounds (fun τ => match vcode T call (fun s => rounds s n) cx b τ with
          | some (.normal, τ') => some (.normal, Vm.cut σ.heap.length (Vm.prune (cx.head (firstRegion b)) τ'))
          | r => r) m τ = some (ex, σ') →
        (∀ own' β' w' a', Nxt own β w τ a own' β' w' σ' a' → Q (exitOf ex) a' w') → Code.rounds P b Q m a w := by
      intro m
      induction m with
      | zero => intro own β w τ a _ _ _ hr; simp [rounds] at hr
      | succ m ih =>
        intro own β w τ a hs hB hlen hr hQ
        rw [rounds_succ]
        simp only [rounds] at hr
        cases hb : vcode T call (fun s => rounds s n) cx b τ with
        | none => simp [hb] at hr
        | some r1 =>
          obtain ⟨ex1, τ1⟩ := r1
          cases ex1 with
          | normal =>
            simp only [hb] at hr
            refine ok_code n hS hT b own β w τ a _ .normal τ1 hs hB hb (fun o1 β1 w1 a1 hn => ?_)
            obtain ⟨o2, hn2⟩ := hn.cut (cx.head (firstRegion b))
            rw [hlen] at hn2
            refine ih o2 β1 w1 _ a1 hn2.sr (by rw [hn2.size]; exact hB) ?_ hr (fun o3 β3 w3 a3 hn3 => hQ _ _ _ _ (hn2.trans hn3))
            have : (Vm.prune (cx.head (firstRegion b)) τ1).heap = τ1.heap := by cases cx.head (firstRegion b) <;> rfl
            simp only [Vm.cut, this, List.length_take]
            have := hn.bx.1
            omega
          | exit i =>
            simp only [hb] at hr
            injection hr with hr; injection hr with e1 e2; subst e1; subst e2
            exact ok_code n hS hT b own β w τ a _ (.exit i) τ1 hs hB hb (fun o1 β1 w1 a1 hn => hQ _ _ _ _ hn)
          | ret =>
            simp only [hb] at hr
            injection hr with hr; injection hr with e1 e2; subst e1; subst e2
            exact ok_code n hS hT b own β w τ a _ .ret τ1 hs hB hb (fun o1 β1 w1 a1 hn => hQ _ _ _ _ hn)
    have hh : (Vm.prune (cx.head (firstRegion b)) σ).heap = σ.heap := by cases cx.head (firstRegion b) <;> rfl
    refine wp_loop_rounds n (key n own β w _ a (h.prune _) hB (by rw [hh]) hv (fun o1 β1 w1 a1 hn => hQ _ _ _ _ ⟨hn.sr, hn.stay, ?_, hn.defers, hn.size⟩))
    have := hn.bx
    rwa [hh] at this
  | .rangeFunc _ _ _ _, _, _, _, _, _, _, _, _, _, _, hv, _ => by simp [vcode] at hv
  | .scope _, _, _, _, _, _, _, _, _, _, _, hv, _ => by simp [vcode] at hv
  | .label _, _, _, _, _, _, _, _, _, _, _, hv, _ => by simp [vcode] at hv
  | .goto _, _, _, _, _, _, _, _, _, _, _, hv, _ => by simp [vcode] at hv
  | .refuse _, _, _, _, _, _, _, _, _, _, _, hv, _ => by simp [vcode] at hv

end
end Go.Vm
