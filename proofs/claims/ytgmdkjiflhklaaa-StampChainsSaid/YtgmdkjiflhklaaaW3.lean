/- W3: V, an evaluator that carries contents (V33, V21, V22, V23, V24, V25, V34, V35, V36, V37, V38). No conditions. -/
import Derived.LoopNIn
import Derived.RangeFuncIn
import Derived.RangeFuncNested
import Derived.RangeFuncLeaves
import Derived.ChangeShapes
import Derived.DataReads
import Derived.ChangeOld
import Derived.ChangeArms
import Derived.OpenShut
import Derived.Carry
import Derived.IntWalk
import Derived.Shelf.SlBodiesN
import Derived.Shelf.SlGeneric
import Derived.Shelf.RegionOpenPlain
import Derived.WalkKit
import Derived.Deep.RegionLaw
import Derived.Lib.Walk
import Derived.Deep.LoopGhost
import Derived.Sort.WalkB12
import Derived.Lib.SliceRun
import Derived.Test.YtgmdkjiflhklaaaW2

section
/- V33: regions. -/
namespace Go.Vm
open Go

section
variable {P : Program} {own : Own} {β : Nat → Nat} {w : World} {σ : St} {a : Act}
variable {T : Types} {call : CallF} {cx : Cx} {ops : Array Oper}

theorem tame_of {e : Eff} (h : tameB e = true) : Tame e := by
  unfold tameB at h
  simp only [Bool.and_eq_true, List.all_eq_true] at h
  refine ⟨fun x hx => ?_, fun t v hp => ?_, fun H hH => ?_⟩
  · have := h.1.1 x hx
    cases hv : x.2 <;> rw [hv] at this <;> first | rfl | (simp [isWayB] at this)
  · have := h.1.2
    rw [hp] at this; exact this
  · rw [hH] at h; simp at h

theorem apart_of {x y : List Res × List Res} (h : apartB x y = true) : apartR x.1 x.2 y.1 y.2 := by
  unfold apartB at h
  simp only [Bool.and_eq_true, List.all_eq_true, Bool.not_eq_true', List.contains_eq_mem, decide_eq_false_iff_not] at h
  exact ⟨⟨h.1.1.1.1, h.1.1.1.2⟩, h.1.1.2, h.1.2, h.2⟩

theorem lex_of_run {fr : Nat → Nat} {R W : Nat → List Res} {σ1 : St} (hfr : ∀ k o, ops[k]? = some o → fr (k + 1) = if isFresh o then fr k + 1 else fr k) : ∀ (l : List Oper) (k : Nat) (σ : St) (fpl : List (List Res × List Res)), (∀ j, l[j]? = ops[k + j]?) →
    drawRun T call cx ops (fr k) l σ = some (σ1, fpl) → (∀ j, j < l.length → R (k + j) = (fpAt fpl j).1 ∧ W (k + j) = (fpAt fpl j).2) → Lex T call cx ops fr R W (Eqv σ1) l.length k σ
  | [], k, σ, fpl, hl, hv, hf => by
    simp only [drawRun] at hv; injection hv with hv; injection hv with e1 e2; subst e1
    exact Eqv.refl _
  | o :: l, k, σ, fpl, hl, hv, hf => by
    simp only [drawRun] at hv
    have h0 : ops[k]? = some o := by simpa using (hl 0).symm
    cases he : effG T call cx ops (fr k) o σ with
    | none => simp [he] at hv
    | some e =>
      simp only [he] at hv
      split at hv
      · rename_i hc
        simp only [Bool.and_eq_true] at hc
        obtain ⟨⟨⟨c1, c2⟩, c3⟩, c4⟩ := hc
        rw [Option.map_eq_some_iff] at hv
        obtain ⟨⟨σ2, l2⟩, h1, h2⟩ := hv
        injection h2 with e1 e2; subst e1; subst e2
        obtain ⟨f1, f2⟩ := hf 0 (by simp)
        simp only [fpAt, List.getD_cons_zero, Nat.add_zero] at f1 f2
        rw [← hfr k o h0] at h1
        refine ⟨_, .inl ⟨o, e, h0, he, tame_of c1, c2, c3, f1.symm, f2.symm, fun r hr => ?_, rfl⟩, lex_of_run hfr l (k + 1) _ l2 (fun j => ?_) h1 (fun j hj => ?_)⟩
        · rw [f1]
          have := List.all_eq_true.1 c4 r hr
          simpa using this
        · have := hl (j + 1)
          simpa [Nat.add_assoc, Nat.add_comm 1 j] using this
        · have := hf (j + 1) (by simpa using hj)
          simpa [fpAt, Nat.add_assoc, Nat.add_comm 1 j] using this
      · split at hv
        · rw [Option.map_eq_some_iff] at hv
          obtain ⟨⟨σ2, l2⟩, h1, h2⟩ := hv
          injection h2 with e1 e2; subst e1; subst e2
          obtain ⟨f1, f2⟩ := hf 0 (by simp)
          simp only [fpAt, List.getD_cons_zero, Nat.add_zero] at f1 f2
          rw [← hfr k o h0] at h1
          refine ⟨_, .inr ⟨o, e, h0, he, by rw [f1]; simp, rfl⟩, lex_of_run hfr l (k + 1) _ l2 (fun j => ?_) h1 (fun j hj => ?_)⟩
          · have := hl (j + 1)
            simpa [Nat.add_assoc, Nat.add_comm 1 j] using this
          · have := hf (j + 1) (by simpa using hj)
            simpa [fpAt, Nat.add_assoc, Nat.add_comm 1 j] using this
        · cases hv

theorem backB_get : ∀ (l : List Oper) (k : Nat), backB k l = true → ∀ j o, l[j]? = some o → ∀ e ∈ o.after, Region.binds .any e = true → e.on < k + j
  | [], _, _, j, o, h => by simp at h
  | o' :: l, k, hb, j, o, h => by
    simp only [backB, Bool.and_eq_true] at hb
    cases j with
    | zero =>
      simp at h; subst h
      intro e he hbi
      have := Array.all_eq_true_iff_forall_mem.1 hb.1 e he
      simpa [hbi] using this
    | succ j =>
      intro e he hbi
      have := backB_get l (k + 1) hb.2 j o (by simpa using h) e he hbi
      omega

theorem ok_region {id : Nat} {draw : Bool} (hS : Sound P call) (hC : CxOk P cx) (hT : TOk P T) (r : Option Nat) (Q : Exit → Act → World → Prop) {σ' : St} (h : SR own β w σ a.tmps)
    (hd : ∀ o ∈ ops.toList, ∀ d, o.dst = some d → d < a.tmps.size) (hB : draw = true → drawB ops (cx.free id) = true) (hv : vregion T call cx id ops draw σ = some σ')
    (hQ : ∀ own' β' w' a', Nxt own β w σ a own' β' w' σ' a' → Q .normal a' w') : (Code.region id ops draw).wpIn (Fw r) 0 P Q a w := by
  obtain ⟨hr, hb⟩ := h.reserve ops
  unfold vregion at hv
  cases draw with
  | true =>
    simp only at hv
    cases hrun : drawRun T call cx ops σ.heap.length ops.toList (reserve ops σ) with
    | none => simp [hrun] at hv
    | some x =>
      obtain ⟨σ1, fps⟩ := x
      simp only [hrun] at hv
      split at hv
      · rename_i hfree
        injection hv with hv; subst hv
        have hB := hB rfl
        simp only [drawB, Bool.and_eq_true, List.all_eq_true, List.mem_range] at hB
        obtain ⟨hlex, hpairs⟩ := hB
        let fr : Nat → Nat := fun k => σ.heap.length + ((ops.toList.take k).filter isFresh).length
        have hfr : ∀ k o, ops[k]? = some o → fr (k + 1) = if isFresh o then fr k + 1 else fr k := fun k o ho => by
          have ho' : ops.toList[k]? = some o := by simpa using ho
          simp only [fr, List.take_add_one, ho', Option.toList_some, List.filter_append, List.length_append]
          cases hf : isFresh o <;> simp [hf, Nat.add_assoc]
        have hl := lex_of_run (T := T) (call := call) (cx := cx) (ops := ops) (R := fun i => (fpAt fps i).1) (W := fun i => (fpAt fps i).2) (σ1 := σ1) hfr ops.toList 0 (reserve ops σ) fps (by simp) (by simpa [fr] using hrun) (fun j _ => by simp)
        have hva := vany_lex (T := T) (call := call) (cx := cx) (fr := fr) (R := fun i => (fpAt fps i).1) (W := fun i => (fpAt fps i).2) (Q := Eqv σ1) (fun τ υ h1 h2 => h2.trans h1) (fun k o ho => by have := backB_get _ 0 hlex k o (by simpa using ho); simpa using this) (fun i j hij hj => by
          have := hpairs j hj i hij
          simp only [Bool.or_eq_true, List.contains_eq_mem, decide_eq_true_eq] at this
          rcases this with hp | hp
          · exact .inr (apart_of (List.all_eq_true.1 hfree (i, j) hp))
          · exact .inl hp) ops.size 0 (Array.replicate ops.size false) (reserve ops σ) (fun j o hj hl => by
            have : (Array.replicate ops.size false).getD j false = false := by
              rcases Nat.lt_or_ge j ops.size with h' | h'
              · simp [h']
              · simp [h']
            rw [this] at hl; cases hl) (fun j hj => by simp [hj]) (by simp) (by simp) (by simpa using hl)
        have hw : SR own β { w with drawn := w.drawn + 1 } (reserve ops σ) a.tmps := hr.world (Nat.le_refl _) (fun _ _ _ => rfl)
        refine wpIn_region_any hT.mixed (wpAny_of_vany hS hC hT r Q (Eqv σ1) _ _ own β _ _ a hw hd hva (fun own' β' w' a' σ2 he hn => hQ own' β' w' a' ?_))
        have hn' := hn.eqv he.symm
        refine ⟨hn'.sr.prune _, ⟨hn'.stay.im, hn'.stay.other, hn'.stay.size, hn'.stay.os, hn'.stay.tape, hn'.stay.output⟩, ?_, hn'.defers, hn'.size⟩
        have := hb.trans hn'.bx
        cases hk : cx.keep id <;> exact this
      · cases hv
  | false =>
    simp only [Option.map_eq_some_iff] at hv
    obtain ⟨σ1, h1, rfl⟩ := hv
    refine wpIn_region_list (ok_vops hS hC hT r Q _ _ own β w _ a σ1 hr hd h1 (fun own' β' w' a' hn => hQ _ _ _ _ ⟨hn.sr.prune _, hn.stay, ?_, hn.defers, hn.size⟩))
    have := hb.trans hn.bx
    cases hk : cx.keep id <;> exact this

end
end Go.Vm
end

section
/- V21: back to so many variables; stretches of code. -/
namespace Go.Vm
open Go

section
variable {P : Program} {own own' : Own} {β : Nat → Nat} {w : World} {σ : St} {a : Act} {k : Nat}

theorem PR.cut (him : ∀ b, own b = .im → own' b = .im) (hb : ∀ id, id < k → own (β id) = .blk id → own' (β id) = .blk id) {v : V} {c : Value} (h : PR own β w v c)
    (ok : ∀ id ∈ ptr0 v, id < k) : PR own' β w v c := by
  cases v <;> simp only [PR] at h ⊢ <;> first
    | exact h.mono fun b hb => ⟨him b hb, rfl⟩
    | exact ⟨h.1, hb _ (ok _ (by simp [ptr0])) h.2⟩

theorem CR.cut (him : ∀ b, own b = .im → own' b = .im) (hb : ∀ id, id < k → own (β id) = .blk id → own' (β id) = .blk id) {l : Loc} (hl : ∀ b, own b = l → own' b = l)
    {v : V} {c : Value} (h : CR own β w l v c) (ok : okBelow k v = true) : CR own' β w l v c := by
  cases v <;> simp only [CR] at h ⊢ <;> first
    | exact h.mono fun b hb => ⟨him b hb, rfl⟩
    | exact ⟨h.1, hb _ (by simpa [okBelow] using ok) h.2⟩
    | exact EXR.mono h (fun b hb => ⟨him b hb, rfl⟩) (fun b hb => ⟨hl b hb, rfl⟩)
    | (obtain ⟨ca, cb, h1, h2, h3, h4, h5⟩ := h
       simp only [okBelow, List.all_eq_true, List.mem_append] at ok
       refine ⟨ca, cb, h1, h2, h3, fun j v c hv hc => (h4 j v c hv hc).cut him hb fun id he => ?_, fun j v c hv hc => (h5 j v c hv hc).cut him hb fun id he => ?_⟩
       · have := ok v (.inl (List.mem_of_getElem? hv)); cases v <;> simp [ptr0] at he <;> subst he <;> simpa using this
       · have := ok v (.inr (List.mem_of_getElem? hv)); cases v <;> simp [ptr0] at he <;> subst he <;> simpa using this)

theorem VR.cut (him : ∀ b, own b = .im → own' b = .im) (hb : ∀ id, id < k → own (β id) = .blk id → own' (β id) = .blk id) {L : Nat → Loc} (hl : ∀ j b, own b = L j → own' b = L j)
    {v : V} {c : Value} (h : VR own β w L v c) (ok : v.cells.all (okBelow k) = true) : VR own' β w L v c := by
  cases v with
  | agg cs =>
    simp only [V.cells, List.all_eq_true] at ok
    obtain ⟨arr, h1, h2, h3⟩ := h
    exact ⟨arr, h1, h2, fun j v c hv hc => (h3 j v c hv hc).cut him hb (hl j) (ok v (List.mem_of_getElem? hv))⟩
  | undef => trivial
  | rptr cs off =>
    obtain ⟨b, o, h1, h2, h3⟩ := h
    refine ⟨b, o, h1, him b h2, fun j v hv => ?_⟩
    obtain ⟨c', h4, h5⟩ := h3 j v hv
    exact ⟨c', h4, h5.mono fun b hb => ⟨him b hb, rfl⟩⟩
  | _ =>
    rw [VR_one rfl] at h ⊢
    exact CR.cut him hb (hl 0) h (by simpa [V.cells] using ok)

theorem TR.cut (him : ∀ b, own b = .im → own' b = .im) (hb : ∀ id, id < k → own (β id) = .blk id → own' (β id) = .blk id) {L : Nat → Nat → Loc} (hl : ∀ i j b, own b = L i j → own' b = L i j)
    {v : V} {c : Value} (h : TR own β w L v c) (ok : okBelowV k v = true) : TR own' β w L v c := by
  cases v with
  | tup vs =>
    simp only [okBelowV, List.all_eq_true] at ok
    obtain ⟨arr, h1, h2, h3⟩ := h
    exact ⟨arr, h1, h2, fun j v c hv hc => (h3 j v c hv hc).cut him hb (hl j) (List.all_eq_true.2 (ok v (List.mem_of_getElem? hv)))⟩
  | _ =>
    rw [TR_one rfl] at h ⊢
    exact VR.cut him hb (hl 0) h ok

def below (n : Nat) (l : Loc) : Loc := match l with | .blk id => if id < n then .blk id else .other | l => l
theorem below_ne {n : Nat} {l : Loc} (h : ∀ id, l ≠ .blk id) : below n l = l := by cases l <;> first | rfl | exact absurd rfl (h _)
theorem below_blk {n id : Nat} {l : Loc} (h : below n l = .blk id) : l = .blk id ∧ id < n := by
  cases l <;> simp only [below] at h <;> try (cases h; done)
  split at h
  · rename_i hlt; injection h with h; subst h; exact ⟨rfl, hlt⟩
  · cases h
theorem below_other {n : Nat} : below n .other = .other := rfl

theorem bcells_take {H : Heap} {n id : Nat} (h : id < n) : bcells (H.take n) id = bcells H id := by
  unfold bcells; rw [List.getElem?_take_of_lt h]
theorem bcells_take_lt {H : Heap} {n id : Nat} {cs : List V} (h : bcells (H.take n) id = some cs) : id < n := by
  have := bcells_lt h; simp at this; omega

theorem BR.cut {n id : Nat} {cs : List V} (hlt : id < n) (h : BR own β w id cs) : BR (fun b => below n (own b)) β w id cs := by
  have k1 : ∀ b, own b = .im → (fun b => below n (own b)) b = .im := fun b hb => by simp only [hb, below]
  have k2 : ∀ i, i < id + 1 → own (β i) = .blk i → (fun b => below n (own b)) (β i) = .blk i := fun i hi hb => by simp only [hb, below]; rw [if_pos (by omega)]
  rcases h with ⟨h1, h2, arr, T, h3, h4, h5⟩ | ⟨h1, v, o, rfl, h3, h4⟩
  · refine .inl ⟨by simp only [h1, below, if_pos hlt], h2, arr, T, h3, h4, fun j v c hv hc => ?_⟩
    exact (h5 j v c hv hc).cut (k := id + 1) k1 k2 (fun b hb => by simp only [hb, below]) (h2 v (List.mem_of_getElem? hv))
  · have hx : ∀ u c, XR own β w id u c → XR (fun b => below n (own b)) β w id u c := fun u c hx => ⟨hx.1.cut (k := id + 1) k1 k2 (fun _ b hb => k1 b hb) hx.2.2, hx.2⟩
    exact .inr ⟨by simp only [h1, below, if_pos hlt], v, o, rfl, h3, withVals_id v ▸ h4.imp (fun v => v) (fun u c _ h => hx u c h) rfl (fun u c h _ => hx u c h)⟩

theorem HR.cut {H : Heap} (h : HR own β w H) (n : Nat) : HR (fun b => below n (own b)) β w (H.take n) := by
  refine ⟨fun id cs hi => ?_, fun b id hb => ?_, fun b hb => h.lt b fun hn => hb (by simp only [hn, below])⟩
  · have hlt := bcells_take_lt hi
    rw [bcells_take hlt] at hi
    exact (h.blk id cs hi).cut hlt
  · obtain ⟨e1, e2⟩ := below_blk hb
    obtain ⟨g1, cs, g2⟩ := h.inv b id e1
    exact ⟨g1, cs, by rw [bcells_take e2]; exact g2⟩

theorem Stay.below (own : Own) (w : World) (n : Nat) : Stay own w (fun b => below n (own b)) w :=
  ⟨fun b hb => ⟨by simp only [hb, Vm.below], rfl⟩, fun b _ hb => ⟨by simp only [hb, Vm.below], rfl⟩, Nat.le_refl _, rfl, rfl, rfl⟩

theorem get_cut (n t : Nat) : get (cut n σ).env t = if okBelowV n (get σ.env t) then get σ.env t else .undef :=
  get_map (fun v => if okBelowV n v then v else .undef) (by simp) t σ.env

theorem SR.cut (h : SR own β w σ a.tmps) (n : Nat) : SR (fun b => below n (own b)) β w (Vm.cut n σ) a.tmps := by
  refine ⟨fun t => ?_, h.heap.cut n⟩
  rw [get_cut]
  split
  · rename_i hok
    have ht := h.env t
    have lk : ∀ p sz m xs, okBelow n (.lent p) = true → look σ p = .ex sz m xs → look (Vm.cut n σ) p = .ex sz m xs := fun p sz m xs ho hl => by
      cases p with
      | slot x =>
        simp only [look] at hl ⊢
        rw [get_cut, hl]; simp [okBelowV, V.cells, okBelow]
      | cell id off =>
        have : id < n := by simpa [okBelow] using ho
        simp only [look, Vm.cut] at hl ⊢
        rw [bcells_take this]; exact hl
    cases hv : get σ.env t with
    | lent p =>
      rw [hv] at ht hok
      obtain ⟨sz, m, xs, q1, q2⟩ := ht
      exact ⟨sz, m, xs, lk p sz m xs (by simpa [okBelowV, V.cells] using hok) q1, q2⟩
    | xptr p i off =>
      rw [hv] at ht hok
      obtain ⟨sz, m, xs, b, len, cap, q1, q2, q3, q4⟩ := ht
      refine ⟨sz, m, xs, b, len, cap, lk p sz m xs ?_ q1, q2, ?_, q4⟩
      · cases p <;> simp [okBelowV, V.cells, okBelow] at hok ⊢; exact hok
      · simp only [q3]; cases p <;> rfl
    | _ =>
      have hw : isWay (get σ.env t) = false := by rw [hv]; rfl
      have := TR.cut (own' := fun b => below n (own b)) (k := n) (fun b hb => by simp only [hb, below]) (fun id hi hb => by simp only [hb, below]; rw [if_pos hi]) (fun i j b hb => by simp only [hb, below]) (ht.to_TR hw) hok
      rw [hv] at this
      exact ER.of_TR this rfl
  · exact ER.undef _ _ _ _ _ _ _

theorem NxtM.back {o1 : Own} {β1 : Nat → Nat} {w1 : World} {σ1 : St} {a1 : Act} (h : NxtM own β w σ a o1 β1 w1 σ1 a1) (hd : Option (List Nat)) :
    ∃ o2, NxtM own β w σ a o2 β1 w1 (Vm.back σ.heap.length (Vm.prune hd σ1)) a1 := by
  have hle := keepN_le (Vm.prune hd σ1).env ((Vm.prune hd σ1).heap.length - σ.heap.length) σ.heap.length
  unfold Vm.back
  generalize keepN (Vm.prune hd σ1).env ((Vm.prune hd σ1).heap.length - σ.heap.length) σ.heap.length = m at hle
  refine ⟨_, (h.sr.prune hd).cut _, h.stay.trans (Stay.below _ _ _), ?_, h.marks.stay (Stay.below _ _ _), h.size⟩
  have hh : (Vm.cut m (Vm.prune hd σ1)).heap = σ1.heap.take m := by cases hd <;> rfl
  rw [hh]
  have hlen := h.bx.1
  refine ⟨by simp; omega, fun id cs hi => ?_⟩
  have hlt := bcells_lt hi
  obtain ⟨e, cs', hc⟩ := h.bx.2 id cs hi
  exact ⟨e, cs', by rw [bcells_take (by omega)]; exact hc⟩

def exitOf : Ex → Exit
  | .normal => .normal
  | .exit id => .exit id
  | .ret => .ret

theorem XR.undef {id : Nat} {c : Value} : XR own β w id .undef c := ⟨trivial, rfl, rfl⟩
theorem forRound_ok {tmps : Array Value} {t n0 : Nat} {v : V} {c : Value} (h : ER own β w σ tmps t v c) : XR own β w n0 (forRound (n0 + 1) v) c := by
  unfold forRound
  split
  · rename_i cs
    split
    · rename_i hc
      simp only [Bool.and_eq_true] at hc
      have hn : noEx (.agg cs) = true := by
        have := hc.1
        simp only [noEx, List.all_eq_true] at this ⊢
        intro y hy
        have := this y hy
        cases y <;> first | rfl | (simp [plainM] at this)
      exact ⟨VR.place (L := fun j => .slot t 0 j) h hn, hn, hc.2⟩
    · exact XR.undef
  · rename_i cs off
    exact ⟨h, rfl, rfl⟩
  · split
    · rename_i hc
      simp only [Bool.and_eq_true] at hc
      obtain ⟨c1, c2⟩ := hc
      cases v <;> simp only [plainM] at c1 <;> try (cases c1; done)
      all_goals exact ⟨VR.place (L := fun j => .slot t 0 j) h rfl, rfl, by simpa [V.cells] using c2⟩
    · exact XR.undef

theorem SR.dead (h : SR own β w σ a.tmps) : SR own β w { σ with heap := σ.heap ++ [.dead] } a.tmps := by
  have hb : ∀ id, bcells (σ.heap ++ [.dead]) id = bcells σ.heap id := fun id => bcells_reserve σ.heap 1 id
  refine ⟨fun t => ?_, fun id cs hi => h.heap.blk id cs (by rw [← hb]; exact hi), fun b id hbk => ?_, h.heap.lt⟩
  · have ht := h.env t
    have lk : ∀ p, look { σ with heap := σ.heap ++ [.dead] } p = look σ p := fun p => by
      cases p with
      | slot x => rfl
      | cell id off => simp only [look]; rw [hb]
    show ER own β w _ _ t (get σ.env t) _
    cases hv : get σ.env t with
    | lent p =>
      rw [hv] at ht
      obtain ⟨sz, n, xs, q1, q2⟩ := ht
      exact ⟨sz, n, xs, by rw [lk p]; exact q1, q2⟩
    | xptr p i off =>
      rw [hv] at ht
      obtain ⟨sz, n, xs, b, len, cap, q1, q2⟩ := ht
      exact ⟨sz, n, xs, b, len, cap, by rw [lk p]; exact q1, q2⟩
    | _ => rw [hv] at ht; exact ht
  · obtain ⟨e, cs, hc⟩ := h.heap.inv b id hbk
    exact ⟨e, cs, by rw [hb]; exact hc⟩

theorem Stay.putObj {own o1 : Own} {w w1 : World} (h : Stay own w o1 w1) {l : Nat} (hl : w.heap.size ≤ l) (him : ∀ b, own b = .im → b < w.heap.size) (ob : Obj) : Stay own w o1 (w1.putObj l ob) := by
  have ho : ∀ b, b ≠ l → (w1.putObj l ob).heap[b]? = w1.heap[b]? := fun b hb => World.putObj_heap_other hb
  refine ⟨fun b hb => ?_, fun b hlt hb => ?_, by simpa [World.putObj] using h.size, h.os, h.tape, h.output⟩
  · obtain ⟨q1, q2⟩ := h.im b hb
    have := him b hb
    exact ⟨q1, by rw [ho b (by omega)]; exact q2⟩
  · obtain ⟨q1, q2⟩ := h.other b hlt hb
    exact ⟨q1, by rw [ho b (by omega)]; exact q2⟩

set_option maxHeartbeats 1000000 in
theorem ok_range {T : Types} {call : CallF} {lp : Step → Step} {cx : Cx} (hS : Sound P call) {g : Operand} {ps : Array Tmp} {asg body : Code} {Q : Exit → Act → World → Prop} {ex : Ex} {σ' : St} (h : SR own β w σ a.tmps)
    (hps : ∀ p ∈ ps.toList, p < a.tmps.size) (hB1 : codeB a.tmps.size cx asg = true) (hB2 : codeB a.tmps.size cx body = true) (hv : vcode T call lp cx (.rangeFunc g ps asg body) σ = some (ex, σ'))
    (hQ : ∀ own' β' w' a', NxtM own β w σ a own' β' w' σ' a' → Q (exitOf ex) a' w') : (Code.rangeFunc g ps asg body).wpIn (Fw none) 0 P Q a w := by
  simp only [vcode] at hv
  split at hv
  case h_2 => cases hv
  rename_i f first captured hrnd hg
  obtain ⟨H0, hH0⟩ : ∃ H0, H0 = rangeIn cx ps.toList asg body σ := ⟨_, rfl⟩
  obtain ⟨vs, hvs⟩ : ∃ vs, vs = first ++ [.ref .yld σ.heap.length] ++ captured := ⟨_, rfl⟩
  rw [← hH0, ← hvs] at hv
  generalize hks : reach H0 H0.length (argIds vs) = ks at hv
  split at hv
  case isFalse => cases hv
  rename_i hcl
  simp only [Bool.and_eq_true] at hcl
  obtain ⟨⟨hcl, hak⟩, hlt⟩ := hcl
  rw [Nat.blt_eq] at hlt
  split at hv
  case h_2 => cases hv
  rename_i r H' hcall
  -- what is laid
  unfold rangeIn at hH0
  simp only at hH0
  generalize hts : (cx.head (firstRegion (.seq asg body))).getD [] = ts at hH0
  have hfe := opd_TR h g (by rw [hg]; rfl)
  rw [hg] at hfe
  obtain ⟨ca, cb, hce, hc1, hc2, hc3, hc4⟩ := hfe
  refine wpIn_rangeFunc fun fn _ => ?_
  obtain ⟨rec, hrec⟩ : ∃ rec : Loop, rec = { state := .ready, pending := none, fn, tmps := a.tmps, params := ps, assign := asg, body, defers := w.heap.size } := ⟨_, rfl⟩
  obtain ⟨wD, hwD⟩ : ∃ wD, wD = w.alloc (.deferred (some [])) := ⟨_, rfl⟩
  have hszD : wD.heap.size = w.heap.size + 1 := by rw [hwD]; simp
  have hoD : ∀ b, b < w.heap.size → wD.heap[b]? = w.heap[b]? := fun b hb => by rw [hwD]; exact alloc_other w _ b hb
  have hDnew : wD.heap[w.heap.size]? = some (.deferred (some [])) := by rw [hwD]; exact heap_alloc_new w _
  have hD0 : own w.heap.size = .other := by
    cases ho : own w.heap.size <;> first | rfl | exact absurd (h.heap.lt _ (by simp [ho])) (Nat.lt_irrefl _)
  have sD : SR own β wD σ a.tmps := h.world (by omega) (fun b hb _ => hoD b (h.heap.lt b hb))
  have stD : Stay own w own wD := ⟨fun b hb => ⟨hb, hoD b (h.heap.lt b (by rw [hb]; simp))⟩, fun b hlt hb => ⟨hb, hoD b hlt⟩, by omega, by rw [hwD]; rfl, by rw [hwD]; rfl, by rw [hwD]; rfl⟩
  obtain ⟨o1, β1, s1, st1, bx1, hβl, hol⟩ := sD.dead.lay (id := σ.heap.length) (cs := [.lp ts (ts.map fun t => forRound (σ.heap.length + 1) (get σ.env t)) ps.toList asg body cx .ready]) (.loop rec) (by simp) (by unfold bcells; simp)
    (fun own' β' hk hb hl h1 h2 => .inr ⟨h1, _, .loop rec, rfl, by rw [h2]; exact heap_alloc_new wD _, rec, rfl, by rw [hrec], by rw [hrec], by rw [hrec], by rw [hrec]; exact ⟨rfl, rfl⟩, by rw [hrec]; exact hB1, by rw [hrec]; exact hB2,
      by rw [hrec]; exact hps, fun t => by
        have hg2 : get (ts.zip (ts.map fun t => forRound (σ.heap.length + 1) (get σ.env t))) t = if t ∈ ts then forRound (σ.heap.length + 1) (get σ.env t) else .undef := by
          clear hts hH0
          induction ts with
          | nil => rfl
          | cons x ts ih =>
            simp only [List.map_cons, List.zip_cons_cons, get]
            by_cases hx : x = t
            · subst hx; simp
            · rw [if_neg hx, ih]; simp [Ne.symm hx]
        rw [hg2]
        split
        · have hx := (forRound_ok (n0 := σ.heap.length) (sD.env t)).mono hk hb
          have htm : rec.tmps = a.tmps := by rw [hrec]
          rw [htm]; exact hx
        · exact XR.undef⟩)
  have hH0' : ({ σ with heap := σ.heap ++ [.dead] } : St).heap.set σ.heap.length (.cells [.lp ts (ts.map fun t => forRound (σ.heap.length + 1) (get σ.env t)) ps.toList asg body cx .ready]) = H0 := by
    rw [hH0]; simp
  rw [hH0'] at s1 bx1
  obtain ⟨W1, hW1⟩ : ∃ W1, W1 = wD.alloc (.loop rec) := ⟨_, rfl⟩
  rw [← hW1] at s1 st1
  have hsz1 : W1.heap.size = w.heap.size + 2 := by rw [hW1]; simp [hszD]
  have hlen0 : H0.length = σ.heap.length + 1 := by rw [hH0]; simp
  have hAR : AR o1 β1 W1 vs (ca.toList ++ [Value.func (.yield (w.heap.size + 1)) #[] #[]] ++ cb.toList) := by
    rw [hvs]
    have old : ∀ {xs : List V} {cs : Array Value}, cs.size = xs.length → (∀ (j : Nat) (v : V) (c : Value), xs[j]? = some v → cs[j]? = some c → PR own β w v c) → AR o1 β1 W1 xs cs.toList := fun hs hp => by
      refine AR_of_PR hs (fun j v c hv hc => (hp j v c hv hc).mono (fun b hb => ?_) (fun id hb => ?_))
      · obtain ⟨q1, q2⟩ := stD.im b hb
        obtain ⟨q3, q4⟩ := st1.im b q1
        exact ⟨q3, q4.trans q2⟩
      · obtain ⟨_, cs, hcs⟩ := h.heap.inv _ _ hb
        have hbc : bcells ({ σ with heap := σ.heap ++ [.dead] } : St).heap id = some cs := by
          have := bcells_reserve σ.heap 1 id
          exact this.trans hcs
        obtain ⟨e1, cs', hcs'⟩ := bx1.2 id cs hbc
        exact ⟨(s1.heap.blk id cs' hcs').own, e1⟩
    refine ((old hc1 hc3).append ⟨rfl, fun j v c hv hc => ?_⟩).append (old hc2 hc4)
    cases j with
    | zero =>
      simp at hv hc; subst hv; subst hc
      refine ⟨⟨?_, hol⟩, rfl⟩
      simp only [refVal]; rw [hβl, hszD]
    | succ j => simp at hv
  obtain ⟨⟨fnc, q1, q2, q3⟩, hC⟩ := hS.1 _ _ _ _ _ hlt hcall
  obtain ⟨bd, q3'⟩ := Option.isSome_iff_exists.1 q3
  have hCalls := hC _ β1 W1 _ (s1.heap.mask hcl) (hAR.mask hak) (fun b i j k => mlower_not)
  refine ⟨w.heap.size + 1, [{ target := .collected w.heap.size, args := #[] }], W1, { target := .fn (.func f) cb, args := ca ++ #[.func (.yield (w.heap.size + 1)) #[] #[]] }, W1, f,
    (ca.toList ++ [Value.func (.yield (w.heap.size + 1)) #[] #[]] ++ cb.toList).toArray, W1, ?_, ?_, ?_, ?_, ?_, ?_⟩
  · rw [hW1, hwD, hrec]; exact run_enterLoop_outer _ _ _ _ _
  · have hcv : ∀ v, a.eval (.const v) = v := fun _ => rfl
    simp [resolve, rangeCall, hce, hcv, Deferred.ofValue]
  · exact fun _ _ => trivial
  · have hargs' : (ca.toList ++ [Value.func (.yield (w.heap.size + 1)) #[] #[]] ++ cb.toList).toArray = ca ++ #[.func (.yield (w.heap.size + 1)) #[] #[]] ++ cb := by
      apply Array.ext'; simp
    rw [hargs']
    simp [invoke, callFunc, q1, q2, q3']
  · exact fw_depth none 0
  rw [callsIn_fw]
  refine hCalls.mono ?_
  rintro e w3 ⟨c', o', β', rfl, t1, t2, t3, t4, t5⟩
  unfold rangeOut at hv
  split at hv
  case isFalse => cases hv
  rename_i hdead
  obtain ⟨o2, β2, g1, g2⟩ := back_part ks s1 t2 t3 t4 hdead t1
  have hkn : ks.contains σ.heap.length = true := List.all_eq_true.1 hak _ (by rw [hvs]; unfold argIds; simp [V.cells, ptrId])
  have hpart : partS ks { env := σ.env, heap := H0 } H' = { env := σ.env.map (fun x => (x.1, killCellsIn ks x.2)), heap := putH ks H0 H' ++ H'.drop H0.length } := rfl
  have hb0 : bcells H0 σ.heap.length = some [.lp ts (ts.map fun t => forRound (σ.heap.length + 1) (get σ.env t)) ps.toList asg body cx .ready] := by
    unfold bcells; rw [hH0]; simp
  split at hv
  case h_2 => cases hv
  rename_i ts' vs' ps' asg' body' cx' st hbl
  have hbl2 : bcells (partS ks { env := σ.env, heap := H0 } H').heap σ.heap.length = some [.lp ts' vs' ps' asg' body' cx' st] := by
    rw [hpart]
    exact (bcells_putH ks H0 H' _).trans ((if_neg (fun hq => by rw [hkn] at hq; cases hq.2)).trans hbl)
  obtain ⟨p1, ob, p2, rec', rfl, p3, p4, p5, p6, _⟩ := (g1.sr.heap.blk _ _ hbl2).spec rfl
  have hβ2 : β2 σ.heap.length = w.heap.size + 1 := by
    have := (g1.bx.2 σ.heap.length _ hb0).1
    rw [this, hβl, hszD]
  rw [hβ2] at p1 p2
  -- behind it
  have done : ∀ (ex' : Ex) (σ2 : St) (jump : Option Code), rec'.state ≠ .busy → rec'.pending = jump → σ2 = Vm.cut σ.heap.length (partS ks { env := σ.env, heap := H0 } H') → ex' = ex → σ2 = σ' →
      (Instr.endLoop (w.heap.size + 1)).run P w3 = .ok jump (w3.putObj (w.heap.size + 1) (.loop { rec' with state := .exhausted })) ∧
      NxtM own β w σ a (fun b => below σ.heap.length (o2 b)) β2 (w3.putObj (w.heap.size + 1) (.loop { rec' with state := .exhausted })) σ' { a with defers := [{ target := .collected w.heap.size, args := #[] }] ++ a.defers } := by
    intro ex' σ2 jump hbusy hpend h2 _ h3
    subst h3
    refine ⟨by rw [← hpend]; exact run_endLoop p2 hbusy, ?_⟩
    have hsr := g1.sr.cut σ.heap.length
    rw [← h2] at hsr
    have hno : (fun b => below σ.heap.length (o2 b)) (w.heap.size + 1) = .other := by
      simp only [p1, below]; rw [if_neg (Nat.lt_irrefl _)]
    have hput : ∀ b, b ≠ w.heap.size + 1 → (w3.putObj (w.heap.size + 1) (.loop { rec' with state := .exhausted })).heap[b]? = w3.heap[b]? := fun b hb => World.putObj_heap_other hb
    have stAll : Stay own w (fun b => below σ.heap.length (o2 b)) w3 := ((stD.trans st1).trans g1.stay).trans (Stay.below _ _ _)
    have hD1 : o1 w.heap.size = .other ∧ W1.heap[w.heap.size]? = wD.heap[w.heap.size]? := st1.other _ (by omega) hD0
    have hD2 : o2 w.heap.size = .other ∧ w3.heap[w.heap.size]? = W1.heap[w.heap.size]? := g1.stay.other _ (by omega) hD1.1
    refine ⟨hsr.world (by simp [World.putObj]) (fun b hb _ => hput b fun he => hb (by rw [he]; exact hno)), stAll.putObj (by omega) (fun b hb => h.heap.lt b (by rw [hb]; simp)) _, ?_, ⟨[w.heap.size], rfl, by simp, fun D hD => ?_⟩, rfl⟩
    · have hlenp : σ.heap.length ≤ (partS ks { env := σ.env, heap := H0 } H').heap.length := by have := g1.bx.1; simp only at this; omega
      refine ⟨by rw [h2]; simp only [Vm.cut, List.length_take]; omega, fun id cs hi => ?_⟩
      have hidl := bcells_lt hi
      have hbc : bcells ({ σ with heap := σ.heap ++ [.dead] } : St).heap id = some cs := (bcells_reserve σ.heap 1 id).trans hi
      obtain ⟨e1, cs1, hcs1⟩ := bx1.2 id cs hbc
      obtain ⟨e2, cs2, hcs2⟩ := g1.bx.2 id cs1 hcs1
      exact ⟨e2.trans e1, cs2, by rw [h2]; simp only [Vm.cut]; rw [bcells_take hidl]; exact hcs2⟩
    · simp at hD; subst hD
      exact ⟨Nat.le_refl _, by simp only [hD2.1, below], by rw [hput _ (by omega), hD2.2, hD1.2]; exact hDnew⟩
  simp only at hv
  cases st with
  | busy => cases hv
  | ready =>
    simp only at hv
    injection hv with hv; injection hv with e1 e2
    obtain ⟨d1, d2⟩ := done .normal _ none (by rw [p6.1]; simp) p6.2 rfl e1 e2
    refine ⟨none, _, d1, ?_⟩
    subst e1
    exact hQ _ _ _ _ d2
  | done ex0 =>
    simp only at hv
    injection hv with hv; injection hv with e1 e2
    subst e1
    cases ex0 with
    | normal => exact p6.elim
    | exit i =>
      obtain ⟨d1, d2⟩ := done (.exit i) _ (some (.exit i)) (by rw [p6.1]; simp) p6.2 rfl rfl e2
      exact ⟨some (.exit i), _, d1, wpIn_exit (hQ _ _ _ _ d2)⟩
    | ret =>
      obtain ⟨d1, d2⟩ := done .ret _ (some .ret) (by rw [p6.1]; simp) p6.2 rfl rfl e2
      exact ⟨some .ret, _, d1, wpIn_ret (hQ _ _ _ _ d2)⟩

section
variable {F : Fence} {n : Nat} {Q : Exit → Act → World → Prop} {b : Frame} {k : List Item} {cs : List Frame}
theorem stepR_scope {c : Code} : step P (lone (b.atR a (.code (.scope c) :: k)) cs w) = .next (lone (b.atR a (.code c :: .inScope c :: k)) cs w) :=
  step_lone_go (by simp [stepG, stepG.exec, Frame.atR])
theorem stepR_inScope {c : Code} : step P (lone (b.atR a (.inScope c :: k)) cs w) = .next (lone (b.atR a k) cs w) :=
  step_lone_go (by simp [stepG, stepG.exec, Frame.atR])
theorem wpIn_scope {c : Code} (h : c.wpIn F n P (fun e a w => (∀ l, e ≠ .goto l) ∧ Q e a w) a w) : (Code.scope c).wpIn F n P Q a w := by
  intro b k cs hro hb hr
  have h0 : (lone (b.atR a (.code (.scope c) :: k)) cs w).fenced P F := fenced_calm hb hr rfl
  obtain ⟨e, a₁, w₁, ⟨hg, hq⟩, harr⟩ := h b (.inScope c :: k) cs hro hb hr
  cases e with
  | normal => exact ⟨.normal, a₁, w₁, hq, .head h0 stepR_scope (StepsIn.trans harr (.one (fenced_calm hb hr rfl) stepR_inScope))⟩
  | exit id =>
    have hx : exitTo id (.inScope c :: k) = exitTo id k := by simp [exitTo]
    exact ⟨_, a₁, w₁, hq, fun k' hk => .head h0 stepR_scope (harr.1 k' (by rw [hx]; exact hk)),
      fun hr' hk => let ⟨k₁, h1, h2⟩ := harr.2 hr' (by rw [hx]; exact hk); ⟨k₁, h1, .head h0 stepR_scope h2⟩⟩
  | goto l => exact absurd rfl (hg l)
  | ret => exact ⟨_, a₁, w₁, hq, .of_steps (.one h0 stepR_scope) harr⟩
  | panic ch => exact ⟨_, a₁, w₁, hq, .of_steps (.one h0 stepR_scope) harr⟩
  | outgrown => exact ⟨_, a₁, w₁, hq, .of_steps (.one h0 stepR_scope) harr⟩
end

theorem ok_code {T : Types} {call : CallF} {cx : Cx} (n : Nat) (hS : Sound P call) (hC : CxOk P cx) (hT : TOk P T) (r : Option Nat) (hrn : cx.rnd = false → r = none) : ∀ (c : Code) (own : Own) (β : Nat → Nat) (w : World) (σ : St) (a : Act) (Q : Exit → Act → World → Prop) (ex : Ex) (σ' : St),
    SR own β w σ a.tmps → codeB a.tmps.size cx c = true → vcode T call (fun s => rounds s n) cx c σ = some (ex, σ') →
    (∀ own' β' w' a', NxtM own β w σ a own' β' w' σ' a' → Q (exitOf ex) a' w') → c.wpIn (Fw r) 0 P Q a w
  | .skip, own, β, w, σ, a, Q, ex, σ', h, hB, hv, hQ => by
    simp only [vcode] at hv; injection hv with hv; injection hv with e1 e2; subst e1; subst e2
    exact wpIn_skip (hQ _ _ _ _ (NxtM.refl h))
  | .region id ops draw, own, β, w, σ, a, Q, ex, σ', h, hB, hv, hQ => by
    simp only [vcode, Option.map_eq_some_iff] at hv
    obtain ⟨σ1, h1, h2⟩ := hv
    injection h2 with e1 e2; subst e1; subst e2
    simp only [codeB, Bool.and_eq_true, List.all_eq_true, Bool.or_eq_true, Bool.not_eq_true'] at hB
    refine ok_region hS hC hT r Q h (fun o ho d hd => ?_) (fun hdr => hB.2.resolve_left (by simp [hdr])) h1 (fun o' β' w' a' hn => hQ o' β' w' a' hn.toM)
    have := hB.1 o ho
    simpa [hd] using this
  | .seq x y, own, β, w, σ, a, Q, ex, σ', h, hB, hv, hQ => by
    simp only [codeB, Bool.and_eq_true] at hB
    simp only [vcode] at hv
    refine wpIn_seq ?_
    split at hv
    · rename_i σ1 h1
      refine ok_code n hS hC hT r hrn x own β w σ a _ .normal σ1 h hB.1 h1 (fun own1 β1 w1 a1 hn => ?_)
      exact ok_code n hS hC hT r hrn y own1 β1 w1 σ1 a1 Q ex σ' hn.sr (by rw [hn.size]; exact hB.2) hv (fun o2 β2 w2 a2 hn2 => hQ _ _ _ _ (hn.trans hn2))
    · rename_i hne
      refine ok_code n hS hC hT r hrn x own β w σ a _ ex σ' h hB.1 hv (fun own1 β1 w1 a1 hn => ?_)
      cases ex with
      | normal => exact absurd hv (hne σ')
      | exit i => exact hQ _ _ _ _ hn
      | ret => exact hQ _ _ _ _ hn
  | .cond c x y, own, β, w, σ, a, Q, ex, σ', h, hB, hv, hQ => by
    simp only [codeB, Bool.and_eq_true] at hB
    simp only [vcode] at hv
    cases hc : opd σ.env c <;> simp only [hc] at hv <;> try (cases hv; done)
    rename_i t
    refine wpIn_cond (opd_bool h hc) ?_
    cases t
    · exact ok_code n hS hC hT r hrn y own β w σ a Q ex σ' h hB.2 (by simpa using hv) hQ
    · exact ok_code n hS hC hT r hrn x own β w σ a Q ex σ' h hB.1 (by simpa using hv) hQ
  | .block id x, own, β, w, σ, a, Q, ex, σ', h, hB, hv, hQ => by
    simp only [codeB] at hB
    simp only [vcode] at hv
    refine wpIn_block ?_
    split at hv
    · rename_i i σ1 h1
      split at hv
      · rename_i hi
        injection hv with hv; injection hv with e1 e2; subst e1; subst e2
        refine ok_code n hS hC hT r hrn x own β w σ a _ (.exit i) σ1 h hB h1 (fun o1 β1 w1 a1 hn => ?_)
        simp only [exitOf, Exit.inBlock, hi, if_true]
        exact hQ _ _ _ _ hn
      · rename_i hi
        injection hv with hv; injection hv with e1 e2; subst e1; subst e2
        refine ok_code n hS hC hT r hrn x own β w σ a _ (.exit i) σ1 h hB h1 (fun o1 β1 w1 a1 hn => ?_)
        simp only [exitOf, Exit.inBlock, hi, if_false]
        exact hQ _ _ _ _ hn
    · rename_i hne
      refine ok_code n hS hC hT r hrn x own β w σ a _ ex σ' h hB hv (fun o1 β1 w1 a1 hn => ?_)
      cases ex with
      | normal => exact hQ _ _ _ _ hn
      | exit i => exact absurd hv (hne i σ')
      | ret => exact hQ _ _ _ _ hn
  | .exit id, own, β, w, σ, a, Q, ex, σ', h, hB, hv, hQ => by
    simp only [vcode] at hv; injection hv with hv; injection hv with e1 e2; subst e1; subst e2
    exact wpIn_exit (hQ _ _ _ _ (NxtM.refl h))
  | .ret, own, β, w, σ, a, Q, ex, σ', h, hB, hv, hQ => by
    simp only [vcode] at hv; injection hv with hv; injection hv with e1 e2; subst e1; subst e2
    exact wpIn_ret (hQ _ _ _ _ (NxtM.refl h))
  | .loop b, own, β, w, σ, a, Q, ex, σ', h, hB, hv, hQ => by
    simp only [codeB] at hB
    simp only [vcode] at hv
    have hh : (Vm.prune (cx.head (firstRegion b)) σ).heap = σ.heap := by cases cx.head (firstRegion b) <;> rfl
    have key : ∀ (m : Nat) (o0 : Own) (β0 : Nat → Nat) (w0 : World) (τ : St) (a0 : Act), NxtM own β w (Vm.prune (cx.head (firstRegion b)) σ) a o0 β0 w0 τ a0 →
        rounds (fun τ => match vcode T call (fun s => rounds s n) cx b τ with
          | some (.normal, τ') => some (.normal, Vm.back σ.heap.length (Vm.prune (cx.head (firstRegion b)) τ'))
          | r => r) m τ = some (ex, σ') → Code.roundsIn (Fw r) 0 P b Q m a0 w0 := by
      intro m
      induction m with
      | zero => intro o0 β0 w0 τ a0 _ hr; simp [rounds] at hr
      | succ m ih =>
        intro o0 β0 w0 τ a0 hs hr
        rw [roundsIn_succ]
        simp only [rounds] at hr
        have hB0 : codeB a0.tmps.size cx b = true := by rw [hs.size]; exact hB
        have hend : ∀ o3 β3 w3 σ3 a3, NxtM own β w (Vm.prune (cx.head (firstRegion b)) σ) a o3 β3 w3 σ3 a3 → NxtM own β w σ a o3 β3 w3 σ3 a3 := fun o3 β3 w3 σ3 a3 hn => by
          refine ⟨hn.sr, hn.stay, ?_, hn.marks, hn.size⟩
          have := hn.bx
          rwa [hh] at this
        cases hb : vcode T call (fun s => rounds s n) cx b τ with
        | none => simp [hb] at hr
        | some r1 =>
          obtain ⟨ex1, τ1⟩ := r1
          cases ex1 with
          | normal =>
            simp only [hb] at hr
            refine ok_code n hS hC hT r hrn b o0 β0 w0 τ a0 _ .normal τ1 hs.sr hB0 hb (fun o1 β1 w1 a1 hn => ?_)
            obtain ⟨o2, hn2⟩ := (hs.trans hn).back (cx.head (firstRegion b))
            rw [hh] at hn2
            exact ih o2 β1 w1 _ a1 hn2 hr
          | exit i =>
            simp only [hb] at hr
            injection hr with hr; injection hr with e1 e2; subst e1; subst e2
            exact ok_code n hS hC hT r hrn b o0 β0 w0 τ a0 _ (.exit i) τ1 hs.sr hB0 hb (fun o1 β1 w1 a1 hn => hQ _ _ _ _ (hend _ _ _ _ _ (hs.trans hn)))
          | ret =>
            simp only [hb] at hr
            injection hr with hr; injection hr with e1 e2; subst e1; subst e2
            exact ok_code n hS hC hT r hrn b o0 β0 w0 τ a0 _ .ret τ1 hs.sr hB0 hb (fun o1 β1 w1 a1 hn => hQ _ _ _ _ (hend _ _ _ _ _ (hs.trans hn)))
    exact wpIn_loop_rounds n (key n own β w _ a (NxtM.refl (h.prune _)) hv)
  | .rangeFunc g ps asg body, own, β, w, σ, a, Q, ex, σ', h, hB, hv, hQ => by
    have hrn0 : cx.rnd = false := by
      cases hr0 : cx.rnd with
      | false => rfl
      | true => simp [vcode, hr0] at hv
    obtain rfl := hrn hrn0
    simp only [codeB, Bool.and_eq_true, List.all_eq_true, decide_eq_true_eq] at hB
    exact ok_range hS h hB.1.1 hB.1.2 hB.2 hv hQ
  | .scope x, own, β, w, σ, a, Q, ex, σ', h, hB, hv, hQ => by
    simp only [codeB] at hB
    simp only [vcode] at hv
    exact wpIn_scope (ok_code n hS hC hT r hrn x own β w σ a _ ex σ' h hB hv (fun o1 β1 w1 a1 hn => ⟨fun l => by cases ex <;> simp [exitOf], hQ _ _ _ _ hn⟩))
  | .label l, own, β, w, σ, a, Q, ex, σ', h, hB, hv, hQ => by
    simp only [vcode] at hv; injection hv with hv; injection hv with e1 e2; subst e1; subst e2
    exact wpIn_label (hQ _ _ _ _ (NxtM.refl h))
  | .goto _, _, _, _, _, _, _, _, _, _, _, hv, _ => by simp [vcode] at hv
  | .refuse _, _, _, _, _, _, _, _, _, _, _, hv, _ => by simp [vcode] at hv

end
end Go.Vm
end

section
/- V22: functions. -/
namespace Go.Vm
open Go

section
variable {P : Program} {own : Own} {β : Nat → Nat} {w : World} {σ : St} {a : Act}

def slotTo (t i : Nat) (l : Loc) : Loc := match l with | .slot u _ j => if u = t then .res i j else l | l => l
theorem slotTo_reloc (t i : Nat) : Reloc (slotTo t i) := by
  refine ⟨rfl, rfl, fun _ => rfl, fun l id h => ?_, fun l h => ?_⟩
  · cases l <;> simp only [slotTo] at h <;> first | rfl | exact h | (split at h <;> cases h)
  · cases l <;> simp only [slotTo] at h <;> first | rfl | exact h | (split at h <;> cases h)

/-- One result. -/
theorem outAt_ok {T : Types} (hT : TOk P T) (h : SR own β w σ a.tmps) (i : Nat) {r : ResultVar} {v : V} {ps : List (Place × V)} (ho : outAt T σ r = some (v, ps)) :
    ∃ c ρ, Reloc ρ ∧ (∀ m j, ρ (.res m j) = .res m j) ∧ SR (fun b => ρ (own b)) β w (setPlaces σ ps) a.tmps ∧ VR (fun b => ρ (own b)) β w (fun j => .res i j) v c ∧
      BX β β σ.heap (setPlaces σ ps).heap ∧ ∀ g : ResultVar → Sem Value, (∀ t, g (.tmp t) = pure (a.tmps.getD t undef)) → (∀ x t, g (.cell x t) = (asAddr (a.tmps.getD x undef) >>= loadVar t)) → (g r).run P w = .ok c w := by
  cases r with
  | cell x t =>
    simp only [outAt] at ho
    cases hTt : T t <;> simp only [hTt] at ho
    · cases ho
    rename_i ti
    cases hx : get σ.env x <;> simp only [hx] at ho <;> try (cases ho; done)
    rename_i id off
    cases hbn : ncells σ.heap id <;> simp only [hbn] at ho
    · cases ho
    rename_i cs
    obtain ⟨hb, hsp⟩ := ncells_some hbn
    obtain ⟨rw'⟩ := Row.of hT hTt
    obtain ⟨q1, q2⟩ := opd_ptr (x := .tmp x) h (by simpa [opd] using hx)
    have q1' : a.tmps.getD x undef = .pointer (some ⟨β id, off, none⟩) := q1
    have hgo : ∀ c, (loadVar t ⟨β id, off, none⟩).run P w = .ok c w → ∀ g : ResultVar → Sem Value, (∀ t, g (.tmp t) = pure (a.tmps.getD t undef)) → (∀ x t, g (.cell x t) = (asAddr (a.tmps.getD x undef) >>= loadVar t)) → (g (.cell x t)).run P w = .ok c w := by
      intro c hc g _ hg
      rw [hg, q1']
      simpa [asAddr] using hc
    obtain ⟨b1, b2, arr, T0, b3, b4, b5⟩ := (h.heap.blk id cs hb).cells hsp
    have hcell : ∀ (j : Nat) (d : V), cs[j]? = some d → ∃ c, w.cell? ⟨β id, j, none⟩ = some c ∧ CR own β w (.cell id j) d c := fun j d hd => by
      have hlt := (List.getElem?_eq_some_iff.1 hd).1
      have ha' : j < arr.size := by omega
      refine ⟨arr[j], ?_, b5 j d _ hd (Array.getElem?_eq_getElem ha')⟩
      rw [cell_of_row w _ _ arr T0 _ b3, Array.getElem?_eq_getElem ha']
    cases ha : asType ti ((cs.drop off).take ti.size) <;> simp only [ha] at ho
    · cases ho
    rename_i v0
    have hl := asType_cells ha
    have hplain : (((cs.drop off).take ti.size).all notEx = true) → v0 = v → ps = [] →
        ∃ c ρ, Reloc ρ ∧ (∀ m j, ρ (.res m j) = .res m j) ∧ SR (fun b => ρ (own b)) β w (setPlaces σ ps) a.tmps ∧ VR (fun b => ρ (own b)) β w (fun j => .res i j) v c ∧
        BX β β σ.heap (setPlaces σ ps).heap ∧ ∀ g : ResultVar → Sem Value, (∀ t, g (.tmp t) = pure (a.tmps.getD t undef)) → (∀ x t, g (.cell x t) = (asAddr (a.tmps.getD x undef) >>= loadVar t)) → (g (.cell x t)).run P w = .ok c w := by
      rintro hall rfl rfl
      have hget : ∀ (j : Nat) (u : Value), (readCells w (β id) off ti.size)[j]? = some u → ∃ d, ((cs.drop off).take ti.size)[j]? = some d ∧ w.cell? ⟨β id, off + j, none⟩ = some u ∧ CR own β w (.res i j) d u := by
        intro j u hu
        obtain ⟨hj, rfl⟩ := readCells_get hu
        have hd : ((cs.drop off).take ti.size)[j]? = some (((cs.drop off).take ti.size)[j]'(by omega)) := List.getElem?_eq_getElem _
        obtain ⟨_, hd'⟩ := take_drop_get hd
        obtain ⟨c, h1, h2⟩ := hcell _ _ hd'
        have hn := List.all_eq_true.1 hall _ (List.mem_of_getElem? hd)
        exact ⟨_, hd, by rw [h1]; rfl, by rw [h1]; exact h2.place (fun sz n xs he => by rw [he] at hn; simp [notEx] at hn)⟩
      have hrun := run_loadVar (P := P) rw' w (β id) off (readCells w (β id) off ti.size) (readCells_length _ _ _ _) (fun j u hu => let ⟨_, _, h1, _⟩ := hget j u hu; h1)
      have hvr := asType_VR (L := fun j => .res i j) rw' ha (readCells_length w (β id) off ti.size) (fun j d c hd hc => by
        obtain ⟨d', h1, h2, h3⟩ := hget j c hc
        rw [hd] at h1; injection h1 with h1; subst h1; exact h3)
      exact ⟨_, fun l => l, reloc_id, fun _ _ => rfl, h, hvr, BX.refl _ _, hgo _ hrun⟩
    have hplain' : ∀ u, v0 = u → (if ((cs.drop off).take ti.size).all notEx then some (v0, ([] : List (Place × V))) else none) = some (v, ps) → ((cs.drop off).take ti.size).all notEx = true ∧ v0 = v ∧ ps = [] := by
      intro u _ hu
      split at hu
      · rename_i hq
        injection hu with hu; injection hu with e1 e2
        exact ⟨hq, e1, e2.symm⟩
      · cases hu
    cases v0 <;> simp only at ho
    case ex sz n xs =>
      injection ho with ho; injection ho with e1 e2; subst e1; subst e2
      have hk : ti.kind.isAgg = false := by
        cases hk : ti.kind.isAgg
        · rfl
        · unfold asType at ha
          rw [if_pos hl, hk] at ha
          simp at ha
      have h1 := rw'.one hk
      have h3 : cs[off]? = some (.ex sz n xs) := by
        unfold asType at ha
        rw [if_pos hl, hk] at ha
        simp only [Bool.false_eq_true, if_false] at ha
        simpa using (take_drop_get ha).2
      have hlook : look σ (.cell id off) = .ex sz n xs := by
        simp only [look, hb]
        rw [List.getD_eq_getElem?_getD, h3]; rfl
      obtain ⟨o1, c, g1, g2, g3, _, rfl⟩ := h.give (.res i 0) (by simp) (by simp) hlook
      have hrun := run_loadVar (P := P) rw' w (β id) off [c] (by simp [h1]) (fun j u hu => by
        cases j with
        | zero => simp at hu; subst hu; exact g1
        | succ j => simp at hu)
      have hm : mkV ti [c] = c := by simp [mkV, hk]
      rw [hm] at hrun
      refine ⟨c, _, locOf_reloc (.cell id off) (by simp) (by simp), fun m j => moved_ne (by simp [locOf]), g3, g2, ?_, hgo _ hrun⟩
      simp only [setPlaces, setPlace, hb]
      refine ⟨by simp, fun i ds hi => ⟨rfl, ?_⟩⟩
      rw [bcells_set (bcells_lt hb)]
      split
      · exact ⟨_, rfl⟩
      · exact ⟨ds, hi⟩
    all_goals
      obtain ⟨k1, k2, k3⟩ := hplain' _ rfl ho
      exact hplain k1 k2 k3
  | tmp t =>
    have hgo : ∀ g : ResultVar → Sem Value, (∀ t, g (.tmp t) = pure (a.tmps.getD t undef)) → (∀ x t, g (.cell x t) = (asAddr (a.tmps.getD x undef) >>= loadVar t)) → (g (.tmp t)).run P w = .ok (a.tmps.getD t undef) w := by
      intro g hg _
      rw [hg]; simp
    simp only [outAt] at ho
    have slotCase : ∀ v', get σ.env t = v' → isWay v' = false → (∀ vs, v' ≠ .tup vs) → v = v' → ps = [(.slot t, .undef)] →
        ∃ ρ, Reloc ρ ∧ (∀ m j, ρ (.res m j) = .res m j) ∧ SR (fun b => ρ (own b)) β w (setPlaces σ ps) a.tmps ∧ VR (fun b => ρ (own b)) β w (fun j => .res i j) v (a.tmps.getD t undef) ∧ BX β β σ.heap (setPlaces σ ps).heap := by
      rintro v' hv hw ht rfl rfl
      have hr := slotTo_reloc t i
      refine ⟨slotTo t i, hr, fun _ _ => rfl, h.slot hr (fun u i j hu => by simp [slotTo, hu]) (fun _ _ => rfl) rfl (by simp only [TR, VR]), ?_, BX.refl _ _⟩
      have hE := h.env t
      rw [hv] at hE
      have hT := hE.to_TR hw
      have ho : oneT v = true := by cases v <;> first | rfl | exact absurd rfl (ht _)
      rw [TR_one ho] at hT
      have := hT.reloc hr
      simpa [slotTo] using this
    have slotCase' : ∀ v', get σ.env t = v' → isWay v' = false → (∀ vs, v' ≠ .tup vs) → v = v' → ps = [(.slot t, .undef)] →
        ∃ c ρ, Reloc ρ ∧ (∀ m j, ρ (.res m j) = .res m j) ∧ SR (fun b => ρ (own b)) β w (setPlaces σ ps) a.tmps ∧ VR (fun b => ρ (own b)) β w (fun j => .res i j) v c ∧ BX β β σ.heap (setPlaces σ ps).heap ∧
        ∀ g : ResultVar → Sem Value, (∀ t, g (.tmp t) = pure (a.tmps.getD t undef)) → (∀ x t, g (.cell x t) = (asAddr (a.tmps.getD x undef) >>= loadVar t)) → (g (.tmp t)).run P w = .ok c w := by
      intro v' h1 h2 h3 h4 h5
      obtain ⟨ρ, k1, k2, k3, k4, k5⟩ := slotCase v' h1 h2 h3 h4 h5
      exact ⟨_, ρ, k1, k2, k3, k4, k5, hgo⟩
    cases hv : get σ.env t <;> simp only [hv] at ho
    case lent p =>
      have hE := h.env t
      rw [hv] at hE
      obtain ⟨sz, n, xs, q1, q2⟩ := hE
      simp only [q1] at ho
      injection ho with ho; injection ho with e1 e2; subst e1; subst e2
      obtain ⟨o1, c, g1, g2, g3, _, rfl⟩ := h.give (.res i 0) (by simp) (by simp) q1
      rw [q2] at g1; injection g1 with g1; subst g1
      refine ⟨_, _, locOf_reloc p (by simp) (by simp), fun m j => moved_ne (by cases p <;> simp [locOf]), g3, g2, ?_, hgo⟩
      simp only [setPlaces]
      cases p with
      | slot t => exact BX.refl _ _
      | cell id off =>
        obtain ⟨cs, hc, _⟩ := Place.cases_look q1
        simp only [setPlace, hc]
        refine ⟨by simp, fun i ds hi => ⟨rfl, ?_⟩⟩
        rw [bcells_set (bcells_lt hc)]
        split
        · exact ⟨_, rfl⟩
        · exact ⟨ds, hi⟩
    case xptr => cases ho
    case tup => cases ho
    all_goals
      injection ho with ho; injection ho with e1 e2
      exact slotCase' _ hv rfl (fun _ => by simp) e1.symm e2.symm

/-- All of them. -/
theorem outs_ok {T : Types} (hT : TOk P T) : ∀ (rs : List ResultVar) (i : Nat) (own : Own) (σ : St) (vs : List V) (σ' : St), SR own β w σ a.tmps → outs T rs σ = some (vs, σ') →
    ∃ (cs : List Value) (ρ : Loc → Loc), Reloc ρ ∧ (∀ m j, ρ (.res m j) = .res m j) ∧ SR (fun b => ρ (own b)) β w σ' a.tmps ∧ BX β β σ.heap σ'.heap ∧ cs.length = vs.length ∧
      (∀ (j : Nat) (v : V) (c : Value), vs[j]? = some v → cs[j]? = some c → VR (fun b => ρ (own b)) β w (fun k => .res (i + j) k) v c) ∧
      ∀ (g : ResultVar → Sem Value), (∀ t, g (.tmp t) = pure (a.tmps.getD t undef)) → (∀ x t, g (.cell x t) = (asAddr (a.tmps.getD x undef) >>= loadVar t)) → (rs.mapM g).run P w = .ok cs w
  | [], i, own, σ, vs, σ', h, ho => by
    simp only [outs] at ho; injection ho with ho; injection ho with e1 e2; subst e1; subst e2
    exact ⟨[], id, reloc_id, fun _ _ => rfl, h, BX.refl _ _, rfl, by simp, fun _ _ _ => by simp⟩
  | r :: rs, i, own, σ, vs, σ', h, ho => by
    simp only [outs] at ho
    split at ho
    · rename_i v ps h1
      rw [Option.map_eq_some_iff] at ho
      obtain ⟨⟨us, σ2⟩, h2, h3⟩ := ho
      injection h3 with e1 e2; subst e1; subst e2
      obtain ⟨c0, ρ, hr, hres, g1, g2, g3, g4⟩ := outAt_ok hT h i h1
      obtain ⟨cs, ρ', hr', hres', k1, k2, k3, k4, k5⟩ := outs_ok hT rs (i + 1) _ _ _ _ g1 h2
      refine ⟨c0 :: cs, fun l => ρ' (ρ l), ⟨by rw [hr.im, hr'.im], by rw [hr.other, hr'.other], fun id => by rw [hr.blk, hr'.blk], fun l id hl => hr.noblk _ _ (hr'.noblk _ _ hl), fun l hl => hr.noother _ (hr'.noother _ hl)⟩,
        fun m j => by simp only [hres, hres'], k1, g3.trans k2, by simp [k3], fun j v c hv hc => ?_, fun g hg hg' => ?_⟩
      · cases j with
        | zero =>
          simp at hv hc
          subst hv; subst hc
          have := g2.reloc hr'
          simpa [hres'] using this
        | succ j =>
          have := k4 j v c (by simpa using hv) (by simpa using hc)
          simpa [Nat.add_assoc, Nat.add_comm 1 j] using this
      · simp only [List.mapM_cons, Sem.run_bind, g4 g hg hg', Result.andThen_ok, k5 g hg hg', Sem.run_pure]
    · cases ho

theorem get_zip : ∀ (vs : List V) (k t : Nat), get ((vs.zipIdx k).map fun x => (x.2, x.1)) t = if k ≤ t then (vs[t - k]?).getD .undef else .undef
  | [], k, t => by simp [get]
  | v :: vs, k, t => by
    simp only [List.zipIdx_cons, List.map_cons, get]
    by_cases h : k = t
    · subst h; simp
    · rw [if_neg h, get_zip vs (k + 1) t]
      by_cases hk : k ≤ t
      · rw [if_pos (by omega), if_pos hk, show t - k = (t - (k + 1)) + 1 by omega]; simp
      · rw [if_neg (by omega), if_neg hk]

theorem codeB_mono {n m : Nat} {cx : Cx} (h : n ≤ m) : ∀ (c : Code), codeB n cx c = true → codeB m cx c = true
  | .skip, _ => rfl
  | .region id ops draw, hc => by
    simp only [codeB, Bool.and_eq_true, List.all_eq_true] at hc ⊢
    refine ⟨fun o ho => ?_, hc.2⟩
    have := hc.1 o ho
    cases hd : o.dst with
    | none => rfl
    | some d =>
      simp only [hd, decide_eq_true_eq] at this ⊢
      exact Nat.lt_of_lt_of_le this h
  | .seq x y, hc => by simp only [codeB, Bool.and_eq_true] at hc ⊢; exact ⟨codeB_mono h x hc.1, codeB_mono h y hc.2⟩
  | .cond c x y, hc => by simp only [codeB, Bool.and_eq_true] at hc ⊢; exact ⟨codeB_mono h x hc.1, codeB_mono h y hc.2⟩
  | .block id x, hc => by simp only [codeB] at hc ⊢; exact codeB_mono h x hc
  | .loop x, hc => by simp only [codeB] at hc ⊢; exact codeB_mono h x hc
  | .rangeFunc g ps asg body, hc => by
    simp only [codeB, Bool.and_eq_true, List.all_eq_true, decide_eq_true_eq] at hc ⊢
    exact ⟨⟨fun p hp => Nat.lt_of_lt_of_le (hc.1.1 p hp) h, codeB_mono h asg hc.1.2⟩, codeB_mono h body hc.2⟩
  | .exit _, _ => rfl
  | .scope x, hc => by simp only [codeB] at hc ⊢; exact codeB_mono h x hc
  | .label _, _ => rfl
  | .goto _, _ => rfl
  | .ret, _ => rfl
  | .refuse _, _ => rfl

/-- V's table of functions is the program's. -/
def FnsOk (P : Program) (F : Fns) : Prop := ∀ f fi, F f = some fi → f < yB ∧ ∃ fn, P.funcs[f]? = some fn ∧ fn.body = some fi.body ∧ fn.results.toList = fi.results ∧ fn.name ≠ "runtime.NumGoroutine" ∧ codeB fn.ntmps fi.cx fi.body = true ∧ CxOk P fi.cx

def dropSlots (l : Loc) : Loc := match l with | .slot _ _ _ => .other | l => l

theorem ok_leave {T : Types} (hT : TOk P T) {rs : List ResultVar} {fn : Func} (hrs : fn.results.toList = rs) {σ : St} {n : Nat} {r : V} {H' : Heap} (h : SR own β w σ a.tmps) (hn : n ≤ σ.heap.length) (hl : leave T rs n σ = some (r, H')) :
    ∃ c own', (results fn a.tmps).run P w = .ok c w ∧ TR own' β w (fun i j => .res i j) r c ∧ HR own' β w H' ∧ Stay own w own' w ∧ (∀ b i j k, own' b ≠ .slot i j k) ∧
      n ≤ H'.length ∧ ∀ id, id < n → (∃ cs, bcells σ.heap id = some cs) → ∃ cs, bcells H' id = some cs := by
  unfold leave at hl
  split at hl
  · rename_i vs σ' ho
    injection hl with hl; injection hl with e1 e2
    subst e1
    obtain ⟨cs, ρ, hr, hres, k1, k2, k3, k4, k5⟩ := outs_ok (P := P) (β := β) (w := w) hT rs 0 own σ vs σ' h ho
    have hrun : (results fn a.tmps).run P w = .ok (if h : cs.toArray.size = 1 then cs.toArray[0] else .tuple cs.toArray) w := by
      unfold results
      rw [Array.mapM_eq_mapM_toList, hrs]
      have hk := k5 (fun r => match r with | .tmp t => pure (a.tmps.getD t undef) | .cell x t => do loadVar t (← asAddr (a.tmps.getD x undef))) (fun t => rfl) (fun x t => rfl)
      simp only [Sem.run_bind, Sem.run_map]
      erw [hk]
      rfl
    have hTR : TR (fun b => ρ (own b)) β w (fun i j => .res i j) (asResult vs) (if h : cs.toArray.size = 1 then cs.toArray[0] else .tuple cs.toArray) := by
      match vs, cs, k3, k4 with
      | [v], [c], _, k4 =>
        simp only [asResult, List.size_toArray, List.length_cons, List.length_nil, Nat.zero_add, dite_true]
        exact (k4 0 v c rfl rfl).to_TR rfl
      | [], [], _, _ => exact ⟨#[], by simp, rfl, by simp⟩
      | v :: v' :: vs, c :: c' :: cs, k3, k4 =>
        refine ⟨(c :: c' :: cs).toArray, by simp, by simpa using k3, fun i v c hv hc => ?_⟩
        have := k4 i v c hv (by simpa using hc)
        simpa using this
    have k6 := k2.1
    -- what is behind is dropped
    have drop : ∀ (o1 : Own) (H1 : Heap), HR o1 β w H1 → TR o1 β w (fun i j => .res i j) (asResult vs) (if h : cs.toArray.size = 1 then cs.toArray[0] else .tuple cs.toArray) → Stay own w o1 w →
        HR (fun b => dropSlots (o1 b)) β w H1 ∧ TR (fun b => dropSlots (o1 b)) β w (fun i j => .res i j) (asResult vs) (if h : cs.toArray.size = 1 then cs.toArray[0] else .tuple cs.toArray) ∧
          Stay own w (fun b => dropSlots (o1 b)) w ∧ ∀ b i j k, (fun b => dropSlots (o1 b)) b ≠ .slot i j k := by
      intro o1 H1 g1 g2 g3
      refine ⟨⟨fun id cs hi => ?_, fun b id hb => ?_, fun b hb => g1.lt b fun hq => hb (by simp only [hq, dropSlots])⟩, ?_, ⟨fun b hb => ?_, fun b hlt hb => ?_, Nat.le_refl _, rfl, rfl, rfl⟩, fun b i j k hq => ?_⟩
      · exact (g1.blk id cs hi).mono (fun b hb => ⟨by simp only [hb, dropSlots], rfl⟩) (fun id hb => ⟨by simp only [hb, dropSlots], rfl⟩) (fun j b hb => ⟨by simp only [hb, dropSlots], rfl⟩) rfl
      · refine g1.inv b id ?_
        simp only [dropSlots] at hb
        split at hb
        · cases hb
        · exact hb
      · exact g2.mono (fun b hb => ⟨by simp only [hb, dropSlots], rfl⟩) (fun id hb => ⟨by simp only [hb, dropSlots], rfl⟩) (fun i j b hb => ⟨by simp only [hb, dropSlots], rfl⟩)
      · obtain ⟨q1, q2⟩ := g3.im b hb
        exact ⟨by simp only [q1, dropSlots], q2⟩
      · obtain ⟨q1, q2⟩ := g3.other b hlt hb
        exact ⟨by simp only [q1, dropSlots], q2⟩
      · simp only [dropSlots] at hq
        split at hq
        · cases hq
        · rename_i hne; exact hne i j k hq
    have hst := Stay.reloc (own := own) (w := w) hr
    by_cases hok : okBelowV n (asResult vs) = true
    · rw [if_pos hok] at e2; subst e2
      have t1 := TR.cut (own' := fun b => below n (ρ (own b))) (k := n) (fun b hb => by simp only [hb, below]) (fun id hi hb => by simp only [hb, below]; rw [if_pos hi]) (fun i j b hb => by simp only [hb, below]) hTR hok
      obtain ⟨d1, d2, d3, d4⟩ := drop _ _ (k1.heap.cut n) t1 (hst.trans (Stay.below _ _ _))
      refine ⟨_, _, hrun, d2, d1, d3, d4, by simp; omega, fun id hid hc => ?_⟩
      obtain ⟨cs0, hc⟩ := hc
      obtain ⟨_, cs', hc'⟩ := k2.2 id cs0 hc
      exact ⟨cs', by rw [bcells_take hid]; exact hc'⟩
    · rw [if_neg hok] at e2; subst e2
      obtain ⟨d1, d2, d3, d4⟩ := drop _ _ k1.heap hTR hst
      refine ⟨_, _, hrun, d2, d1, d3, d4, by omega, fun id hid hc => ?_⟩
      obtain ⟨cs0, hc⟩ := hc
      exact ⟨_, (k2.2 id cs0 hc).2.choose_spec⟩
  · cases hl

/-- The marks are come to. -/
theorem leaves_marks {fn : Func} {tmps : Array Value} {R : Ending → World → Prop} : ∀ (ms : List Nat) (own : Own) (w : World), SR own β w σ tmps → ms.Nodup → (∀ D ∈ ms, own D = .other ∧ w.heap[D]? = some (.deferred (some []))) →
    (∀ w', SR own β w' σ tmps → (∀ b, own b ≠ .other → w'.heap[b]? = w.heap[b]?) → (∀ b, b ∉ ms → w'.heap[b]? = w.heap[b]?) → w'.heap.size = w.heap.size → w'.os = w.os → w'.tape = w.tape → w'.output = w.output →
      ∃ v, (results fn tmps).run P w' = .ok v w' ∧ R (.returned v) w') →
    LeavesInM (Fw none) 0 P fn tmps R (ms.map fun D => { target := .collected D, args := #[] }) .returning w
  | [], own, w, h, _, _, hR => hR w h (fun _ _ => rfl) (fun _ _ => rfl) rfl rfl rfl rfl
  | D :: ms, own, w, h, hn, hD, hR => by
    obtain ⟨g1, g2⟩ := hD D (by simp)
    rw [List.nodup_cons] at hn
    have hput : ∀ b, b ≠ D → (w.putObj D (.deferred none)).heap[b]? = w.heap[b]? := fun b hb => World.putObj_heap_other hb
    refine ⟨by simp, .inl ⟨D, _, rfl, run_takeDeferred g2, ?_⟩⟩
    have hs : SR own β (w.putObj D (.deferred none)) σ tmps := h.world (by simp [World.putObj]) (fun b hb _ => hput b fun he => hb (he ▸ g1))
    refine leaves_marks ms own _ hs hn.2 (fun E hE => ?_) (fun w' k1 k2 k3 k4 k5 k6 k7 => hR w' k1 (fun b hb => ?_) (fun b hb => ?_) ?_ k5 k6 k7)
    · obtain ⟨e1, e2⟩ := hD E (by simp [hE])
      exact ⟨e1, by rw [hput E (fun he => hn.1 (he ▸ hE))]; exact e2⟩
    · rw [k2 b hb]; exact hput b fun he => hb (he ▸ g1)
    · simp only [List.mem_cons, not_or] at hb
      rw [k3 b hb.2]; exact hput b hb.1
    · rw [k4]; simp [World.putObj]

theorem ok_fun {T : Types} {F : Fns} {call : CallF} (n : Nat) (hS : Sound P call) (hT : TOk P T) (hF : FnsOk P F) : ∀ f vs H r H', vfun T F call (fun s => rounds s n) f vs H = some (r, H') → (∃ fn, P.funcs[f]? = some fn ∧ fn.name ≠ "runtime.NumGoroutine" ∧ fn.body.isSome = true) ∧
    ∀ (own : Own) (β : Nat → Nat) (w : World) (cs : List Value), HR own β w H → AR own β w vs cs → (∀ b i j k, own b ≠ .slot i j k) → Calls P f cs.toArray w (Ret own β w H r H') := by
  intro f vs H r H' hv
  unfold vfun at hv
  cases hf : F f <;> simp only [hf] at hv
  · cases hv
  rename_i fi
  obtain ⟨_, fn, q1, q2, q3, q4, q5, q6⟩ := hF f fi hf
  refine ⟨⟨fn, q1, q4, by rw [q2]; rfl⟩, fun own β w cs hh ha hns => ?_⟩
  have hc : ∃ ex σ1, vcode T call (fun s => rounds s n) fi.cx fi.body (enter vs H) = some (ex, σ1) ∧ (ex = .normal ∨ ex = .ret) ∧ leave T fi.results H.length σ1 = some (r, H') := by
    cases hc : vcode T call (fun s => rounds s n) fi.cx fi.body (enter vs H) with
    | none => simp [hc] at hv
    | some x =>
      obtain ⟨ex, σ1⟩ := x
      cases ex with
      | exit i => simp [hc] at hv
      | normal => exact ⟨_, _, rfl, .inl rfl, by simpa [hc] using hv⟩
      | ret => exact ⟨_, _, rfl, .inr rfl, by simpa [hc] using hv⟩
  obtain ⟨ex, σ1, hc1, hex, hl⟩ := hc
  refine callsIn_fw.1 (callsIn_of_wp_marks (F := Fw none) (n := 0) q1 q2 trivial ?_)
  have hsr : SR own β w (enter vs H) (cs.toArray ++ Array.replicate (fn.ntmps - cs.toArray.size) undef) := by
    refine ⟨fun t => ?_, hh⟩
    have hg : get (enter vs H).env t = (vs[t]?).getD .undef := by
      have := get_zip vs 0 t
      simpa [enter] using this
    rw [hg]
    cases hvt : vs[t]? with
    | none => exact ER.undef _ _ _ _ _ _ _
    | some v =>
      have hlt : t < cs.length := by rw [ha.1]; exact (List.getElem?_eq_some_iff.1 hvt).1
      obtain ⟨g1, g2⟩ := ha.2 t v cs[t] hvt (List.getElem?_eq_getElem hlt)
      have he : (cs.toArray ++ Array.replicate (fn.ntmps - cs.toArray.size) undef).getD t undef = cs[t] := by
        rw [Array.getD_eq_getD_getElem?, Array.getElem?_append_left (by simpa using hlt)]
        simp [hlt]
      rw [he]
      exact ER.of_TR (TR_of_VR g1 g2) g1.notWay.1
  refine ok_code n hS q6 hT none (fun _ => rfl) fi.body own β w (enter vs H) { tmps := cs.toArray ++ Array.replicate (fn.ntmps - cs.toArray.size) undef, defers := [] } _ ex σ1 hsr (codeB_mono (by simp; omega) _ q5) hc1 (fun o1 β1 w1 a1 hn => ?_)
  have hlen : H.length ≤ σ1.heap.length := hn.bx.1
  obtain ⟨ms, m1, m2, m3⟩ := hn.marks
  simp only [List.append_nil] at m1
  have hfin : LeavesInM (Fw none) 0 P fn a1.tmps (Ret own β w H r H') a1.defers .returning w1 := by
    rw [m1]
    refine leaves_marks ms o1 w1 hn.sr m2 (fun D hD => (m3 D hD).2) (fun w2 k1 k2 k3 k4 k5 k6 k7 => ?_)
    obtain ⟨c, o2, r1, r2, r3, r4, r5, r6, r7⟩ := ok_leave (P := P) hT q3 k1 hlen hl
    have st2 : Stay own w o1 w2 := by
      refine ⟨fun b hb => ?_, fun b hlt hb => ?_, by rw [k4]; exact hn.stay.size, k5.trans hn.stay.os, k6.trans hn.stay.tape, k7.trans hn.stay.output⟩
      · obtain ⟨e1, e2⟩ := hn.stay.im b hb
        exact ⟨e1, by rw [k2 b (by rw [e1]; simp)]; exact e2⟩
      · obtain ⟨e1, e2⟩ := hn.stay.other b hlt hb
        refine ⟨e1, ?_⟩
        rw [k3 b (fun hm => by have := (m3 b hm).1; omega)]; exact e2
    refine ⟨c, r1, c, o2, β1, rfl, r2, r3, st2.trans r4, ⟨r6, fun id cs hi => ?_⟩, r5⟩
    obtain ⟨e, hc⟩ := hn.bx.2 id cs hi
    exact ⟨e, r7 id (bcells_lt hi) hc⟩
  rcases hex with rfl | rfl <;> exact hfin

/-! ### Rounds -/
theorem codeB_cx {m : Nat} {cx cx' : Cx} (h : cx.free = cx'.free) : ∀ (c : Code), codeB m cx c = codeB m cx' c
  | .skip => rfl
  | .region id ops draw => by simp only [codeB, h]
  | .seq x y => by simp only [codeB, codeB_cx h x, codeB_cx h y]
  | .cond c x y => by simp only [codeB, codeB_cx h x, codeB_cx h y]
  | .block id x => by simp only [codeB, codeB_cx h x]
  | .loop x => by simp only [codeB, codeB_cx h x]
  | .rangeFunc g ps asg body => by simp only [codeB, codeB_cx h asg, codeB_cx h body]
  | .exit _ => rfl
  | .scope x => by simp only [codeB, codeB_cx h x]
  | .label _ => rfl
  | .goto _ => rfl
  | .ret => rfl
  | .refuse _ => rfl

theorem HR.finish {H : Heap} (h : HR own β w H) (n : Nat) : ∃ o', HR o' β w (H.take n) ∧ Stay own w o' w ∧ ∀ b i j k, o' b ≠ .slot i j k := by
  have g1 := h.cut n
  refine ⟨fun b => dropSlots (below n (own b)), ⟨fun id cs hi => ?_, fun b id hb => ?_, fun b hb => g1.lt b fun hq => hb (by simp only [hq, dropSlots])⟩, ⟨fun b hb => ⟨by simp only [hb, below, dropSlots], rfl⟩, fun b hlt hb => ⟨by simp only [hb, below, dropSlots], rfl⟩, Nat.le_refl _, rfl, rfl, rfl⟩, fun b i j k hq => ?_⟩
  · exact (g1.blk id cs hi).mono (fun b hb => ⟨by simp only [hb, dropSlots], rfl⟩) (fun id hb => ⟨by simp only [hb, dropSlots], rfl⟩) (fun j b hb => ⟨by simp only [hb, dropSlots], rfl⟩) rfl
  · refine g1.inv b id ?_
    simp only [dropSlots] at hb
    split at hb
    · cases hb
    · exact hb
  · simp only [dropSlots] at hq
    split at hq
    · cases hq
    · rename_i hne; exact hne i j k hq

def Lie (own : Own) (β : Nat → Nat) (w : World) (env : Env) (tmps : Array Value) : Prop := ∀ t, VR own β w (fun _ => .im) (get env t) (tmps.getD t undef) ∧ noEx (get env t) = true
theorem lie_args : ∀ (ps : List Nat) (vs : List V) (cs : List Value) (env : Env) (tmps : Array Value), ps.length = vs.length → AR own β w vs cs → (∀ p ∈ ps, p < tmps.size) → Lie own β w env tmps →
    Lie own β w ((ps.zip vs).reverse ++ env) ((ps.zip cs).foldl (fun tmps (t, a) => tmps.setIfInBounds t a) tmps) ∧ ((ps.zip cs).foldl (fun tmps (t, a) => tmps.setIfInBounds t a) tmps).size = tmps.size
  | [], vs, cs, env, tmps, hl, ha, hp, h => by
    obtain rfl := List.eq_nil_of_length_eq_zero hl.symm
    exact ⟨by simpa using h, by simp⟩
  | p :: ps, [], cs, env, tmps, hl, _, _, _ => by simp at hl
  | p :: ps, v :: vs, [], env, tmps, hl, ha, _, _ => by have := ha.1; simp at this
  | p :: ps, v :: vs, c :: cs, env, tmps, hl, ha, hp, h => by
    obtain ⟨g1, g2⟩ := ha.2 0 v c rfl rfl
    have h1 : Lie own β w ((p, v) :: env) (tmps.setIfInBounds p c) := fun t => by
      simp only [get]
      by_cases ht : p = t
      · subst ht
        rw [if_pos rfl]
        have hlt : p < tmps.size := hp p (by simp)
        have : (tmps.setIfInBounds p c).getD p undef = c := by simp [Array.getD, hlt]
        rw [this]
        exact ⟨VR.place g1 g2, g2⟩
      · rw [if_neg ht]
        have : (tmps.setIfInBounds p c).getD t undef = tmps.getD t undef := by
          rw [Array.getD_eq_getD_getElem?, Array.getD_eq_getD_getElem?, Array.getElem?_setIfInBounds_ne ht]
        rw [this]; exact h t
    obtain ⟨k1, k2⟩ := lie_args ps vs cs _ _ (by simpa using hl) ⟨by simpa using ha.1, fun j v c hv hc => ha.2 (j + 1) v c (by simpa using hv) (by simpa using hc)⟩ (fun q hq => by simpa using hp q (by simp [hq])) h1
    refine ⟨?_, by simpa using k2⟩
    simp only [List.zip_cons_cons, List.reverse_cons, List.foldl_cons, List.append_assoc, List.singleton_append]
    exact k1
theorem Lie.sr {env : Env} {tmps : Array Value} {H : Heap} (h : Lie own β w env tmps) (hh : HR own β w H) : SR own β w { env := env, heap := H } tmps :=
  ⟨fun t => ER.of_TR (TR_of_VR (h t).1 (h t).2) (h t).1.notWay.1, hh⟩

theorem ok_round {T : Types} {F : Fns} {call : CallF} (n : Nat) (hS : Sound P call) (hT : TOk P T) (hF : FnsOk P F) (id : Nat) (args : List V) (H : Heap) (r : V) (H' : Heap) (hv : vround T F call (fun s => rounds s n) id args H = some (r, H'))
    (own : Own) (β : Nat → Nat) (w : World) (cs : List Value) (hh : HR own β w H) (ha : AR own β w args cs) (_hns : ∀ b i j k, own b ≠ .slot i j k) :
    ∃ rec : Loop, w.heap[β id]? = some (.loop rec) ∧ cs.length = rec.params.size ∧
      RoundIn (Fw none) 0 P (β id) rec.fn ((rec.params.zip cs.toArray).foldl (fun tmps (t, a) => tmps.setIfInBounds t a) rec.tmps) rec.assign rec.body w (Ret own β w H r H') := by
  unfold vround at hv
  split at hv
  case h_2 => cases hv
  rename_i ts vs ps asg body cx hb
  split at hv
  case h_2 => cases hv
  rename_i fi hfi
  split at hv
  case isFalse => cases hv
  rename_i hc
  obtain ⟨c1, c2⟩ := hc
  split at hv
  case h_2 => cases hv
  rename_i σ1 hasg
  split at hv
  case h_2 => cases hv
  rename_i ts1 vs1 ps1 asg1 body1 cx1 hb1
  split at hv
  case h_2 => cases hv
  rename_i ex σ3 hbody
  split at hv
  case h_2 => cases hv
  rename_i ts3 vs3 ps3 asg3 body3 cx3 hb3
  obtain ⟨_, _, _, _, _, _, _, q6⟩ := hF _ _ hfi
  have hC : CxOk P { cx with rnd := true } := by
    unfold CxOk at q6 ⊢
    simp only; rw [c2]; exact q6
  have hidl := bcells_lt hb
  obtain ⟨p1, ob, p2, rec, rfl, p3, p4, p5, p6, p7, p8, p9, p10⟩ := (hh.blk _ _ hb).spec rfl
  refine ⟨rec, p2, ?_, ?_⟩
  · rw [ha.1, ← c1, ← p3]; simp
  have hlie : Lie own β w (ts.zip vs) rec.tmps := fun t => ⟨(p10 t).1, (p10 t).2.1⟩
  obtain ⟨l1, l2⟩ := lie_args ps args cs _ _ c1 ha p9 hlie
  have hfold : (rec.params.zip cs.toArray).foldl (fun tmps (t, a) => tmps.setIfInBounds t a) rec.tmps = (ps.zip cs).foldl (fun tmps (t, a) => tmps.setIfInBounds t a) rec.tmps := by
    rw [← Array.foldl_toList, Array.toList_zip, p3]
  rw [hfold]
  generalize (ps.zip cs).foldl (fun tmps (t, a) => tmps.setIfInBounds t a) rec.tmps = tmps0 at l1 l2
  have s0 := l1.sr hh
  refine roundIn_of_wpIn trivial ?_
  rw [p4, p5]
  refine ok_code n hS hC hT (some (β id)) (fun h => by cases h) asg own β w _ { tmps := tmps0, defers := [] } _ .normal σ1 s0 ((codeB_cx (cx := { cx with rnd := true }) (cx' := cx) rfl asg).trans (by simp only [l2]; exact p7)) hasg (fun o1 β1 w1 a1 hn => ?_)
  simp only [exitOf, Exit.then]
  have hβ1 : β1 id = β id := (hn.bx.2 id _ hb).1
  obtain ⟨u1, ob1, u2, rec1, rfl, u3, u4, u5, u6, u7, u8, u9, u10⟩ := (hn.sr.heap.blk _ _ hb1).spec rfl
  have u2' := u2
  rw [hβ1] at u2'
  refine ⟨_, run_beginRound u2' u6.1, ?_⟩
  have hlt1 := (Array.getElem?_eq_some_iff.1 u2').1
  have hput1 : Nxt o1 β1 w1 σ1 a1 o1 β1 (w1.putObj (β id) (.loop { rec1 with state := .busy })) (setMem σ1 (.set id 0 [.lp ts1 vs1 ps1 asg1 body1 cx1 .busy])) a1 := by
    refine hn.sr.putSpec (ob := .loop { rec1 with state := .busy }) hb1 rfl (fun b hb => World.putObj_heap_other (by rw [← hβ1]; exact hb)) (by simp [World.putObj]) rfl rfl rfl (by rw [hβ1]; exact World.putObj_heap_same hlt1) ⟨{ rec1 with state := .busy }, rfl, u3, u4, u5, rfl, u7, u8, u9, u10⟩
  refine ok_code n hS hC hT (some (β id)) (fun h => by cases h) body o1 β1 _ _ a1 _ ex σ3 hput1.sr ((codeB_cx (cx := { cx with rnd := true }) (cx' := cx) rfl body).trans (by rw [hn.size]; simp only [l2]; exact p8)) hbody (fun o3 β3 w3 a3 hn3 => ?_)
  have hnn := (hn.trans hput1.toM).trans hn3
  have hβ3 : β3 id = β id := (hnn.bx.2 id _ hb).1
  obtain ⟨v1, ob3, v2, rec3, rfl, v3, v4, v5, v6, v7, v8, v9, v10⟩ := (hn3.sr.heap.blk _ _ hb3).spec rfl
  have v2' := v2
  rw [hβ3] at v2'
  have hlt3 := (Array.getElem?_eq_some_iff.1 v2').1
  have fin : ∀ (jump : Option Code) (st : LSt), stOk st { rec3 with state := if jump.isNone then .ready else .done, pending := jump } → r = .bool jump.isNone → H' = (setMem σ3 (.set id 0 [.lp ts3 vs3 ps3 asg3 body3 cx3 st])).heap.take H.length →
      ∃ v w', (Instr.endRound (β id) jump).run P w3 = .ok v w' ∧ Ret own β w H r H' (.returned v) w' := by
    intro jump st hst hr hH
    refine ⟨_, _, run_endRound jump v2', ?_⟩
    have hput : Nxt o3 β3 w3 σ3 a3 o3 β3 (w3.putObj (β id) (.loop { rec3 with state := if jump.isNone then .ready else .done, pending := jump })) (setMem σ3 (.set id 0 [.lp ts3 vs3 ps3 asg3 body3 cx3 st])) a3 :=
      hn3.sr.putSpec (ob := .loop { rec3 with state := if jump.isNone then .ready else .done, pending := jump }) hb3 rfl (fun b hb => World.putObj_heap_other (by rw [← hβ3]; exact hb)) (by simp [World.putObj]) rfl rfl rfl (by rw [hβ3]; exact World.putObj_heap_same hlt3) ⟨{ rec3 with state := if jump.isNone then .ready else .done, pending := jump }, rfl, v3, v4, v5, hst, v7, v8, v9, v10⟩
    have hall := hnn.trans hput.toM
    obtain ⟨o4, f1, f2, f3⟩ := hall.sr.heap.finish H.length
    subst hr; subst hH
    refine ⟨_, o4, β3, rfl, FR.bool _, f1, hall.stay.trans f2, ⟨?_, fun i ds hi => ?_⟩, f3⟩
    · have := hall.bx.1; simp only [List.length_take]; simp only at this; omega
    · obtain ⟨e1, ds', hds⟩ := hall.bx.2 i ds hi
      exact ⟨e1, ds', by rw [bcells_take (bcells_lt hi)]; exact hds⟩
  cases ex with
  | normal =>
    simp only at hv
    injection hv with hv; injection hv with e1 e2
    exact fin none .ready ⟨rfl, rfl⟩ e1.symm e2.symm
  | exit i =>
    simp only at hv
    injection hv with hv; injection hv with e1 e2
    exact fin (some (.exit i)) (.done (.exit i)) ⟨rfl, rfl⟩ e1.symm e2.symm
  | ret =>
    simp only at hv
    injection hv with hv; injection hv with e1 e2
    exact fin (some .ret) (.done .ret) ⟨rfl, rfl⟩ e1.symm e2.symm

/-- **V is right**: to whatever depth and to however many rounds. -/
theorem sound {T : Types} {F : Fns} (hT : TOk P T) (hF : FnsOk P F) : ∀ n, Sound P (vcall T F n)
  | 0 => ⟨fun f vs H r H' _ h => by simp [vcall] at h, fun f vs H r H' h => by simp [vcall] at h⟩
  | n + 1 => by
    refine ⟨fun f vs H r H' hlt h => ?_, fun id vs H r H' h => ?_⟩
    · simp only [vcall, vany] at h
      split at h
      · exact ok_fun n (sound hT hF n) hT hF _ _ _ _ _ h
      · rw [if_neg] at h
        · cases h
        · rw [Nat.ble_eq]; exact Nat.not_le.2 hlt
    · simp only [vcall, vany] at h
      have hn : F (yB + id) = none := by
        cases hq : F (yB + id) with
        | none => rfl
        | some fi => exact absurd (hF _ _ hq).1 (Nat.not_lt.2 (Nat.le_add_right _ _))
      rw [hn] at h
      simp only at h
      rw [if_pos (by rw [Nat.ble_eq]; exact Nat.le_add_right _ _), Nat.add_sub_cancel_left] at h
      exact ok_round n (sound hT hF n) hT hF _ _ _ _ _ h

end
end Go.Vm
end

section
/- V23: the tables' checks; arguments as they are read. -/
namespace Go.Vm
open Go

theorem TOk.of_all {P : Program} {T : Types} (N : Nat) (h : ((List.range N).all fun t => match T t with | some i => rowB P t i | none => true) = true) (h2 : ∀ t, N ≤ t → T t = none) (hm : P.follows .mixedOrders = true) : TOk P T := by
  refine ⟨fun t i ht => ?_, hm⟩
  rcases Nat.lt_or_ge t N with hlt | hge
  · have := List.all_eq_true.1 h t (List.mem_range.2 hlt)
    simpa [ht] using this
  · rw [h2 t hge] at ht; cases ht

def FnOk (P : Program) (f : FuncId) (fi : FI) : Prop := ∃ fn, P.funcs[f]? = some fn ∧ fn.body = some fi.body ∧ fn.results.toList = fi.results ∧ (fn.name == "runtime.NumGoroutine") = false ∧ codeB fn.ntmps fi.cx fi.body = true ∧ CxOk P fi.cx
theorem CxOk.nil {P : Program} {cx : Cx} (h : cx.told = []) : CxOk P cx := fun x hx => by rw [h] at hx; cases hx
def FnOks (P : Program) : Nat → List (Option FI) → Prop
  | _, [] => True
  | k, x :: xs => (∀ fi, x = some fi → FnOk P k fi) ∧ FnOks P (k + 1) xs
def fnsOf (l : List (Option FI)) : Fns := fun f => match l[f]? with
  | some x => x
  | none => none
theorem FnOks.get {P : Program} : ∀ {l : List (Option FI)} {k : Nat}, FnOks P k l → ∀ f fi, l[f]? = some (some fi) → FnOk P (k + f) fi
  | [], _, _, f, fi, h => by simp at h
  | x :: xs, k, hl, f, fi, h => by
    cases f with
    | zero => simp at h; exact hl.1 fi h
    | succ f =>
      have := FnOks.get hl.2 f fi (by simpa using h)
      rw [show k + (f + 1) = k + 1 + f by omega]; exact this
theorem FnsOk.of_list {P : Program} {l : List (Option FI)} (h : FnOks P 0 l) (hlen : Nat.ble l.length yB = true) : FnsOk P (fnsOf l) := by
  intro f fi hf
  unfold fnsOf at hf
  cases hl : l[f]? with
  | none => simp [hl] at hf
  | some x =>
    simp only [hl] at hf; subst hf
    obtain ⟨fn, h1, h2, h3, h4, h5, h6⟩ := FnOks.get h f fi hl
    rw [Nat.zero_add] at h1
    rw [Nat.ble_eq] at hlen
    exact ⟨Nat.lt_of_lt_of_le (List.getElem?_eq_some_iff.1 hl).1 hlen, fn, h1, h2, h3, by simpa using h4, h5, h6⟩

end Go.Vm
end

section
/- V24: arguments as they are read are V's. -/
namespace Go.Vm
open Go

/-- Cells that a value of a type may have (data alone: no pointer, no interface, no map). -/
def HasC (T : Types) : Nat → TypeId → List V → Prop
  | 0, _, _ => False
  | m + 1, t, vs => match T t with
    | none => False
    | some i => match i.kind with
      | .bool => ∃ b, vs = [.bool b]
      | .int k => ∃ n, vs = [.int k n] ∧ (Lit.int k n).wf = true
      | .str => ∃ s : ByteArray, vs = [.str s] ∧ s.size ≤ maxLen
      | .slice e => ∃ b xs, vs = [.sl b xs] ∧ (b = true → xs = []) ∧ xs.length ≤ maxLen ∧ ∀ x ∈ xs, ∃ ei, T e = some ei ∧ asType ei x.cells = some x ∧ HasC T m e x.cells
      | .array n e => vs.length = i.size ∧ ∀ j, j < n → ∃ ei, T e = some ei ∧ HasC T m e ((vs.drop (j * ei.size)).take ei.size)
      | .struct fs => vs.length = i.size ∧ ∀ f ∈ fs, ∃ fi, T f.2 = some fi ∧ HasC T m f.2 ((vs.drop f.1).take fi.size)
      | _ => False

def HasV (T : Types) (m : Nat) (t : TypeId) (v : V) : Prop := ∃ i, T t = some i ∧ asType i v.cells = some v ∧ HasC T m t v.cells

/-- Fields that lie one behind the other and fill the struct. -/
def packed (T : Types) : Nat → List (Nat × Nat) → Option Nat
  | o, [] => some o
  | o, f :: fs => match T f.2 with
    | some i => if f.1 = o ∧ 0 < i.size then packed T (o + i.size) fs else none
    | none => none

/-- Types of data, and nothing else. -/
def pureT (T : Types) : Nat → TypeId → Bool
  | 0, _ => false
  | m + 1, t => match T t with
    | none => false
    | some i => match i.kind with
      | .bool => true
      | .int _ => true
      | .str => true
      | .slice e => (match T e with | some ei => decide (0 < ei.size) | none => false) && pureT T m e
      | .array n e => (match T e with | some ei => decide (0 < ei.size ∧ n * ei.size = i.size) | none => false) && pureT T m e
      | .struct fs => decide (packed T 0 fs = some i.size) && fs.all (fun f => pureT T m f.2)
      | _ => false

section
variable {P : Program} {T : Types} {own : Own} {w : World} {H : Type} {enc : TypeId × Value → H} {base : Nat} {spare : Nat → Bool} {held : Bool}

/-- Cells put together from parts. -/
def Parts (own : Own) (w : World) (cs : List Value) (vs : List V) : Prop := vs.length = cs.length ∧ ∀ (j : Nat) (v : V) (c : Value), vs[j]? = some v → cs[j]? = some c → FR own w v c

theorem Parts.append {cs cs' : List Value} {vs vs' : List V} (h : Parts own w cs vs) (h' : Parts own w cs' vs') : Parts own w (cs ++ cs') (vs ++ vs') := by
  refine ⟨by simp [h.1, h'.1], fun j v c hv hc => ?_⟩
  rw [List.getElem?_append] at hv hc
  rw [h.1] at hv
  split at hv
  · rename_i hlt; rw [if_pos hlt] at hc; exact h.2 _ _ _ hv hc
  · rename_i hlt; rw [if_neg hlt] at hc; exact h'.2 _ _ _ hv hc

theorem read_fields {m : Nat} (cs : List Value) (ih : ∀ (t : TypeId) (cs : List Value), (∃ k x, DataW.trod enc P w base spare held k t cs = some x) → pureT T m t = true → ∃ vs, Parts own w cs vs ∧ HasC T m t vs) (hT : TOk P T) :
    ∀ (fs : List (Nat × Nat)) (fds : List Field) (o : Nat) (n : Nat), fieldsB fds fs = true → packed T o fs = some n → n ≤ cs.length → fs.all (fun f => pureT T m f.2) = true →
      (∀ fd ∈ fds, ∃ k x, DataW.trod enc P w base spare held k fd.type ((cs.drop fd.offset).take (P.cellsOf fd.type)) = some x) →
      ∃ vs, Parts own w ((cs.drop o).take (n - o)) vs ∧ o ≤ n ∧ ∀ f ∈ fs, ∃ fi, T f.2 = some fi ∧ o ≤ f.1 ∧ f.1 + fi.size ≤ n ∧ HasC T m f.2 ((vs.drop (f.1 - o)).take fi.size)
  | [], fds, o, n, _, hp, hn, _, _ => by
    simp only [packed] at hp; injection hp with hp; subst hp
    exact ⟨[], ⟨by simp, by simp⟩, Nat.le_refl _, by simp⟩
  | f :: fs, [], o, n, hb, _, _, _, _ => by simp [fieldsB] at hb
  | (fo, ft) :: fs, fd :: fds, o, n, hb, hp, hn, hpure, hread => by
    simp only [fieldsB, Bool.and_eq_true, beq_iff_eq] at hb
    obtain ⟨⟨hb1, hb2⟩, hb3⟩ := hb
    simp only [packed] at hp
    cases hft : T ft with
    | none => simp [hft] at hp
    | some fi =>
      simp only [hft] at hp
      split at hp
      · rename_i hc
        obtain ⟨h1, h2⟩ := hc
        subst h1
        simp only [List.all_cons, Bool.and_eq_true] at hpure
        obtain ⟨vs', p1, p2, p3⟩ := read_fields cs ih hT fs fds (fo + fi.size) n hb3 hp hn hpure.2 (fun fd hfd => hread fd (by simp [hfd]))
        obtain ⟨r⟩ := Row.of hT hft
        have hsz : P.cellsOf fd.type = fi.size := by rw [hb2]; simp [Program.cellsOf, r.hinfo, r.hsize]
        have hrd := hread fd (by simp)
        rw [hsz, hb1, hb2] at hrd
        obtain ⟨vs1, q1, q2⟩ := ih ft _ hrd hpure.1
        have hlen : vs1.length = fi.size := by rw [q1.1]; simp; omega
        refine ⟨vs1 ++ vs', ?_, by omega, ?_⟩
        · have : (cs.drop fo).take (n - fo) = (cs.drop fo).take fi.size ++ (cs.drop (fo + fi.size)).take (n - (fo + fi.size)) := by
            rw [show n - fo = fi.size + (n - (fo + fi.size)) by omega, List.take_add, List.drop_drop]
          rw [this]
          exact q1.append p1
        · intro g hg
          rcases List.mem_cons.1 hg with rfl | hg
          · refine ⟨fi, hft, Nat.le_refl _, p2, ?_⟩
            simp only [Nat.sub_self, List.drop_zero]
            rw [List.take_append_of_le_length (by omega), List.take_of_length_le (by omega)]
            exact q2
          · obtain ⟨gi, g1, g2, g3, g4⟩ := p3 g hg
            refine ⟨gi, g1, by omega, g3, ?_⟩
            rw [List.drop_append, List.drop_eq_nil_of_le (by omega), List.nil_append, hlen, show g.1 - fo - fi.size = g.1 - (fo + fi.size) by omega]
            exact g4
      · cases hp

theorem read_elems {m : Nat} (cs : List Value) {e : TypeId} {sz : Nat}
    (ih : ∀ (cs : List Value), (∃ k x, DataW.trod enc P w base spare held k e cs = some x) → ∃ vs, Parts own w cs vs ∧ HasC T m e vs) :
    ∀ (n : Nat), n * sz ≤ cs.length → (∀ i, i < n → ∃ k x, DataW.trod enc P w base spare held k e ((cs.drop (i * sz)).take sz) = some x) →
      ∃ vs, Parts own w (cs.take (n * sz)) vs ∧ ∀ j, j < n → HasC T m e ((vs.drop (j * sz)).take sz)
  | 0, _, _ => ⟨[], ⟨by simp, by simp⟩, by simp⟩
  | n + 1, hn, hread => by
    rw [Nat.succ_mul] at hn
    obtain ⟨vs, p1, p2⟩ := read_elems cs ih n (by omega) (fun i hi => hread i (by omega))
    obtain ⟨vs1, q1, q2⟩ := ih _ (hread n (by omega))
    have hlen : vs.length = n * sz := by rw [p1.1]; simp; omega
    have hlen1 : vs1.length = sz := by rw [q1.1]; simp; omega
    refine ⟨vs ++ vs1, ?_, fun j hj => ?_⟩
    · rw [Nat.succ_mul, List.take_add]
      exact p1.append q1
    · by_cases hjn : j = n
      · subst hjn
        rw [List.drop_append, List.drop_eq_nil_of_le (by omega), List.nil_append, hlen, Nat.sub_self, List.drop_zero, List.take_of_length_le (by omega)]
        exact q2
      · have hle : (j + 1) * sz ≤ n * sz := Nat.mul_le_mul_right _ (by omega)
        rw [Nat.succ_mul] at hle
        rw [List.drop_append_of_le_length (by omega), List.take_append_of_le_length (by simp; omega)]
        exact p2 j (by omega)

theorem list_of {p : Nat → V → Prop} : ∀ (n : Nat), (∀ i, i < n → ∃ x, p i x) → ∃ xs : List V, xs.length = n ∧ ∀ (i : Nat) (x : V), xs[i]? = some x → p i x
  | 0, _ => ⟨[], rfl, by simp⟩
  | n + 1, h => by
    obtain ⟨xs, h1, h2⟩ := list_of n (fun i hi => h i (by omega))
    obtain ⟨x, hx⟩ := h n (by omega)
    refine ⟨xs ++ [x], by simp [h1], fun i y hy => ?_⟩
    rw [List.getElem?_append] at hy
    split at hy
    · exact h2 i y hy
    · have hi : i = n := by
        have := (List.getElem?_eq_some_iff.1 hy).1
        simp at this; omega
      subst hi
      rw [h1] at hy; simp at hy; subst hy; exact hx

theorem mapM_each {α β : Type} {f : α → Option β} : ∀ {l : List α} {r : List β}, l.mapM f = some r → ∀ x ∈ l, ∃ y, f x = some y := by
  intro l r h x hx
  obtain ⟨i, hi⟩ := List.getElem?_of_mem hx
  have h1 := mapM_some_get h i x hi
  have h2 := mapM_some_length h
  have h3 := (List.getElem?_eq_some_iff.1 hi).1
  exact ⟨r[i]'(by omega), by rw [h1, List.getElem?_eq_getElem]⟩

theorem Row.cellsOf {t : Nat} {i : TI} (r : Row P t i) : P.cellsOf t = i.size := by simp [Program.cellsOf, r.hinfo, r.hsize]

theorem one_cell {m : Nat} {t : TypeId} {i : TI} {y : V} (hi : T t = some i) (hk : i.kind.isAgg = false) (h : HasC T m t [y]) : y.cells = [y] := by
  cases m with
  | zero => exact h.elim
  | succ m =>
    simp only [HasC, hi] at h
    cases hkk : i.kind <;> simp only [hkk] at h <;> first
      | (obtain ⟨_, h⟩ := h; simp at h; first | (subst h; rfl) | (obtain ⟨rfl, _⟩ := h; rfl))
      | (obtain ⟨_, _, h, _⟩ := h; simp at h; subst h; rfl)
      | exact h.elim
      | (rw [hkk] at hk; simp [TK.isAgg] at hk)

theorem asType_of {m : Nat} {t : TypeId} {i : TI} {cs : List V} (r : Row P t i) (hi : T t = some i) (hl : cs.length = i.size) (h : HasC T m t cs) : ∃ x, asType i x.cells = some x ∧ x.cells = cs := by
  unfold asType
  cases hk : i.kind.isAgg
  · have := r.one hk
    match cs, hl, h with
    | [y], _, h =>
      have hc := one_cell hi hk h
      exact ⟨y, by rw [hc]; simp [this], hc⟩
    | [], hl, _ => simp at hl; omega
    | _ :: _ :: _, hl, _ => simp at hl; omega
  · exact ⟨.agg cs, by simp [V.cells, hl], rfl⟩

theorem Parts.one {v : V} {c : Value} (h : FR own w v c) : Parts own w [c] [v] :=
  ⟨rfl, fun j v' c' hv hc => by
    cases j with
    | zero => simp at hv hc; subst hv; subst hc; exact h
    | succ j => simp at hv⟩

theorem Addr.spot_none {a : Addr} {v : Value} (h : w.cell? a = some v) : a = ⟨a.block, a.off, none⟩ := by
  unfold World.cell? at h
  split at h
  · split at h
    · cases h
    · rename_i hs
      obtain ⟨b, o, s⟩ := a
      cases s with
      | none => rfl
      | some s => simp at hs
  · cases h

theorem read_ok (hT : TOk P T) (hown : ∀ b, b < w.heap.size → own b = .im) : ∀ (m : Nat) (t : TypeId) (cs : List Value), (∃ k x, DataW.trod enc P w base spare held k t cs = some x) → pureT T m t = true → ∃ vs, Parts own w cs vs ∧ HasC T m t vs
  | 0, _, _, _, hp => by simp [pureT] at hp
  | m + 1, t, cs, hr, hp => by
    obtain ⟨k, x, h⟩ := hr
    have ih := fun t cs hr hp => read_ok hT hown m t cs hr hp
    simp only [pureT] at hp
    cases hi : T t with
    | none => simp [hi] at hp
    | some i =>
      obtain ⟨r⟩ := Row.of hT hi
      simp only [hi] at hp
      simp only [HasC, hi]
      have hkk := r.hkind
      have hu := r.hd
      cases hk : i.kind <;> simp only [hk] at hp hkk ⊢ <;> try (cases hp; done)
      case bool =>
        have hd : r.d = .bool := by cases hd : r.d <;> simp [hd, kindB] at hkk ⊢
        rw [hd] at hu
        obtain ⟨b, rfl, _⟩ := DataW.trod_bool hu h
        exact ⟨[.bool b], .one (.bool b), b, rfl⟩
      case int kd =>
        have hd : r.d = .int kd := by cases hd : r.d <;> simp [hd, kindB] at hkk ⊢; rw [hkk]
        rw [hd] at hu
        obtain ⟨n, rfl, _, hwf⟩ := DataW.trod_int hu h
        exact ⟨[.int kd n], .one (.int kd n), n, rfl, hwf⟩
      case str =>
        have hd : r.d = .string := by cases hd : r.d <;> simp [hd, kindB] at hkk ⊢
        rw [hd] at hu
        obtain ⟨s, rfl, _, hs⟩ := DataW.trod_string hu h
        exact ⟨[.str s], .one (.str s), s, rfl, hs⟩
      case slice e =>
        have hus := kind_slice r hk
        simp only [Bool.and_eq_true] at hp
        cases he : T e with
        | none => simp [he] at hp
        | some ei =>
          obtain ⟨re⟩ := Row.of hT he
          simp only [he, decide_eq_true_eq] at hp
          obtain ⟨hpos, hpe⟩ := hp
          rcases DataW.trod_slice hus h with ⟨rfl, _⟩ | ⟨a, len, cap, elems, rest, n, rfl, rfl, _, hb, hlc, hcm, hel, hread, _, _⟩
          · exact ⟨[.sl true []], .one .nil, true, [], rfl, fun _ => rfl, by simp, by simp⟩
          · rw [re.cellsOf] at hread
            rcases Nat.eq_zero_or_pos len with rfl | hlen
            · exact ⟨[.sl false []], .one (.none a cap), false, [], rfl, by simp, by simp, by simp⟩
            · have each : ∀ i, i < len → ∃ cs, (w.cells? base (a.add (i * ei.size)) ei.size) = some cs ∧ ∃ x, DataW.trod enc P w base spare held n e cs = some x := by
                intro i hi
                have := hread i hi
                rw [List.getElem?_eq_getElem (by omega), Option.bind_eq_some_iff] at this
                obtain ⟨cs, h1, h2⟩ := this
                exact ⟨cs, h1, _, h2⟩
              obtain ⟨cs0, h0, _⟩ := each 0 hlen
              obtain ⟨_, h01, h02⟩ := World.cells?_some h0
              have hcell : w.cell? a = some (cs0[0]'(by omega)) := by
                have := h02 0 hpos
                rw [List.getElem?_eq_getElem (by omega)] at this
                simpa [Addr.add] using this
              have ha := Addr.spot_none hcell
              have hblk : a.block < w.heap.size := World.block_lt_of_cell? w a hcell
              have addr : ∀ i j, ((a.add (i * ei.size)).add j) = ⟨a.block, a.off + i * ei.size + j, none⟩ := by
                intro i j
                rw [ha, Addr.add_mid, Addr.add_mid]
              obtain ⟨xs, x1, x2⟩ := list_of (p := fun i x => asType ei x.cells = some x ∧ HasC T m e x.cells ∧ x.cells.length = ei.size ∧ ∃ cs, (∀ j, j < ei.size → w.cell? ⟨a.block, a.off + i * ei.size + j, none⟩ = cs[j]?) ∧ Parts own w cs x.cells) len (by
                intro i hi
                obtain ⟨cs, e1, x, e2⟩ := each i hi
                obtain ⟨_, e3, e4⟩ := World.cells?_some e1
                obtain ⟨vs, q1, q2⟩ := ih e cs ⟨n, x, e2⟩ hpe
                obtain ⟨y, y1, y2⟩ := asType_of re he (by rw [q1.1, e3]) q2
                exact ⟨y, y1, by rw [y2]; exact q2, by rw [y2, q1.1, e3], cs, fun j hj => by rw [← addr]; exact e4 j hj, by rw [y2]; exact q1⟩)
              refine ⟨[.sl false xs], .one ?_, false, xs, rfl, by simp, by omega, fun x hx => ?_⟩
              · have hf := FR.sl (own := own) (w := w) a.block a.off cap ei.size xs (fun i j => (w.cell? ⟨a.block, a.off + i * ei.size + j, none⟩).getD undef) (hown _ hblk) (by omega) (fun i x hx => by
                    obtain ⟨_, _, g3, cs, g4, g5⟩ := x2 i x hx
                    refine ⟨g3, fun j hj => ?_⟩
                    rw [g4 j hj, List.getElem?_eq_getElem (by rw [← g5.1, g3]; exact hj)]; rfl) (fun i x j y hx hy => by
                    obtain ⟨_, _, g3, cs, g4, g5⟩ := x2 i x hx
                    have hj : j < x.cells.length := (List.getElem?_eq_some_iff.1 hy).1
                    have hjc : j < cs.length := by rw [← g5.1]; exact hj
                    rw [g4 j (by omega), List.getElem?_eq_getElem hjc]
                    exact g5.2 j y _ hy (List.getElem?_eq_getElem hjc))
                rw [x1, ← ha] at hf
                exact hf
              · obtain ⟨i, hxi⟩ := List.getElem?_of_mem hx
                obtain ⟨g1, g2, _⟩ := x2 i x hxi
                exact ⟨ei, rfl, g1, g2⟩
      case array n e =>
        have hus := kind_array r hk
        simp only [Bool.and_eq_true] at hp
        cases he : T e with
        | none => simp [he] at hp
        | some ei =>
          obtain ⟨re⟩ := Row.of hT he
          simp only [he, decide_eq_true_eq] at hp
          obtain ⟨⟨hpos, hsz⟩, hpe⟩ := hp
          obtain ⟨xs, k', rfl, _, hl, hxl, hread⟩ := DataW.trod_array hus h
          rw [re.cellsOf] at hread
          rw [r.cellsOf] at hl
          obtain ⟨vs, p1, p2⟩ := read_elems (sz := ei.size) cs (fun cs hr => ih e cs hr hpe) n (by omega) (fun i hi => ⟨k', xs[i]'(by omega), by rw [hread i hi, List.getElem?_eq_getElem]⟩)
          rw [hsz, ← hl, List.take_length] at p1
          exact ⟨vs, p1, by rw [p1.1, hl], fun j hj => ⟨ei, rfl, p2 j hj⟩⟩
      case struct fs =>
        obtain ⟨fields, hus, hfb⟩ := kind_struct r hk
        simp only [Bool.and_eq_true, decide_eq_true_eq] at hp
        obtain ⟨xs, k', rfl, _, hl, hxl, hread⟩ := DataW.trod_struct hus h
        rw [r.cellsOf] at hl
        obtain ⟨vs, p1, _, p3⟩ := read_fields cs ih hT fs fields.toList 0 i.size hfb hp.1 (by omega) hp.2 (fun fd hfd => by
          obtain ⟨j, hj⟩ := List.getElem?_of_mem hfd
          have hj' : fields[j]? = some fd := by simpa using hj
          have hlt : j < xs.length := by rw [hxl]; exact (Array.getElem?_eq_some_iff.1 hj').1
          exact ⟨k', xs[j], by rw [hread j fd hj', List.getElem?_eq_getElem]⟩)
        rw [List.drop_zero, Nat.sub_zero, ← hl, List.take_length] at p1
        refine ⟨vs, p1, by rw [p1.1, hl], fun f hf => ?_⟩
        obtain ⟨fi, g1, _, _, g4⟩ := p3 f hf
        exact ⟨fi, g1, by simpa using g4⟩

end
end Go.Vm
end

section
/- V25: a law, from V's equation to the machine. -/
namespace Go.Vm
open Go Go.ChangeShapes Go.RowKit

/-- Arguments of these types, as V has them. -/
def AllV (T : Types) (m : Nat) : List TypeId → List V → Prop
  | [], [] => True
  | t :: ts, v :: vs => HasV T m t v ∧ AllV T m ts vs
  | _, _ => False

section
variable {P : Program} {T : Types} {own : Own} {β : Nat → Nat} {w : World} {H : Type} {enc : TypeId × Value → H} {base : Nat} {spare : Nat → Bool} {held : Bool}

theorem arg_ok (hT : TOk P T) (hown : ∀ b, b < w.heap.size → own b = .im) {m : Nat} {t : TypeId} {v : Value} {d : DataW H} {ps : List MemPlace} {bb : Nat} (hp : pureT T m t = true)
    (hval : Value.okWide P w .any bb t v) (h : DataW.Trod enc P w base spare held t v d ps) : ∃ x, HasV T m t x ∧ VR own β w (fun _ => .other) x v ∧ noEx x = true := by
  obtain ⟨k, hk⟩ := h
  obtain ⟨vs, p1, p2⟩ := read_ok hT hown m t _ ⟨k, _, hk⟩ hp
  cases m with
  | zero => simp [pureT] at hp
  | succ m =>
    cases hi : T t with
    | none => simp [pureT, hi] at hp
    | some i =>
      obtain ⟨r⟩ := Row.of hT hi
      have hu := r.hd
      have hkk := r.hkind
      cases hag : i.kind.isAgg
      · have hna : v.cells = #[v] ∧ r.z.cells.size = 1 := by
          refine ⟨?_, by rw [r.hzs, r.one hag]⟩
          simp only [pureT, hi] at hp
          unfold Value.okWide at hval
          rw [hu] at hval
          cases hk2 : i.kind <;> rw [hk2] at hag hkk <;> simp only [hk2] at hp <;> try (simp [TK.isAgg] at hag; done)
          all_goals try (cases hp; done)
          all_goals
            cases hd : r.d <;> simp only [hd, kindB] at hkk hval <;> try (cases hkk; done)
            cases v <;> first
              | rfl
              | (simp [Cell.okWide, hu, hd, Cell.ok] at hval; done)
        rw [hna.1] at p1
        have hlen : vs.length = 1 := by simpa using p1.1
        match vs, hlen, p1, p2 with
        | [y], _, p1, p2 =>
          have hc := one_cell hi hag p2
          have hf := p1.2 0 y v (by simp) (by simp)
          obtain ⟨g1, g2⟩ := VR_of_FR (β := β) (L := fun _ => .other) hf
          refine ⟨y, ⟨i, hi, ?_, by rw [hc]; exact p2⟩, g1, g2⟩
          unfold asType
          rw [hc, if_pos (by simp [r.one hag]), hag]
          rfl
      · have harr : ∃ arr, v = .agg arr ∧ arr.size = i.size := by
          unfold Value.okWide at hval
          rw [hu] at hval
          cases hk2 : i.kind <;> rw [hk2] at hag hkk <;> try (simp [TK.isAgg] at hag; done)
          all_goals
            cases hd : r.d <;> simp only [hd, kindB] at hkk hval <;> try (cases hkk; done)
            obtain ⟨cs, h1, h2, _⟩ := hval
            exact ⟨cs, h1, by rw [h2, r.cellsOf]⟩
        obtain ⟨arr, rfl, hs⟩ := harr
        simp only [Value.cells] at p1
        have hl : vs.length = i.size := by rw [p1.1]; simpa using hs
        have hdat : ∀ y ∈ vs, notEx y = true := fun y hy => by
          obtain ⟨j, hj⟩ := List.getElem?_of_mem hy
          have hjl := (List.getElem?_eq_some_iff.1 hj).1
          have := p1.2 j y (arr[j]'(by omega)) hj (by simp)
          generalize arr[j]'(by omega) = c at this
          cases this <;> rfl
        refine ⟨.agg vs, ⟨i, hi, by simp [asType, V.cells, hl, hag], p2⟩, ⟨arr, rfl, by omega, fun j u c hu' hc => ?_⟩, by simpa [noEx] using hdat⟩
        exact CR_of_FR (p1.2 j u c hu' (by simpa using hc))

theorem args_ok (hT : TOk P T) (hown : ∀ b, b < w.heap.size → own b = .im) {m : Nat} {bb : Nat} : ∀ (ts : List TypeId) (vs : List Value) (ds : List (DataW H)) (ps : List MemPlace), ts.all (pureT T m) = true →
    (∀ (j : Nat) t v, ts[j]? = some t → vs[j]? = some v → Value.okWide P w .any bb t v) → DataW.TrodAll enc P w base spare held ts vs ds ps → ∃ xs, AllV T m ts xs ∧ AR own β w xs vs
  | [], vs, ds, ps, _, _, h => by
    obtain ⟨rfl, _, _⟩ := trodAll_nil h
    exact ⟨[], trivial, rfl, by simp⟩
  | t :: ts, vs, ds, ps, hp, hval, h => by
    obtain ⟨v, vs', d, ds', p, q, rfl, rfl, rfl, h1, h2⟩ := trodAll_cons h
    simp only [List.all_cons, Bool.and_eq_true] at hp
    obtain ⟨x, x1, x2, x3⟩ := arg_ok (β := β) hT hown hp.1 (hval 0 t v rfl rfl) h1
    obtain ⟨xs, y1, y2⟩ := args_ok hT hown ts vs' ds' q hp.2 (fun j t v ht hv => hval (j + 1) t v (by simpa using ht) (by simpa using hv)) h2
    refine ⟨x :: xs, ⟨x1, y1⟩, by simp [y2.1], fun j u c hu hc => ?_⟩
    cases j with
    | zero => simp at hu hc; subst hu; subst hc; exact ⟨x2, x3⟩
    | succ j => exact y2.2 j u c (by simpa using hu) (by simpa using hc)

theorem trodAll_back (hl : laidOutB P = true) {W W' : World} (hb : Below W.heap.size W W') : ∀ (ts : List TypeId) (vs : List Value) (ds : List (DataW H)) (ps : List MemPlace), ts.all (fun t => P.readableRec t && decide (t < P.types.size)) = true →
    DataW.TrodAll enc P W 0 (fun _ => true) true ts vs ds ps → DataW.TrodAll enc P W' 0 (fun b => decide (b < W.heap.size)) true ts vs ds ps
  | [], vs, ds, ps, _, h => by
    obtain ⟨rfl, rfl, rfl⟩ := trodAll_nil h
    rfl
  | t :: ts, vs, ds, ps, hr, h => by
    have hlt := h.lt
    obtain ⟨v, vs', d, ds', p, q, rfl, rfl, rfl, h1, h2⟩ := trodAll_cons h
    simp only [List.all_cons, Bool.and_eq_true, decide_eq_true_eq] at hr
    exact trodAll_cons_mk (Below.trod hl hr.1.1 hr.1.2 h1 hb (fun x hx => hlt x (List.mem_append.2 (.inl hx)))) (trodAll_back hl hb ts vs' ds' q hr.2 h2)

theorem vcall_lt {F : Fns} (hF : FnsOk P F) {k : Nat} {f : FuncId} {xs : List V} {r : V × Heap} (h : vcall T F k f xs [] = some r) : f < yB := by
  cases k with
  | zero => simp [vcall] at h
  | succ k =>
    simp only [vcall, vany] at h
    split at h
    · rename_i fi hfi; exact (hF _ _ hfi).1
    · split at h
      · simp [vround, bcells] at h
      · cases h

/-- **A law that V finds true**, for whatever arguments of these types. -/
theorem vlaw {F : Fns} (hT : TOk P T) (hF : FnsOk P F) (hl : laidOutB P = true) {m : Nat} {ts : List TypeId} {f : FuncId} (hp : ts.all (pureT T m) = true) (hr : ts.all (fun t => P.readableRec t && decide (t < P.types.size)) = true)
    (law : ∀ xs, AllV T m ts xs → ∃ k, vcall T F k f xs [] = some (.bool true, [])) {W : World} {bb : Nat} {args : Array Value} {ds : List (DataW H)} {ps : List MemPlace}
    (hval : ∀ (j : Nat) t v, ts[j]? = some t → args[j]? = some v → Value.okWide P W .any bb t v) (hA : DataW.TrodAll enc P W 0 (fun _ => true) true ts args.toList ds ps) :
    Calls P f args W fun e W' => e = .returned (.bool true) ∧ Below W.heap.size W W' ∧ DataW.TrodAll enc P W' 0 (fun b => decide (b < W.heap.size)) true ts args.toList ds ps := by
  let own : Own := fun b => if b < W.heap.size then .im else .other
  have hown : ∀ b, b < W.heap.size → own b = .im := fun b hb => by simp only [own, if_pos hb]
  obtain ⟨xs, h1, h2⟩ := args_ok (β := fun _ => 0) hT hown ts args.toList ds ps hp (fun j t v ht hv => hval j t v ht (by simpa using hv)) hA
  obtain ⟨k, hk⟩ := law xs h1
  have hHR : HR own (fun _ => 0) W [] := by
    refine ⟨fun id cs hi => by simp [bcells] at hi, fun b id hb => ?_, fun b hb => ?_⟩
    · simp only [own] at hb; split at hb <;> cases hb
    · simp only [own] at hb
      split at hb
      · assumption
      · exact absurd rfl hb
  have hc := ((sound hT hF k).1 f xs [] _ _ (vcall_lt hF hk) hk).2 own (fun _ => 0) W args.toList hHR h2 (fun b i j k hq => by simp only [own] at hq; split at hq <;> cases hq)
  rw [Array.toArray_toList] at hc
  refine hc.mono ?_
  rintro e W' ⟨c, o', β', rfl, t1, t2, t3, t4, t5⟩
  have hc' : c = .bool true := FR.of_bool (own := o') (w := W') t1
  have hb : Below W.heap.size W W' := ⟨t3.os, t3.tape, t3.output, t3.size, fun b hb => (t3.im b (hown b hb)).2⟩
  exact ⟨by rw [hc'], hb, trodAll_back hl hb ts _ ds ps hr hA⟩

end
end Go.Vm
end

section
/- V34: V's evaluation as a tree of questions: where a number, a truth or a list is not known, both ways are told. -/
namespace Go.Vm
open Go

inductive Tr (α : Type) where
  | ret (a : α)
  | fail
  | ask (b : Bool) (yes no : Tr α)

namespace Tr
variable {α β : Type}
def bind : Tr α → (α → Tr β) → Tr β
  | .ret a, f => f a
  | .fail, _ => .fail
  | .ask b x y, f => .ask b (x.bind f) (y.bind f)
def run : Tr α → Option α
  | .ret a => some a
  | .fail => none
  | .ask b x y => match b with
    | true => x.run
    | false => y.run
def ofO : Option α → Tr α
  | some a => .ret a
  | none => .fail
def must (b : Bool) (x : Tr α) : Tr α := .ask b x .fail

theorem run_bind : ∀ (x : Tr α) (f : α → Tr β), (x.bind f).run = x.run.bind fun a => (f a).run
  | .ret a, f => rfl
  | .fail, f => rfl
  | .ask true x y, f => run_bind x f
  | .ask false x y, f => run_bind y f
theorem bind_some {x : Tr α} {f : α → Tr β} {r : β} (h : (x.bind f).run = some r) : ∃ a, x.run = some a ∧ (f a).run = some r := by
  rw [run_bind, Option.bind_eq_some_iff] at h; exact h
theorem run_ofO (o : Option α) : (ofO o).run = o := by cases o <;> rfl
theorem must_some {b : Bool} {x : Tr α} {r : α} (h : (must b x).run = some r) : b = true ∧ x.run = some r := by
  cases b
  · cases h
  · exact ⟨rfl, h⟩

/-- The way through a tree, by what is answered; what was asked on it. -/
def follow : List Bool → Tr α → Option (List (Bool × Bool) × Option α)
  | [], .ret a => some ([], some a)
  | [], .fail => some ([], none)
  | p :: ps, .ask b x y => (follow ps (match p with | true => x | false => y)).map fun r => ((b, p) :: r.1, r.2)
  | _, _ => none
theorem follow_run : ∀ {ps : List Bool} {t : Tr α} {cs : List (Bool × Bool)} {r : Option α}, follow ps t = some (cs, r) → (∀ c ∈ cs, c.1 = c.2) → t.run = r
  | [], .ret a, cs, r, h, _ => by simp only [follow, Option.some.injEq, Prod.mk.injEq] at h; exact h.2
  | [], .fail, cs, r, h, _ => by simp only [follow, Option.some.injEq, Prod.mk.injEq] at h; exact h.2
  | [], .ask _ _ _, cs, r, h, _ => by simp [follow] at h
  | p :: ps, .ret _, cs, r, h, _ => by simp [follow] at h
  | p :: ps, .fail, cs, r, h, _ => by simp [follow] at h
  | p :: ps, .ask b x y, cs, r, h, hc => by
    simp only [follow, Option.map_eq_some_iff] at h
    obtain ⟨⟨cs', r'⟩, h1, h2⟩ := h
    injection h2 with e1 e2; subst e1; subst e2
    have hb := hc (b, p) (by simp)
    simp only at hb; subst hb
    have := follow_run h1 (fun c hc' => hc c (by simp [hc']))
    cases b <;> exact this
end Tr

/-- What a value holds, if it is of a kind. -/
def intOf : V → Int
  | .int _ n => n
  | _ => 0
def boolOf : V → Bool
  | .bool b => b
  | _ => false
def strOf : V → ByteArray
  | .str s => s
  | _ => ByteArray.empty
def nilOf : V → Bool
  | .sl n _ => n
  | _ => false
def listOf : V → List V
  | .sl _ xs => xs
  | _ => []
def fld (j : Nat) (v : V) : V := v.cells.getD j .undef
def leafOf : TK → V → V
  | .int k, v => .int k (intOf v)
  | .bool, v => .bool (boolOf v)
  | .str, v => .str (strOf v)
  | .slice _, v => .sl (nilOf v) (listOf v)
  | _, v => v
def leafFits : TK → V → Bool
  | .int k, .int k' _ => decide (k' = k)
  | .bool, .bool _ => true
  | .str, .str _ => true
  | .slice _, .sl _ _ => true
  | _, _ => false
def canonP : List TK → Nat → V → List V
  | [], _, _ => []
  | k :: ks, off, v => leafOf k (fld off v) :: canonP ks (off + 1) v
def fitP : List TK → Nat → V → Bool
  | [], _, _ => true
  | k :: ks, off, v => leafFits k (fld off v) && fitP ks (off + 1) v

theorem leafOf_fits {k : TK} {v : V} (h : leafFits k v = true) : leafOf k v = v ∧ v ≠ .undef := by
  cases k <;> cases v <;> simp_all [leafFits, leafOf, intOf, boolOf, strOf, nilOf, listOf]
theorem canonP_eq : ∀ (ks : List TK) (off : Nat) (v : V), fitP ks off v = true → (v.cells.drop off).take ks.length = canonP ks off v
  | [], off, v, _ => by simp [canonP]
  | k :: ks, off, v, h => by
    simp only [fitP, Bool.and_eq_true] at h
    obtain ⟨h1, h2⟩ := leafOf_fits h.1
    have hlt : off < v.cells.length := by
      rcases Nat.lt_or_ge off v.cells.length with hq | hq
      · exact hq
      · exact absurd (by simp [fld, hq]) h2
    have hd : v.cells.drop off = fld off v :: v.cells.drop (off + 1) := by
      rw [List.drop_eq_getElem_cons hlt]; simp [fld, hlt]
    rw [hd]
    simp only [List.length_cons, List.take_succ_cons, canonP]
    rw [h1, canonP_eq ks (off + 1) v h.2]

abbrev Spec := FuncId → List V → Heap → Tr (V × Heap)
abbrev LSpec := Nat → St → Tr (Ex × St)

section
variable (T : Types) (sh : Nat → List TK) (S : Spec) (L : LSpec)

def goT (σ : St) (f : FuncId) (vs : List V) (ids : List Nat) (ps : List (Place × V)) : Tr Eff :=
    if vs.all noPtr && ids.isEmpty then
      (S f vs []).bind fun x => match x.2 with
        | [] => match ps with
          | [] => .ret { val := x.1, places := [] }
          | ps => .ask (apart x.1) (.ret { val := x.1, places := [] }) (.ret { val := x.1, places := ps })
        | H1 =>
          let σ1 := setPlaces σ ps
          .ret { val := shift σ1.heap.length x.1, places := ps, mem := .all (σ1.heap ++ H1.map (shiftB σ1.heap.length)) }
    else
      let H := (setPlaces σ ps).heap
      let ks := reach H H.length (ids ++ argIds vs)
      if closedK ks H && (ids ++ argIds vs).all ks.contains then (S f vs (maskH ks H)).bind fun x =>
        if deadOut ks H.length x.2 then
          if x.2.length = H.length then .ret { val := x.1, places := ps, mem := .put ks x.2 } else .ret { val := x.1, places := ps, mem := .all (putH ks H x.2 ++ x.2.drop H.length) }
        else .fail
      else .fail
def callT (σ : St) (f : V) (args : List V) (ps : List (Place × V)) : Tr Eff :=
  match f with
  | .clo (.func f) first captured => if Nat.blt f yB then goT S σ f (first ++ args ++ captured) [] ps else .fail
  | .ref .yld id => goT S σ (yB + id) args [id] ps
  | _ => .fail

def indexT (i : TI) (σ : St) (x : Operand) (k : Int) : Tr V :=
  match i.kind with
  | .slice e => match T e with
    | some ei => match opd σ.env x with
      | .sl _ xs => if (sh e).length = ei.size then
          .must (decide (0 ≤ k)) (.must (decide (k < xs.length)) (.must (((xs.getD k.toNat .undef).cells.length == ei.size) && fitP (sh e) 0 (xs.getD k.toNat .undef)) (.ret (.rptr (canonP (sh e) 0 (xs.getD k.toNat .undef)) 0)))) else .fail
      | .lent p => match look σ p with
        | .ex sz _ xs => if sz = ei.size then .must (decide (0 ≤ k)) (.must (decide (k < xs.length)) (.ret (.xptr p k.toNat 0))) else .fail
        | _ => .fail
      | .ex sz _ xs => match tmpOf x with
        | some t => if sz = ei.size then .must (decide (0 ≤ k)) (.must (decide (k < xs.length)) (.ret (.xptr (.slot t) k.toNat 0))) else .fail
        | none => .fail
      | .ref (.arr n) id => .must (decide (0 ≤ k)) (.must (decide (k < n)) (.ret (.ptr id (k.toNat * ei.size))))
      | _ => .fail
    | none => .fail
  | .array n e => match T e with
    | some ei => .must (decide (0 ≤ k)) (.must (decide (k < n)) (match opd σ.env x with
        | .ptr id off => .ret (.ptr id (off + k.toNat * ei.size))
        | .rptr cs off => .ret (.rptr cs (off + k.toNat * ei.size))
        | .xptr q j off => .ret (.xptr q j (off + k.toNat * ei.size))
        | _ => .fail))
    | none => .fail
  | _ => .fail

def loadT (t : Nat) (i : TI) (σ : St) (p : V) : Tr V :=
  match p with
  | .xptr q k off => match look σ q with
    | .ex _ _ xs => if (sh t).length = i.size then .must (decide (k < xs.length)) (.must (fitP (sh t) off (xs.getD k .undef)) (Tr.ofO (asType i (canonP (sh t) off (xs.getD k .undef))))) else .fail
    | _ => .fail
  | p => Tr.ofO (loadAt i σ p)

def storeT (i : TI) (σ : St) (p : V) (x : Operand) : Tr Eff :=
  match p with
  | .xptr q k off => match takeDat σ x, look σ q with
    | some (v, []), .ex sz n xs => if v.cells.length = i.size then .must (decide (k < xs.length)) (.must (decide (off + i.size ≤ (xs.getD k .undef).cells.length))
        (.ret (rewr q (.ex sz n (xs.set k (mkOf (xs.getD k .undef) (setCells (xs.getD k .undef).cells off v.cells))))))) else .fail
    | _, _ => .fail
  | p => Tr.ofO (storeAt i σ p x)

def appendT (σ : St) (c : Call) : Tr Eff :=
  match c.args.toList, c.argTypes.toList with
  | [s, x], [t, tx] => match kindOf T t, kindOf T tx, content σ (opd σ.env x) with
    | some (.slice e), some (.slice _), some (_, ys) => match T e with
      | some ei => match base ei.size σ s with
        | some (n, xs, ps) => if 0 < ei.size then .must (rooms (xs.length + ys.length) ei.bytes) (.must (decide (xs.length + ys.length < 2 ^ 62)) (.must (ys.all fun y => y.cells.length == ei.size)
          (.ret { val := .ex ei.size (n && ys.isEmpty) (xs ++ ys), places := ps }))) else .fail
        | none => .fail
      | none => .fail
    | _, _, _ => .fail
  | _, _ => .fail

def deleteT (sz : Nat) (σ : St) (args : List Operand) : Tr Eff :=
  match args with
  | [x, i, j] => match base sz σ x, opd σ.env i, opd σ.env j with
    | some (_, xs, ps), .int .i64 i, .int .i64 j => .must (decide (0 ≤ i)) (.must (decide (i ≤ j)) (.must (decide (j ≤ xs.length)) (.must (decide (0 < xs.length))
      (.ret { val := .ex sz false (xs.take i.toNat ++ xs.drop j.toNat), places := ps }))))
    | _, _, _ => .fail
  | _ => .fail

def sliceT (σ : St) (t : Nat) (x : Operand) (lo hi mx : Option Operand) : Tr Eff :=
  match kindOf T t with
  | some (.slice e) => match opd σ.env x with
    | .sl n xs => match T e, numOf σ lo 0, numOf σ hi xs.length with
      | some ei, some l, some h =>
        .must (decide (0 ≤ l)) (.must (decide (l ≤ h)) (.must (decide (h ≤ xs.length)) (.must (xs.all (fun x => x.cells.length == ei.size)) (
          match mx with
          | none => .ret { val := .sl n ((xs.drop l.toNat).take (h.toNat - l.toNat)) }
          | some m => .must (decide (hi.isSome ∧ numOf σ (some m) 0 = some l ∧ h = l)) (.ret { val := .ex ei.size n [] })))))
      | _, _, _ => .fail
    | _ => .fail
  | _ => .fail

def binT (op : BinOp) (i : TI) (one : Bool) (σ : St) (x y : V) : Tr V :=
  match x, y, op, i.kind.isAgg with
  | .int k a, .int k' b, .quo, false => if k = k' then .must (!decide (b = 0)) (.ret (.int k (k.wrap (a.tdiv b)))) else .fail
  | .int k a, .int k' b, .rem, false => if k = k' then .must (!decide (b = 0)) (.ret (.int k (a.tmod b))) else .fail
  | .int k a, .int _ b, .shl, false => .must (!decide (b < 0)) (.ret (.int k (k.wrap (a * 2 ^ (min b.toNat k.bits)))))
  | .int k a, .int _ b, .shr, false => .must (!decide (b < 0)) (.ret (.int k (a.fdiv (2 ^ (min b.toNat k.bits)))))
  | x, y, op, _ => Tr.ofO (vbinop op i one σ x y)

def makeT (t : Nat) (σ : St) (l c : Operand) : Tr Eff :=
  match kindOf T t, opd σ.env l, opd σ.env c with
  | some (.slice e), .int _ l, .int _ c => match T e with
    | some ei => if 0 < ei.size ∧ ei.zero.dat = true ∧ ei.zero.cells.length = ei.size then
        .must (decide (0 ≤ l)) (.must (decide (l ≤ c)) (.must (rooms c.toNat ei.bytes) (.must (decide (c < 2 ^ 62)) (.ret { val := .ex ei.size false (List.replicate l.toNat ei.zero) })))) else .fail
    | none => .fail
  | _, _, _ => .fail

def updateT (σ : St) (t : Nat) (m k x : Operand) : Tr Eff :=
  match kindOf T t, mapOf σ (opd σ.env m), takeMap σ x with
  | some (.map kt et), some (id, ks, vs), some (v, ps) => match T kt, T et with
    | some ki, some ei => .must (keyFits ki (opd σ.env k)) (.must (ks.all (keyFits ki)) (.must (v.cells.all (okBelow (id + 1))) (if v.cells.length = ei.size ∧ ps.all isSlot = true then
        .ask (findK (opd σ.env k) ks).isSome
          (.ret { val := .undef, places := ps, mem := .set id 0 [.mp (ks.set ((findK (opd σ.env k) ks).getD 0) (opd σ.env k)) (vs.set ((findK (opd σ.env k) ks).getD 0) v)] })
          (.ret { val := .undef, places := ps, mem := .set id 0 [.mp (ks ++ [opd σ.env k]) (vs ++ [v])] })
        else .fail)))
    | _, _ => .fail
  | _, _, _ => .fail
def simpleK : TK → Bool
  | .int _ | .bool | .str | .slice _ => true
  | _ => false
def lookupT (σ : St) (t : Nat) (m k : Operand) (ok : Bool) : Tr V :=
  match kindOf T t with
  | some (.map kt et) => match T kt, T et with
    | some ki, some ei => match mapView σ (opd σ.env m) with
      | some (ks, vs) => .must (keyFits ki (opd σ.env k)) (.must (ks.all (keyFits ki)) (.ask (findK (opd σ.env k) ks).isSome
          (if (sh et).length = ei.size && (sh et).all simpleK then
            .must (decide ((findK (opd σ.env k) ks).getD 0 < vs.length)) (.must ((vs.getD ((findK (opd σ.env k) ks).getD 0) .undef).cells.length == ei.size && fitP (sh et) 0 (vs.getD ((findK (opd σ.env k) ks).getD 0) .undef))
              (.must (isAggV (vs.getD ((findK (opd σ.env k) ks).getD 0) .undef) == ei.kind.isAgg) ((Tr.ofO (asType ei (canonP (sh et) 0 (vs.getD ((findK (opd σ.env k) ks).getD 0) .undef)))).bind fun v => .ret (okV ok v true))))
          else (Tr.ofO (vs[(findK (opd σ.env k) ks).getD 0]?)).bind fun v => .ret (okV ok v true))
          (.ret (okV ok ei.zero false))))
      | none => .fail
    | _, _ => .fail
  | _ => .fail

/-- An operation's effect, and what it looks at. -/
def effT (cx : Cx) (fresh : Nat) (o : Oper) (σ : St) : Tr (Eff × List Operand) :=
  match o.op with
  | .pick c a b => match opd σ.env c with
    | .bool t => .ask t
        (match opd σ.env a with | .bool r => .ret ({ val := .bool r }, [c, a]) | .int k n => .ret ({ val := .int k n }, [c, a]) | _ => .fail)
        (match opd σ.env b with | .bool r => .ret ({ val := .bool r }, [c, b]) | .int k n => .ret ({ val := .int k n }, [c, b]) | _ => .fail)
    | _ => .fail
  | .load t p => match T t with
    | some i => (loadT sh t i σ (opd σ.env p)).bind fun v => .ret ({ val := v }, o.op.operands.toList)
    | none => .fail
  | .store t p x => match T t with
    | some i => (storeT i σ (opd σ.env p) x).bind fun e => match e.mem with
      | .set id _ cs => if cs.all (okBelow (id + 1)) then .ret (e, o.op.operands.toList) else .fail
      | _ => .ret (e, o.op.operands.toList)
    | none => .fail
  | .binOp op t x y _ => match T t with
    | some i => (binT op i (isConst x || isConst y) σ (opd σ.env x) (opd σ.env y)).bind fun v => .ret ({ val := v }, o.op.operands.toList)
    | none => .fail
  | .slice t x lo hi mx => (sliceT T σ t x lo hi mx).bind fun e => .ret (e, o.op.operands.toList)
  | .indexAddr t x k => match T t, opd σ.env k with
    | some i, .int _ k => (indexT T sh i σ x k).bind fun v => .ret ({ val := v }, o.op.operands.toList)
    | _, _ => .fail
  | .call c => match c.callee with
    | .builtin .append => (appendT T σ c).bind fun e => .ret (e, o.op.operands.toList)
    | .value f => match toldOf cx (opd σ.env f) with
      | some sz => (deleteT sz σ c.args.toList).bind fun e => .ret (e, o.op.operands.toList)
      | none => match views σ c.args.toList with
        | some (vs, ps) => (callT S σ (opd σ.env f) vs ps).bind fun e => .ret (e, o.op.operands.toList)
        | none => .fail
    | _ => (Tr.ofO (eff T (fun _ _ _ => none) cx fresh o σ)).bind fun e => .ret (e, o.op.operands.toList)
  | .insert t m k x => (updateT T σ t m k x).bind fun e => .ret (e, o.op.operands.toList)
  | .mapUpdate t m k x => (updateT T σ t m k x).bind fun e => .ret (e, o.op.operands.toList)
  | .lookup t m k ok => (lookupT T sh σ t m k ok).bind fun v => .ret ({ val := v }, o.op.operands.toList)
  | .makeSlice t l c => (makeT T t σ l c).bind fun e => .ret (e, o.op.operands.toList)
  | _ => (Tr.ofO (eff T (fun _ _ _ => none) cx fresh o σ)).bind fun e => .ret (e, o.op.operands.toList)

def effG1 (cx : Cx) (fresh : Nat) (o : Oper) (σ : St) : Tr (Eff × List Operand) :=
  (effT T sh S cx fresh o σ).bind fun x => if (match o.dst with | some d => x.1.val.refsTo (.slot d) | none => false) then .fail else .ret x

def effGT (cx : Cx) (ops : Array Oper) (fresh : Nat) (o : Oper) (σ : St) : Tr (Eff × List Operand) :=
  match o.guard with
  | none => effG1 T sh S cx fresh o σ
  | some (j, want) => match (ops[j]?).bind (·.dst) with
    | some t => match get σ.env t with
      | .bool b => match want with
        | true => .ask b (effG1 T sh S cx fresh o σ) (.ret ({ val := .tup [] }, []))
        | false => .ask b (.ret ({ val := .tup [] }, [])) (effG1 T sh S cx fresh o σ)
      | .tup [] => .ret ({ val := .tup [] }, [])
      | _ => .fail
    | none => .fail

def vopsT (cx : Cx) (ops : Array Oper) : Nat → List Oper → St → Tr St
  | _, [], σ => .ret σ
  | fresh, o :: rest, σ => (effGT T sh S cx ops fresh o σ).bind fun x => vopsT cx ops (if isFresh o then fresh + 1 else fresh) rest (apply σ o.dst x.1)

def readsL (ops : Array Oper) (fr : Nat) (o : Oper) (env : Env) (e : Eff) (l : List Operand) : List Res :=
  memReads e ++ l.flatMap (opReads (derefs o) (light o) env) ++ (match guardSlot ops o with | some t => [.slot t] | none => []) ++ (if isFresh o then [.blk fr] else [])

def drawRunT (cx : Cx) (ops : Array Oper) : Nat → List Oper → St → Tr (St × List (List Res × List Res))
  | _, [], σ => .ret (σ, [])
  | fr, o :: rest, σ => (effGT T sh S cx ops fr o σ).bind fun x =>
      if tameB x.1 && calm o x.1 && x.2.all (seen σ) && (refRes x.1.val).all (fun r => (readsL ops fr o σ.env x.1 x.2).contains r) then
        (drawRunT cx ops (if isFresh o then fr + 1 else fr) rest (apply σ o.dst x.1)).bind fun y => .ret (y.1, (readsL ops fr o σ.env x.1 x.2, writes o.dst x.1) :: y.2)
      else if wildOp o then
        (drawRunT cx ops (if isFresh o then fr + 1 else fr) rest (apply σ o.dst x.1)).bind fun y => .ret (y.1, ([.top], [.top]) :: y.2)
      else .fail

def regionT (cx : Cx) (id : Nat) (ops : Array Oper) (draw : Bool) (σ : St) : Tr St :=
  match draw with
  | false => (vopsT T sh S cx ops σ.heap.length ops.toList (reserve ops σ)).bind fun σ' => .ret (prune (cx.keep id) σ')
  | true => (drawRunT T sh S cx ops σ.heap.length ops.toList (reserve ops σ)).bind fun x =>
      if (cx.free id).all (fun y => apartB (fpAt x.2 y.1) (fpAt x.2 y.2)) then .ret (prune (cx.keep id) x.1) else .fail

def codeT (cx : Cx) : Code → St → Tr (Ex × St)
  | .skip, σ => .ret (.normal, σ)
  | .region id ops draw, σ => (regionT T sh S cx id ops draw σ).bind fun σ' => .ret (.normal, σ')
  | .seq a b, σ => (codeT cx a σ).bind fun x => match x.1 with
    | .normal => codeT cx b x.2
    | ex => .ret (ex, x.2)
  | .cond c a b, σ => match opd σ.env c with
    | .bool t => .ask t (codeT cx a σ) (codeT cx b σ)
    | _ => .fail
  | .block id b, σ => (codeT cx b σ).bind fun x => match x.1 with
    | .exit i => if i = id then .ret (.normal, x.2) else .ret (.exit i, x.2)
    | ex => .ret (ex, x.2)
  | .exit id, σ => .ret (.exit id, σ)
  | .ret, σ => .ret (.ret, σ)
  | .loop b, σ => L (firstRegion b) (prune (cx.head (firstRegion b)) σ)
  | .rangeFunc g ps asg body, σ => match cx.rnd, opd σ.env g with
    | false, .clo (.func f) first captured =>
      let H0 := rangeIn cx ps.toList asg body σ
      let vs := first ++ [.ref .yld σ.heap.length] ++ captured
      let ks := reach H0 H0.length (argIds vs)
      if closedK ks H0 && (argIds vs).all ks.contains && Nat.blt f yB then (S f vs (maskH ks H0)).bind fun x => Tr.ofO (rangeOut σ ks H0 x.2) else .fail
    | _, _ => .fail
  | .scope b, σ => codeT cx b σ
  | .label _, σ => .ret (.normal, σ)
  | _, _ => .fail

/-- One round of a loop, begun with so many blocks. -/
def roundT (cx : Cx) (n : Nat) (b : Code) (τ : St) : Tr (Ex × St) :=
  (codeT T sh S L cx b τ).bind fun x => match x.1 with
    | .normal => .ret (.normal, back n (prune (cx.head (firstRegion b)) x.2))
    | ex => .ret (ex, x.2)

/-- So many rounds, one after the other. -/
def unrollT (cx : Cx) (b : Code) : Nat → Nat → St → Tr (Ex × St)
  | _, 0, _ => .fail
  | n, m + 1, τ => (roundT T sh S L cx n b τ).bind fun x => match x.1 with
    | .normal => unrollT cx b n m x.2
    | ex => .ret (ex, x.2)

/-- A round of a range over a function. -/
def yldT (F : Fns) (id : Nat) (args : List V) (H : Heap) : Tr (V × Heap) :=
  match bcells H id with
  | some [.lp ts vs ps asg body cx .ready] => match F cx.self with
    | some fi => if ps.length = args.length ∧ cx.told = fi.cx.told then
        (codeT T sh S L { cx with rnd := true } asg { env := (ps.zip args).reverse ++ ts.zip vs, heap := H }).bind fun x => match x.1 with
          | .normal => match bcells x.2.heap id with
            | some [.lp ts1 vs1 ps1 asg1 body1 cx1 .ready] =>
              (codeT T sh S L { cx with rnd := true } body (setMem x.2 (.set id 0 [.lp ts1 vs1 ps1 asg1 body1 cx1 .busy]))).bind fun y => match bcells y.2.heap id with
                | some [.lp ts vs ps asg body cx .busy] => match y.1 with
                  | .normal => .ret (.bool true, (setMem y.2 (.set id 0 [.lp ts vs ps asg body cx .ready])).heap.take H.length)
                  | ex => .ret (.bool false, (setMem y.2 (.set id 0 [.lp ts vs ps asg body cx (.done ex)])).heap.take H.length)
                | _ => .fail
            | _ => .fail
          | _ => .fail
      else .fail
    | none => .fail
  | _ => .fail

def funT (fi : FI) (args : List V) (H : Heap) : Tr (V × Heap) :=
  (codeT T sh S L fi.cx fi.body (enter args H)).bind fun x => match x.1 with
    | .exit _ => .fail
    | _ => Tr.ofO (leave T fi.results H.length x.2)
end

def loopsOf : Code → List Code
  | .seq a b => loopsOf a ++ loopsOf b
  | .cond _ a b => loopsOf a ++ loopsOf b
  | .block _ b => loopsOf b
  | .loop b => b :: loopsOf b
  | .scope b => loopsOf b
  | _ => []
def lb (fi : FI) (i : Nat) : Code := (loopsOf fi.body).getD i .skip

end Go.Vm
end

section
/- V35: more calls and more rounds tell the same. -/
namespace Go.Vm
open Go

/-- From some depth on. -/
def Ev (p : Nat → Prop) : Prop := ∃ k0, ∀ k, k0 ≤ k → p k
theorem Ev.all {p : Nat → Prop} (h : ∀ k, p k) : Ev p := ⟨0, fun k _ => h k⟩
theorem Ev.and {p q : Nat → Prop} (h : Ev p) (g : Ev q) : Ev fun k => p k ∧ q k := by
  obtain ⟨a, ha⟩ := h; obtain ⟨b, hb⟩ := g
  exact ⟨max a b, fun k hk => ⟨ha k (by omega), hb k (by omega)⟩⟩
theorem Ev.mono {p q : Nat → Prop} (h : Ev p) (f : ∀ k, p k → q k) : Ev q := by
  obtain ⟨a, ha⟩ := h; exact ⟨a, fun k hk => f k (ha k hk)⟩
theorem Ev.of_and {p q : Nat → Prop} (h : Ev p) (g : Ev q) {r : Nat → Prop} (f : ∀ k, p k → q k → r k) : Ev r := (h.and g).mono fun k x => f k x.1 x.2

section
variable {T : Types} {call : CallF} {calls : Nat → CallF} {lp : Step → Step} {lps : Nat → Step → Step} {cx : Cx} {ops : Array Oper}

theorem ev_callGo (hc : ∀ f a H r, call f a H = some r → Ev fun k => calls k f a H = some r) {σ : St} {f : FuncId} {vs : List V} {ids : List Nat} {ps : List (Place × V)} {e : Eff} (h : callGo call σ f vs ids ps = some e) :
    Ev fun k => callGo (calls k) σ f vs ids ps = some e := by
  unfold callGo at h
  by_cases hp : (vs.all noPtr && ids.isEmpty) = true
  · rw [if_pos hp] at h
    cases hcall : call f vs [] with
    | none => rw [hcall] at h; cases h
    | some x =>
      refine (hc _ _ _ _ hcall).mono fun k hk => ?_
      unfold callGo
      simp only [if_pos hp, hk]
      rw [hcall] at h
      exact h
  · rw [if_neg hp] at h
    simp only at h
    split at h
    · rename_i hcl
      cases hcall : call f vs (maskH (reach (setPlaces σ ps).heap (setPlaces σ ps).heap.length (ids ++ argIds vs)) (setPlaces σ ps).heap) with
      | none => rw [hcall] at h; cases h
      | some x =>
        refine (hc _ _ _ _ hcall).mono fun k hk => ?_
        unfold callGo
        simp only [if_neg hp, if_pos hcl, hk]
        rw [hcall] at h
        exact h
    · cases h
theorem ev_callAt (hc : ∀ f a H r, call f a H = some r → Ev fun k => calls k f a H = some r) {σ : St} {f : V} {args : List V} {ps : List (Place × V)} {e : Eff} (h : callAt call σ f args ps = some e) :
    Ev fun k => callAt (calls k) σ f args ps = some e := by
  unfold callAt at h ⊢
  split at h
  · rename_i fid first captured
    split at h
    · rename_i hl; simp only [hl, if_true]; exact ev_callGo hc h
    · cases h
  · exact ev_callGo hc h
  · cases h

theorem ev_eff (hc : ∀ f a H r, call f a H = some r → Ev fun k => calls k f a H = some r) {fr : Nat} {o : Oper} {σ : St} {e : Eff} (h : eff T call cx fr o σ = some e) : Ev fun k => eff T (calls k) cx fr o σ = some e := by
  cases ho : o.op
  case call c =>
    simp only [eff, ho] at h ⊢
    cases hcal : c.callee with
    | value f =>
      simp only [hcal] at h ⊢
      cases ht : toldOf cx (opd σ.env f) with
      | some sz => simp only [ht] at h ⊢; exact .all fun _ => h
      | none =>
      simp only [ht] at h ⊢
      cases hv : views σ c.args.toList with
      | none => simp [hv] at h
      | some x =>
        simp only [hv] at h
        exact (ev_callAt hc h).mono fun k hk => by simpa only [hv] using hk
    | builtin b => simp only [hcal] at h ⊢; exact .all fun _ => h
    | invoke x m => simp only [hcal] at h; cases h
  all_goals exact .all fun k => by simpa only [eff, ho] using h

theorem ev_effG (hc : ∀ f a H r, call f a H = some r → Ev fun k => calls k f a H = some r) {fr : Nat} {o : Oper} {σ : St} {e : Eff} (h : effG T call cx ops fr o σ = some e) : Ev fun k => effG T (calls k) cx ops fr o σ = some e := by
  unfold effG at h ⊢
  cases hw : wants ops σ.env o with
  | none => simp [hw] at h
  | some b =>
    cases b with
    | false => exact .all fun k => by simpa [hw] using h
    | true =>
      simp only [hw] at h ⊢
      cases he : eff T call cx fr o σ with
      | none => simp [he] at h
      | some x =>
        rw [he] at h
        exact (ev_eff hc he).mono fun k hk => by simp only [hk]; exact h

theorem ev_vops (hc : ∀ f a H r, call f a H = some r → Ev fun k => calls k f a H = some r) : ∀ (l : List Oper) (fr : Nat) (σ τ : St), vops T call cx ops fr l σ = some τ → Ev fun k => vops T (calls k) cx ops fr l σ = some τ
  | [], fr, σ, τ, h => .all fun _ => h
  | o :: l, fr, σ, τ, h => by
    simp only [vops, Option.bind_eq_some_iff] at h ⊢
    obtain ⟨σ1, h1, h2⟩ := h
    unfold vop at h1 ⊢
    rw [Option.map_eq_some_iff] at h1
    obtain ⟨e, h3, h4⟩ := h1
    refine (ev_effG hc h3).of_and (ev_vops hc l _ _ _ h2) fun k g1 g2 => ⟨σ1, by rw [g1]; simp [h4], g2⟩

theorem ev_draw (hc : ∀ f a H r, call f a H = some r → Ev fun k => calls k f a H = some r) : ∀ (l : List Oper) (fr : Nat) (σ : St) (r : St × List (List Res × List Res)), drawRun T call cx ops fr l σ = some r → Ev fun k => drawRun T (calls k) cx ops fr l σ = some r
  | [], fr, σ, τ, h => .all fun _ => h
  | o :: l, fr, σ, τ, h => by
    simp only [drawRun] at h ⊢
    cases he : effG T call cx ops fr o σ with
    | none => simp [he] at h
    | some e =>
      simp only [he] at h
      split at h
      · rename_i hb
        rw [Option.map_eq_some_iff] at h
        obtain ⟨x, h1, h2⟩ := h
        exact (ev_effG hc he).of_and (ev_draw hc l _ _ _ h1) fun k g1 g2 => by simp only [g1, if_pos hb, g2]; simp [← h2]
      · rename_i hb
        split at h
        · rename_i hw
          rw [Option.map_eq_some_iff] at h
          obtain ⟨x, h1, h2⟩ := h
          exact (ev_effG hc he).of_and (ev_draw hc l _ _ _ h1) fun k g1 g2 => by simp only [g1, if_neg hb, if_pos hw, g2]; simp [← h2]
        · cases h

theorem ev_region (hc : ∀ f a H r, call f a H = some r → Ev fun k => calls k f a H = some r) {id : Nat} {draw : Bool} {σ τ : St} (h : vregion T call cx id ops draw σ = some τ) : Ev fun k => vregion T (calls k) cx id ops draw σ = some τ := by
  unfold vregion at h ⊢
  cases draw with
  | false =>
    simp only [Option.map_eq_some_iff] at h ⊢
    obtain ⟨x, h1, h2⟩ := h
    exact (ev_vops hc _ _ _ _ h1).mono fun k g => ⟨x, g, h2⟩
  | true =>
    simp only at h ⊢
    cases hr : drawRun T call cx ops σ.heap.length ops.toList (reserve ops σ) with
    | none => simp [hr] at h
    | some x => exact (ev_draw hc _ _ _ _ hr).mono fun k g => by rw [g]; rw [hr] at h; exact h

def EvStep (step : Step) (steps : Nat → Step) : Prop := ∀ σ r, step σ = some r → Ev fun k => steps k σ = some r

theorem ev_code (hc : ∀ f a H r, call f a H = some r → Ev fun k => calls k f a H = some r) (hl : ∀ step steps, EvStep step steps → EvStep (lp step) fun k => lps k (steps k)) :
    ∀ (c : Code), EvStep (vcode T call lp cx c) fun k => vcode T (calls k) (lps k) cx c
  | .skip => fun σ r h => .all fun _ => h
  | .region id ops draw => fun σ r h => by
    simp only [vcode, Option.map_eq_some_iff] at h ⊢
    obtain ⟨x, h1, h2⟩ := h
    exact (ev_region hc h1).mono fun k g => ⟨x, g, h2⟩
  | .seq a b => fun σ r h => by
    simp only [vcode] at h ⊢
    cases ha : vcode T call lp cx a σ with
    | none => simp [ha] at h
    | some x =>
      obtain ⟨ex, σ1⟩ := x
      have h1 := ev_code hc hl a σ _ ha
      cases ex with
      | normal =>
        simp only [ha] at h
        exact h1.of_and (ev_code hc hl b _ _ h) fun k (g1 : vcode T (calls k) (lps k) cx a σ = _) g2 => by rw [g1]; exact g2
      | exit i => rw [ha] at h; exact h1.mono fun k (g : vcode T (calls k) (lps k) cx a σ = _) => by rw [g]; exact h
      | ret => rw [ha] at h; exact h1.mono fun k (g : vcode T (calls k) (lps k) cx a σ = _) => by rw [g]; exact h
  | .cond c a b => fun σ r h => by
    simp only [vcode] at h ⊢
    cases hv : opd σ.env c <;> simp only [hv] at h ⊢ <;> try (cases h; done)
    rename_i t
    cases t
    · simp only [Bool.false_eq_true, if_false] at h ⊢; exact ev_code hc hl b σ r h
    · simp only [if_true] at h ⊢; exact ev_code hc hl a σ r h
  | .block id b => fun σ r h => by
    simp only [vcode] at h ⊢
    cases ha : vcode T call lp cx b σ with
    | none => simp [ha] at h
    | some x => exact (ev_code hc hl b σ _ ha).mono fun k (g : vcode T (calls k) (lps k) cx b σ = _) => by rw [g]; rw [ha] at h; exact h
  | .loop b => fun σ r h => by
    simp only [vcode] at h ⊢
    refine hl _ _ (fun τ r h => ?_) _ _ h
    cases ha : vcode T call lp cx b τ with
    | none => simp [ha] at h
    | some x => exact (ev_code hc hl b τ _ ha).mono fun k (g : vcode T (calls k) (lps k) cx b τ = _) => by rw [g]; rw [ha] at h; exact h
  | .exit id => fun σ r h => .all fun _ => h
  | .ret => fun σ r h => .all fun _ => h
  | .rangeFunc g ps asg body => fun σ r h => by
    simp only [vcode] at h ⊢
    split at h
    · rename_i f first captured hr hg
      split at h
      · rename_i hcl
        cases hcall : call f (first ++ [.ref .yld σ.heap.length] ++ captured) (maskH (reach (rangeIn cx ps.toList asg body σ) (rangeIn cx ps.toList asg body σ).length (argIds (first ++ [.ref .yld σ.heap.length] ++ captured))) (rangeIn cx ps.toList asg body σ)) with
        | none => rw [hcall] at h; cases h
        | some x =>
          refine (hc _ _ _ _ hcall).mono fun k hk => ?_
          simp only [hcl, if_true, hk]
          rw [hcall] at h
          exact h
      · cases h
    · cases h
  | .scope x => fun σ r h => by
    simp only [vcode] at h ⊢
    exact ev_code hc hl x σ r h
  | .label _ => fun σ r h => .all fun _ => h
  | .goto _ => fun σ r h => by cases h
  | .refuse _ => fun σ r h => by cases h

theorem ev_rounds {step : Step} {steps : Nat → Step} (h : EvStep step steps) : ∀ (n : Nat) (σ : St) (r : Ex × St), rounds step n σ = some r → Ev fun k => ∀ m, n ≤ m → rounds (steps k) m σ = some r
  | 0, σ, r, hr => by simp [rounds] at hr
  | n + 1, σ, r, hr => by
    simp only [rounds] at hr
    cases hs : step σ with
    | none => simp [hs] at hr
    | some x =>
      obtain ⟨ex, σ1⟩ := x
      cases ex with
      | normal =>
        simp only [hs] at hr
        refine (h _ _ hs).of_and (ev_rounds h n σ1 r hr) fun k g1 g2 m hm => ?_
        match m, hm with
        | m + 1, hm => simp only [rounds, g1]; exact g2 m (by omega)
      | exit i =>
        refine (h _ _ hs).mono fun k g1 m hm => ?_
        match m, hm with
        | m + 1, hm => simp only [rounds, g1]; simpa [hs] using hr
      | ret =>
        refine (h _ _ hs).mono fun k g1 m hm => ?_
        match m, hm with
        | m + 1, hm => simp only [rounds, g1]; simpa [hs] using hr

theorem rounds_mono {step : Step} {n m : Nat} (hn : n ≤ m) {σ : St} {r : Ex × St} (h : rounds step n σ = some r) : rounds step m σ = some r := by
  obtain ⟨k0, hk⟩ := ev_rounds (steps := fun _ => step) (fun σ r h => .all fun _ => h) n σ r h
  exact hk k0 (Nat.le_refl _) m hn

theorem rounds_le {step step' : Step} (hs : ∀ σ r, step σ = some r → step' σ = some r) {n m : Nat} (hn : n ≤ m) {σ : St} {r : Ex × St} (h : rounds step n σ = some r) : rounds step' m σ = some r := by
  obtain ⟨k0, hk⟩ := ev_rounds (steps := fun _ => step') (fun σ r h => .all fun _ => hs σ r h) n σ r h
  exact hk k0 (Nat.le_refl _) m hn

theorem evStep_const {step step' : Step} (h : EvStep step fun _ => step') : ∀ σ r, step σ = some r → step' σ = some r := fun σ r hs => by
  obtain ⟨k0, hk⟩ := h σ r hs
  exact hk k0 (Nat.le_refl _)

theorem ev_any {F : Fns} (hc : ∀ f a H r, call f a H = some r → Ev fun k => calls k f a H = some r) (hl : ∀ step steps, EvStep step steps → EvStep (lp step) fun k => lps k (steps k)) {f : FuncId} {a : List V} {H : Heap} {r : V × Heap}
    (h : vany T F call lp f a H = some r) : Ev fun k => vany T F (calls k) (lps k) f a H = some r := by
  unfold vany at h ⊢
  cases hf : F f with
  | some fi =>
    simp only [hf] at h ⊢
    unfold vfun at h ⊢
    simp only [hf] at h ⊢
    cases hv : vcode T call lp fi.cx fi.body (enter a H) with
    | none => simp [hv] at h
    | some x => exact (ev_code hc hl fi.body _ _ hv).mono fun k (g : vcode T (calls k) (lps k) fi.cx fi.body (enter a H) = _) => by rw [g]; rw [hv] at h; exact h
  | none =>
    simp only [hf] at h ⊢
    split at h
    · rename_i hb
      simp only [hb, if_true]
      unfold vround at h ⊢
      split at h
      · rename_i ts vs ps asg body cx hbc
        split at h
        · rename_i fi hfi
          split at h
          · rename_i hcond
            cases h1 : vcode T call lp { cx with rnd := true } asg { env := (ps.zip a).reverse ++ ts.zip vs, heap := H } with
            | none => simp [h1] at h
            | some x =>
              obtain ⟨ex, σ1⟩ := x
              have e1 := ev_code (cx := { cx with rnd := true }) hc hl asg _ _ h1
              simp only [h1] at h
              cases ex with
              | normal =>
                simp only at h
                split at h
                · rename_i ts1 vs1 ps1 asg1 body1 cx1 hb1
                  cases h2 : vcode T call lp { cx with rnd := true } body (setMem σ1 (.set (f - yB) 0 [.lp ts1 vs1 ps1 asg1 body1 cx1 .busy])) with
                  | none => simp [h2] at h
                  | some y =>
                    have e2 := ev_code (cx := { cx with rnd := true }) hc hl body _ _ h2
                    refine e1.of_and e2 fun k (g1 : vcode T (calls k) (lps k) { cx with rnd := true } asg { env := (ps.zip a).reverse ++ ts.zip vs, heap := H } = _) (g2 : vcode T (calls k) (lps k) { cx with rnd := true } body (setMem σ1 (.set (f - yB) 0 [.lp ts1 vs1 ps1 asg1 body1 cx1 .busy])) = _) => ?_
                    simp only [if_pos hcond, g1, hb1, g2]
                    rw [h2] at h
                    exact h
                · cases h
              | exit i => cases h
              | ret => cases h
          · cases h
        · cases h
      · cases h
    · cases h

theorem vcall_succ {F : Fns} : ∀ (k : Nat) (f : FuncId) (a : List V) (H : Heap) (r : V × Heap), vcall T F k f a H = some r → vcall T F (k + 1) f a H = some r
  | 0, f, a, H, r, h => by simp [vcall] at h
  | k + 1, f, a, H, r, h => by
    obtain ⟨k0, hk⟩ := ev_any (calls := fun _ => vcall T F (k + 1)) (lps := fun _ s => rounds s (k + 1)) (fun f a H r h => .all fun _ => vcall_succ k f a H r h)
      (fun step steps hs σ r h => by
        obtain ⟨k0, hk⟩ := ev_rounds hs k σ r h
        exact ⟨k0, fun j hj => hk j hj (k + 1) (by omega)⟩) h
    exact hk k0 (Nat.le_refl _)
theorem vcall_mono {F : Fns} {f : FuncId} {a : List V} {H : Heap} {r : V × Heap} {k m : Nat} (hk : k ≤ m) (h : vcall T F k f a H = some r) : vcall T F m f a H = some r := by
  induction hk with
  | refl => exact h
  | step _ ih => exact vcall_succ _ f a H r ih

/-- V tells so, to some depth. -/
def Runs (T : Types) (F : Fns) (f : FuncId) (a : List V) (H : Heap) (r : V × Heap) : Prop := ∃ k, vcall T F k f a H = some r
theorem Runs.det {F : Fns} {f : FuncId} {a : List V} {H : Heap} {r s : V × Heap} (h : Runs T F f a H r) (g : Runs T F f a H s) : r = s := by
  obtain ⟨k, h⟩ := h; obtain ⟨m, g⟩ := g
  have h1 := vcall_mono (Nat.le_max_left k m) h
  rw [vcall_mono (Nat.le_max_right k m) g] at h1
  exact (Option.some.inj h1).symm

open Classical in
/-- All calls, to whatever depth. -/
noncomputable def vlim (T : Types) (F : Fns) : CallF := fun f a H => if h : ∃ r, Runs T F f a H r then some h.choose else none
theorem vlim_iff {F : Fns} {f : FuncId} {a : List V} {H : Heap} {r : V × Heap} : vlim T F f a H = some r ↔ Runs T F f a H r := by
  unfold vlim
  split
  · rename_i h
    have hc := h.choose_spec
    constructor
    · intro g; injection g with g; rw [← g]; exact hc
    · intro g; rw [hc.det g]
  · rename_i h
    exact ⟨fun g => (by cases g), fun g => absurd ⟨r, g⟩ h⟩

/-- All rounds. -/
def LRuns (step : Step) (σ : St) (r : Ex × St) : Prop := ∃ n, rounds step n σ = some r
theorem LRuns.det {step : Step} {σ : St} {r s : Ex × St} (h : LRuns step σ r) (g : LRuns step σ s) : r = s := by
  obtain ⟨k, h⟩ := h; obtain ⟨m, g⟩ := g
  have h1 := rounds_mono (Nat.le_max_left k m) h
  rw [rounds_mono (Nat.le_max_right k m) g] at h1
  exact (Option.some.inj h1).symm
open Classical in
noncomputable def lplim (step : Step) : Step := fun σ => if h : ∃ r, LRuns step σ r then some h.choose else none
theorem lplim_iff {step : Step} {σ : St} {r : Ex × St} : lplim step σ = some r ↔ LRuns step σ r := by
  unfold lplim
  split
  · rename_i h
    have hc := h.choose_spec
    constructor
    · intro g; injection g with g; rw [← g]; exact hc
    · intro g; rw [hc.det g]
  · rename_i h
    exact ⟨fun g => (by cases g), fun g => absurd ⟨r, g⟩ h⟩

/-- **What the limit tells, some depth tells.** -/
theorem runs_of_any {F : Fns} {f : FuncId} {a : List V} {H : Heap} {r : V × Heap} (h : vany T F (vlim T F) lplim f a H = some r) : Runs T F f a H r := by
  obtain ⟨k0, hk⟩ := ev_any (calls := fun k => vcall T F k) (lps := fun k s => rounds s k)
    (fun f a H r h => by
      obtain ⟨k, hk⟩ := vlim_iff.1 h
      exact ⟨k, fun m hm => vcall_mono hm hk⟩)
    (fun step steps hs σ r h => by
      obtain ⟨n, hn⟩ := lplim_iff.1 h
      obtain ⟨k0, hk⟩ := ev_rounds hs n σ r hn
      exact ⟨max k0 n, fun k hkk => hk k (by omega) k (by omega)⟩) h
  exact ⟨k0 + 1, hk k0 (Nat.le_refl _)⟩
theorem runs_of_lim {F : Fns} {f : FuncId} {a : List V} {H : Heap} {r : V × Heap} (h : vfun T F (vlim T F) lplim f a H = some r) : Runs T F f a H r := by
  refine runs_of_any ?_
  unfold vany
  cases hf : F f with
  | none => simp [vfun, hf] at h
  | some fi => exact h

end
end Go.Vm
end

section
/- V36: what the tree tells, V tells. -/
namespace Go.Vm
open Go

section
variable {T : Types} {sh : Nat → List TK} {S : Spec} {L : LSpec} {call : CallF} {cx : Cx} {ops : Array Oper} {fr : Nat} {o : Oper} {σ : St}

/-- What is told of calls is so. -/
def Good (call : CallF) (S : Spec) : Prop := ∀ f a H r, (S f a H).run = some r → call f a H = some r

theorem if_fail {α : Type} {c : Prop} [Decidable c] {x : Tr α} {r : α} (h : (if c then x else .fail).run = some r) : c ∧ x.run = some r := by
  split at h
  · rename_i hc; exact ⟨hc, h⟩
  · cases h

theorem eff_none {e : Eff} (h : eff T (fun _ _ _ => none) cx fr o σ = some e) : eff T call cx fr o σ = some e := by
  obtain ⟨k0, hk⟩ := ev_eff (calls := fun _ => call) (fun _ _ _ _ h => by cases h) h
  exact hk k0 (Nat.le_refl _)

theorem getD_some {α : Type} {l : List α} {k : Nat} (h : k < l.length) (d : α) : l[k]? = some (l.getD k d) := by
  rw [List.getD_eq_getElem?_getD, List.getElem?_eq_getElem h]; rfl

theorem goT_ok (hS : Good call S) {f : FuncId} {vs : List V} {ids : List Nat} {ps : List (Place × V)} {e : Eff} (h : (goT S σ f vs ids ps).run = some e) : callGo call σ f vs ids ps = some e := by
  unfold goT at h
  unfold callGo
  by_cases hp : (vs.all noPtr && ids.isEmpty) = true
  · rw [if_pos hp] at h ⊢
    obtain ⟨x, h1, h2⟩ := Tr.bind_some h
    rw [hS _ _ _ _ h1]
    obtain ⟨r, H1⟩ := x
    cases H1 with
    | nil =>
      simp only at h2 ⊢
      cases ps with
      | nil => simpa [Tr.run] using h2
      | cons p ps =>
        simp only [Tr.run] at h2
        cases ha : apart r <;> simpa [ha, Tr.run] using h2
    | cons b H1 => simpa [Tr.run] using h2
  · rw [if_neg hp] at h ⊢
    simp only at h ⊢
    obtain ⟨hcl, h⟩ := if_fail h
    rw [if_pos hcl]
    obtain ⟨x, h1, h2⟩ := Tr.bind_some h
    rw [hS _ _ _ _ h1]
    obtain ⟨hd, h2⟩ := if_fail h2
    simp only
    rw [if_pos hd]
    split at h2
    · rename_i hl; rw [if_pos hl]; simpa [Tr.run] using h2
    · rename_i hl; rw [if_neg hl]; simpa [Tr.run] using h2

theorem callT_ok (hS : Good call S) {f : V} {args : List V} {ps : List (Place × V)} {e : Eff} (h : (callT S σ f args ps).run = some e) : callAt call σ f args ps = some e := by
  unfold callT at h
  unfold callAt
  split at h
  · obtain ⟨hl, h⟩ := if_fail h
    simp only [hl, if_true]
    exact goT_ok hS h
  · exact goT_ok hS h
  · cases h

theorem ask_some {α : Type} {b : Bool} {x y : Tr α} {r : α} (h : (Tr.ask b x y).run = some r) : (b = true ∧ x.run = some r) ∨ (b = false ∧ y.run = some r) := by
  cases b
  · exact .inr ⟨rfl, h⟩
  · exact .inl ⟨rfl, h⟩

theorem updateT_ok {t : Nat} {m k x : Operand} {e : Eff} (h : (updateT T σ t m k x).run = some e) : updateAt T σ t m k x = some e := by
  unfold updateT at h
  unfold updateAt
  cases hk : kindOf T t with
  | none => simp only [hk] at h; cases h
  | some kk =>
    cases kk <;> simp only [hk] at h ⊢ <;> try (cases h; done)
    rename_i kt et
    cases hm : mapOf σ (opd σ.env m) with
    | none => simp only [hm] at h; cases h
    | some mm =>
      obtain ⟨id, ks, vs⟩ := mm
      cases hx : takeMap σ x with
      | none => simp only [hm, hx] at h; cases h
      | some vp =>
        obtain ⟨v, ps⟩ := vp
        simp only [hm, hx] at h ⊢
        cases h1 : T kt with
        | none => simp only [h1] at h; cases h
        | some ki =>
          cases h2 : T et with
          | none => simp only [h1, h2] at h; cases h
          | some ei =>
            simp only [h1, h2] at h ⊢
            obtain ⟨c1, h⟩ := Tr.must_some h
            obtain ⟨c2, h⟩ := Tr.must_some h
            obtain ⟨c3, h⟩ := Tr.must_some h
            obtain ⟨c4, h⟩ := if_fail h
            rw [if_pos ⟨c1, c2, c4.1, c3, c4.2⟩]
            rcases ask_some h with ⟨hb, h⟩ | ⟨hb, h⟩
            · obtain ⟨j, hj⟩ := Option.isSome_iff_exists.1 hb
              have h := (show some _ = some _ from h)
              rw [← h]
              simp only [mapPut, hj, Option.getD_some]
            · have hn : findK (opd σ.env k) ks = none := by simpa using hb
              have h := (show some _ = some _ from h)
              rw [← h]
              simp only [mapPut, hn]

theorem canon_all {v : V} {l : List TK} {i : TI} (hl : l.length = i.size) (hc : v.cells.length = i.size) (hf : fitP l 0 v = true) (ha : isAggV v = i.kind.isAgg) : asType i (canonP l 0 v) = some v := by
  have h := canonP_eq l 0 v hf
  rw [List.drop_zero, hl, ← hc, List.take_length] at h
  rw [← h]
  unfold asType
  rw [if_pos hc]
  cases hk : i.kind.isAgg <;> rw [hk] at ha <;> simp only [Bool.false_eq_true, if_false, if_true]
  · cases v <;> first | rfl | (simp [isAggV] at ha)
  · cases v <;> first | rfl | (simp [isAggV] at ha)

theorem lookupT_ok {t : Nat} {m k : Operand} {ok : Bool} {v : V} (h : (lookupT T sh σ t m k ok).run = some v) : lookupAt T σ t m k ok = some v := by
  unfold lookupT at h
  unfold lookupAt
  cases hk : kindOf T t with
  | none => simp only [hk] at h; cases h
  | some kk =>
    cases kk <;> simp only [hk] at h ⊢ <;> try (cases h; done)
    rename_i kt et
    cases h1 : T kt with
    | none => simp only [h1] at h; cases h
    | some ki =>
      cases h2 : T et with
      | none => simp only [h1, h2] at h; cases h
      | some ei =>
        simp only [h1, h2] at h ⊢
        cases hm : mapView σ (opd σ.env m) with
        | none => simp only [hm] at h; cases h
        | some mm =>
          obtain ⟨ks, vs⟩ := mm
          simp only [hm] at h ⊢
          obtain ⟨c1, h⟩ := Tr.must_some h
          obtain ⟨c2, h⟩ := Tr.must_some h
          rw [if_pos ⟨c1, c2⟩]
          rcases ask_some h with ⟨hb, h⟩ | ⟨hb, h⟩
          · obtain ⟨j, hj⟩ := Option.isSome_iff_exists.1 hb
            simp only [hj, Option.getD_some] at h ⊢
            split at h
            · rename_i hs
              simp only [Bool.and_eq_true, decide_eq_true_eq] at hs
              obtain ⟨d1, h⟩ := Tr.must_some h
              obtain ⟨d2, h⟩ := Tr.must_some h
              obtain ⟨d3, h⟩ := Tr.must_some h
              simp only [decide_eq_true_eq, Bool.and_eq_true, beq_iff_eq] at d1 d2 d3
              rw [canon_all hs.1 d2.1 d2.2 d3] at h
              obtain ⟨x, g1, g2⟩ := Tr.bind_some h
              rw [Tr.run_ofO] at g1
              injection g1 with g1; subst g1
              rw [getD_some d1 .undef]
              simpa [Tr.run] using g2
            · obtain ⟨x, g1, g2⟩ := Tr.bind_some h
              rw [Tr.run_ofO] at g1
              rw [g1]
              simpa [Tr.run] using g2
          · have hn : findK (opd σ.env k) ks = none := by simpa using hb
            simp only [hn]
            simpa [Tr.run] using h

theorem indexT_ok {i : TI} {x : Operand} {k : Int} {v : V} (h : (indexT T sh i σ x k).run = some v) : indexAt T i σ x k = some v := by
  unfold indexT at h
  unfold indexAt
  cases hk : i.kind <;> simp only [hk] at h ⊢ <;> try (cases h; done)
  · rename_i e
    cases he : T e <;> simp only [he] at h ⊢
    · cases h
    rename_i ei
    cases hx : opd σ.env x <;> simp only [hx] at h ⊢ <;> try (cases h; done)
    · rename_i n xs
      obtain ⟨hs, h⟩ := if_fail h
      obtain ⟨h1, h⟩ := Tr.must_some h
      obtain ⟨h2, h⟩ := Tr.must_some h
      obtain ⟨h3, h⟩ := Tr.must_some h
      simp only [decide_eq_true_eq, Bool.and_eq_true, beq_iff_eq] at h1 h2 h3
      have hc := canonP_eq _ 0 _ h3.2
      rw [List.drop_zero, hs, ← h3.1, List.take_length] at hc
      rw [if_pos ⟨h1, h2, h3.1⟩, hc]
      simpa [Tr.run] using h
    · cases ht : tmpOf x <;> simp only [ht] at h ⊢
      · cases h
      obtain ⟨hs, h⟩ := if_fail h
      obtain ⟨h1, h⟩ := Tr.must_some h
      obtain ⟨h2, h⟩ := Tr.must_some h
      simp only [decide_eq_true_eq] at h1 h2
      rw [if_pos ⟨h1, h2, hs⟩]
      simpa [Tr.run] using h
    · rename_i p
      cases hl : look σ p <;> simp only [hl] at h ⊢ <;> try (cases h; done)
      obtain ⟨hs, h⟩ := if_fail h
      obtain ⟨h1, h⟩ := Tr.must_some h
      obtain ⟨h2, h⟩ := Tr.must_some h
      simp only [decide_eq_true_eq] at h1 h2
      rw [if_pos ⟨h1, h2, hs⟩]
      simpa [Tr.run] using h
    · rename_i q id
      cases q <;> simp only at h ⊢ <;> try (cases h; done)
      obtain ⟨h1, h⟩ := Tr.must_some h
      obtain ⟨h2, h⟩ := Tr.must_some h
      simp only [decide_eq_true_eq] at h1 h2
      rw [if_pos ⟨h1, h2⟩]
      simpa [Tr.run] using h
  · rename_i n e
    cases he : T e <;> simp only [he] at h ⊢
    · cases h
    obtain ⟨h1, h⟩ := Tr.must_some h
    obtain ⟨h2, h⟩ := Tr.must_some h
    simp only [decide_eq_true_eq] at h1 h2
    rw [if_pos ⟨h1, h2⟩]
    cases hx : opd σ.env x <;> simp only [hx] at h ⊢ <;> first | (cases h; done) | simpa [Tr.run] using h

theorem loadT_ok {t : Nat} {i : TI} {p v : V} (h : (loadT sh t i σ p).run = some v) : loadAt i σ p = some v := by
  unfold loadT at h
  split at h
  · rename_i q k off
    unfold loadAt
    cases hl : look σ q <;> simp only [hl] at h ⊢ <;> try (cases h; done)
    rename_i sz n xs
    obtain ⟨hs, h⟩ := if_fail h
    obtain ⟨h1, h⟩ := Tr.must_some h
    obtain ⟨h2, h⟩ := Tr.must_some h
    simp only [decide_eq_true_eq] at h1
    rw [getD_some h1 .undef]
    simp only
    rw [← hs, canonP_eq _ _ _ h2]
    rwa [Tr.run_ofO] at h
  · rwa [Tr.run_ofO] at h

theorem storeT_ok {i : TI} {p : V} {x : Operand} {e : Eff} (h : (storeT i σ p x).run = some e) : storeAt i σ p x = some e := by
  unfold storeT at h
  split at h
  · rename_i q k off
    unfold storeAt
    simp only
    split at h
    · rename_i v sz n xs h1 h2
      simp only [h1, h2]
      obtain ⟨hs, h⟩ := if_fail h
      obtain ⟨h3, h⟩ := Tr.must_some h
      obtain ⟨h4, h⟩ := Tr.must_some h
      simp only [decide_eq_true_eq] at h3 h4
      rw [getD_some h3 .undef]
      simp only
      rw [if_pos ⟨hs, h4⟩]
      simpa [Tr.run] using h
    · cases h
  · rwa [Tr.run_ofO] at h

theorem appendT_ok {c : Call} {e : Eff} (h : (appendT T σ c).run = some e) : appendAt T σ c = some e := by
  unfold appendT at h
  unfold appendAt
  split at h <;> try (cases h; done)
  rename_i s x t tx ha ht
  simp only [ha, ht]
  split at h <;> try (cases h; done)
  rename_i el el' m ys k1 k2 k3
  simp only [k1, k2, k3]
  cases hel : T el <;> simp only [hel] at h ⊢
  · cases h
  rename_i ei
  cases hb : base ei.size σ s <;> simp only [hb] at h ⊢
  · cases h
  obtain ⟨hs, h⟩ := if_fail h
  obtain ⟨h1, h⟩ := Tr.must_some h
  obtain ⟨h2, h⟩ := Tr.must_some h
  obtain ⟨h3, h⟩ := Tr.must_some h
  simp only [decide_eq_true_eq] at h2
  rw [if_pos ⟨h1, hs, h2, h3⟩]
  simpa [Tr.run] using h

theorem deleteT_ok {sz : Nat} {args : List Operand} {e : Eff} (h : (deleteT sz σ args).run = some e) : deleteAt sz σ args = some e := by
  unfold deleteT at h
  unfold deleteAt
  split at h <;> try (cases h; done)
  split at h <;> try (cases h; done)
  rename_i n xs ps i' j' k1 k2 k3
  simp only [k1, k2, k3]
  obtain ⟨h1, h⟩ := Tr.must_some h
  obtain ⟨h2, h⟩ := Tr.must_some h
  obtain ⟨h3, h⟩ := Tr.must_some h
  obtain ⟨h4, h⟩ := Tr.must_some h
  simp only [decide_eq_true_eq] at h1 h2 h3 h4
  rw [if_pos ⟨h1, h2, h3, h4⟩]
  simpa [Tr.run] using h

theorem sliceT_ok {t : Nat} {x : Operand} {lo hi mx : Option Operand} {e : Eff} (h : (sliceT T σ t x lo hi mx).run = some e) : sliceAt T σ t x lo hi mx = some e := by
  unfold sliceT at h
  unfold sliceAt
  split at h <;> try (cases h; done)
  rename_i el k1
  simp only [k1]
  split at h <;> try (cases h; done)
  rename_i n xs k2
  simp only [k2]
  split at h <;> try (cases h; done)
  rename_i ei l u k3 k4 k5
  simp only [k3, k4, k5]
  obtain ⟨h1, h⟩ := Tr.must_some h
  obtain ⟨h2, h⟩ := Tr.must_some h
  obtain ⟨h3, h⟩ := Tr.must_some h
  obtain ⟨h4, h⟩ := Tr.must_some h
  simp only [decide_eq_true_eq] at h1 h2 h3
  rw [if_pos ⟨h1, h2, h3, h4⟩]
  cases mx with
  | none => simpa [Tr.run] using h
  | some m =>
    obtain ⟨h5, h⟩ := Tr.must_some h
    simp only [decide_eq_true_eq] at h5
    simp only
    rw [if_pos h5]
    simpa [Tr.run] using h

theorem makeT_ok {t : Nat} {l c : Operand} {e : Eff} (ho : o.op = .makeSlice t l c) (h : (makeT T t σ l c).run = some e) : eff T call cx fr o σ = some e := by
  unfold makeT at h
  simp only [eff, ho]
  split at h <;> try (cases h; done)
  rename_i el k l' k' c' k1 k2 k3
  simp only [k1, k2, k3]
  cases hel : T el <;> simp only [hel] at h ⊢
  · cases h
  obtain ⟨hs, h⟩ := if_fail h
  obtain ⟨h1, h⟩ := Tr.must_some h
  obtain ⟨h2, h⟩ := Tr.must_some h
  obtain ⟨h3, h⟩ := Tr.must_some h
  obtain ⟨h4, h⟩ := Tr.must_some h
  simp only [decide_eq_true_eq] at h1 h2 h4
  rw [if_pos ⟨h1, h2, h3, h4, hs⟩]
  simpa [Tr.run] using h

theorem binT_ok {op : BinOp} {i : TI} {one : Bool} {x y v : V} (h : (binT op i one σ x y).run = some v) : vbinop op i one σ x y = some v := by
  unfold binT at h
  split at h
  · rename_i k a k' b hk
    obtain ⟨hs, h⟩ := if_fail h
    obtain ⟨h1, h⟩ := Tr.must_some h
    simp only [Bool.not_eq_true', decide_eq_false_iff_not] at h1
    simp only [vbinop, hk, vbin, if_pos hs, if_neg h1]
    simpa [Tr.run] using h
  · rename_i k a k' b hk
    obtain ⟨hs, h⟩ := if_fail h
    obtain ⟨h1, h⟩ := Tr.must_some h
    simp only [Bool.not_eq_true', decide_eq_false_iff_not] at h1
    simp only [vbinop, hk, vbin, if_pos hs, if_neg h1]
    simpa [Tr.run] using h
  · rename_i k a k' b hk
    obtain ⟨h1, h⟩ := Tr.must_some h
    simp only [Bool.not_eq_true', decide_eq_false_iff_not] at h1
    simp only [vbinop, hk, vbin, if_neg h1]
    simpa [Tr.run] using h
  · rename_i k a k' b hk
    obtain ⟨h1, h⟩ := Tr.must_some h
    simp only [Bool.not_eq_true', decide_eq_false_iff_not] at h1
    simp only [vbinop, hk, vbin, if_neg h1]
    simpa [Tr.run] using h
  · rwa [Tr.run_ofO] at h

theorem ret_some {α : Type} {a r : α} (h : (Tr.ret a).run = some r) : a = r := by simpa [Tr.run] using h

theorem effT_ok (hS : Good call S) {e : Eff} {l : List Operand} (h : (effT T sh S cx fr o σ).run = some (e, l)) : eff T call cx fr o σ = some e ∧ rd σ.env o = l := by
  have dflt : rd σ.env o = o.op.operands.toList → ((Tr.ofO (eff T (fun _ _ _ => none) cx fr o σ)).bind fun e => Tr.ret (e, o.op.operands.toList)).run = some (e, l) → eff T call cx fr o σ = some e ∧ rd σ.env o = l := by
    intro hr h
    obtain ⟨e', h1, h2⟩ := Tr.bind_some h
    rw [Tr.run_ofO] at h1
    have h2 := ret_some h2
    injection h2 with e1 e2; subst e1; subst e2
    exact ⟨eff_none h1, hr⟩
  cases ho : o.op <;> simp only [effT, ho] at h
  case pick c a b =>
    cases hc : opd σ.env c <;> simp only [hc] at h <;> try (cases h; done)
    rename_i t
    simp only [eff, rd, ho, hc]
    cases t
    · simp only [Tr.run, Bool.false_eq_true, if_false] at h ⊢
      cases ha : opd σ.env b <;> simp only [ha] at h ⊢ <;> first | (cases h; done) | (have h := ret_some h; injection h with e1 e2; subst e1; subst e2; exact ⟨rfl, rfl⟩)
    · simp only [Tr.run, if_true] at h ⊢
      cases ha : opd σ.env a <;> simp only [ha] at h ⊢ <;> first | (cases h; done) | (have h := ret_some h; injection h with e1 e2; subst e1; subst e2; exact ⟨rfl, rfl⟩)
  case load t p =>
    cases hT : T t <;> simp only [hT] at h
    · cases h
    obtain ⟨v, h1, h2⟩ := Tr.bind_some h
    have h2 := ret_some h2
    injection h2 with e1 e2; subst e1; subst e2
    simp only [eff, rd, ho, hT]
    exact ⟨by rw [loadT_ok h1]; rfl, trivial⟩
  case store t p x =>
    cases hT : T t <;> simp only [hT] at h
    · cases h
    obtain ⟨e', h1, h2⟩ := Tr.bind_some h
    simp only [eff, rd, ho, hT]
    rw [storeT_ok h1]
    simp only
    cases hm : e'.mem <;> simp only [hm] at h2 ⊢
    case set id off cs =>
      obtain ⟨h3, h2⟩ := if_fail h2
      have h2 := ret_some h2
      injection h2 with e1 e2; subst e1; subst e2
      exact ⟨by rw [if_pos h3], rfl⟩
    all_goals
      have h2 := ret_some h2
      injection h2 with e1 e2; subst e1; subst e2
      exact ⟨rfl, rfl⟩
  case binOp op t x y g =>
    cases hT : T t <;> simp only [hT] at h
    · cases h
    obtain ⟨v, h1, h2⟩ := Tr.bind_some h
    have h2 := ret_some h2
    injection h2 with e1 e2; subst e1; subst e2
    simp only [eff, rd, ho, hT]
    exact ⟨by rw [binT_ok h1]; rfl, trivial⟩
  case slice t x lo hi mx =>
    obtain ⟨v, h1, h2⟩ := Tr.bind_some h
    have h2 := ret_some h2
    injection h2 with e1 e2; subst e1; subst e2
    simp only [eff, rd, ho]
    exact ⟨sliceT_ok h1, trivial⟩
  case indexAddr t x k =>
    split at h <;> try (cases h; done)
    rename_i i kk k' hT hk
    obtain ⟨v, h1, h2⟩ := Tr.bind_some h
    have h2 := ret_some h2
    injection h2 with e1 e2; subst e1; subst e2
    simp only [eff, rd, ho, hT, hk]
    exact ⟨by rw [indexT_ok h1]; rfl, trivial⟩
  case makeSlice t l c =>
    obtain ⟨v, h1, h2⟩ := Tr.bind_some h
    have h2 := ret_some h2
    injection h2 with e1 e2; subst e1; subst e2
    exact ⟨makeT_ok ho h1, by simp only [rd, ho]⟩
  case insert t m k x =>
    obtain ⟨v, h1, h2⟩ := Tr.bind_some h
    have h2 := ret_some h2
    injection h2 with e1 e2; subst e1; subst e2
    refine ⟨?_, by simp only [rd, ho]⟩
    simp only [eff, ho]
    exact updateT_ok h1
  case mapUpdate t m k x =>
    obtain ⟨v, h1, h2⟩ := Tr.bind_some h
    have h2 := ret_some h2
    injection h2 with e1 e2; subst e1; subst e2
    refine ⟨?_, by simp only [rd, ho]⟩
    simp only [eff, ho]
    exact updateT_ok h1
  case lookup t m k ok =>
    obtain ⟨v, h1, h2⟩ := Tr.bind_some h
    have h2 := ret_some h2
    injection h2 with e1 e2; subst e1; subst e2
    refine ⟨?_, by simp only [rd, ho]⟩
    simp only [eff, ho, lookupT_ok h1, Option.map_some]
  case call c =>
    have hrd : rd σ.env o = o.op.operands.toList := by simp only [rd, ho]
    cases hcal : c.callee with
    | value f =>
      simp only [hcal] at h
      cases ht : toldOf cx (opd σ.env f) with
      | some sz =>
        simp only [ht] at h
        obtain ⟨v, h1, h2⟩ := Tr.bind_some h
        have h2 := ret_some h2
        injection h2 with e1 e2; subst e1; subst e2
        refine ⟨?_, by simp only [rd, ho]⟩
        simp only [eff, ho, hcal, ht]
        exact deleteT_ok h1
      | none =>
      simp only [ht] at h
      cases hv : views σ c.args.toList with
      | none => simp only [hv] at h; cases h
      | some vp =>
        obtain ⟨vs, ps⟩ := vp
        simp only [hv] at h
        obtain ⟨v, h1, h2⟩ := Tr.bind_some h
        have h2 := ret_some h2
        injection h2 with e1 e2; subst e1; subst e2
        refine ⟨?_, by simp only [rd, ho]⟩
        simp only [eff, ho, hcal, ht, hv]
        exact callT_ok hS h1
    | builtin b =>
      simp only [hcal] at h
      cases b
      case append =>
        obtain ⟨v, h1, h2⟩ := Tr.bind_some h
        have h2 := ret_some h2
        injection h2 with e1 e2; subst e1; subst e2
        refine ⟨?_, by simp only [rd, ho]⟩
        simp only [eff, ho, hcal, builtinAt]
        exact appendT_ok h1
      all_goals exact dflt hrd (by rw [ho]; exact h)
    | invoke x m =>
      simp only [hcal] at h
      exact dflt hrd (by rw [ho]; exact h)
  all_goals exact dflt (by simp only [rd, ho]) (by rw [ho]; exact h)

theorem effG1_ok (hS : Good call S) {e : Eff} {l : List Operand} (h : (effG1 T sh S cx fr o σ).run = some (e, l)) : eff T call cx fr o σ = some e ∧ rd σ.env o = l ∧ (match o.dst with | some d => e.val.refsTo (.slot d) | none => false) = false := by
  unfold effG1 at h
  obtain ⟨⟨e', l'⟩, h1, h2⟩ := Tr.bind_some h
  cases hd : o.dst with
  | none =>
    simp only [hd, Bool.false_eq_true, if_false] at h2
    have h2 := ret_some h2
    injection h2 with e1 e2; subst e1; subst e2
    obtain ⟨q1, q2⟩ := effT_ok hS h1
    exact ⟨q1, q2, rfl⟩
  | some d =>
    simp only [hd] at h2
    cases hr : e'.val.refsTo (.slot d) <;> simp only [hr, Bool.false_eq_true, if_false, if_true] at h2
    · have h2 := ret_some h2
      injection h2 with e1 e2; subst e1; subst e2
      obtain ⟨q1, q2⟩ := effT_ok hS h1
      exact ⟨q1, q2, hr⟩
    · cases h2

theorem effGT_ok (hS : Good call S) {e : Eff} {l : List Operand} (h : (effGT T sh S cx ops fr o σ).run = some (e, l)) : effG T call cx ops fr o σ = some e ∧ rdG ops σ.env o = l := by
  have run : wants ops σ.env o = some true → (effG1 T sh S cx fr o σ).run = some (e, l) → effG T call cx ops fr o σ = some e ∧ rdG ops σ.env o = l := by
    intro hw h
    obtain ⟨h1, h2, h3⟩ := effG1_ok hS h
    unfold effG rdG
    simp only [hw, h1, h2, and_true]
    cases hd : o.dst with
    | none => simp
    | some d => simp only [hd] at h3; simp [h3]
  have skip : wants ops σ.env o = some false → (Tr.ret (({ val := .tup [] } : Eff), ([] : List Operand))).run = some (e, l) → effG T call cx ops fr o σ = some e ∧ rdG ops σ.env o = l := by
    intro hw h
    have h := ret_some h
    injection h with e1 e2; subst e1; subst e2
    unfold effG rdG
    simp only [hw, and_self]
  unfold effGT at h
  cases hg : o.guard with
  | none => simp only [hg] at h; exact run (by simp [wants, hg]) h
  | some jw =>
    obtain ⟨j, want⟩ := jw
    simp only [hg] at h
    cases ht : (ops[j]?).bind (·.dst) with
    | none => simp only [ht] at h; cases h
    | some t =>
      simp only [ht] at h
      cases hv : get σ.env t <;> simp only [hv] at h <;> try (cases h; done)
      case tup us =>
        cases us with
        | nil => exact skip (by simp [wants, hg, ht, hv]) h
        | cons u us => cases h
      rename_i b
      have hw : wants ops σ.env o = some (b == want) := by simp [wants, hg, ht, hv]
      cases want <;> cases b <;> simp only [Tr.run] at h
      · exact run hw h
      · exact skip hw h
      · exact skip hw h
      · exact run hw h

theorem vopsT_ok (hS : Good call S) : ∀ (l : List Oper) (fr : Nat) (σ τ : St), (vopsT T sh S cx ops fr l σ).run = some τ → vops T call cx ops fr l σ = some τ
  | [], fr, σ, τ, h => by simpa [vopsT, vops, Tr.run] using h
  | o :: l, fr, σ, τ, h => by
    simp only [vopsT] at h
    obtain ⟨⟨e, rl⟩, h1, h2⟩ := Tr.bind_some h
    simp only [vops, vop, (effGT_ok hS h1).1, Option.map_some, Option.bind_some]
    exact vopsT_ok hS l _ _ _ h2

theorem drawT_ok (hS : Good call S) : ∀ (l : List Oper) (fr : Nat) (σ : St) (r : St × List (List Res × List Res)), (drawRunT T sh S cx ops fr l σ).run = some r → drawRun T call cx ops fr l σ = some r
  | [], fr, σ, r, h => by simpa [drawRunT, drawRun, Tr.run] using h
  | o :: l, fr, σ, r, h => by
    simp only [drawRunT] at h
    obtain ⟨⟨e, rl⟩, h1, h2⟩ := Tr.bind_some h
    obtain ⟨g1, g2⟩ := effGT_ok hS h1
    have hrd : readsL ops fr o σ.env e rl = reads ops fr o σ.env e := by unfold readsL reads; rw [g2]; rfl
    simp only [drawRun, g1]
    simp only [hrd] at h2
    rw [g2]
    by_cases hb : (tameB e && calm o e && rl.all (seen σ) && (refRes e.val).all (fun r => (reads ops fr o σ.env e).contains r)) = true
    · rw [if_pos hb] at h2 ⊢
      obtain ⟨y, h3, h4⟩ := Tr.bind_some h2
      rw [drawT_ok hS l _ _ _ h3]
      have h4 := ret_some h4
      simp [← h4]
    · rw [if_neg hb] at h2 ⊢
      obtain ⟨hw, h2⟩ := if_fail h2
      rw [if_pos hw]
      obtain ⟨y, h3, h4⟩ := Tr.bind_some h2
      rw [drawT_ok hS l _ _ _ h3]
      have h4 := ret_some h4
      simp [← h4]

theorem regionT_ok (hS : Good call S) {id : Nat} {draw : Bool} {τ : St} (h : (regionT T sh S cx id ops draw σ).run = some τ) : vregion T call cx id ops draw σ = some τ := by
  unfold regionT at h
  unfold vregion
  cases draw with
  | false =>
    simp only at h ⊢
    obtain ⟨x, h1, h2⟩ := Tr.bind_some h
    rw [vopsT_ok hS _ _ _ _ h1]
    have h2 := ret_some h2
    simp [h2]
  | true =>
    simp only at h ⊢
    obtain ⟨x, h1, h2⟩ := Tr.bind_some h
    rw [drawT_ok hS _ _ _ _ h1]
    obtain ⟨h3, h2⟩ := if_fail h2
    have h2 := ret_some h2
    simp only [if_pos h3, h2]

/-- A loop's round, in V. -/
def vstep (T : Types) (call : CallF) (lp : Step → Step) (cx : Cx) (n : Nat) (b : Code) : Step := fun τ => match vcode T call lp cx b τ with
  | some (.normal, τ') => some (.normal, back n (prune (cx.head (firstRegion b)) τ'))
  | r => r

/-- What is told of the loops in a code is so. -/
def LGood (T : Types) (call : CallF) (lp : Step → Step) (cx : Cx) (L : LSpec) (c : Code) : Prop := ∀ b ∈ loopsOf c, ∀ σ r, (L (firstRegion b) σ).run = some r → lp (vstep T call lp cx σ.heap.length b) σ = some r

theorem prune_heap (k : Option (List Nat)) (σ : St) : (prune k σ).heap = σ.heap := by cases k <;> rfl

theorem codeT_ok {lp : Step → Step} (hS : Good call S) : ∀ (c : Code) (σ : St) (r : Ex × St), LGood T call lp cx L c → (codeT T sh S L cx c σ).run = some r → vcode T call lp cx c σ = some r
  | .skip, σ, r, hL, h => by simpa [codeT, vcode, Tr.run] using h
  | .region id ops draw, σ, r, hL, h => by
    simp only [codeT] at h
    obtain ⟨x, h1, h2⟩ := Tr.bind_some h
    simp only [vcode, regionT_ok hS h1]
    simpa [Tr.run] using h2
  | .seq a b, σ, r, hL, h => by
    simp only [codeT] at h
    obtain ⟨⟨ex, σ1⟩, h1, h2⟩ := Tr.bind_some h
    have ha := codeT_ok hS a σ _ (fun b hb => hL b (by simp [loopsOf, hb])) h1
    simp only [vcode, ha]
    cases ex with
    | normal => exact codeT_ok hS b _ _ (fun b hb => hL b (by simp [loopsOf, hb])) h2
    | exit i => simpa [Tr.run] using h2
    | ret => simpa [Tr.run] using h2
  | .cond c a b, σ, r, hL, h => by
    simp only [codeT] at h
    simp only [vcode]
    cases hv : opd σ.env c <;> simp only [hv] at h ⊢ <;> try (cases h; done)
    rename_i t
    cases t
    · simp only [Tr.run, Bool.false_eq_true, if_false] at h ⊢
      exact codeT_ok hS b σ r (fun b hb => hL b (by simp [loopsOf, hb])) h
    · simp only [Tr.run, if_true] at h ⊢
      exact codeT_ok hS a σ r (fun b hb => hL b (by simp [loopsOf, hb])) h
  | .block id b, σ, r, hL, h => by
    simp only [codeT] at h
    obtain ⟨⟨ex, σ1⟩, h1, h2⟩ := Tr.bind_some h
    have ha := codeT_ok hS b σ _ (fun b hb => hL b (by simp [loopsOf, hb])) h1
    simp only [vcode, ha]
    cases ex with
    | normal => simpa [Tr.run] using h2
    | exit i =>
      simp only at h2 ⊢
      split at h2 <;> rename_i hi
      · rw [if_pos hi]; simpa [Tr.run] using h2
      · rw [if_neg hi]; simpa [Tr.run] using h2
    | ret => simpa [Tr.run] using h2
  | .exit id, σ, r, hL, h => by simpa [codeT, vcode, Tr.run] using h
  | .ret, σ, r, hL, h => by simpa [codeT, vcode, Tr.run] using h
  | .loop b, σ, r, hL, h => by
    simp only [codeT] at h
    have := hL b (by simp [loopsOf]) _ _ h
    rw [prune_heap] at this
    exact this
  | .rangeFunc g ps asg body, σ, r, hL, h => by
    simp only [codeT] at h
    simp only [vcode]
    split at h
    · rename_i f first captured hr hg
      obtain ⟨hcl, h⟩ := if_fail h
      obtain ⟨x, h1, h2⟩ := Tr.bind_some h
      rw [Tr.run_ofO] at h2
      simp only [hr, hg]
      rw [if_pos hcl, hS _ _ _ _ h1]
      exact h2
    · cases h
  | .scope x, σ, r, hL, h => by
    simp only [codeT] at h
    simp only [vcode]
    exact codeT_ok hS x σ r (fun b hb => hL b (by simpa [loopsOf] using hb)) h
  | .label _, σ, r, hL, h => by simpa [codeT, vcode, Tr.run] using h
  | .goto _, σ, r, hL, h => by cases h
  | .refuse _, σ, r, hL, h => by cases h

theorem roundT_ok {lp : Step → Step} (hS : Good call S) {n : Nat} {b : Code} {τ : St} {r : Ex × St} (hL : LGood T call lp cx L b) (h : (roundT T sh S L cx n b τ).run = some r) : vstep T call lp cx n b τ = some r := by
  unfold roundT at h
  obtain ⟨⟨ex, σ1⟩, h1, h2⟩ := Tr.bind_some h
  unfold vstep
  rw [codeT_ok hS b τ _ hL h1]
  cases ex <;> simpa [Tr.run] using h2

theorem LRuns.step {step : Step} {σ τ : St} {r : Ex × St} (h : step σ = some (.normal, τ)) (g : LRuns step τ r) : LRuns step σ r := by
  obtain ⟨n, hn⟩ := g
  exact ⟨n + 1, by simp only [rounds, h]; exact hn⟩
theorem LRuns.stop {step : Step} {σ τ : St} {ex : Ex} (h : step σ = some (ex, τ)) (hx : ex ≠ .normal) : LRuns step σ (ex, τ) :=
  ⟨1, by cases ex <;> simp_all [rounds]⟩

theorem unrollT_ok {lp : Step → Step} (hS : Good call S) {n : Nat} {b : Code} (hL : LGood T call lp cx L b) : ∀ (m : Nat) (τ : St) (r : Ex × St), (unrollT T sh S L cx b n m τ).run = some r → LRuns (vstep T call lp cx n b) τ r
  | 0, τ, r, h => by cases h
  | m + 1, τ, r, h => by
    simp only [unrollT] at h
    obtain ⟨⟨ex, σ1⟩, h1, h2⟩ := Tr.bind_some h
    have h3 := roundT_ok hS hL h1
    cases ex with
    | normal => exact LRuns.step h3 (unrollT_ok hS hL m _ _ h2)
    | exit i =>
      have h2 := ret_some h2; subst h2
      exact LRuns.stop h3 (by simp)
    | ret =>
      have h2 := ret_some h2; subst h2
      exact LRuns.stop h3 (by simp)

theorem funT_ok {F : Fns} {f : FuncId} {fi : FI} {a : List V} {H : Heap} {r : V × Heap} (hS : Good (vlim T F) S) (hf : F f = some fi) (hL : LGood T (vlim T F) lplim fi.cx L fi.body)
    (h : (funT T sh S L fi a H).run = some r) : Runs T F f a H r := by
  refine runs_of_lim ?_
  unfold funT at h
  obtain ⟨⟨ex, σ1⟩, h1, h2⟩ := Tr.bind_some h
  unfold vfun
  simp only [hf]
  rw [codeT_ok hS fi.body _ _ hL h1]
  cases ex with
  | normal => rwa [Tr.run_ofO] at h2
  | ret => rwa [Tr.run_ofO] at h2
  | exit i => cases h2

theorem yldT_ok {F : Fns} (hF : ∀ id, F (yB + id) = none) {id : Nat} {a : List V} {H : Heap} {r : V × Heap} (hS : Good (vlim T F) S) (hL : ∀ cx c, LGood T (vlim T F) lplim cx L c)
    (h : (yldT T sh S L F id a H).run = some r) : Runs T F (yB + id) a H r := by
  refine runs_of_any ?_
  unfold vany
  rw [hF]
  simp only
  rw [if_pos (by rw [Nat.ble_eq]; exact Nat.le_add_right _ _), Nat.add_sub_cancel_left]
  unfold yldT at h
  unfold vround
  split at h
  · rename_i ts vs ps asg body cx hb
    split at h
    · rename_i fi hfi
      obtain ⟨hc, h⟩ := if_fail h
      simp only [hb, hfi]
      rw [if_pos hc]
      obtain ⟨⟨ex, σ1⟩, h1, h⟩ := Tr.bind_some h
      rw [codeT_ok hS asg _ _ (hL _ _) h1]
      cases ex with
      | normal =>
        simp only at h ⊢
        split at h
        · rename_i ts1 vs1 ps1 asg1 body1 cx1 hb1
          obtain ⟨⟨ex, σ2⟩, h2, h⟩ := Tr.bind_some h
          simp only [hb1]
          rw [codeT_ok hS body _ _ (hL _ _) h2]
          simp only at h ⊢
          split at h
          · rename_i hb2
            simp only [hb2]
            cases ex <;> simpa [Tr.run] using h
          · cases h
        · cases h
      | exit i => cases h
      | ret => cases h
    · cases h
  · cases h

/-- Told of no call. -/
def noSpec : Spec := fun _ _ _ => .fail
theorem Good.no : Good call noSpec := fun _ _ _ _ h => by cases h
/-- Told of one function more. -/
def Spec.add (S : Spec) (f : FuncId) (g : List V → Heap → Tr (V × Heap)) : Spec := fun f' a H => match Nat.beq f' f with
  | true => g a H
  | false => S f' a H
theorem Good.add {F : Fns} (hS : Good (vlim T F) S) {f : FuncId} {g : List V → Heap → Tr (V × Heap)} (h : ∀ a H r, (g a H).run = some r → Runs T F f a H r) : Good (vlim T F) (S.add f g) := by
  intro f' a H r hr
  unfold Spec.add at hr
  cases hb : Nat.beq f' f <;> simp only [hb] at hr
  · exact hS _ _ _ _ hr
  · have := Nat.eq_of_beq_eq_true hb; subst this
    exact vlim_iff.2 (h _ _ _ hr)
/-- Told of rounds, too. -/
def Spec.yields (S : Spec) (g : Nat → List V → Heap → Tr (V × Heap)) : Spec := fun f a H => match Nat.ble yB f with
  | true => g (f - yB) a H
  | false => S f a H
def noLoop : LSpec := fun _ _ => .fail
theorem LGood.no {lp : Step → Step} {c : Code} : LGood T call lp cx noLoop c := fun _ _ _ _ h => by cases h
theorem Good.yields {F : Fns} (hS : Good (vlim T F) S) (hF : ∀ id, F (yB + id) = none) : Good (vlim T F) (S.yields (yldT T sh S noLoop F)) := by
  intro f a H r hr
  unfold Spec.yields at hr
  cases hb : Nat.ble yB f <;> simp only [hb] at hr
  · exact hS _ _ _ _ hr
  · rw [Nat.ble_eq] at hb
    have := yldT_ok hF hS (fun _ _ => LGood.no) hr
    rw [Nat.add_sub_cancel' hb] at this
    exact vlim_iff.2 this
theorem LGood.none {lp : Step → Step} {c : Code} (h : loopsOf c = []) : LGood T call lp cx L c := fun b hb => by rw [h] at hb; cases hb
theorem LGood.of_list {lp : Step → Step} {c : Code} {l : List Code} (h : loopsOf c = l) (hl : ∀ b ∈ l, ∀ σ r, (L (firstRegion b) σ).run = some r → lp (vstep T call lp cx σ.heap.length b) σ = some r) : LGood T call lp cx L c := fun b hb => hl b (h ▸ hb)

/-- Loops that are told by so many of their own rounds. -/
def unrolled (T : Types) (sh : Nat → List TK) (S : Spec) (cx : Cx) (m : Nat) (l : List Code) : Nat → LSpec
  | 0 => fun _ _ => .fail
  | d + 1 => fun id σ => match l.find? (fun b => Nat.beq (firstRegion b) id) with
    | some b => unrollT T sh S (unrolled T sh S cx m l d) cx b σ.heap.length m σ
    | none => .fail
theorem loopsOf_sub : ∀ (c : Code) {b : Code}, b ∈ loopsOf c → ∀ x ∈ loopsOf b, x ∈ loopsOf c
  | .seq p q, b, hb, x, hx => by
    simp only [loopsOf, List.mem_append] at hb ⊢
    rcases hb with hb | hb
    · exact .inl (loopsOf_sub p hb x hx)
    · exact .inr (loopsOf_sub q hb x hx)
  | .cond _ p q, b, hb, x, hx => by
    simp only [loopsOf, List.mem_append] at hb ⊢
    rcases hb with hb | hb
    · exact .inl (loopsOf_sub p hb x hx)
    · exact .inr (loopsOf_sub q hb x hx)
  | .block _ p, b, hb, x, hx => loopsOf_sub p (by simpa [loopsOf] using hb) x hx
  | .loop p, b, hb, x, hx => by
    simp only [loopsOf, List.mem_cons] at hb ⊢
    rcases hb with rfl | hb
    · exact .inr hx
    · exact .inr (loopsOf_sub p hb x hx)
  | .skip, b, hb, x, hx => by simp [loopsOf] at hb
  | .region _ _ _, b, hb, x, hx => by simp [loopsOf] at hb
  | .exit _, b, hb, x, hx => by simp [loopsOf] at hb
  | .ret, b, hb, x, hx => by simp [loopsOf] at hb
  | .rangeFunc _ _ _ _, b, hb, x, hx => by simp [loopsOf] at hb
  | .scope p, b, hb, x, hx => by
    simp only [loopsOf] at hb ⊢
    exact loopsOf_sub p hb x hx
  | .label _, b, hb, x, hx => by simp [loopsOf] at hb
  | .goto _, b, hb, x, hx => by simp [loopsOf] at hb
  | .refuse _, b, hb, x, hx => by simp [loopsOf] at hb

/-- Loops of a code are told apart by their first regions. -/
def apartL : List Code → Bool
  | [] => true
  | b :: l => (l.all fun x => !Nat.beq (firstRegion x) (firstRegion b)) && apartL l
theorem apartL_find : ∀ {l : List Code}, apartL l = true → ∀ b ∈ l, l.find? (fun x => Nat.beq (firstRegion x) (firstRegion b)) = some b
  | [], _, b, hb => by cases hb
  | y :: l, h, b, hb => by
    simp only [apartL, Bool.and_eq_true, List.all_eq_true, Bool.not_eq_true'] at h
    rcases List.mem_cons.1 hb with rfl | hb
    · rw [List.find?_cons_of_pos (by simp)]
    · rw [List.find?_cons_of_neg, apartL_find h.2 b hb]
      intro hq
      have := h.1 b hb
      rw [Nat.eq_of_beq_eq_true hq] at this
      simp at this
theorem unrolled_ok {F : Fns} {cx : Cx} (hS : Good (vlim T F) S) {m : Nat} {c0 : Code} (ha : apartL (loopsOf c0) = true) : ∀ (d : Nat) (c : Code), (∀ b ∈ loopsOf c, b ∈ loopsOf c0) → LGood T (vlim T F) lplim cx (unrolled T sh S cx m (loopsOf c0) d) c
  | 0, c, _, b, hb, σ, r, h => by cases h
  | d + 1, c, hc, b, hb, σ, r, h => by
    simp only [unrolled, apartL_find ha b (hc b hb)] at h
    exact lplim_iff.2 (unrollT_ok hS (unrolled_ok hS ha d b (fun x hx => loopsOf_sub c0 (hc b hb) x hx)) m σ r h)

/-- A function as it is told by its text: calls by what is told of them, loops by so many rounds. -/
def inl (T : Types) (sh : Nat → List TK) (S : Spec) (m d : Nat) (fi : FI) : List V → Heap → Tr (V × Heap) :=
  funT T sh S (unrolled T sh S fi.cx m (loopsOf fi.body) d) fi
theorem inl_ok {F : Fns} (hS : Good (vlim T F) S) {f : FuncId} {fi : FI} (hf : F f = some fi) (m d : Nat) (ha : apartL (loopsOf fi.body) = true) : ∀ a H r, (inl T sh S m d fi a H).run = some r → Runs T F f a H r :=
  fun _ _ _ h => funT_ok hS hf (unrolled_ok hS ha d fi.body (fun _ hb => hb)) h
theorem Good.inl {F : Fns} (hS : Good (vlim T F) S) {f : FuncId} {fi : FI} (hf : F f = some fi) (m d : Nat) (ha : apartL (loopsOf fi.body) = true) : Good (vlim T F) (S.add f (Vm.inl T sh S m d fi)) :=
  hS.add (inl_ok hS hf m d ha)
end
end Go.Vm
end

section
/- V37: loops that are told at their states; small laws for what is told. -/
namespace Go.Vm
open Go

/-- Whether a state is the one that is meant. -/
noncomputable def is (σ σ0 : St) : Bool := @decide (σ = σ0) (Classical.propDecidable _)
theorem is_self (σ : St) : is σ σ = true := by unfold is; exact @decide_eq_true _ (Classical.propDecidable _) rfl
theorem is_eq {σ σ0 : St} (h : σ = σ0) : is σ σ0 = true := by rw [h]; exact is_self σ0
theorem of_is {σ σ0 : St} (h : is σ σ0 = true) : σ = σ0 := @of_decide_eq_true _ (Classical.propDecidable _) h

noncomputable def eqB {α : Type} (a b : α) : Bool := @decide (a = b) (Classical.propDecidable _)
theorem eqB_self {α : Type} (a : α) : eqB a a = true := by unfold eqB; exact @decide_eq_true _ (Classical.propDecidable _) rfl
theorem eqB_eq {α : Type} {a b : α} (h : a = b) : eqB a b = true := by rw [h]; exact eqB_self b
theorem of_eqB {α : Type} {a b : α} (h : eqB a b = true) : a = b := @of_decide_eq_true _ (Classical.propDecidable _) h

noncomputable def loopsIs : List (Nat × St × (Ex × St)) → LSpec
  | [], _, _ => .fail
  | x :: l, id, σ => match Nat.beq id x.1 with
    | true => .must (is σ x.2.1) (.ret x.2.2)
    | false => loopsIs l id σ

section
variable {T : Types} {sh : Nat → List TK} {S : Spec} {L : LSpec} {F : Fns} {cx : Cx} {c : Code}

theorem LGood.is : ∀ {l : List (Nat × St × (Ex × St))}, (∀ b ∈ loopsOf c, ∀ x ∈ l, firstRegion b = x.1 → LRuns (vstep T (vlim T F) lplim cx x.2.1.heap.length b) x.2.1 x.2.2) → LGood T (vlim T F) lplim cx (loopsIs l) c
  | [], _, b, hb, σ, r, h => by cases h
  | x :: l, hl, b, hb, σ, r, h => by
    unfold loopsIs at h
    cases hbq : Nat.beq (firstRegion b) x.1 <;> simp only [hbq] at h
    · exact LGood.is (l := l) (fun b hb y hy => hl b hb y (by simp [hy])) b hb σ r h
    · obtain ⟨h1, h2⟩ := Tr.must_some h
      have := of_is h1; subst this
      have h2 := ret_some h2; subst h2
      exact lplim_iff.2 (hl b hb x (by simp) (Nat.eq_of_beq_eq_true hbq))
theorem LGood.one {b : Code} {k : Nat} {σ0 : St} {r : Ex × St} (h : loopsOf c = [b]) (hr : LRuns (vstep T (vlim T F) lplim cx σ0.heap.length b) σ0 r) : LGood T (vlim T F) lplim cx (loopsIs [(k, σ0, r)]) c := by
  refine LGood.is fun b' hb x hx _ => ?_
  rw [h] at hb; simp at hb hx; subst hb; subst hx; exact hr
theorem LGood.two {b0 b1 : Code} {k0 k1 : Nat} {σ0 σ1 : St} {r0 r1 : Ex × St} (h : loopsOf c = [b0, b1]) (e0 : Nat.beq (firstRegion b0) k1 = false) (e1 : Nat.beq (firstRegion b1) k0 = false)
    (h0 : LRuns (vstep T (vlim T F) lplim cx σ0.heap.length b0) σ0 r0) (h1 : LRuns (vstep T (vlim T F) lplim cx σ1.heap.length b1) σ1 r1) : LGood T (vlim T F) lplim cx (loopsIs [(k0, σ0, r0), (k1, σ1, r1)]) c := by
  refine LGood.is fun b' hb x hx hf => ?_
  rw [h] at hb; simp at hb hx
  rcases hb with rfl | rfl <;> rcases hx with rfl | rfl
  · exact h0
  · simp only at hf; rw [hf] at e0; simp at e0
  · simp only at hf; rw [hf] at e1; simp at e1
  · exact h1

/-- Answers: 0 yes, 1 no, then those that are told. -/
def spread (cs : List (Bool × Bool)) : List Nat → List (Bool × Bool)
  | [] => []
  | 0 :: l => (true, true) :: spread cs l
  | 1 :: l => (false, false) :: spread cs l
  | (j + 2) :: l => cs.getD j (true, true) :: spread cs l
def AllOk : List (Bool × Bool) → Prop
  | [] => True
  | c :: l => c.1 = c.2 ∧ AllOk l
theorem AllOk.get : ∀ {cs : List (Bool × Bool)}, AllOk cs → ∀ j, (cs.getD j (true, true)).1 = (cs.getD j (true, true)).2
  | [], _, j => by simp
  | c :: l, h, 0 => h.1
  | c :: l, h, j + 1 => by simpa using AllOk.get (cs := l) h.2 j
theorem spread_ok {cs : List (Bool × Bool)} (h : AllOk cs) : ∀ (l : List Nat), ∀ c ∈ spread cs l, c.1 = c.2
  | [], c, hc => by cases hc
  | 0 :: l, c, hc => by
    rcases List.mem_cons.1 hc with rfl | hc
    · rfl
    · exact spread_ok h l c hc
  | 1 :: l, c, hc => by
    rcases List.mem_cons.1 hc with rfl | hc
    · rfl
    · exact spread_ok h l c hc
  | (j + 2) :: l, c, hc => by
    rcases List.mem_cons.1 hc with rfl | hc
    · exact h.get j
    · exact spread_ok h l c hc
def answers (cs : List (Bool × Bool)) (l : List Nat) : List Bool := (spread cs l).map (·.2)

/-- A round by the way that it goes. -/
theorem LRuns.next (hS : Good (vlim T F) S) {n : Nat} {b : Code} {τ τ' : St} {r : Ex × St} (hL : LGood T (vlim T F) lplim cx L b) (cs : List (Bool × Bool)) (l : List Nat)
    (h : (roundT T sh S L cx n b τ).follow (answers cs l) = some (spread cs l, some (.normal, τ'))) (hc : AllOk cs) (hr : LRuns (vstep T (vlim T F) lplim cx n b) τ' r) : LRuns (vstep T (vlim T F) lplim cx n b) τ r :=
  LRuns.step (roundT_ok hS hL (Tr.follow_run h (spread_ok hc l))) hr
theorem LRuns.last (hS : Good (vlim T F) S) {n : Nat} {b : Code} {τ : St} {r : Ex × St} (hL : LGood T (vlim T F) lplim cx L b) (cs : List (Bool × Bool)) (l : List Nat)
    (h : (roundT T sh S L cx n b τ).follow (answers cs l) = some (spread cs l, some r)) (hx : r.1 ≠ .normal) (hc : AllOk cs) : LRuns (vstep T (vlim T F) lplim cx n b) τ r :=
  LRuns.stop (roundT_ok hS hL (Tr.follow_run h (spread_ok hc l))) hx
/-- A function by the way that it goes. -/
theorem Runs.way (hS : Good (vlim T F) S) {f : FuncId} {fi : FI} (hf : F f = some fi) (hL : LGood T (vlim T F) lplim fi.cx L fi.body) (cs : List (Bool × Bool)) (l : List Nat) {a : List V} {H : Heap} {r : V × Heap}
    (h : (funT T sh S L fi a H).follow (answers cs l) = some (spread cs l, some r)) (hc : AllOk cs) : Runs T F f a H r := funT_ok hS hf hL (Tr.follow_run h (spread_ok hc l))
/-- A call by the way that it goes. -/
theorem Good.way {call : CallF} (hS : Good call S) {f : FuncId} (cs : List (Bool × Bool)) (l : List Nat) {a : List V} {H : Heap} {r : V × Heap}
    (h : (S f a H).follow (answers cs l) = some (spread cs l, some r)) (hc : AllOk cs) : call f a H = some r := hS _ _ _ _ (Tr.follow_run h (spread_ok hc l))
end

theorem i64in {n : Int} (h1 : -9223372036854775808 ≤ n) (h2 : n ≤ 9223372036854775807) : IntKind.i64.wrap n = n := Go.IntWalk.i64_in n ⟨h1, h2⟩
@[simp] theorem getD_map {α : Type} (f : α → V) (l : List α) (i : Nat) (h : i < l.length) : (l.map f).getD i .undef = f l[i] := by
  rw [List.getD_eq_getElem?_getD]; simp [h]
@[simp] theorem fld_agg (j : Nat) (cs : List V) : fld j (.agg cs) = cs.getD j .undef := rfl
@[simp] theorem intOf_int (k : IntKind) (n : Int) : intOf (.int k n) = n := rfl
@[simp] theorem boolOf_bool (b : Bool) : boolOf (.bool b) = b := rfl
@[simp] theorem cells_agg (cs : List V) : (V.agg cs).cells = cs := rfl
@[simp] theorem fld_int (k : IntKind) (n : Int) : fld 0 (.int k n) = .int k n := rfl
@[simp] theorem fld_bool (b : Bool) : fld 0 (.bool b) = .bool b := rfl

end Go.Vm
end

section
/- V38: slices.Delete at elements of any number of cells. -/
namespace Go.Vm
open Go Go.Shelf Go.RowKit Go.Lib Go.Proofs

theorem step_append_row {P : Program} {ops : Array Oper} {o : Oper} {a : Act} {w : World} {K : Act → World → Prop} {Q : Exit → Act → World → Prop} {E : Prop}
    (hg : o.guard = none) (s x : Operand) (t : TypeId) (hop : o.op = Op.call { callee := Callee.builtin Builtin.append, args := #[s, x], argTypes := #[t, t] })
    (e : TypeId) (i : TypeInfo) (h1 : P.underlying t = some (.slice e)) (h2 : P.info? e = some i) (b n cap : Nat) (hs : a.eval s = .slice (some ⟨b, 0, none⟩) n cap)
    (X : Value) (hx : a.eval x = X) (m : Nat) (news : List Value) (hsrc : Src P i.size t X m news w) (hroom : n + m ≤ cap) (T : TypeId) (arr : Array Value)
    (hb : w.heap[b]? = some (.cells arr T (0, 0))) (hfit : n * i.size + news.length ≤ arr.size)
    (hK : K (a.put o.dst (.slice (some ⟨b, 0, none⟩) (n + m) cap)) (w.setRow b (patch arr (n * i.size) news))) :
    if Region.wanted o (yielded ops a.tmps) = true then Oper.wp P o a w K Q else E := by
  have hw : Region.wanted o (yielded ops a.tmps) = true := by simp [Region.wanted, hg]
  rw [if_pos hw]
  have hrun := append_room (P := P) w t t o.type e T i h1 h2 b n cap arr X m news hsrc hroom hb hfit
  unfold Oper.wp
  simp [execOp, hop, resolve, invoke, builtin, hs, hx, hrun, Result.andThen]
  exact hK

set_option maxHeartbeats 4000000 in
set_option maxRecDepth 1000000 in
theorem del_ok {P : Program} {ρ : Ren} (mixed : P.follows .mixedOrders = true) (FG : Bears P (ρ.f 45) (SlBodyN.n45 ρ))
    (t3 : P.underlying (ρ.t 3) = some (TypeDesc.int IntKind.i64)) (a3 : ∀ w, (isAgg (ρ.t 3)).run P w = .ok false w) (z3 : ∀ w, (Go.sizeOf (ρ.t 3)).run P w = .ok 1 w)
    (t4 : P.underlying (ρ.t 4) = some (TypeDesc.bool)) (a4 : ∀ w, (isAgg (ρ.t 4)).run P w = .ok false w) (z4 : ∀ w, (Go.sizeOf (ρ.t 4)).run P w = .ok 1 w)
    (t22 : P.underlying (ρ.t 22) = some (TypeDesc.slice (ρ.t 23))) (a22 : ∀ w, (isAgg (ρ.t 22)).run P w = .ok false w) (z22 : ∀ w, (Go.sizeOf (ρ.t 22)).run P w = .ok 1 w)
    (k : Nat) (i0 : TypeInfo) (hi0 : P.info? (ρ.t 23) = some i0) (hz : i0.size = k) (z : Value) (hv : i0.zero = some z) (hzs : z.cells.size = k) (hz1 : ∀ c ∈ z.cells.toList, c.oneCell' = true) :
    DelOk P (ρ.f 45) k := by
  have z23 : ∀ w, (Go.sizeOf (ρ.t 23)).run P w = .ok k w := fun w => by simp [sizeOf, typeInfo, hi0, hz]
  refine ⟨?_, ?_⟩
  · obtain ⟨nm, hn, hf⟩ := FG
    exact ⟨_, hf, by simpa using hn, rfl⟩
  intro w b n cap T arr i j hb hncap hsz hone hij hj
  by_cases heq : i = j
  · subst heq
    have h0 : Calls P (ρ.f 45) #[.slice (some ⟨b, 0, none⟩) n cap, .int .i64 i, .int .i64 i] w fun e w' => e = .returned (.slice (some ⟨b, 0, none⟩) n cap) ∧ w' = w := by
      clear hb hone
      obtain ⟨_, _, FG⟩ := FG
      go_enter FG, SlBodyN.n45_ntmps ρ
      go_wp2
      all_goals (go_ret; exact ⟨rfl, rfl⟩)
    refine h0.mono ?_
    rintro e w' ⟨rfl, rfl⟩
    exact ⟨by rw [Nat.sub_self, Nat.sub_zero], arr, hb, rfl, fun m _ => by simp, fun _ _ => rfl, rfl, rfl, rfl, rfl⟩
  · have hlt : i < j := by omega
    obtain ⟨news, hnews⟩ : ∃ news, news = (arr.toList.drop (j * k)).take ((n - j) * k) := ⟨_, rfl⟩
    have hnk : n * k ≤ arr.size := by rw [hsz]; exact Nat.mul_le_mul_right _ hncap
    have hjk : j * k + (n - j) * k = n * k := by rw [← Nat.add_mul]; congr 1; omega
    have hik : i * k + (n - j) * k ≤ n * k := by rw [← Nat.add_mul]; exact Nat.mul_le_mul_right _ (by omega)
    have hlen : news.length = (n - j) * k := by rw [hnews]; simp; omega
    have hget : ∀ t, t < (n - j) * k → news[t]? = arr[j * k + t]? := by
      intro t ht
      rw [hnews, List.getElem?_take, if_pos ht, List.getElem?_drop, Array.getElem?_toList]
    have hone' : ∀ u ∈ news, u.oneCell' = true := by
      intro u hu
      obtain ⟨t, ht⟩ := List.getElem?_of_mem hu
      have htl : t < (n - j) * k := by rw [← hlen]; exact (List.getElem?_eq_some_iff.1 ht).1
      exact hone (j * k + t) u (by omega) (by rw [← hget t htl]; exact ht)
    obtain ⟨A, hA, hsrc⟩ : ∃ A : Addr, (if cap = j then (some ⟨b, 0, none⟩ : Option Addr) else some ⟨b, j * k, none⟩) = some A ∧ Hid (∀ t u, news[t]? = some u → w.drew.cell? (A.add t) = some u) := by
      by_cases h : cap = j
      · refine ⟨⟨b, 0, none⟩, by simp [h], fun t u hu => ?_⟩
        have h0 : news.length = 0 := by rw [hlen, show n - j = 0 by omega, Nat.zero_mul]
        rw [List.length_eq_zero_iff.1 h0] at hu
        simp at hu
      · refine ⟨⟨b, j * k, none⟩, by simp [h], fun t u hu => ?_⟩
        have ht : t < (n - j) * k := by
          have := (List.getElem?_eq_some_iff.1 hu).1
          rwa [hlen] at this
        rw [hget t ht] at hu
        rw [Addr.add_lit]
        rw [cell_of_row w.drew b (j * k + t) arr T _ hb]
        exact hu
    have hsr : Hid (∀ cp, Src P i0.size (ρ.t 22) (.slice (some A) (n - j) cp) (n - j) news w.drew) := fun cp =>
      Src.ofSlice w.drew t22 A (n - j) cp news (by rw [hlen, hz]) hsrc.out hone'
    obtain ⟨W1, hW1⟩ : ∃ W1, W1 = w.drew.setRow b (patch arr (i * i0.size) news) := ⟨_, rfl⟩
    have hfit : i * k + news.length ≤ arr.size := by rw [hlen]; omega
    have hb1 : W1.heap[b]? = some (.cells (patch arr (i * k) news) T (0, 0)) := by rw [hW1, hz]; exact setRow_at w.drew b arr _ T _ hb
    obtain ⟨zs, hzl⟩ : ∃ zs, zs = (Builtin.zeroCells z.cells (n - (i + (n - j)))).toList := ⟨_, rfl⟩
    have hzsl : zs.length = (n - (i + (n - j))) * k := by rw [hzl]; simp [Builtin.zeroCells, hzs]
    have hcl : ∀ ty, (Builtin.clear_ #[ρ.t 22] ty #[.slice (some ⟨b, (i + (n - j)) * k, none⟩) (n - (i + (n - j))) (cap - (i + (n - j)))]).run P W1 =
        .ok (.tuple #[]) (W1.setRow b (patch (patch arr (i * k) news) ((i + (n - j)) * k) zs)) := by
      intro ty
      have hzone : ∀ u ∈ zs, u.oneCell' = true := by
        intro u hu
        rw [hzl] at hu
        simp only [Builtin.zeroCells, Array.toList_map, List.mem_map, Array.toList_range, List.mem_range] at hu
        obtain ⟨m, hm, rfl⟩ := hu
        have hk0 : 0 < z.cells.size := by
          rcases Nat.eq_zero_or_pos z.cells.size with h0 | h0
          · rw [h0] at hm; simp at hm
          · exact h0
        have hml : m % z.cells.size < z.cells.size := Nat.mod_lt _ hk0
        rw [getElem!_pos z.cells _ hml]
        exact hz1 _ (by simp)
      have hst := run_storeCells_at P b ((i + (n - j)) * k) T zs 0 _ W1 hb1 (by rw [patch_size _ _ _ hfit, hzsl, Nat.add_zero, ← Nat.add_mul]; refine Nat.le_trans (Nat.mul_le_mul_right k ?_) hnk; omega) hzone
      simp only [Nat.add_zero] at hst
      obtain ⟨m, hm⟩ : ∃ m, n - (i + (n - j)) = m + 1 := ⟨n - (i + (n - j)) - 1, by omega⟩
      rw [hm] at hzl ⊢
      simp [Builtin.clear_, run_underlying t22, zeroValue, typeInfo, hi0, hv, ← hzl, hst, patch]
    have hW : Hid (W1 = w.drew.setRow b (patch arr (i * i0.size) news)) := hW1
    have hic : i ≤ cap := by omega
    have hjc : j ≤ cap := by omega
    have HB : Hid (w.heap[b]? = some (.cells arr T (0, 0))) := hb
    have HF : Hid (i * i0.size + news.length ≤ arr.size) := by rw [hz]; exact hfit
    have HG : Hid (∀ t, t < (n - j) * k → news[t]? = arr[j * k + t]?) := hget
    have HL : Hid (news.length = (n - j) * k) := hlen
    have HZ : Hid (zs.length = (n - (i + (n - j))) * k) := hzsl
    have HN : Hid (n * k ≤ arr.size) := hnk
    have HI : Hid (i * k + (n - j) * k ≤ n * k) := hik
    have HJ : Hid (j * k + (n - j) * k = n * k) := hjk
    have HB1 : Hid (W1.heap[b]? = some (.cells (patch arr (i * k) news) T (0, 0))) := hb1
    clear hW1 hb hone hget hnews hlen hzl hzsl hfit hb1 hnk hik hjk hone'
    obtain ⟨_, _, FG⟩ := FG
    go_enter FG, SlBodyN.n45_ntmps ρ
    go_wp2_with fail
    go_region_law_o (refine step_append_row rfl (.tmp 22) (.tmp 25) (ρ.t 22) rfl (ρ.t 23) i0 t22 hi0 b i cap (by simp [Act.eval, Act.put]) (.slice (some A) (n - j) (cap - j)) (by simp [Act.eval, Act.put]) (n - j) news (hsr.out _) (by omega) T arr HB.out HF.out ?_; rw [← hW.out])
    go_wp2
    go_ret
    have hb := HB.out; have hf := HF.out; have hg := HG.out; have hl := HL.out; have hzl := HZ.out; have hn := HN.out; have hi := HI.out; have hjj := HJ.out; have hb1 := HB1.out; have hw := hW.out
    rw [hz] at hf hw
    have e1 : n - (j - i) = i + (n - j) := by omega
    have hle : (i + (n - j)) * k = i * k + (n - j) * k := Nat.add_mul _ _ _
    have hfit2 : (i + (n - j)) * k + zs.length ≤ (patch arr (i * k) news).size := by
      rw [patch_size _ _ _ hf, hzl, ← Nat.add_mul]
      exact Nat.le_trans (Nat.mul_le_mul_right k (by omega)) hn
    refine ⟨by rw [e1]; rfl, patch (patch arr (i * k) news) ((i + (n - j)) * k) zs, setRow_at W1 b _ _ T _ hb1, ?_, fun m hm => ?_, fun q hq => ?_, ?_, ?_, ?_, ?_⟩
    · rw [patch_size _ _ _ hfit2, patch_size _ _ _ hf]
    · rw [e1] at hm
      rw [patch_get _ _ _ hfit2, if_neg (by omega), patch_get _ _ _ hf]
      by_cases hmi : m < i * k
      · rw [if_neg (by omega), if_pos hmi]
      · rw [if_pos (by omega), if_neg hmi, hg _ (by omega)]
        have : (j - i) * k + i * k = j * k := by rw [← Nat.add_mul]; congr 1; omega
        congr 1; omega
    · rw [setRow_other W1 b q _ hq, hw, setRow_other w.drew b q _ hq]; rfl
    · rw [hw]; simp only [World.setRow, Array.size_modify]; rfl
    · rw [hw]; rfl
    · rw [hw]; rfl
    · rw [hw]; rfl

/-- The same out of V's rows of types. -/
theorem del_of_rows {P : Program} {T : Types} (hT : TOk P T) (ρ : Ren) (FG : Bears P (ρ.f 45) (SlBodyN.n45 ρ)) {i3 i4 i22 i23 : TI} (h3 : T (ρ.t 3) = some i3) (k3 : i3.kind = .int .i64)
    (h4 : T (ρ.t 4) = some i4) (k4 : i4.kind = .bool) (h22 : T (ρ.t 22) = some i22) (k22 : i22.kind = .slice (ρ.t 23)) (h23 : T (ρ.t 23) = some i23) (s3 : i3.size = 1) (s4 : i4.size = 1) (s22 : i22.size = 1) :
    DelOk P (ρ.f 45) i23.size := by
  obtain ⟨r3⟩ := Row.of hT h3
  obtain ⟨r4⟩ := Row.of hT h4
  obtain ⟨r22⟩ := Row.of hT h22
  obtain ⟨r23⟩ := Row.of hT h23
  have u3 : P.underlying (ρ.t 3) = some (TypeDesc.int IntKind.i64) := by
    have h := r3.hkind; rw [r3.hd]; rw [k3] at h
    cases hd : r3.d <;> simp [hd, kindB] at h
    rw [h]
  have u4 : P.underlying (ρ.t 4) = some TypeDesc.bool := by
    have h := r4.hkind; rw [r4.hd]; rw [k4] at h
    cases hd : r4.d <;> simp [hd, kindB] at h
    rfl
  refine del_ok hT.mixed FG u3 (fun w => by rw [r3.isAgg, k3]; rfl) (fun w => by rw [run_sizeOf_row r3, s3]) u4 (fun w => by rw [r4.isAgg, k4]; rfl) (fun w => by rw [run_sizeOf_row r4, s4])
    (kind_slice r22 k22) (fun w => by rw [r22.isAgg, k22]; rfl) (fun w => by rw [run_sizeOf_row r22, s22]) i23.size r23.info r23.hinfo r23.hsize r23.z r23.hz r23.hzs (fun c hc => ?_)
  obtain ⟨j, hj⟩ := List.getElem?_of_mem hc
  have hjl : j < i23.zero.cells.length := by
    have := (List.getElem?_eq_some_iff.1 hj).1
    rw [r23.hzl, ← r23.hzs]; simpa using this
  exact (r23.hzc (fun _ => .other) default j _ c (List.getElem?_eq_getElem hjl) (by simpa using hj)).one

end Go.Vm
end
