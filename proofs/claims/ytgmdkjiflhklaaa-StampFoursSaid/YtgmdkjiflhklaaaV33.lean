/- V33: regions. -/
import Derived.Test.YtgmdkjiflhklaaaV32
namespace Go.Vm
open Go

section
variable {P : Program} {own : Own} {β : Nat → Nat} {w : World} {σ : St} {a : Act}
variable {T : Types} {call : CallF} {cx : Cx} {ops : Array Oper}

theorem tame_of {e : Eff} (h : tameB e = true) : Tame e := by
  unfold tameB at h
  simp only [Bool.and_eq_true, List.all_eq_true] at h
  refine ⟨fun x hx => ?_, fun H hH => ?_⟩
  · have := h.1 x hx
    cases hv : x.2 <;> rw [hv] at this <;> first | rfl | (simp [isWayB] at this)
  · rw [hH] at h; simp at h

theorem apart_of {x y : List Res × List Res} (h : apartB x y = true) : apartR x.1 x.2 y.1 y.2 := by
  unfold apartB at h
  simp only [Bool.and_eq_true, List.all_eq_true, Bool.not_eq_true', List.contains_eq_mem, decide_eq_false_iff_not] at h
  exact ⟨⟨h.1.1.1.1, h.1.1.1.2⟩, h.1.1.2, h.1.2, h.2⟩

theorem lex_of_run {fr : Nat → Nat} {R W : Nat → List Res} {σ1 : St} (hfr : ∀ k o, ops[k]? = some o → fr (k + 1) = if isFresh o then fr k + 1 else fr k) : ∀ (l : List Oper) (k : Nat) (σ : St) (fpl : List (List Res × List Res)), (∀ j, l[j]? = ops[k + j]?) →
    drawRun T call cx ops (fr k) l σ = some (σ1, fpl) → (∀ j, j < l.length → R (k + j) = (fpAt fpl j).1 ∧ W (k + j) = (fpAt fpl j).2) → Lex T call cx ops fr R W (Eqv σ1) l.length k σ
  | [], k, σ, fpl, hl, hv, hf => by
    simp only [drawRun] at hv; injection hv with hv; injection hv with e1 e2; subst e1
    exact Eqv.refl _
  | o :: l, k, σ, fpl, hl, hv, hf => by
    simp only [drawRun] at hv
    have h0 : ops[k]? = some o := by simpa using (hl 0).symm
    cases he : effG T call cx ops (fr k) o σ with
    | none => simp [he] at hv
    | some e =>
      simp only [he] at hv
      split at hv
      · rename_i hc
        simp only [Bool.and_eq_true] at hc
        obtain ⟨⟨⟨c1, c2⟩, c3⟩, c4⟩ := hc
        rw [Option.map_eq_some_iff] at hv
        obtain ⟨⟨σ2, l2⟩, h1, h2⟩ := hv
        injection h2 with e1 e2; subst e1; subst e2
        obtain ⟨f1, f2⟩ := hf 0 (by simp)
        simp only [fpAt, List.getD_cons_zero, Nat.add_zero] at f1 f2
        rw [← hfr k o h0] at h1
        refine ⟨_, .inl ⟨o, e, h0, he, tame_of c1, c2, c3, f1.symm, f2.symm, fun r hr => ?_, rfl⟩, lex_of_run hfr l (k + 1) _ l2 (fun j => ?_) h1 (fun j hj => ?_)⟩
        · rw [f1]
          have := List.all_eq_true.1 c4 r hr
          simpa using this
        · have := hl (j + 1)
          simpa [Nat.add_assoc, Nat.add_comm 1 j] using this
        · have := hf (j + 1) (by simpa using hj)
          simpa [fpAt, Nat.add_assoc, Nat.add_comm 1 j] using this
      · split at hv
        · rw [Option.map_eq_some_iff] at hv
          obtain ⟨⟨σ2, l2⟩, h1, h2⟩ := hv
          injection h2 with e1 e2; subst e1; subst e2
          obtain ⟨f1, f2⟩ := hf 0 (by simp)
          simp only [fpAt, List.getD_cons_zero, Nat.add_zero] at f1 f2
          rw [← hfr k o h0] at h1
          refine ⟨_, .inr ⟨o, e, h0, he, by rw [f1]; simp, rfl⟩, lex_of_run hfr l (k + 1) _ l2 (fun j => ?_) h1 (fun j hj => ?_)⟩
          · have := hl (j + 1)
            simpa [Nat.add_assoc, Nat.add_comm 1 j] using this
          · have := hf (j + 1) (by simpa using hj)
            simpa [fpAt, Nat.add_assoc, Nat.add_comm 1 j] using this
        · cases hv

/-- Nobody waits for what comes later in the text. -/
def backB : Nat → List Oper → Bool
  | _, [] => true
  | k, o :: l => (o.after.all fun e => !Region.binds .any e || decide (e.on < k)) && backB (k + 1) l
theorem backB_get : ∀ (l : List Oper) (k : Nat), backB k l = true → ∀ j o, l[j]? = some o → ∀ e ∈ o.after, Region.binds .any e = true → e.on < k + j
  | [], _, _, j, o, h => by simp at h
  | o' :: l, k, hb, j, o, h => by
    simp only [backB, Bool.and_eq_true] at hb
    cases j with
    | zero =>
      simp at h; subst h
      intro e he hbi
      have := Array.all_eq_true_iff_forall_mem.1 hb.1 e he
      simpa [hbi] using this
    | succ j =>
      intro e he hbi
      have := backB_get l (k + 1) hb.2 j o (by simpa using h) e he hbi
      omega

/-- What is asked of a region that draws its order, whatever the state. -/
def drawB (ops : Array Oper) (pairs : List (Nat × Nat)) : Bool :=
  backB 0 ops.toList && (List.range ops.size).all fun j => (List.range j).all fun i => pairs.contains (i, j) || depB ops j i

theorem ok_region {id : Nat} {draw : Bool} (hS : Sound P call) (hT : TOk P T) (Q : Exit → Act → World → Prop) {σ' : St} (h : SR own β w σ a.tmps)
    (hd : ∀ o ∈ ops.toList, ∀ d, o.dst = some d → d < a.tmps.size) (hB : draw = true → drawB ops (cx.free id) = true) (hv : vregion T call cx id ops draw σ = some σ')
    (hQ : ∀ own' β' w' a', Nxt own β w σ a own' β' w' σ' a' → Q .normal a' w') : (Code.region id ops draw).wp P Q a w := by
  obtain ⟨hr, hb⟩ := h.reserve ops
  unfold vregion at hv
  cases draw with
  | true =>
    simp only at hv
    cases hrun : drawRun T call cx ops σ.heap.length ops.toList (reserve ops σ) with
    | none => simp [hrun] at hv
    | some x =>
      obtain ⟨σ1, fps⟩ := x
      simp only [hrun] at hv
      split at hv
      · rename_i hfree
        injection hv with hv; subst hv
        have hB := hB rfl
        simp only [drawB, Bool.and_eq_true, List.all_eq_true, List.mem_range] at hB
        obtain ⟨hlex, hpairs⟩ := hB
        let fr : Nat → Nat := fun k => σ.heap.length + ((ops.toList.take k).filter isFresh).length
        have hfr : ∀ k o, ops[k]? = some o → fr (k + 1) = if isFresh o then fr k + 1 else fr k := fun k o ho => by
          have ho' : ops.toList[k]? = some o := by simpa using ho
          simp only [fr, List.take_add_one, ho', Option.toList_some, List.filter_append, List.length_append]
          cases hf : isFresh o <;> simp [hf, Nat.add_assoc]
        have hl := lex_of_run (T := T) (call := call) (cx := cx) (ops := ops) (R := fun i => (fpAt fps i).1) (W := fun i => (fpAt fps i).2) (σ1 := σ1) hfr ops.toList 0 (reserve ops σ) fps (by simp) (by simpa [fr] using hrun) (fun j _ => by simp)
        have hva := vany_lex (T := T) (call := call) (cx := cx) (fr := fr) (R := fun i => (fpAt fps i).1) (W := fun i => (fpAt fps i).2) (Q := Eqv σ1) (fun τ υ h1 h2 => h2.trans h1) (fun k o ho => by have := backB_get _ 0 hlex k o (by simpa using ho); simpa using this) (fun i j hij hj => by
          have := hpairs j hj i hij
          simp only [Bool.or_eq_true, List.contains_eq_mem, decide_eq_true_eq] at this
          rcases this with hp | hp
          · exact .inr (apart_of (List.all_eq_true.1 hfree (i, j) hp))
          · exact .inl hp) ops.size 0 (Array.replicate ops.size false) (reserve ops σ) (fun j o hj hl => by
            have : (Array.replicate ops.size false).getD j false = false := by
              rcases Nat.lt_or_ge j ops.size with h' | h'
              · simp [h']
              · simp [h']
            rw [this] at hl; cases hl) (fun j hj => by simp [hj]) (by simp) (by simp) (by simpa using hl)
        have hw : SR own β { w with drawn := w.drawn + 1 } (reserve ops σ) a.tmps := hr.world (Nat.le_refl _) (fun _ _ _ => rfl)
        refine wp_region_any hT.mixed (wpAny_of_vany hS hT Q (Eqv σ1) _ _ own β _ _ a hw hd hva (fun own' β' w' a' σ2 he hn => hQ own' β' w' a' ?_))
        have hn' := hn.eqv he.symm
        refine ⟨hn'.sr.prune _, ⟨hn'.stay.im, hn'.stay.other, hn'.stay.size, hn'.stay.os, hn'.stay.tape, hn'.stay.output⟩, ?_, hn'.defers, hn'.size⟩
        have := hb.trans hn'.bx
        cases hk : cx.keep id <;> exact this
      · cases hv
  | false =>
    simp only [Option.map_eq_some_iff] at hv
    obtain ⟨σ1, h1, rfl⟩ := hv
    refine wp_region_list (ok_vops hS hT Q _ _ own β w _ a σ1 hr hd h1 (fun own' β' w' a' hn => hQ _ _ _ _ ⟨hn.sr.prune _, hn.stay, ?_, hn.defers, hn.size⟩))
    have := hb.trans hn.bx
    cases hk : cx.keep id <;> exact this

end
end Go.Vm
