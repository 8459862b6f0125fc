/- V20: regions in their text's order; what is forgotten. -/
import Derived.Test.YtgmdkjiflhklaaaV19
namespace Go.Vm
open Go

section
variable {P : Program} {o : Oper} {own : Own} {β : Nat → Nat} {w : World} {σ : St} {a : Act}

theorem SR.forget {σ' : St} (h : SR own β w σ a.tmps) (hh : σ'.heap = σ.heap) (hg : ∀ t, get σ'.env t = get σ.env t ∨ get σ'.env t = .undef)
    (hr : ∀ t x, (get σ'.env t).refsTo (.slot x) = true → get σ'.env x = get σ.env x) : SR own β w σ' a.tmps := by
  refine ⟨fun t => ?_, by rw [hh]; exact h.heap⟩
  rcases hg t with e | e
  · have ht := h.env t
    have lk : ∀ p, (get σ'.env t).refsTo p = true → look σ' p = look σ p := fun p hp => by
      cases p with
      | slot x => exact hr t x hp
      | cell id off => simp only [look, hh]
    rw [e]
    cases hv : get σ.env t with
    | lent p =>
      rw [hv] at ht
      obtain ⟨sz, n, xs, q1, q2⟩ := ht
      exact ⟨sz, n, xs, by rw [lk p (by rw [e, hv]; simp [V.refsTo])]; exact q1, q2⟩
    | xptr p i off =>
      rw [hv] at ht
      obtain ⟨sz, n, xs, b, len, cap, q1, q2⟩ := ht
      exact ⟨sz, n, xs, b, len, cap, by rw [lk p (by rw [e, hv]; simp [V.refsTo])]; exact q1, q2⟩
    | _ => rw [hv] at ht; exact ht
  · rw [e]; exact ER.undef _ _ _ _ _ _ _

theorem get_mapped (env : Env) : ∀ (l : List Nat) (t : Nat), get (l.map fun t => (t, get env t)) t = if t ∈ l then get env t else .undef
  | [], t => rfl
  | u :: l, t => by
    simp only [List.map_cons, get]
    by_cases h : u = t
    · subst h; simp
    · rw [if_neg h, get_mapped env l t]
      simp [h, Ne.symm h, eq_comm]
theorem get_append : ∀ (e1 e2 : Env) (t : Nat), get (e1 ++ e2) t = bif (e1.any fun x => x.1 == t) then get e1 t else get e2 t
  | [], e2, t => rfl
  | (u, v) :: e1, e2, t => by
    simp only [List.cons_append, get, List.any_cons]
    by_cases h : u = t
    · subst h; simp
    · have hb : (u == t) = false := by simpa using h
      rw [if_neg h, if_neg h, get_append e1 e2 t, hb, Bool.false_or]

theorem slotRef_of {v : V} {x : Nat} (h : v.refsTo (.slot x) = true) : slotRef v = some x := by
  cases v <;> simp [V.refsTo] at h
  · rename_i p i off; subst h; rfl
  · rename_i p; subst h; rfl

theorem get_prune (l : List Nat) (t : Nat) : get (prune (some l) σ).env t = if t ∈ l ∨ ∃ u ∈ l, slotRef (get σ.env u) = some t then get σ.env t else .undef := by
  simp only [prune]
  rw [get_append]
  have h1 : ((l.map fun t => (t, get σ.env t)).any fun x => x.1 == t) = decide (t ∈ l) := by
    rw [Bool.eq_iff_iff]
    simp
  rw [h1, get_mapped, get_mapped]
  by_cases ht : t ∈ l
  · simp [ht]
  · simp only [ht, decide_false, cond_false, false_or]
    have : (t ∈ (l.map fun t => (t, get σ.env t)).filterMap fun x => slotRef x.2) ↔ ∃ u ∈ l, slotRef (get σ.env u) = some t := by
      simp
    simp only [this]

theorem SR.prune (h : SR own β w σ a.tmps) (k : Option (List Nat)) : SR own β w (Vm.prune k σ) a.tmps := by
  cases k with
  | none => exact h
  | some l =>
    refine h.forget rfl (fun t => ?_) (fun t x hx => ?_)
    · rw [get_prune]; split <;> simp
    · rw [get_prune] at hx ⊢
      split at hx
      · rename_i ht
        rw [if_pos]
        right
        rcases ht with ht | ⟨u, hu, he⟩
        · exact ⟨t, ht, slotRef_of hx⟩
        · -- the owner is no way
          have hu' := h.env u
          have hex : ∃ sz n xs, get σ.env t = .ex sz n xs := by
            cases hv : get σ.env u <;> rw [hv] at he hu' <;> simp [slotRef] at he
            · rename_i p i off
              cases p <;> simp at he
              subst he
              obtain ⟨sz, n, xs, b, len, cap, q1, _⟩ := hu'
              exact ⟨sz, n, xs, q1⟩
            · rename_i p
              cases p <;> simp at he
              subst he
              obtain ⟨sz, n, xs, q1, _⟩ := hu'
              exact ⟨sz, n, xs, q1⟩
          obtain ⟨sz, n, xs, hex⟩ := hex
          rw [hex] at hx; simp [V.refsTo] at hx
      · simp [V.refsTo] at hx

theorem bcells_reserve (H : Heap) (k id : Nat) : bcells (H ++ List.replicate k .dead) id = bcells H id := by
  unfold bcells
  rcases Nat.lt_or_ge id H.length with hlt | hge
  · rw [List.getElem?_append_left hlt]
  · rw [List.getElem?_append_right hge, List.getElem?_replicate, List.getElem?_eq_none hge]
    split <;> rename_i hq <;> split at hq <;> simp at hq ⊢
theorem SR.reserve (h : SR own β w σ a.tmps) (ops : Array Oper) : SR own β w (reserve ops σ) a.tmps ∧ BX β β σ.heap (reserve ops σ).heap := by
  refine ⟨⟨fun t => ?_, fun id cs hi => h.heap.blk id cs (by rw [← bcells_reserve]; exact hi), fun b id hb => ?_, h.heap.lt⟩, by simp [Vm.reserve], fun id cs hi => ⟨rfl, cs, by simp only [Vm.reserve]; rw [bcells_reserve]; exact hi⟩⟩
  · have ht := h.env t
    have lk : ∀ p, look (Vm.reserve ops σ) p = look σ p := fun p => by
      cases p with
      | slot x => rfl
      | cell id off => simp only [look, Vm.reserve]; rw [bcells_reserve]
    show ER own β w _ _ t (get σ.env t) _
    cases hv : get σ.env t with
    | lent p =>
      rw [hv] at ht
      obtain ⟨sz, n, xs, q1, q2⟩ := ht
      exact ⟨sz, n, xs, by rw [lk p]; exact q1, q2⟩
    | xptr p i off =>
      rw [hv] at ht
      obtain ⟨sz, n, xs, b, len, cap, q1, q2⟩ := ht
      exact ⟨sz, n, xs, b, len, cap, by rw [lk p]; exact q1, q2⟩
    | _ => rw [hv] at ht; exact ht
  · obtain ⟨e, cs, hc⟩ := h.heap.inv b id hb
    exact ⟨e, cs, by simp only [Vm.reserve]; rw [bcells_reserve]; exact hc⟩

theorem wants_ok {ops : Array Oper} (h : SR own β w σ a.tmps) {b : Bool} (hw : wants ops σ.env o = some b) : Region.wanted o (yielded ops a.tmps) = b := by
  unfold wants at hw
  unfold Region.wanted
  split at hw
  · rename_i hg; rw [hg]; injection hw
  · rename_i j want hg
    rw [hg]
    simp only
    split at hw
    · rename_i t ht
      split at hw
      · rename_i c hc
        injection hw with hw; subst hw
        have he : a.tmps.getD t undef = .bool c := opd_bool (a := a) h (x := .tmp t) hc
        have hy : yielded ops a.tmps j = some c := by
          unfold yielded
          rw [ht]
          simp only [Option.bind_some]
          rcases Nat.lt_or_ge t a.tmps.size with hlt | hge
          · rw [Array.getElem?_eq_getElem hlt]
            have : a.tmps[t] = .bool c := by rw [← he]; simp [hlt]
            rw [this]
          · rw [Array.getD_eq_getD_getElem?, Array.getElem?_eq_none hge] at he; simp [undef] at he
        rw [hy]
        cases c <;> cases want <;> rfl
      · rename_i hc
        injection hw with hw; subst hw
        have he := h.env t
        rw [hc] at he
        obtain ⟨arr, he, _⟩ := he
        have hy : yielded ops a.tmps j = none := by
          unfold yielded
          rw [ht]
          simp only [Option.bind_some]
          rcases Nat.lt_or_ge t a.tmps.size with hlt | hge
          · rw [Array.getElem?_eq_getElem hlt]
            have : a.tmps[t] = .tuple arr := by rw [← he]; simp [hlt]
            rw [this]
          · rw [Array.getElem?_eq_none hge]
        rw [hy]
        cases want <;> rfl
      · cases hw
    · cases hw

/-- An operation, with its guard. -/
theorem ok_vop {T : Types} {call : CallF} {cx : Cx} {fr : Nat} {ops : Array Oper} (hS : Sound P call) (h : Hyp P T o own β w σ a) {σ' : St} (hv : vop T call cx ops fr o σ = some σ')
    (K : Act → World → Prop) (Q : Exit → Act → World → Prop) (hK : ∀ own' β' w' a', Nxt own β w σ a own' β' w' σ' a' → K a' w') :
    if Region.wanted o (yielded ops a.tmps) then o.wp P a w K Q ∨ (o.asks P a w ∧ LetsOut Q) else K (a.put o.dst undef) w := by
  unfold vop effG at hv
  split at hv
  · rename_i hw
    rw [wants_ok h.sr hw]
    simp only [if_true]
    left
    split at hv
    · rename_i e he
      have hnd : ∀ d, o.dst = some d → e.val.refsTo (.slot d) = false := fun d hd => by
        cases hq : e.val.refsTo (.slot d) with
        | false => rfl
        | true => simp [hd, hq] at hv
      have hv' : apply σ o.dst e = σ' := by
        cases hd : o.dst with
        | none => rw [hd] at hv; simpa using hv
        | some d => rw [hd] at hv; simpa [hnd d hd] using hv
      subst hv'
      exact ok_eff hS h he hnd K Q hK
    · cases hv
  · rename_i hw
    rw [wants_ok h.sr hw]
    simp only [Bool.false_eq_true, if_false]
    simp only [Option.map_some] at hv
    injection hv with hv; subst hv
    obtain ⟨o3, h3⟩ := (Nxt.refl h.sr).put (c := undef) h.dst (v := .tup []) rfl ⟨#[], rfl, rfl, by simp⟩
    exact hK _ _ _ _ h3
  · cases hv

theorem ok_vops {T : Types} {call : CallF} {cx : Cx} {ops : Array Oper} (hS : Sound P call) (hT : TOk P T) (Q : Exit → Act → World → Prop) : ∀ (l : List Oper) (fr : Nat) (own : Own) (β : Nat → Nat) (w : World) (σ : St) (a : Act) (σ' : St),
    SR own β w σ a.tmps → (∀ o ∈ l, ∀ d, o.dst = some d → d < a.tmps.size) → vops T call cx ops fr l σ = some σ' → (∀ own' β' w' a', Nxt own β w σ a own' β' w' σ' a' → Q .normal a' w') → wpList P ops Q l a w
  | [], fr, own, β, w, σ, a, σ', h, hd, hv, hQ => by
    simp only [vops] at hv; injection hv with hv; subst hv
    exact hQ _ _ _ _ (Nxt.refl h)
  | o :: l, fr, own, β, w, σ, a, σ', h, hd, hv, hQ => by
    simp only [vops, Option.bind_eq_some_iff] at hv
    obtain ⟨σ1, h1, h2⟩ := hv
    unfold wpList
    refine ok_vop hS ⟨h, hd o (by simp), hT⟩ h1 _ Q (fun own1 β1 w1 a1 hn => ?_)
    refine ok_vops hS hT Q l _ own1 β1 w1 σ1 a1 σ' hn.sr (fun o ho d hd' => by rw [hn.size]; exact hd o (by simp [ho]) d hd') h2 (fun own' β' w' a' hn' => hQ _ _ _ _ (hn.trans hn'))


end
end Go.Vm
