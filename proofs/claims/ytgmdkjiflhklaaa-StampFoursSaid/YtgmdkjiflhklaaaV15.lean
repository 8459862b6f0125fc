/- V15: components of a call's results; what is handed to a call; cells' ways forgotten. -/
import Derived.Test.YtgmdkjiflhklaaaV14
namespace Go.Vm
open Go

section
variable {P : Program} {o : Oper} {own : Own} {β : Nat → Nat} {w : World} {σ : St} {a : Act}

theorem CR.notWay {l : Loc} {v : V} {c : Value} (h : CR own β w l v c) : isWay v = false ∧ ∀ vs, v ≠ .tup vs := by
  cases v with
  | lent p => simp only [CR] at h; cases h
  | xptr p i off => simp only [CR] at h; cases h
  | tup vs => simp only [CR] at h; cases h
  | _ => exact ⟨rfl, fun _ => by simp⟩
theorem VR.notWay {L : Nat → Loc} {v : V} {c : Value} (h : VR own β w L v c) : isWay v = false ∧ ∀ vs, v ≠ .tup vs := by
  cases v with
  | lent p => exact CR.notWay (β := β) (l := L 0) h
  | xptr p i off => exact CR.notWay (β := β) (l := L 0) h
  | tup vs => exact CR.notWay (β := β) (l := L 0) h
  | _ => exact ⟨rfl, fun _ => by simp⟩
theorem TR.notWay {L : Nat → Nat → Loc} {v : V} {c : Value} (h : TR own β w L v c) : isWay v = false := by
  cases v with
  | lent p => simp only [TR, VR, CR] at h; cases h
  | xptr p i off => simp only [TR, VR, CR] at h; cases h
  | _ => rfl

def compOut (t j : Nat) (l : Loc) : Loc := match l with | .slot u i k => if u = t ∧ i = j then .res 0 k else l | l => l
theorem compOut_reloc (t j : Nat) : Reloc (compOut t j) := by
  refine ⟨rfl, rfl, fun _ => rfl, fun l id h => ?_, fun l h => ?_⟩
  · cases l <;> simp only [compOut] at h <;> first | rfl | exact h | (split at h <;> cases h)
  · cases l <;> simp only [compOut] at h <;> first | rfl | exact h | (split at h <;> cases h)

theorem VR.to_TR {L : Nat → Loc} {L' : Nat → Nat → Loc} {v : V} {c : Value} (h : VR own β w L v c) (he : L' 0 = L) : TR own β w L' v c := by
  have := h.notWay.2
  cases v <;> first
    | exact absurd rfl (this _)
    | (simp only [TR]; rw [he]; exact h)

theorem ok_extract {T : Types} {call : CallF} {cx : Cx} {fr : Nat} (h : Hyp P T o own β w σ a) {x : Operand} {j : Nat} (ho : o.op = .extract x j) {e : Eff}
    (he : eff T call cx fr o σ = some e) : OpOk P o own β w σ a (apply σ o.dst e) := by
  simp only [eff, ho] at he
  split at he
  · rename_i vs t hx ht
    obtain rfl := tmpOf_some ht
    cases hj : vs[j]? <;> simp only [hj] at he
    · cases he
    rename_i v
    have hE := opd_TR h.sr (.tmp t) (by rw [hx]; rfl)
    rw [hx] at hE
    obtain ⟨arr, h1, h2, h3⟩ := hE
    have hjl : j < vs.length := (List.getElem?_eq_some_iff.1 hj).1
    have hja : arr[j]? = some arr[j] := Array.getElem?_eq_getElem (by omega)
    have hv := h3 j v _ hj hja
    have hrun := run_extract (P := P) ho h1 hja w
    split at he
    · rename_i hd
      injection he with he; subst he
      exact OpOk.value hrun (Nxt.refl h.sr) h.dst (isWay_of_dat hd) (TR_of_VR hv (noEx_of_dat hd))
    · injection he with he; subst he
      have hr := compOut_reloc t j
      have hs : SR (fun b => compOut t j (own b)) β w (setPlace σ (.slot t) (.tup (vs.set j .undef))) a.tmps := by
        refine h.sr.slot hr (fun u i k hu => by simp [compOut, hu]) (fun _ _ => rfl) rfl ?_
        rw [← eval_tmp, h1]
        refine ⟨arr, rfl, by simpa using h2, fun i u c hu hc => ?_⟩
        rw [List.getElem?_set] at hu
        split at hu
        · injection hu with hu; subst hu; simp only [VR]
        · rename_i hij
          have := (h3 i u c hu hc).reloc hr
          simpa [compOut, opL, Ne.symm hij] using this
      have hv' : VR (fun b => compOut t j (own b)) β w (fun k => .res 0 k) v arr[j] := by
        have := hv.reloc hr
        simpa [compOut, opL] using this
      exact OpOk.value hrun ⟨hs, Stay.reloc hr, BX.refl _ _, rfl, rfl⟩ h.dst hv'.notWay.1 (hv'.to_TR (L' := fun i k => .res i k) rfl)
  · cases he

/-! ### Places that are frozen together -/
theorem look_setPlace_ne {p q : Place} {v x : V} (hne : q ≠ p) (hx : ∀ r, x.refsTo r = false) (hl : look σ q = x) : look (setPlace σ p v) q = x := by
  cases p with
  | slot t =>
    cases q with
    | slot u =>
      have hu : t ≠ u := fun h => hne (by rw [h])
      simp only [look, setPlace] at hl ⊢
      rw [get_cons_ne _ _ hu, get_kill, hl, if_neg (by simp [hx])]
    | cell id off => exact hl
  | cell id off =>
    cases q with
    | slot u =>
      simp only [look, setPlace] at hl ⊢
      rw [get_kill, hl, if_neg (by simp [hx])]
    | cell id' off' =>
      simp only [look, setPlace] at hl ⊢
      cases hc : bcells σ.heap id with
      | none => exact hl
      | some cs =>
        simp only
        rw [bcells_set (bcells_lt hc)]
        by_cases hi : id' = id
        · subst hi
          have ho : off ≠ off' := fun h => hne (by rw [h])
          rw [hc] at hl
          simp only [if_true]
          rw [← hl]
          simp [List.getD_eq_getElem?_getD, List.getElem?_set_ne ho]
        · rw [if_neg hi]; exact hl

theorem look_setPlace_eq {p : Place} {v : V} {sz : Nat} {n : Bool} {xs : List V} (hl : look σ p = .ex sz n xs) : look (setPlace σ p v) p = v := by
  cases p with
  | slot t => simp only [look, setPlace, get_cons_same]
  | cell id off =>
    obtain ⟨cs, hc, hcs⟩ := Place.cases_look hl
    simp only [look, setPlace, hc]
    rw [bcells_set (bcells_lt hc), if_pos rfl]
    have := (List.getElem?_eq_some_iff.1 hcs).1
    simp [List.getD_eq_getElem?_getD, this]

theorem conc_ex {p : Place} (p' : Place) (v : V) : conc β a.tmps w p = conc β a.tmps w p := rfl

def Frozen (own : Own) (β : Nat → Nat) (w : World) (σ : St) (tmps : Array Value) (p : Place) (n : Bool) (xs : List V) : Prop :=
  (∃ sz, look σ p = .ex sz n xs) ∨ (look σ p = .sl n xs ∧ ∀ c, conc β tmps w p = some c → FR own w (.sl n xs) c)

/-- A place that is frozen already. -/
theorem SR.same (h : SR own β w σ a.tmps) {p : Place} {n : Bool} {xs : List V} (hl : look σ p = .sl n xs) : SR own β w (setPlace σ p (.sl n xs)) a.tmps ∧ BX β β σ.heap (setPlace σ p (.sl n xs)).heap ∧ look (setPlace σ p (.sl n xs)) p = .sl n xs := by
  cases p with
  | slot t =>
    refine ⟨h.slot reloc_id (fun _ _ _ _ => rfl) (fun _ _ => rfl) rfl ?_, BX.refl _ _, by simp only [look, setPlace, get_cons_same]⟩
    have := h.env t
    simp only [look] at hl
    rw [hl] at this
    exact this
  | cell id off =>
    simp only [look] at hl
    cases hc : bcells σ.heap id with
    | none => simp [hc] at hl
    | some cs =>
      simp only [hc] at hl
      have hlt : off < cs.length := by
        rcases Nat.lt_or_ge off cs.length with h' | h'
        · exact h'
        · simp [List.getD_eq_getElem?_getD, List.getElem?_eq_none h'] at hl
      have hcs : cs[off]? = some (.sl n xs) := by
        rw [List.getD_eq_getElem?_getD, List.getElem?_eq_getElem hlt] at hl
        rw [List.getElem?_eq_getElem hlt]; simpa using hl
      refine ⟨h.cell reloc_id hc (fun _ _ _ => rfl) (fun _ _ _ => rfl) rfl (fun v c hv _ hcr => ?_), ?_, ?_⟩
      · rw [hcs] at hv; injection hv with hv; subst hv; exact hcr
      · simp only [setPlace, hc]
        refine ⟨by simp, fun i ds hi => ⟨rfl, ?_⟩⟩
        rw [bcells_set (bcells_lt hc)]
        split
        · exact ⟨_, rfl⟩
        · exact ⟨ds, hi⟩
      · simp only [look, setPlace, hc]
        rw [bcells_set (bcells_lt hc), if_pos rfl]
        simp [List.getD_eq_getElem?_getD, hlt]

theorem freezes : ∀ (ps : List (Place × V)) (own : Own) (σ : St), SR own β w σ a.tmps → (∀ x ∈ ps, ∃ n xs, x.2 = .sl n xs ∧ Frozen own β w σ a.tmps x.1 n xs) →
    ∃ o1, Nxt own β w σ a o1 β w (setPlaces σ ps) a ∧ (∀ x ∈ ps, ∀ c, conc β a.tmps w x.1 = some c → FR o1 w x.2 c) ∧ ∃ ρ, Reloc ρ ∧ o1 = fun b => ρ (own b)
  | [], own, σ, h, _ => ⟨own, Nxt.refl h, by simp, id, reloc_id, rfl⟩
  | (p, v) :: ps, own, σ, h, hp => by
    obtain ⟨n, xs, hv, hf⟩ := hp (p, v) (by simp)
    simp only at hv hf
    subst hv
    have step : ∃ o1, Nxt own β w σ a o1 β w (setPlace σ p (.sl n xs)) a ∧ (∀ c, conc β a.tmps w p = some c → FR o1 w (.sl n xs) c) ∧ (∃ ρ, Reloc ρ ∧ o1 = fun b => ρ (own b)) ∧
        look (setPlace σ p (.sl n xs)) p = .sl n xs := by
      rcases hf with ⟨sz, hl⟩ | ⟨hl, hc⟩
      · obtain ⟨o1, c, h1, h2, h3, h4⟩ := Nxt.freeze h hl
        exact ⟨o1, h1, fun c' hc' => by rw [h2] at hc'; injection hc' with hc'; subst hc'; exact h3, ⟨_, locOf_reloc p (by simp) (by simp), h4⟩, look_setPlace_eq hl⟩
      · obtain ⟨h1, h2, h3⟩ := h.same hl
        exact ⟨own, ⟨h1, Stay.refl _ _, h2, rfl, rfl⟩, hc, ⟨id, reloc_id, rfl⟩, h3⟩
    obtain ⟨o1, h1, h2, ⟨ρ, hr, rfl⟩, h4⟩ := step
    obtain ⟨o2, g1, g2, ρ', hr', rfl⟩ := freezes ps _ _ h1.sr (fun x hx => by
      obtain ⟨m, ys, e1, e2⟩ := hp x (by simp [hx])
      refine ⟨m, ys, e1, ?_⟩
      by_cases hq : x.1 = p
      · right
        have hk : look (setPlace σ p (.sl n xs)) x.1 = .sl n xs := by rw [hq]; exact h4
        have hsame : V.sl n xs = V.sl m ys := by
          rcases e2 with ⟨sz, e2⟩ | ⟨e2, _⟩ <;> rcases hf with ⟨sz', hf⟩ | ⟨hf, _⟩ <;> rw [hq, hf] at e2 <;> first | (injection e2 with _ k1 k2; rw [k1, k2]) | (injection e2 with k1 k2; rw [k1, k2]) | cases e2
        rw [← hsame, hk]
        exact ⟨rfl, fun c hc => h2 c (by rw [← hq]; exact hc)⟩
      · rcases e2 with ⟨sz, e2⟩ | ⟨e2, e3⟩
        · exact .inl ⟨sz, look_setPlace_ne hq (fun _ => rfl) e2⟩
        · exact .inr ⟨look_setPlace_ne hq (fun _ => rfl) e2, fun c hc => (e3 c hc).reloc hr⟩)
    refine ⟨_, h1.trans g1, fun x hx c hc => ?_, fun l => ρ' (ρ l), ⟨by rw [hr.im, hr'.im], by rw [hr.other, hr'.other], fun id => by rw [hr.blk, hr'.blk], fun l id hl => hr.noblk _ _ (hr'.noblk _ _ hl), fun l hl => hr.noother _ (hr'.noother _ hl)⟩, rfl⟩
    rcases List.mem_cons.1 hx with rfl | hx
    · exact (h2 c hc).reloc hr'
    · exact g2 x hx c hc

/-- What is handed to a call. -/
def AR (own : Own) (β : Nat → Nat) (w : World) (vs : List V) (cs : List Value) : Prop :=
  cs.length = vs.length ∧ ∀ (j : Nat) (v : V) (c : Value), vs[j]? = some v → cs[j]? = some c → VR own β w (fun _ => .other) v c ∧ noEx v = true

theorem AR.append {vs vs' : List V} {cs cs' : List Value} (h : AR own β w vs cs) (h' : AR own β w vs' cs') : AR own β w (vs ++ vs') (cs ++ cs') := by
  refine ⟨by simp [h.1, h'.1], fun j v c hv hc => ?_⟩
  rw [List.getElem?_append] at hv hc
  rw [h.1] at hc
  split at hv
  · rename_i hlt; rw [if_pos hlt] at hc; exact h.2 _ _ _ hv hc
  · rename_i hlt; rw [if_neg hlt] at hc; exact h'.2 _ _ _ hv hc

theorem view_ok (h : SR own β w σ a.tmps) {x : Operand} {v : V} {ps : List (Place × V)} (hv : view σ x = some (v, ps)) :
    (ps = [] ∧ VR own β w (fun _ => .other) v (a.eval x) ∧ noEx v = true) ∨ (∃ p sz n xs, ps = [(p, .sl n xs)] ∧ v = .sl n xs ∧ look σ p = .ex sz n xs ∧ conc β a.tmps w p = some (a.eval x)) := by
  unfold view at hv
  cases hx : opd σ.env x <;> simp only [hx] at hv
  case undef => cases hv
  case xptr => cases hv
  case tup => cases hv
  case ex sz n xs =>
    cases ht : tmpOf x <;> simp only [ht] at hv
    · cases hv
    rename_i t
    obtain rfl := tmpOf_some ht
    injection hv with hv; injection hv with h1 h2; subst h1; subst h2
    exact .inr ⟨.slot t, sz, n, xs, rfl, rfl, hx, rfl⟩
  case lent p =>
    obtain ⟨sz, n, xs, q1, q2⟩ := opd_lent h hx
    simp only [q1] at hv
    injection hv with hv; injection hv with h1 h2; subst h1; subst h2
    exact .inr ⟨p, sz, n, xs, rfl, rfl, q1, q2⟩
  case agg cs =>
    split at hv
    · rename_i hc
      injection hv with hv; injection hv with h1 h2; subst h1; subst h2
      left
      have := opd_TR h x (by rw [hx]; rfl)
      rw [hx] at this
      exact ⟨rfl, VR.place (L := opL x 0) this (noEx_dat hc), noEx_dat hc⟩
    · cases hv
  all_goals
    injection hv with hv; injection hv with h1 h2; subst h1; subst h2
    left
    have := opd_TR h x (by rw [hx]; rfl)
    rw [hx] at this
    exact ⟨rfl, VR.place (L := opL x 0) this rfl, rfl⟩

theorem views_ps (h : SR own β w σ a.tmps) : ∀ (l : List Operand) (vs : List V) (ps : List (Place × V)), views σ l = some (vs, ps) → ∀ x ∈ ps, ∃ n xs, x.2 = .sl n xs ∧ Frozen own β w σ a.tmps x.1 n xs
  | [], vs, ps, hv => by simp [views] at hv; rw [hv.2]; simp
  | y :: l, vs, ps, hv => by
    simp only [views] at hv
    cases h1 : view σ y <;> cases h2 : views σ l <;> simp only [h1, h2] at hv <;> try (cases hv; done)
    rename_i u us
    obtain ⟨u, q⟩ := u
    obtain ⟨us, qs⟩ := us
    injection hv with hv; injection hv with e1 e2; subst e1; subst e2
    intro x hx
    rcases List.mem_append.1 hx with hx | hx
    · rcases view_ok h h1 with ⟨rfl, _⟩ | ⟨p, sz, n, xs, rfl, _, hl, _⟩
      · cases hx
      · simp at hx; subst hx; exact ⟨n, xs, rfl, .inl ⟨sz, hl⟩⟩
    · exact views_ps h l us qs h2 x hx

theorem views_args (h : SR own β w σ a.tmps) {o1 : Own} {ρ : Loc → Loc} (hr : Reloc ρ) (ho : o1 = fun b => ρ (own b)) (hn : ρ .other = .other) :
    ∀ (l : List Operand) (vs : List V) (ps : List (Place × V)), views σ l = some (vs, ps) → (∀ x ∈ ps, ∀ c, conc β a.tmps w x.1 = some c → FR o1 w x.2 c) → AR o1 β w vs (l.map a.eval)
  | [], vs, ps, hv, _ => by simp [views] at hv; rw [hv.1]; exact ⟨rfl, by simp⟩
  | y :: l, vs, ps, hv, hf => by
    simp only [views] at hv
    cases h1 : view σ y <;> cases h2 : views σ l <;> simp only [h1, h2] at hv <;> try (cases hv; done)
    rename_i u us
    obtain ⟨u, q⟩ := u
    obtain ⟨us, qs⟩ := us
    injection hv with hv; injection hv with e1 e2; subst e1; subst e2
    have ih := views_args h hr ho hn l us qs h2 (fun x hx => hf x (List.mem_append.2 (.inr hx)))
    refine ⟨by simp [ih.1], fun j v c hj hc => ?_⟩
    cases j with
    | zero =>
      simp at hj hc
      subst hj; subst hc
      rcases view_ok h h1 with ⟨_, hv, hne⟩ | ⟨p, sz, n, xs, rfl, rfl, hl, hc⟩
      · subst ho
        have := hv.reloc hr
        exact ⟨this.place hne, hne⟩
      · exact ⟨hf (p, .sl n xs) (by simp) _ hc, rfl⟩
    | succ j => exact ih.2 j v c (by simpa using hj) (by simpa using hc)

end
end Go.Vm
