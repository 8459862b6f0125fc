/- V35: more calls and more rounds tell the same. -/
import Derived.Test.YtgmdkjiflhklaaaV34
namespace Go.Vm
open Go

/-- From some depth on. -/
def Ev (p : Nat → Prop) : Prop := ∃ k0, ∀ k, k0 ≤ k → p k
theorem Ev.all {p : Nat → Prop} (h : ∀ k, p k) : Ev p := ⟨0, fun k _ => h k⟩
theorem Ev.and {p q : Nat → Prop} (h : Ev p) (g : Ev q) : Ev fun k => p k ∧ q k := by
  obtain ⟨a, ha⟩ := h; obtain ⟨b, hb⟩ := g
  exact ⟨max a b, fun k hk => ⟨ha k (by omega), hb k (by omega)⟩⟩
theorem Ev.mono {p q : Nat → Prop} (h : Ev p) (f : ∀ k, p k → q k) : Ev q := by
  obtain ⟨a, ha⟩ := h; exact ⟨a, fun k hk => f k (ha k hk)⟩
theorem Ev.of_and {p q : Nat → Prop} (h : Ev p) (g : Ev q) {r : Nat → Prop} (f : ∀ k, p k → q k → r k) : Ev r := (h.and g).mono fun k x => f k x.1 x.2

section
variable {T : Types} {call : CallF} {calls : Nat → CallF} {lp : Step → Step} {lps : Nat → Step → Step} {cx : Cx} {ops : Array Oper}

theorem ev_callAt (hc : ∀ f a H r, call f a H = some r → Ev fun k => calls k f a H = some r) {σ : St} {f : V} {args : List V} {ps : List (Place × V)} {e : Eff} (h : callAt call σ f args ps = some e) :
    Ev fun k => callAt (calls k) σ f args ps = some e := by
  unfold callAt at h
  split at h <;> try (cases h; done)
  rename_i fid first captured
  simp only at h
  by_cases hp : (first ++ args ++ captured).all noPtr = true
  · rw [if_pos hp] at h
    cases hcall : call fid (first ++ args ++ captured) [] with
    | none => rw [hcall] at h; cases h
    | some x =>
      refine (hc _ _ _ _ hcall).mono fun k hk => ?_
      unfold callAt
      simp only [if_pos hp, hk]
      rw [hcall] at h
      exact h
  · rw [if_neg hp] at h
    split at h
    · rename_i hcl
      cases hcall : call fid (first ++ args ++ captured) (maskH (reach (setPlaces σ ps).heap (setPlaces σ ps).heap.length (argIds (first ++ args ++ captured))) (setPlaces σ ps).heap) with
      | none => rw [hcall] at h; cases h
      | some x =>
        refine (hc _ _ _ _ hcall).mono fun k hk => ?_
        unfold callAt
        simp only [if_neg hp, if_pos hcl, hk]
        rw [hcall] at h
        exact h
    · cases h

theorem ev_eff (hc : ∀ f a H r, call f a H = some r → Ev fun k => calls k f a H = some r) {fr : Nat} {o : Oper} {σ : St} {e : Eff} (h : eff T call cx fr o σ = some e) : Ev fun k => eff T (calls k) cx fr o σ = some e := by
  cases ho : o.op
  case call c =>
    simp only [eff, ho] at h ⊢
    cases hcal : c.callee with
    | value f =>
      simp only [hcal] at h ⊢
      cases hv : views σ c.args.toList with
      | none => simp [hv] at h
      | some x =>
        simp only [hv] at h
        exact (ev_callAt hc h).mono fun k hk => by simpa only [hv] using hk
    | builtin b => simp only [hcal] at h ⊢; exact .all fun _ => h
    | invoke x m => simp only [hcal] at h; cases h
  all_goals exact .all fun k => by simpa only [eff, ho] using h

theorem ev_effG (hc : ∀ f a H r, call f a H = some r → Ev fun k => calls k f a H = some r) {fr : Nat} {o : Oper} {σ : St} {e : Eff} (h : effG T call cx ops fr o σ = some e) : Ev fun k => effG T (calls k) cx ops fr o σ = some e := by
  unfold effG at h ⊢
  cases hw : wants ops σ.env o with
  | none => simp [hw] at h
  | some b =>
    cases b with
    | false => exact .all fun k => by simpa [hw] using h
    | true =>
      simp only [hw] at h ⊢
      cases he : eff T call cx fr o σ with
      | none => simp [he] at h
      | some x =>
        rw [he] at h
        exact (ev_eff hc he).mono fun k hk => by simp only [hk]; exact h

theorem ev_vops (hc : ∀ f a H r, call f a H = some r → Ev fun k => calls k f a H = some r) : ∀ (l : List Oper) (fr : Nat) (σ τ : St), vops T call cx ops fr l σ = some τ → Ev fun k => vops T (calls k) cx ops fr l σ = some τ
  | [], fr, σ, τ, h => .all fun _ => h
  | o :: l, fr, σ, τ, h => by
    simp only [vops, Option.bind_eq_some_iff] at h ⊢
    obtain ⟨σ1, h1, h2⟩ := h
    unfold vop at h1 ⊢
    rw [Option.map_eq_some_iff] at h1
    obtain ⟨e, h3, h4⟩ := h1
    refine (ev_effG hc h3).of_and (ev_vops hc l _ _ _ h2) fun k g1 g2 => ⟨σ1, by rw [g1]; simp [h4], g2⟩

theorem ev_draw (hc : ∀ f a H r, call f a H = some r → Ev fun k => calls k f a H = some r) : ∀ (l : List Oper) (fr : Nat) (σ : St) (r : St × List (List Res × List Res)), drawRun T call cx ops fr l σ = some r → Ev fun k => drawRun T (calls k) cx ops fr l σ = some r
  | [], fr, σ, τ, h => .all fun _ => h
  | o :: l, fr, σ, τ, h => by
    simp only [drawRun] at h ⊢
    cases he : effG T call cx ops fr o σ with
    | none => simp [he] at h
    | some e =>
      simp only [he] at h
      split at h
      · rename_i hb
        rw [Option.map_eq_some_iff] at h
        obtain ⟨x, h1, h2⟩ := h
        exact (ev_effG hc he).of_and (ev_draw hc l _ _ _ h1) fun k g1 g2 => by simp only [g1, if_pos hb, g2]; simp [← h2]
      · rename_i hb
        split at h
        · rename_i hw
          rw [Option.map_eq_some_iff] at h
          obtain ⟨x, h1, h2⟩ := h
          exact (ev_effG hc he).of_and (ev_draw hc l _ _ _ h1) fun k g1 g2 => by simp only [g1, if_neg hb, if_pos hw, g2]; simp [← h2]
        · cases h

theorem ev_region (hc : ∀ f a H r, call f a H = some r → Ev fun k => calls k f a H = some r) {id : Nat} {draw : Bool} {σ τ : St} (h : vregion T call cx id ops draw σ = some τ) : Ev fun k => vregion T (calls k) cx id ops draw σ = some τ := by
  unfold vregion at h ⊢
  cases draw with
  | false =>
    simp only [Option.map_eq_some_iff] at h ⊢
    obtain ⟨x, h1, h2⟩ := h
    exact (ev_vops hc _ _ _ _ h1).mono fun k g => ⟨x, g, h2⟩
  | true =>
    simp only at h ⊢
    cases hr : drawRun T call cx ops σ.heap.length ops.toList (reserve ops σ) with
    | none => simp [hr] at h
    | some x => exact (ev_draw hc _ _ _ _ hr).mono fun k g => by rw [g]; rw [hr] at h; exact h

def EvStep (step : Step) (steps : Nat → Step) : Prop := ∀ σ r, step σ = some r → Ev fun k => steps k σ = some r

theorem ev_code (hc : ∀ f a H r, call f a H = some r → Ev fun k => calls k f a H = some r) (hl : ∀ step steps, EvStep step steps → EvStep (lp step) fun k => lps k (steps k)) :
    ∀ (c : Code), EvStep (vcode T call lp cx c) fun k => vcode T (calls k) (lps k) cx c
  | .skip => fun σ r h => .all fun _ => h
  | .region id ops draw => fun σ r h => by
    simp only [vcode, Option.map_eq_some_iff] at h ⊢
    obtain ⟨x, h1, h2⟩ := h
    exact (ev_region hc h1).mono fun k g => ⟨x, g, h2⟩
  | .seq a b => fun σ r h => by
    simp only [vcode] at h ⊢
    cases ha : vcode T call lp cx a σ with
    | none => simp [ha] at h
    | some x =>
      obtain ⟨ex, σ1⟩ := x
      have h1 := ev_code hc hl a σ _ ha
      cases ex with
      | normal =>
        simp only [ha] at h
        exact h1.of_and (ev_code hc hl b _ _ h) fun k (g1 : vcode T (calls k) (lps k) cx a σ = _) g2 => by rw [g1]; exact g2
      | exit i => rw [ha] at h; exact h1.mono fun k (g : vcode T (calls k) (lps k) cx a σ = _) => by rw [g]; exact h
      | ret => rw [ha] at h; exact h1.mono fun k (g : vcode T (calls k) (lps k) cx a σ = _) => by rw [g]; exact h
  | .cond c a b => fun σ r h => by
    simp only [vcode] at h ⊢
    cases hv : opd σ.env c <;> simp only [hv] at h ⊢ <;> try (cases h; done)
    rename_i t
    cases t
    · simp only [Bool.false_eq_true, if_false] at h ⊢; exact ev_code hc hl b σ r h
    · simp only [if_true] at h ⊢; exact ev_code hc hl a σ r h
  | .block id b => fun σ r h => by
    simp only [vcode] at h ⊢
    cases ha : vcode T call lp cx b σ with
    | none => simp [ha] at h
    | some x => exact (ev_code hc hl b σ _ ha).mono fun k (g : vcode T (calls k) (lps k) cx b σ = _) => by rw [g]; rw [ha] at h; exact h
  | .loop b => fun σ r h => by
    simp only [vcode] at h ⊢
    refine hl _ _ (fun τ r h => ?_) _ _ h
    cases ha : vcode T call lp cx b τ with
    | none => simp [ha] at h
    | some x => exact (ev_code hc hl b τ _ ha).mono fun k (g : vcode T (calls k) (lps k) cx b τ = _) => by rw [g]; rw [ha] at h; exact h
  | .exit id => fun σ r h => .all fun _ => h
  | .ret => fun σ r h => .all fun _ => h
  | .rangeFunc _ _ _ _ => fun σ r h => by cases h
  | .scope _ => fun σ r h => by cases h
  | .label _ => fun σ r h => by cases h
  | .goto _ => fun σ r h => by cases h
  | .refuse _ => fun σ r h => by cases h

theorem ev_rounds {step : Step} {steps : Nat → Step} (h : EvStep step steps) : ∀ (n : Nat) (σ : St) (r : Ex × St), rounds step n σ = some r → Ev fun k => ∀ m, n ≤ m → rounds (steps k) m σ = some r
  | 0, σ, r, hr => by simp [rounds] at hr
  | n + 1, σ, r, hr => by
    simp only [rounds] at hr
    cases hs : step σ with
    | none => simp [hs] at hr
    | some x =>
      obtain ⟨ex, σ1⟩ := x
      cases ex with
      | normal =>
        simp only [hs] at hr
        refine (h _ _ hs).of_and (ev_rounds h n σ1 r hr) fun k g1 g2 m hm => ?_
        match m, hm with
        | m + 1, hm => simp only [rounds, g1]; exact g2 m (by omega)
      | exit i =>
        refine (h _ _ hs).mono fun k g1 m hm => ?_
        match m, hm with
        | m + 1, hm => simp only [rounds, g1]; simpa [hs] using hr
      | ret =>
        refine (h _ _ hs).mono fun k g1 m hm => ?_
        match m, hm with
        | m + 1, hm => simp only [rounds, g1]; simpa [hs] using hr

theorem rounds_mono {step : Step} {n m : Nat} (hn : n ≤ m) {σ : St} {r : Ex × St} (h : rounds step n σ = some r) : rounds step m σ = some r := by
  obtain ⟨k0, hk⟩ := ev_rounds (steps := fun _ => step) (fun σ r h => .all fun _ => h) n σ r h
  exact hk k0 (Nat.le_refl _) m hn

theorem rounds_le {step step' : Step} (hs : ∀ σ r, step σ = some r → step' σ = some r) {n m : Nat} (hn : n ≤ m) {σ : St} {r : Ex × St} (h : rounds step n σ = some r) : rounds step' m σ = some r := by
  obtain ⟨k0, hk⟩ := ev_rounds (steps := fun _ => step') (fun σ r h => .all fun _ => hs σ r h) n σ r h
  exact hk k0 (Nat.le_refl _) m hn

theorem evStep_const {step step' : Step} (h : EvStep step fun _ => step') : ∀ σ r, step σ = some r → step' σ = some r := fun σ r hs => by
  obtain ⟨k0, hk⟩ := h σ r hs
  exact hk k0 (Nat.le_refl _)

theorem vfun_mono {F : Fns} {call call' : CallF} {n m : Nat} (hn : n ≤ m) (hc : ∀ f a H r, call f a H = some r → call' f a H = some r) (f : FuncId) (a : List V) (H : Heap) (r : V × Heap) (h : vfun T F call (fun s => rounds s n) f a H = some r) :
    vfun T F call' (fun s => rounds s m) f a H = some r := by
  unfold vfun at h ⊢
  cases hf : F f with
  | none => simp [hf] at h
  | some fi =>
    simp only [hf] at h ⊢
    cases hv : vcode T call (fun s => rounds s n) fi.cx fi.body (enter a H) with
    | none => simp [hv] at h
    | some x =>
      rw [evStep_const (ev_code (calls := fun _ => call') (lps := fun _ s => rounds s m) (fun f a H r h => .all fun _ => hc f a H r h)
        (fun step steps hs σ r h => by
          obtain ⟨k0, hk⟩ := ev_rounds hs n σ r h
          exact ⟨k0, fun k hkk => hk k hkk m hn⟩) fi.body) _ _ hv]
      rw [hv] at h
      exact h

theorem vcall_succ {F : Fns} : ∀ (k : Nat) (f : FuncId) (a : List V) (H : Heap) (r : V × Heap), vcall T F k f a H = some r → vcall T F (k + 1) f a H = some r
  | 0, f, a, H, r, h => by simp [vcall] at h
  | k + 1, f, a, H, r, h => vfun_mono (Nat.le_succ k) (vcall_succ k) f a H r h
theorem vcall_mono {F : Fns} {f : FuncId} {a : List V} {H : Heap} {r : V × Heap} {k m : Nat} (hk : k ≤ m) (h : vcall T F k f a H = some r) : vcall T F m f a H = some r := by
  induction hk with
  | refl => exact h
  | step _ ih => exact vcall_succ _ f a H r ih

/-- V tells so, to some depth. -/
def Runs (T : Types) (F : Fns) (f : FuncId) (a : List V) (H : Heap) (r : V × Heap) : Prop := ∃ k, vcall T F k f a H = some r
theorem Runs.det {F : Fns} {f : FuncId} {a : List V} {H : Heap} {r s : V × Heap} (h : Runs T F f a H r) (g : Runs T F f a H s) : r = s := by
  obtain ⟨k, h⟩ := h; obtain ⟨m, g⟩ := g
  have h1 := vcall_mono (Nat.le_max_left k m) h
  rw [vcall_mono (Nat.le_max_right k m) g] at h1
  exact (Option.some.inj h1).symm

open Classical in
/-- All calls, to whatever depth. -/
noncomputable def vlim (T : Types) (F : Fns) : CallF := fun f a H => if h : ∃ r, Runs T F f a H r then some h.choose else none
theorem vlim_iff {F : Fns} {f : FuncId} {a : List V} {H : Heap} {r : V × Heap} : vlim T F f a H = some r ↔ Runs T F f a H r := by
  unfold vlim
  split
  · rename_i h
    have hc := h.choose_spec
    constructor
    · intro g; injection g with g; rw [← g]; exact hc
    · intro g; rw [hc.det g]
  · rename_i h
    exact ⟨fun g => (by cases g), fun g => absurd ⟨r, g⟩ h⟩

/-- All rounds. -/
def LRuns (step : Step) (σ : St) (r : Ex × St) : Prop := ∃ n, rounds step n σ = some r
theorem LRuns.det {step : Step} {σ : St} {r s : Ex × St} (h : LRuns step σ r) (g : LRuns step σ s) : r = s := by
  obtain ⟨k, h⟩ := h; obtain ⟨m, g⟩ := g
  have h1 := rounds_mono (Nat.le_max_left k m) h
  rw [rounds_mono (Nat.le_max_right k m) g] at h1
  exact (Option.some.inj h1).symm
open Classical in
noncomputable def lplim (step : Step) : Step := fun σ => if h : ∃ r, LRuns step σ r then some h.choose else none
theorem lplim_iff {step : Step} {σ : St} {r : Ex × St} : lplim step σ = some r ↔ LRuns step σ r := by
  unfold lplim
  split
  · rename_i h
    have hc := h.choose_spec
    constructor
    · intro g; injection g with g; rw [← g]; exact hc
    · intro g; rw [hc.det g]
  · rename_i h
    exact ⟨fun g => (by cases g), fun g => absurd ⟨r, g⟩ h⟩

/-- **What the limit tells, some depth tells.** -/
theorem runs_of_lim {F : Fns} {f : FuncId} {a : List V} {H : Heap} {r : V × Heap} (h : vfun T F (vlim T F) lplim f a H = some r) : Runs T F f a H r := by
  unfold vfun at h
  cases hf : F f with
  | none => simp [hf] at h
  | some fi =>
    simp only [hf] at h
    cases hv : vcode T (vlim T F) lplim fi.cx fi.body (enter a H) with
    | none => simp [hv] at h
    | some x =>
      obtain ⟨k0, hk⟩ := ev_code (calls := fun k => vcall T F k) (lps := fun k s => rounds s k)
        (fun f a H r h => by
          obtain ⟨k, hk⟩ := vlim_iff.1 h
          exact ⟨k, fun m hm => vcall_mono hm hk⟩)
        (fun step steps hs σ r h => by
          obtain ⟨n, hn⟩ := lplim_iff.1 h
          obtain ⟨k0, hk⟩ := ev_rounds hs n σ r hn
          exact ⟨max k0 n, fun k hkk => hk k (by omega) k (by omega)⟩) fi.body _ _ hv
      refine ⟨k0 + 1, ?_⟩
      show vfun T F (vcall T F k0) (fun step => rounds step k0) f a H = some r
      unfold vfun
      simp only [hf]
      have hkk : vcode T (vcall T F k0) (fun step => rounds step k0) fi.cx fi.body (enter a H) = some x := hk k0 (Nat.le_refl _)
      rw [hkk]
      rw [hv] at h
      exact h

end
end Go.Vm
