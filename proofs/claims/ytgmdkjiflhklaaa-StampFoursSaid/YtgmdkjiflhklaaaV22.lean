/- V22: functions. -/
import Derived.Test.YtgmdkjiflhklaaaV21
namespace Go.Vm
open Go

section
variable {P : Program} {own : Own} {β : Nat → Nat} {w : World} {σ : St} {a : Act}

def slotTo (t i : Nat) (l : Loc) : Loc := match l with | .slot u _ j => if u = t then .res i j else l | l => l
theorem slotTo_reloc (t i : Nat) : Reloc (slotTo t i) := by
  refine ⟨rfl, rfl, fun _ => rfl, fun l id h => ?_, fun l h => ?_⟩
  · cases l <;> simp only [slotTo] at h <;> first | rfl | exact h | (split at h <;> cases h)
  · cases l <;> simp only [slotTo] at h <;> first | rfl | exact h | (split at h <;> cases h)

/-- One result. -/
theorem outAt_ok {T : Types} (hT : TOk P T) (h : SR own β w σ a.tmps) (i : Nat) {r : ResultVar} {v : V} {ps : List (Place × V)} (ho : outAt T σ r = some (v, ps)) :
    ∃ c ρ, Reloc ρ ∧ (∀ m j, ρ (.res m j) = .res m j) ∧ SR (fun b => ρ (own b)) β w (setPlaces σ ps) a.tmps ∧ VR (fun b => ρ (own b)) β w (fun j => .res i j) v c ∧
      BX β β σ.heap (setPlaces σ ps).heap ∧ ∀ g : ResultVar → Sem Value, (∀ t, g (.tmp t) = pure (a.tmps.getD t undef)) → (∀ x t, g (.cell x t) = (asAddr (a.tmps.getD x undef) >>= loadVar t)) → (g r).run P w = .ok c w := by
  cases r with
  | cell x t =>
    simp only [outAt] at ho
    cases hTt : T t <;> simp only [hTt] at ho
    · cases ho
    rename_i ti
    cases hx : get σ.env x <;> simp only [hx] at ho <;> try (cases ho; done)
    rename_i id off
    cases hb : bcells σ.heap id <;> simp only [hb] at ho
    · cases ho
    rename_i cs
    obtain ⟨rw'⟩ := Row.of hT hTt
    obtain ⟨q1, q2⟩ := opd_ptr (x := .tmp x) h (by simpa [opd] using hx)
    have q1' : a.tmps.getD x undef = .pointer (some ⟨β id, off, none⟩) := q1
    have hgo : ∀ c, (loadVar t ⟨β id, off, none⟩).run P w = .ok c w → ∀ g : ResultVar → Sem Value, (∀ t, g (.tmp t) = pure (a.tmps.getD t undef)) → (∀ x t, g (.cell x t) = (asAddr (a.tmps.getD x undef) >>= loadVar t)) → (g (.cell x t)).run P w = .ok c w := by
      intro c hc g _ hg
      rw [hg, q1']
      simpa [asAddr] using hc
    obtain ⟨b1, b2, arr, T0, b3, b4, b5⟩ := h.heap.blk id cs hb
    have hcell : ∀ (j : Nat) (d : V), cs[j]? = some d → ∃ c, w.cell? ⟨β id, j, none⟩ = some c ∧ CR own β w (.cell id j) d c := fun j d hd => by
      have hlt := (List.getElem?_eq_some_iff.1 hd).1
      have ha' : j < arr.size := by omega
      refine ⟨arr[j], ?_, b5 j d _ hd (Array.getElem?_eq_getElem ha')⟩
      rw [cell_of_row w _ _ arr T0 _ b3, Array.getElem?_eq_getElem ha']
    cases ha : asType ti ((cs.drop off).take ti.size) <;> simp only [ha] at ho
    · cases ho
    rename_i v0
    have hl := asType_cells ha
    have hplain : (((cs.drop off).take ti.size).all notEx = true) → v0 = v → ps = [] →
        ∃ c ρ, Reloc ρ ∧ (∀ m j, ρ (.res m j) = .res m j) ∧ SR (fun b => ρ (own b)) β w (setPlaces σ ps) a.tmps ∧ VR (fun b => ρ (own b)) β w (fun j => .res i j) v c ∧
        BX β β σ.heap (setPlaces σ ps).heap ∧ ∀ g : ResultVar → Sem Value, (∀ t, g (.tmp t) = pure (a.tmps.getD t undef)) → (∀ x t, g (.cell x t) = (asAddr (a.tmps.getD x undef) >>= loadVar t)) → (g (.cell x t)).run P w = .ok c w := by
      rintro hall rfl rfl
      have hget : ∀ (j : Nat) (u : Value), (readCells w (β id) off ti.size)[j]? = some u → ∃ d, ((cs.drop off).take ti.size)[j]? = some d ∧ w.cell? ⟨β id, off + j, none⟩ = some u ∧ CR own β w (.res i j) d u := by
        intro j u hu
        obtain ⟨hj, rfl⟩ := readCells_get hu
        have hd : ((cs.drop off).take ti.size)[j]? = some (((cs.drop off).take ti.size)[j]'(by omega)) := List.getElem?_eq_getElem _
        obtain ⟨_, hd'⟩ := take_drop_get hd
        obtain ⟨c, h1, h2⟩ := hcell _ _ hd'
        have hn := List.all_eq_true.1 hall _ (List.mem_of_getElem? hd)
        exact ⟨_, hd, by rw [h1]; rfl, by rw [h1]; exact h2.place (fun sz n xs he => by rw [he] at hn; simp [notEx] at hn)⟩
      have hrun := run_loadVar (P := P) rw' w (β id) off (readCells w (β id) off ti.size) (readCells_length _ _ _ _) (fun j u hu => let ⟨_, _, h1, _⟩ := hget j u hu; h1)
      have hvr := asType_VR (L := fun j => .res i j) rw' ha (readCells_length w (β id) off ti.size) (fun j d c hd hc => by
        obtain ⟨d', h1, h2, h3⟩ := hget j c hc
        rw [hd] at h1; injection h1 with h1; subst h1; exact h3)
      exact ⟨_, fun l => l, reloc_id, fun _ _ => rfl, h, hvr, BX.refl _ _, hgo _ hrun⟩
    have hplain' : ∀ u, v0 = u → (if ((cs.drop off).take ti.size).all notEx then some (v0, ([] : List (Place × V))) else none) = some (v, ps) → ((cs.drop off).take ti.size).all notEx = true ∧ v0 = v ∧ ps = [] := by
      intro u _ hu
      split at hu
      · rename_i hq
        injection hu with hu; injection hu with e1 e2
        exact ⟨hq, e1, e2.symm⟩
      · cases hu
    cases v0 <;> simp only at ho
    case ex sz n xs =>
      injection ho with ho; injection ho with e1 e2; subst e1; subst e2
      have hk : ti.kind.isAgg = false := by
        cases hk : ti.kind.isAgg
        · rfl
        · unfold asType at ha
          rw [if_pos hl, hk] at ha
          simp at ha
      have h1 := rw'.one hk
      have h3 : cs[off]? = some (.ex sz n xs) := by
        unfold asType at ha
        rw [if_pos hl, hk] at ha
        simp only [Bool.false_eq_true, if_false] at ha
        simpa using (take_drop_get ha).2
      have hlook : look σ (.cell id off) = .ex sz n xs := by
        simp only [look, hb]
        rw [List.getD_eq_getElem?_getD, h3]; rfl
      obtain ⟨o1, c, g1, g2, g3, _, rfl⟩ := h.give (.res i 0) (by simp) (by simp) hlook
      have hrun := run_loadVar (P := P) rw' w (β id) off [c] (by simp [h1]) (fun j u hu => by
        cases j with
        | zero => simp at hu; subst hu; exact g1
        | succ j => simp at hu)
      have hm : mkV ti [c] = c := by simp [mkV, hk]
      rw [hm] at hrun
      refine ⟨c, _, locOf_reloc (.cell id off) (by simp) (by simp), fun m j => moved_ne (by simp [locOf]), g3, g2, ?_, hgo _ hrun⟩
      simp only [setPlaces, setPlace, hb]
      refine ⟨by simp, fun i ds hi => ⟨rfl, ?_⟩⟩
      rw [bcells_set (bcells_lt hb)]
      split
      · exact ⟨_, rfl⟩
      · exact ⟨ds, hi⟩
    all_goals
      obtain ⟨k1, k2, k3⟩ := hplain' _ rfl ho
      exact hplain k1 k2 k3
  | tmp t =>
    have hgo : ∀ g : ResultVar → Sem Value, (∀ t, g (.tmp t) = pure (a.tmps.getD t undef)) → (∀ x t, g (.cell x t) = (asAddr (a.tmps.getD x undef) >>= loadVar t)) → (g (.tmp t)).run P w = .ok (a.tmps.getD t undef) w := by
      intro g hg _
      rw [hg]; simp
    simp only [outAt] at ho
    have slotCase : ∀ v', get σ.env t = v' → isWay v' = false → (∀ vs, v' ≠ .tup vs) → v = v' → ps = [(.slot t, .undef)] →
        ∃ ρ, Reloc ρ ∧ (∀ m j, ρ (.res m j) = .res m j) ∧ SR (fun b => ρ (own b)) β w (setPlaces σ ps) a.tmps ∧ VR (fun b => ρ (own b)) β w (fun j => .res i j) v (a.tmps.getD t undef) ∧ BX β β σ.heap (setPlaces σ ps).heap := by
      rintro v' hv hw ht rfl rfl
      have hr := slotTo_reloc t i
      refine ⟨slotTo t i, hr, fun _ _ => rfl, h.slot hr (fun u i j hu => by simp [slotTo, hu]) (fun _ _ => rfl) rfl (by simp only [TR, VR]), ?_, BX.refl _ _⟩
      have hE := h.env t
      rw [hv] at hE
      have hT := hE.to_TR hw
      have ho : oneT v = true := by cases v <;> first | rfl | exact absurd rfl (ht _)
      rw [TR_one ho] at hT
      have := hT.reloc hr
      simpa [slotTo] using this
    have slotCase' : ∀ v', get σ.env t = v' → isWay v' = false → (∀ vs, v' ≠ .tup vs) → v = v' → ps = [(.slot t, .undef)] →
        ∃ c ρ, Reloc ρ ∧ (∀ m j, ρ (.res m j) = .res m j) ∧ SR (fun b => ρ (own b)) β w (setPlaces σ ps) a.tmps ∧ VR (fun b => ρ (own b)) β w (fun j => .res i j) v c ∧ BX β β σ.heap (setPlaces σ ps).heap ∧
        ∀ g : ResultVar → Sem Value, (∀ t, g (.tmp t) = pure (a.tmps.getD t undef)) → (∀ x t, g (.cell x t) = (asAddr (a.tmps.getD x undef) >>= loadVar t)) → (g (.tmp t)).run P w = .ok c w := by
      intro v' h1 h2 h3 h4 h5
      obtain ⟨ρ, k1, k2, k3, k4, k5⟩ := slotCase v' h1 h2 h3 h4 h5
      exact ⟨_, ρ, k1, k2, k3, k4, k5, hgo⟩
    cases hv : get σ.env t <;> simp only [hv] at ho
    case lent p =>
      have hE := h.env t
      rw [hv] at hE
      obtain ⟨sz, n, xs, q1, q2⟩ := hE
      simp only [q1] at ho
      injection ho with ho; injection ho with e1 e2; subst e1; subst e2
      obtain ⟨o1, c, g1, g2, g3, _, rfl⟩ := h.give (.res i 0) (by simp) (by simp) q1
      rw [q2] at g1; injection g1 with g1; subst g1
      refine ⟨_, _, locOf_reloc p (by simp) (by simp), fun m j => moved_ne (by cases p <;> simp [locOf]), g3, g2, ?_, hgo⟩
      simp only [setPlaces]
      cases p with
      | slot t => exact BX.refl _ _
      | cell id off =>
        obtain ⟨cs, hc, _⟩ := Place.cases_look q1
        simp only [setPlace, hc]
        refine ⟨by simp, fun i ds hi => ⟨rfl, ?_⟩⟩
        rw [bcells_set (bcells_lt hc)]
        split
        · exact ⟨_, rfl⟩
        · exact ⟨ds, hi⟩
    case xptr => cases ho
    case tup => cases ho
    all_goals
      injection ho with ho; injection ho with e1 e2
      exact slotCase' _ hv rfl (fun _ => by simp) e1.symm e2.symm

/-- All of them. -/
theorem outs_ok {T : Types} (hT : TOk P T) : ∀ (rs : List ResultVar) (i : Nat) (own : Own) (σ : St) (vs : List V) (σ' : St), SR own β w σ a.tmps → outs T rs σ = some (vs, σ') →
    ∃ (cs : List Value) (ρ : Loc → Loc), Reloc ρ ∧ (∀ m j, ρ (.res m j) = .res m j) ∧ SR (fun b => ρ (own b)) β w σ' a.tmps ∧ BX β β σ.heap σ'.heap ∧ cs.length = vs.length ∧
      (∀ (j : Nat) (v : V) (c : Value), vs[j]? = some v → cs[j]? = some c → VR (fun b => ρ (own b)) β w (fun k => .res (i + j) k) v c) ∧
      ∀ (g : ResultVar → Sem Value), (∀ t, g (.tmp t) = pure (a.tmps.getD t undef)) → (∀ x t, g (.cell x t) = (asAddr (a.tmps.getD x undef) >>= loadVar t)) → (rs.mapM g).run P w = .ok cs w
  | [], i, own, σ, vs, σ', h, ho => by
    simp only [outs] at ho; injection ho with ho; injection ho with e1 e2; subst e1; subst e2
    exact ⟨[], id, reloc_id, fun _ _ => rfl, h, BX.refl _ _, rfl, by simp, fun _ _ _ => by simp⟩
  | r :: rs, i, own, σ, vs, σ', h, ho => by
    simp only [outs] at ho
    split at ho
    · rename_i v ps h1
      rw [Option.map_eq_some_iff] at ho
      obtain ⟨⟨us, σ2⟩, h2, h3⟩ := ho
      injection h3 with e1 e2; subst e1; subst e2
      obtain ⟨c0, ρ, hr, hres, g1, g2, g3, g4⟩ := outAt_ok hT h i h1
      obtain ⟨cs, ρ', hr', hres', k1, k2, k3, k4, k5⟩ := outs_ok hT rs (i + 1) _ _ _ _ g1 h2
      refine ⟨c0 :: cs, fun l => ρ' (ρ l), ⟨by rw [hr.im, hr'.im], by rw [hr.other, hr'.other], fun id => by rw [hr.blk, hr'.blk], fun l id hl => hr.noblk _ _ (hr'.noblk _ _ hl), fun l hl => hr.noother _ (hr'.noother _ hl)⟩,
        fun m j => by simp only [hres, hres'], k1, g3.trans k2, by simp [k3], fun j v c hv hc => ?_, fun g hg hg' => ?_⟩
      · cases j with
        | zero =>
          simp at hv hc
          subst hv; subst hc
          have := g2.reloc hr'
          simpa [hres'] using this
        | succ j =>
          have := k4 j v c (by simpa using hv) (by simpa using hc)
          simpa [Nat.add_assoc, Nat.add_comm 1 j] using this
      · simp only [List.mapM_cons, Sem.run_bind, g4 g hg hg', Result.andThen_ok, k5 g hg hg', Sem.run_pure]
    · cases ho

theorem get_zip : ∀ (vs : List V) (k t : Nat), get ((vs.zipIdx k).map fun x => (x.2, x.1)) t = if k ≤ t then (vs[t - k]?).getD .undef else .undef
  | [], k, t => by simp [get]
  | v :: vs, k, t => by
    simp only [List.zipIdx_cons, List.map_cons, get]
    by_cases h : k = t
    · subst h; simp
    · rw [if_neg h, get_zip vs (k + 1) t]
      by_cases hk : k ≤ t
      · rw [if_pos (by omega), if_pos hk, show t - k = (t - (k + 1)) + 1 by omega]; simp
      · rw [if_neg (by omega), if_neg hk]

theorem codeB_mono {n m : Nat} {cx : Cx} (h : n ≤ m) : ∀ (c : Code), codeB n cx c = true → codeB m cx c = true
  | .skip, _ => rfl
  | .region id ops draw, hc => by
    simp only [codeB, Bool.and_eq_true, List.all_eq_true] at hc ⊢
    refine ⟨fun o ho => ?_, hc.2⟩
    have := hc.1 o ho
    cases hd : o.dst with
    | none => rfl
    | some d =>
      simp only [hd, decide_eq_true_eq] at this ⊢
      exact Nat.lt_of_lt_of_le this h
  | .seq x y, hc => by simp only [codeB, Bool.and_eq_true] at hc ⊢; exact ⟨codeB_mono h x hc.1, codeB_mono h y hc.2⟩
  | .cond c x y, hc => by simp only [codeB, Bool.and_eq_true] at hc ⊢; exact ⟨codeB_mono h x hc.1, codeB_mono h y hc.2⟩
  | .block id x, hc => by simp only [codeB] at hc ⊢; exact codeB_mono h x hc
  | .loop x, hc => by simp only [codeB] at hc ⊢; exact codeB_mono h x hc
  | .rangeFunc _ _ _ _, _ => rfl
  | .exit _, _ => rfl
  | .scope _, _ => rfl
  | .label _, _ => rfl
  | .goto _, _ => rfl
  | .ret, _ => rfl
  | .refuse _, _ => rfl

/-- V's table of functions is the program's. -/
def FnsOk (P : Program) (F : Fns) : Prop := ∀ f fi, F f = some fi → ∃ fn, P.funcs[f]? = some fn ∧ fn.body = some fi.body ∧ fn.results.toList = fi.results ∧ fn.name ≠ "runtime.NumGoroutine" ∧ codeB fn.ntmps fi.cx fi.body = true

def dropSlots (l : Loc) : Loc := match l with | .slot _ _ _ => .other | l => l

theorem ok_leave {T : Types} (hT : TOk P T) {rs : List ResultVar} {fn : Func} (hrs : fn.results.toList = rs) {σ : St} {n : Nat} {r : V} {H' : Heap} (h : SR own β w σ a.tmps) (hn : n ≤ σ.heap.length) (hl : leave T rs n σ = some (r, H')) :
    ∃ c own', (results fn a.tmps).run P w = .ok c w ∧ TR own' β w (fun i j => .res i j) r c ∧ HR own' β w H' ∧ Stay own w own' w ∧ (∀ b i j k, own' b ≠ .slot i j k) ∧
      n ≤ H'.length ∧ ∀ id, id < n → (∃ cs, bcells σ.heap id = some cs) → ∃ cs, bcells H' id = some cs := by
  unfold leave at hl
  split at hl
  · rename_i vs σ' ho
    injection hl with hl; injection hl with e1 e2
    subst e1
    obtain ⟨cs, ρ, hr, hres, k1, k2, k3, k4, k5⟩ := outs_ok (P := P) (β := β) (w := w) hT rs 0 own σ vs σ' h ho
    have hrun : (results fn a.tmps).run P w = .ok (if h : cs.toArray.size = 1 then cs.toArray[0] else .tuple cs.toArray) w := by
      unfold results
      rw [Array.mapM_eq_mapM_toList, hrs]
      have hk := k5 (fun r => match r with | .tmp t => pure (a.tmps.getD t undef) | .cell x t => do loadVar t (← asAddr (a.tmps.getD x undef))) (fun t => rfl) (fun x t => rfl)
      simp only [Sem.run_bind, Sem.run_map]
      erw [hk]
      rfl
    have hTR : TR (fun b => ρ (own b)) β w (fun i j => .res i j) (asResult vs) (if h : cs.toArray.size = 1 then cs.toArray[0] else .tuple cs.toArray) := by
      match vs, cs, k3, k4 with
      | [v], [c], _, k4 =>
        simp only [asResult, List.size_toArray, List.length_cons, List.length_nil, Nat.zero_add, dite_true]
        exact (k4 0 v c rfl rfl).to_TR rfl
      | [], [], _, _ => exact ⟨#[], by simp, rfl, by simp⟩
      | v :: v' :: vs, c :: c' :: cs, k3, k4 =>
        refine ⟨(c :: c' :: cs).toArray, by simp, by simpa using k3, fun i v c hv hc => ?_⟩
        have := k4 i v c hv (by simpa using hc)
        simpa using this
    have k6 := k2.1
    -- what is behind is dropped
    have drop : ∀ (o1 : Own) (H1 : Heap), HR o1 β w H1 → TR o1 β w (fun i j => .res i j) (asResult vs) (if h : cs.toArray.size = 1 then cs.toArray[0] else .tuple cs.toArray) → Stay own w o1 w →
        HR (fun b => dropSlots (o1 b)) β w H1 ∧ TR (fun b => dropSlots (o1 b)) β w (fun i j => .res i j) (asResult vs) (if h : cs.toArray.size = 1 then cs.toArray[0] else .tuple cs.toArray) ∧
          Stay own w (fun b => dropSlots (o1 b)) w ∧ ∀ b i j k, (fun b => dropSlots (o1 b)) b ≠ .slot i j k := by
      intro o1 H1 g1 g2 g3
      refine ⟨⟨fun id cs hi => ?_, fun b id hb => ?_, fun b hb => g1.lt b fun hq => hb (by simp only [hq, dropSlots])⟩, ?_, ⟨fun b hb => ?_, fun b hlt hb => ?_, Nat.le_refl _, rfl, rfl, rfl⟩, fun b i j k hq => ?_⟩
      · exact (g1.blk id cs hi).mono (fun b hb => ⟨by simp only [hb, dropSlots], rfl⟩) (fun id hb => ⟨by simp only [hb, dropSlots], rfl⟩) (fun j b hb => ⟨by simp only [hb, dropSlots], rfl⟩) rfl
      · refine g1.inv b id ?_
        simp only [dropSlots] at hb
        split at hb
        · cases hb
        · exact hb
      · exact g2.mono (fun b hb => ⟨by simp only [hb, dropSlots], rfl⟩) (fun id hb => ⟨by simp only [hb, dropSlots], rfl⟩) (fun i j b hb => ⟨by simp only [hb, dropSlots], rfl⟩)
      · obtain ⟨q1, q2⟩ := g3.im b hb
        exact ⟨by simp only [q1, dropSlots], q2⟩
      · obtain ⟨q1, q2⟩ := g3.other b hlt hb
        exact ⟨by simp only [q1, dropSlots], q2⟩
      · simp only [dropSlots] at hq
        split at hq
        · cases hq
        · rename_i hne; exact hne i j k hq
    have hst := Stay.reloc (own := own) (w := w) hr
    by_cases hok : okBelowV n (asResult vs) = true
    · rw [if_pos hok] at e2; subst e2
      have t1 := TR.cut (own' := fun b => below n (ρ (own b))) (k := n) (fun b hb => by simp only [hb, below]) (fun id hi hb => by simp only [hb, below]; rw [if_pos hi]) (fun i j b hb => by simp only [hb, below]) hTR hok
      obtain ⟨d1, d2, d3, d4⟩ := drop _ _ (k1.heap.cut n) t1 (hst.trans (Stay.below _ _ _))
      refine ⟨_, _, hrun, d2, d1, d3, d4, by simp; omega, fun id hid hc => ?_⟩
      obtain ⟨cs0, hc⟩ := hc
      obtain ⟨_, cs', hc'⟩ := k2.2 id cs0 hc
      exact ⟨cs', by rw [bcells_take hid]; exact hc'⟩
    · rw [if_neg hok] at e2; subst e2
      obtain ⟨d1, d2, d3, d4⟩ := drop _ _ k1.heap hTR hst
      refine ⟨_, _, hrun, d2, d1, d3, d4, by omega, fun id hid hc => ?_⟩
      obtain ⟨cs0, hc⟩ := hc
      exact ⟨_, (k2.2 id cs0 hc).2.choose_spec⟩
  · cases hl

theorem ok_fun {T : Types} {F : Fns} {call : CallF} (n : Nat) (hS : Sound P call) (hT : TOk P T) (hF : FnsOk P F) : Sound P (vfun T F call (fun s => rounds s n)) := by
  intro f vs H r H' hv
  unfold vfun at hv
  cases hf : F f <;> simp only [hf] at hv
  · cases hv
  rename_i fi
  obtain ⟨fn, q1, q2, q3, q4, q5⟩ := hF f fi hf
  refine ⟨⟨fn, q1, q4, by rw [q2]; rfl⟩, fun own β w cs hh ha hns => ?_⟩
  have hc : ∃ ex σ1, vcode T call (fun s => rounds s n) fi.cx fi.body (enter vs H) = some (ex, σ1) ∧ (ex = .normal ∨ ex = .ret) ∧ leave T fi.results H.length σ1 = some (r, H') := by
    cases hc : vcode T call (fun s => rounds s n) fi.cx fi.body (enter vs H) with
    | none => simp [hc] at hv
    | some x =>
      obtain ⟨ex, σ1⟩ := x
      cases ex with
      | exit i => simp [hc] at hv
      | normal => exact ⟨_, _, rfl, .inl rfl, by simpa [hc] using hv⟩
      | ret => exact ⟨_, _, rfl, .inr rfl, by simpa [hc] using hv⟩
  obtain ⟨ex, σ1, hc1, hex, hl⟩ := hc
  refine calls_of_wp q1 q2 ?_
  have hsr : SR own β w (enter vs H) (cs.toArray ++ Array.replicate (fn.ntmps - cs.toArray.size) undef) := by
    refine ⟨fun t => ?_, hh⟩
    have hg : get (enter vs H).env t = (vs[t]?).getD .undef := by
      have := get_zip vs 0 t
      simpa [enter] using this
    rw [hg]
    cases hvt : vs[t]? with
    | none => exact ER.undef _ _ _ _ _ _ _
    | some v =>
      have hlt : t < cs.length := by rw [ha.1]; exact (List.getElem?_eq_some_iff.1 hvt).1
      obtain ⟨g1, g2⟩ := ha.2 t v cs[t] hvt (List.getElem?_eq_getElem hlt)
      have he : (cs.toArray ++ Array.replicate (fn.ntmps - cs.toArray.size) undef).getD t undef = cs[t] := by
        rw [Array.getD_eq_getD_getElem?, Array.getElem?_append_left (by simpa using hlt)]
        simp [hlt]
      rw [he]
      exact ER.of_TR (TR_of_VR g1 g2) g1.notWay.1
  refine ok_code n hS hT fi.body own β w (enter vs H) { tmps := cs.toArray ++ Array.replicate (fn.ntmps - cs.toArray.size) undef, defers := [] } _ ex σ1 hsr (codeB_mono (by simp; omega) _ q5) hc1 (fun o1 β1 w1 a1 hn => ?_)
  have hlen : H.length ≤ σ1.heap.length := hn.bx.1
  obtain ⟨c, o2, r1, r2, r3, r4, r5, r6, r7⟩ := ok_leave (P := P) hT q3 hn.sr hlen hl
  have hd : a1.defers = [] := hn.defers
  have hfin : a1.defers = [] ∧ ∃ v, (results fn a1.tmps).run P w1 = .ok v w1 ∧ Ret own β w H r H' (.returned v) w1 := by
    refine ⟨hd, c, r1, c, o2, β1, rfl, r2, r3, hn.stay.trans r4, ⟨r6, fun id cs hi => ?_⟩, r5⟩
    obtain ⟨e, hc⟩ := hn.bx.2 id cs hi
    exact ⟨e, r7 id (bcells_lt hi) hc⟩
  rcases hex with rfl | rfl <;> exact hfin

/-- **V is right**: to whatever depth and to however many rounds. -/
theorem sound {T : Types} {F : Fns} (hT : TOk P T) (hF : FnsOk P F) : ∀ n, Sound P (vcall T F n)
  | 0 => fun f vs H r H' h => by simp [vcall] at h
  | n + 1 => ok_fun n (sound hT hF n) hT hF

end
end Go.Vm
