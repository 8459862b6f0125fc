/- V11: literals of structs, arrays and slices; make. -/
import Derived.Test.YtgmdkjiflhklaaaV10
namespace Go.Vm
open Go

theorem foldl_set (off : Nat) : ∀ (l : List Value) (s : Nat) (arr : Array Value), off + s + l.length ≤ arr.size →
    ((l.zipIdx s).foldl (fun cs x => cs.setIfInBounds (off + x.2) x.1) arr).size = arr.size ∧
      ∀ k, ((l.zipIdx s).foldl (fun cs x => cs.setIfInBounds (off + x.2) x.1) arr)[k]? = if off + s ≤ k ∧ k < off + s + l.length then l[k - (off + s)]? else arr[k]?
  | [], s, arr, _ => ⟨rfl, fun k => by simp; intro h1 h2; omega⟩
  | v :: l, s, arr, h => by
    simp only [List.length_cons] at h
    obtain ⟨h1, h2⟩ := foldl_set off l (s + 1) (arr.setIfInBounds (off + s) v) (by simp; omega)
    simp only [List.zipIdx_cons, List.foldl_cons]
    refine ⟨by rw [h1]; simp, fun k => ?_⟩
    rw [h2]
    simp only [List.length_cons]
    by_cases hk : k = off + s
    · subst hk
      rw [if_neg (by omega), if_pos (by omega)]
      simp [Array.getElem?_setIfInBounds]; omega
    · rw [Array.getElem?_setIfInBounds_ne (Ne.symm hk)]
      by_cases h3 : off + (s + 1) ≤ k ∧ k < off + (s + 1) + l.length
      · rw [if_pos h3, if_pos (by omega)]
        have : k - (off + s) = (k - (off + (s + 1))) + 1 := by omega
        rw [this, List.getElem?_cons_succ]
      · rw [if_neg h3, if_neg (by omega)]

/-- Parts of V's, parts of the machine's. -/
def PartsR (R : Nat → V → Value → Prop) (place : Nat → Option (Nat × Nat)) : List (Nat × V) → List (Nat × Value) → Prop
  | [], [] => True
  | (i, v) :: vs, (j, c) :: cs => i = j ∧ c.cells.size = v.cells.length ∧ (∀ off size, place i = some (off, size) → ∀ (k : Nat) (d : V) (u : Value), v.cells[k]? = some d → c.cells[k]? = some u → R (off + k) d u) ∧ PartsR R place vs cs
  | _, _ => False

theorem PartsR.mono {R R' : Nat → V → Value → Prop} {place : Nat → Option (Nat × Nat)} (h : ∀ k d u, R k d u → R' k d u) : ∀ {vs : List (Nat × V)} {cs : List (Nat × Value)}, PartsR R place vs cs → PartsR R' place vs cs
  | [], [], _ => trivial
  | (i, v) :: vs, (j, c) :: cs, hp => ⟨hp.1, hp.2.1, fun off size hpl k d u hd hu => h _ _ _ (hp.2.2.1 off size hpl k d u hd hu), hp.2.2.2.mono h⟩
  | [], _ :: _, hp => hp.elim
  | _ :: _, [], hp => hp.elim

theorem fill_rel (R : Nat → V → Value → Prop) (place place' : Nat → Option (Nat × Nat)) (hpp : ∀ i x, place i = some x → place' i = some x) : ∀ (vs : List (Nat × V)) (cvs : List (Nat × Value)) (cs cs' : List V) (arr : Array Value), PartsR R place vs cvs →
    arr.size = cs.length → (∀ (k : Nat) (d : V) (u : Value), cs[k]? = some d → arr[k]? = some u → R k d u) → fill cs place vs = some cs' →
    ∃ arr', Instr.fill place' arr cvs = some arr' ∧ arr'.size = cs'.length ∧ cs'.length = cs.length ∧ ∀ (k : Nat) (d : V) (u : Value), cs'[k]? = some d → arr'[k]? = some u → R k d u
  | [], [], cs, cs', arr, _, hs, hR, hf => by
    simp only [fill] at hf; injection hf with hf; subst hf
    exact ⟨arr, rfl, hs, rfl, hR⟩
  | (i, v) :: vs, (j, c) :: cvs, cs, cs', arr, hp, hs, hR, hf => by
    obtain ⟨rfl, h2, h3, h4⟩ := hp
    simp only [fill] at hf
    cases hpl : place i <;> simp only [hpl] at hf
    · cases hf
    rename_i os
    obtain ⟨off, size⟩ := os
    simp only at hf
    split at hf
    · rename_i hc
      have hfit : off + 0 + c.cells.toList.length ≤ arr.size := by simp; omega
      obtain ⟨g1, g2⟩ := foldl_set off c.cells.toList 0 arr hfit
      have hconv : c.cells.zipIdx.foldl (fun cs x => cs.setIfInBounds (off + x.2) x.1) arr = (c.cells.toList.zipIdx 0).foldl (fun cs x => cs.setIfInBounds (off + x.2) x.1) arr := by
        rw [← Array.foldl_toList, Array.toList_zipIdx]
      obtain ⟨arr', e1, e2, e3, e4⟩ := fill_rel R place place' hpp vs cvs (setCells cs off v.cells) cs' (c.cells.zipIdx.foldl (fun cs x => cs.setIfInBounds (off + x.2) x.1) arr) h4
        (by rw [hconv, g1, setCells_length]; exact hs)
        (fun k d u hd hu => by
          rw [setCells_get _ _ _ _ (by omega)] at hd
          rw [hconv, g2 k] at hu
          simp only [Nat.add_zero, Array.length_toList] at hu
          by_cases hin : off ≤ k ∧ k < off + v.cells.length
          · rw [if_pos hin] at hd
            rw [if_pos (by omega)] at hu
            have := h3 off size hpl (k - off) d u hd (by simpa using hu)
            rwa [show off + (k - off) = k from by omega] at this
          · rw [if_neg hin] at hd
            rw [if_neg (by omega)] at hu
            exact hR k d u hd hu) hf
      refine ⟨arr', ?_, e2, by rw [e3, setCells_length], e4⟩
      simp only [Instr.fill, hpp _ _ hpl]
      have : (c.cells.size != size || decide (off + c.cells.size > arr.size)) = false := by simp; omega
      simp only [ne_eq, decide_not]
      rw [if_neg (by simp; omega)]
      exact e1
    · cases hf
  | [], _ :: _, _, _, _, hp, _, _, _ => hp.elim
  | _ :: _, [], _, _, _, hp, _, _, _ => hp.elim

section
variable {P : Program} {o : Oper} {own : Own} {β : Nat → Nat} {w : World} {σ : St} {a : Act}

theorem setPlaces_append : ∀ (ps qs : List (Place × V)) (σ : St), setPlaces σ (ps ++ qs) = setPlaces (setPlaces σ ps) qs
  | [], _, _ => rfl
  | (p, v) :: ps, qs, σ => by simp only [List.cons_append, setPlaces]; exact setPlaces_append ps qs _

/-- The place of a part's cells while the others are fetched. -/
def stage (off : Nat) (l : Loc) : Loc := match l with | .res 0 j => .res 1 (off + j) | l => l
theorem stage_reloc (off : Nat) : Reloc (stage off) := by
  refine ⟨rfl, rfl, fun _ => rfl, fun l i hl => ?_, fun l hl => ?_⟩
  · cases l <;> simp only [stage] at hl <;> first | rfl | exact hl | (split at hl <;> first | cases hl | exact hl)
  · cases l <;> simp only [stage] at hl <;> first | rfl | exact hl | (split at hl <;> first | cases hl | exact hl)
def unstage (l : Loc) : Loc := match l with | .res 1 j => .res 0 j | l => l
theorem unstage_reloc : Reloc unstage := by
  refine ⟨rfl, rfl, fun _ => rfl, fun l i hl => ?_, fun l hl => ?_⟩
  · cases l <;> simp only [unstage] at hl <;> first | rfl | exact hl | (split at hl <;> first | cases hl | exact hl)
  · cases l <;> simp only [unstage] at hl <;> first | rfl | exact hl | (split at hl <;> first | cases hl | exact hl)

/-- What no place of ours holds may change hands. -/
theorem SR.restage {own : Own} {β : Nat → Nat} {w : World} {σ : St} {tmps : Array Value} (h : SR own β w σ tmps) {ρ : Loc → Loc} (hr : Reloc ρ) (hs : ∀ u i j, ρ (.slot u i j) = .slot u i j)
    (hc : ∀ id j, ρ (.cell id j) = .cell id j) : SR (fun b => ρ (own b)) β w σ tmps := by
  refine ⟨fun u => ?_, h.heap.reloc hr hc⟩
  refine (h.env u).keep (fun b hb => ⟨by simp only [hb, hr.im], rfl⟩) (fun id hb => ⟨by simp only [hb, hr.blk], rfl⟩) (fun i j b hb => ⟨by simp only [hb, hs], rfl⟩)
    (fun p hp => ⟨fun sz n xs hl => ⟨n, xs, hl, rfl⟩, fun c hc => hc, fun b hb => ?_⟩)
  cases p <;> simp only [locOf] at hb ⊢ <;> simp only [hb, hs, hc]
theorem Nxt.restage {o1 : Own} {β1 : Nat → Nat} {w1 : World} {σ1 : St} (h : Nxt own β w σ a o1 β1 w1 σ1 a) {ρ : Loc → Loc} (hr : Reloc ρ) (hs : ∀ u i j, ρ (.slot u i j) = .slot u i j)
    (hc : ∀ id j, ρ (.cell id j) = .cell id j) : Nxt own β w σ a (fun b => ρ (o1 b)) β1 w1 σ1 a :=
  ⟨h.sr.restage hr hs hc, h.stay.trans (Stay.reloc hr), h.bx, rfl, rfl⟩

theorem takes_ok (place : Nat → Option (Nat × Nat)) : ∀ (l : List (Nat × Operand)) (own : Own) (σ : St) (vs : List (Nat × V)) (ps : List (Place × V)), SR own β w σ a.tmps → takes take σ l = some (vs, ps) →
    (∀ x ∈ l, (place x.1).isSome = true) →
    ∃ o1 ρ, Nxt own β w σ a o1 β w (setPlaces σ ps) a ∧ PartsR (fun k d u => CR o1 β w (.res 1 k) d u) place vs (l.map fun x => (x.1, a.eval x.2)) ∧ Reloc ρ ∧ (∀ j, ρ (.res 1 j) = .res 1 j) ∧ o1 = fun b => ρ (own b)
  | [], own, σ, vs, ps, h, ht, _ => by
    simp only [takes] at ht; injection ht with ht; injection ht with h1 h2; subst h1; subst h2
    exact ⟨own, id, Nxt.refl h, trivial, reloc_id, fun _ => rfl, rfl⟩
  | (i, x) :: rest, own, σ, vs, ps, h, ht, hpl => by
    simp only [takes] at ht
    cases hx : take σ x <;> simp only [hx] at ht
    · cases ht
    rename_i vp
    obtain ⟨v, ps1⟩ := vp
    simp only at ht
    cases hr : takes take (setPlaces σ ps1) rest <;> simp only [hr] at ht
    · cases ht
    rename_i vq
    obtain ⟨vs', qs⟩ := vq
    injection ht with ht; injection ht with h1 h2; subst h1; subst h2
    obtain ⟨o1, n1, ⟨c1, c2⟩, ρ1, r1, r2, r3⟩ := take_ok h hx
    have hp := hpl (i, x) (by simp)
    cases hpi : place i with
    | none => simp [hpi] at hp
    | some os =>
      obtain ⟨off, size⟩ := os
      have n2 := n1.restage (stage_reloc off) (fun _ _ _ => rfl) (fun _ _ => rfl)
      obtain ⟨o2, ρ2, n3, p3, s1, s2, s3⟩ := takes_ok place rest _ _ vs' qs n2.sr hr (fun y hy => hpl y (by simp [hy]))
      have hcr : ∀ (k : Nat) (d : V) (u : Value), v.cells[k]? = some d → (a.eval x).cells[k]? = some u → CR o2 β w (.res 1 (off + k)) d u := by
        intro k d u hd hu
        have h1 := (c2 k d u hd hu).reloc (stage_reloc off)
        have h2 := h1.reloc s1
        simp only [stage] at h2
        rw [s2] at h2
        rw [s3]; exact h2
      refine ⟨o2, fun l => ρ2 (stage off (ρ1 l)), by rw [setPlaces_append]; exact n2.trans n3, ⟨rfl, c1, fun off' size' hq k d u hd hu => ?_, p3⟩, ?_, fun j => ?_, ?_⟩
      · rw [hpi] at hq; injection hq with hq; injection hq with h1 h2; subst h1
        exact hcr k d u hd hu
      · exact ⟨by simp only [r1.im, (stage_reloc off).im, s1.im], by simp only [r1.other, (stage_reloc off).other, s1.other], fun id => by simp only [r1.blk, (stage_reloc off).blk, s1.blk],
          fun l id hl => r1.noblk _ _ ((stage_reloc off).noblk _ _ (s1.noblk _ _ hl)), fun l hl => r1.noother _ ((stage_reloc off).noother _ (s1.noother _ hl))⟩
      · show ρ2 (stage off (ρ1 (.res 1 j))) = _
        rw [show ρ1 (.res 1 j) = .res 1 j from r2 0 j]; simp only [stage]; exact s2 j
      · rw [s3, r3]

theorem fill_places {cs cs' : List V} {place : Nat → Option (Nat × Nat)} : ∀ {vs : List (Nat × V)}, fill cs place vs = some cs' → ∀ x ∈ vs, (place x.1).isSome = true
  | [], _, x, hx => by simp at hx
  | (i, v) :: vs, hf, x, hx => by
    simp only [fill] at hf
    cases hpl : place i <;> simp only [hpl] at hf
    · cases hf
    rename_i os
    obtain ⟨off, size⟩ := os
    simp only at hf
    split at hf
    · rcases List.mem_cons.1 hx with rfl | hx
      · simp [hpl]
      · exact fill_places hf x hx
    · cases hf

theorem takes_keys {f : St → Operand → Option (V × List (Place × V))} : ∀ {l : List (Nat × Operand)} {σ : St} {vs : List (Nat × V)} {ps : List (Place × V)}, takes f σ l = some (vs, ps) → vs.map (·.1) = l.map (·.1)
  | [], σ, vs, ps, h => by simp only [takes] at h; injection h with h; injection h with h1 h2; subst h1; rfl
  | (i, x) :: rest, σ, vs, ps, h => by
    simp only [takes] at h
    cases hx : f σ x <;> simp only [hx] at h
    · cases h
    rename_i vp
    obtain ⟨v, ps1⟩ := vp
    simp only at h
    cases hr : takes f (setPlaces σ ps1) rest <;> simp only [hr] at h
    · cases h
    rename_i vq
    obtain ⟨vs', qs⟩ := vq
    injection h with h; injection h with h1 h2; subst h1
    simp [takes_keys hr]

theorem mapM_places {T : Types} (hT : TOk P T) : ∀ {fs : List Field} {gs : List (Nat × Nat)}, fieldsB fs gs = true → (∀ g ∈ gs, (T g.2).isSome = true) →
    ∃ places, fs.mapM (fun f => (P.info? f.type).map fun i => (f.offset, i.size)) = some places ∧ places.length = gs.length ∧
      ∀ (j off t : Nat), gs[j]? = some (off, t) → ∃ ti, T t = some ti ∧ places[j]? = some (off, ti.size)
  | [], [], _, _ => ⟨[], rfl, rfl, fun j off t h => by simp at h⟩
  | f :: fs, (o, t) :: gs, hb, hg => by
    simp only [fieldsB, Bool.and_eq_true, beq_iff_eq] at hb
    obtain ⟨places, h1, h2, h3⟩ := mapM_places hT hb.2 (fun g hg' => hg g (by simp [hg']))
    have ht := hg (o, t) (by simp)
    cases hti : T t with
    | none => simp [hti] at ht
    | some ti =>
      obtain ⟨r⟩ := Row.of hT hti
      refine ⟨(o, ti.size) :: places, ?_, by simp [h2], fun j off t' hj => ?_⟩
      · simp only [List.mapM_cons, hb.1.2, r.hinfo, Option.map_some, h1, hb.1.1, r.hsize]; rfl
      · cases j with
        | zero => simp at hj; obtain ⟨rfl, rfl⟩ := hj; exact ⟨ti, hti, rfl⟩
        | succ j => simpa using h3 j off t' (by simpa using hj)
  | [], _ :: _, hb, _ => by simp [fieldsB] at hb
  | _ :: _, [], hb, _ => by simp [fieldsB] at hb


theorem CR.unstage {o1 : Own} {k : Nat} {d : V} {u : Value} (h : CR o1 β w (.res 1 k) d u) : CR (fun b => unstage (o1 b)) β w (.res 0 k) d u := h.reloc unstage_reloc

theorem ok_build {T : Types} {call : CallF} {cx : Cx} {fr : Nat} (h : Hyp P T o own β w σ a) {t : TypeId} {parts : Array (Nat × Operand)} (ho : o.op = .build t parts) {e : Eff}
    (he : eff T call cx fr o σ = some e) : OpOk P o own β w σ a (apply σ o.dst e) := by
  simp only [eff, ho] at he
  cases hT : T t <;> simp only [hT] at he
  · cases he
  rename_i i
  obtain ⟨r⟩ := Row.of h.T hT
  cases htk : takes take σ parts.toList <;> simp only [htk] at he
  · cases he
  rename_i vp
  obtain ⟨vs, ps⟩ := vp
  simp only at he
  have hparts : (parts.map fun (j, x) => (j, a.eval x)).toList = parts.toList.map fun x => (x.1, a.eval x.2) := by simp
  -- what both kinds share
  have key : ∀ (place place' : Nat → Option (Nat × Nat)) (cs : List V), (∀ i x, place i = some x → place' i = some x) → fill i.zero.cells place vs = some cs →
      (∀ cells, Instr.fill place' r.z.cells (parts.map fun (j, x) => (j, a.eval x)).toList = some cells → P.built t (parts.map fun (j, x) => (j, a.eval x)).toList = some cells) →
      OpOk P o own β w σ a (apply σ o.dst { val := .agg cs, places := ps }) := by
    intro place place' cs hpp hf hbuilt
    have hkeys := takes_keys htk
    obtain ⟨o1, ρ, n1, p1, _, _, _⟩ := takes_ok (a := a) place parts.toList own σ vs ps h.sr htk (fun x hx => by
      have : x.1 ∈ vs.map (·.1) := by rw [hkeys]; exact List.mem_map_of_mem hx
      obtain ⟨y, hy, he⟩ := List.mem_map.1 this
      have := fill_places hf y hy
      rwa [he] at this)
    obtain ⟨arr', f1, f2, f3, f4⟩ := fill_rel (fun k d u => CR o1 β w (.res 1 k) d u) place place' hpp vs (parts.toList.map fun x => (x.1, a.eval x.2)) i.zero.cells cs r.z.cells p1
      (by rw [r.hzs, r.hzl]) (fun k d u hd hu => CR_of_FR (r.hzc o1 w k d u hd hu)) hf
    rw [← hparts] at f1
    have hrun : (execOp a.eval o).run P w = .ok (.value (.agg arr')) w := by
      have := run_build (P := P) w t _ arr' (hbuilt arr' f1)
      simp [execOp, ho, this]
    have n2 := n1.restage unstage_reloc (fun _ _ _ => rfl) (fun _ _ => rfl)
    exact OpOk.value hrun n2 h.dst rfl ⟨arr', rfl, f2, fun j v c hv hc => (f4 j v c hv hc).unstage⟩
  cases hk : i.kind <;> simp only [hk] at he <;> try (cases he; done)
  · -- an array
    rename_i n el
    have hu := kind_array r hk
    cases hel : T el <;> simp only [hel] at he
    · cases he
    rename_i ei
    obtain ⟨re⟩ := Row.of h.T hel
    split at he
    · rename_i cs hf
      injection he with he; subst he
      refine key _ (fun j => some (j * ei.size, ei.size)) cs (fun _ _ hx => hx) hf (fun cells hc => ?_)
      simp only [Program.built, r.hinfo, hu, r.hz, re.hinfo, re.hsize]
      exact hc
    · cases he
  · -- a struct
    rename_i gs
    obtain ⟨fields, hu, hfb⟩ := kind_struct r hk
    split at he
    · cases he
    rename_i hall
    split at he
    · rename_i cs hf
      injection he with he; subst he
      have hall' : ∀ g ∈ gs, (T g.2).isSome = true := by
        intro g hg
        have : gs.all (fun g => (T g.2).isSome) = true := by
          cases hq : gs.all (fun g => (T g.2).isSome)
          · rw [hq] at hall; simp at hall
          · rfl
        exact List.all_eq_true.1 this g hg
      obtain ⟨places, m1, m2, m3⟩ := mapM_places h.T hfb hall'
      refine key _ (fun j => places.toArray[j]?) cs (fun j x hx => ?_) hf (fun cells hc => ?_)
      · cases hg : gs[j]? <;> simp only [hg] at hx
        · cases hx
        rename_i g
        obtain ⟨off, ft⟩ := g
        obtain ⟨ti, q1, q2⟩ := m3 j off ft hg
        simp only [q1, Option.map_some, Option.some.injEq] at hx
        subst hx
        simpa using q2
      · simp only [Program.built, r.hinfo, hu, r.hz, m1]
        exact hc
    · cases he


/-- Data parts. -/
def PartsD (own : Own) (w : World) (sz len : Nat) : List (Nat × V) → List (Nat × Value) → Prop
  | [], [] => True
  | (i, v) :: vs, (j, c) :: cs => i = j ∧ i < len ∧ v.cells.length = sz ∧ c.cells.size = sz ∧ (∀ (k : Nat) (d : V) (u : Value), v.cells[k]? = some d → c.cells[k]? = some u → FR own w d u) ∧ PartsD own w sz len vs cs
  | _, _ => False
theorem PartsD.mono {own own' : Own} {sz len : Nat} (hk : ∀ b, own b = .im → own' b = .im) : ∀ {vs : List (Nat × V)} {cs : List (Nat × Value)}, PartsD own w sz len vs cs → PartsD own' w sz len vs cs
  | [], [], _ => trivial
  | (i, v) :: vs, (j, c) :: cs, hp => ⟨hp.1, hp.2.1, hp.2.2.1, hp.2.2.2.1, fun k d u hd hu => (hp.2.2.2.2.1 k d u hd hu).mono fun b hb => ⟨hk b hb, rfl⟩, hp.2.2.2.2.2.mono hk⟩
  | [], _ :: _, hp => hp.elim
  | _ :: _, [], hp => hp.elim

theorem fill_lay {own : Own} {sz len : Nat} : ∀ (vs : List (Nat × V)) (cvs : List (Nat × Value)) (xs : List V) (arr : Array Value), PartsD own w sz len vs cvs → xs.length = len → arr.size = len * sz → Lay own w sz xs arr →
    ∃ arr', Instr.fill (fun i => some (i * sz, sz)) arr cvs = some arr' ∧ arr'.size = len * sz ∧ Lay own w sz (vs.foldl (fun l x => l.set x.1 x.2) xs) arr' ∧ (vs.foldl (fun l x => l.set x.1 x.2) xs).length = len
  | [], [], xs, arr, _, hx, hs, hl => ⟨arr, rfl, hs, hl, hx⟩
  | (i, v) :: vs, (j, c) :: cvs, xs, arr, hp, hx, hs, hl => by
    obtain ⟨rfl, h1, h2, h3, h4, h5⟩ := hp
    have hfit0 : i * sz + sz ≤ len * sz := by
      have := Nat.mul_le_mul_right sz (show i + 1 ≤ len from h1); rw [Nat.succ_mul] at this; exact this
    have hfit : i * sz + 0 + c.cells.toList.length ≤ arr.size := by simp; omega
    obtain ⟨g1, g2⟩ := foldl_set (i * sz) c.cells.toList 0 arr hfit
    have hconv : c.cells.zipIdx.foldl (fun cs x => cs.setIfInBounds (i * sz + x.2) x.1) arr = (c.cells.toList.zipIdx 0).foldl (fun cs x => cs.setIfInBounds (i * sz + x.2) x.1) arr := by
      rw [← Array.foldl_toList, Array.toList_zipIdx]
    obtain ⟨arr', e1, e2, e3, e4⟩ := fill_lay vs cvs (xs.set i v) (c.cells.zipIdx.foldl (fun cs x => cs.setIfInBounds (i * sz + x.2) x.1) arr) h5 (by simpa using hx) (by rw [hconv, g1]; exact hs)
      (fun i' y hy => by
        by_cases hi : i' = i
        · subst hi
          rw [List.getElem?_set_self (by omega)] at hy
          injection hy with hy; subst hy
          refine ⟨h2, fun j d u hd hu => ?_⟩
          have hjs : j < sz := by rw [← h2]; exact (List.getElem?_eq_some_iff.1 hd).1
          rw [hconv, g2, if_pos (by simp; omega)] at hu
          have : i' * sz + j - (i' * sz + 0) = j := by omega
          rw [this] at hu
          exact h4 j d u hd (by simpa using hu)
        · rw [List.getElem?_set_ne (Ne.symm hi)] at hy
          obtain ⟨f1, f2⟩ := hl i' y hy
          refine ⟨f1, fun j d u hd hu => ?_⟩
          have hjs : j < sz := by rw [← f1]; exact (List.getElem?_eq_some_iff.1 hd).1
          have := sep (off := 0) (n := sz) hi hjs (by omega)
          rw [hconv, g2, if_neg (by simp; omega)] at hu
          exact f2 j d u hd hu)
    refine ⟨arr', ?_, e2, e3, e4⟩
    simp only [Instr.fill]
    rw [if_neg (by simp; omega)]
    exact e1
  | [], _ :: _, _, _, hp, _, _, _ => hp.elim
  | _ :: _, [], _, _, hp, _, _, _ => hp.elim

theorem rep_get {n k : Nat} {z y : V} (h : (List.replicate n z)[k]? = some y) : k < n ∧ y = z := by
  rw [List.getElem?_replicate] at h
  split at h
  · injection h with h; exact ⟨‹_›, h.symm⟩
  · cases h
theorem get_rep {n k : Nat} (z : V) (h : k < n) : (List.replicate n z)[k]? = some z := by rw [List.getElem?_replicate, if_pos h]

theorem lay_zeros {i : TI} {t : Nat} (r : Row P t i) (own : Own) (w : World) (len : Nat) (hz : 0 < i.size) :
    Lay own w i.size (List.replicate len i.zero) ((Array.range (len * i.size)).map (r.z.cells[· % r.z.cells.size]!)) := by
  intro k y hy
  obtain ⟨hk, rfl⟩ := rep_get hy
  refine ⟨r.hzl, fun j d u hd hu => ?_⟩
  have hj : j < i.size := by rw [← r.hzl]; exact (List.getElem?_eq_some_iff.1 hd).1
  have hlt : k * i.size + j < len * i.size := idx_lt hk hj
  have hmod : (k * i.size + j) % r.z.cells.size = j := by rw [r.hzs]; exact (div_mod_idx hz k j hj).2
  have hu' : u = r.z.cells[(k * i.size + j) % r.z.cells.size]! := by
    simp [Array.getElem?_range, hlt] at hu
    exact hu.symm
  rw [hmod] at hu'
  have hjz : j < r.z.cells.size := by rw [r.hzs]; exact hj
  refine r.hzc own w j d u hd ?_
  rw [hu', Array.getElem?_eq_getElem hjz]; simp [hjz]

theorem takeDat_ok {own : Own} {σ : St} (h : SR own β w σ a.tmps) {x : Operand} {v : V} {ps : List (Place × V)} (ht : takeDat σ x = some (v, ps)) :
    ∃ o1, Nxt own β w σ a o1 β w (setPlaces σ ps) a ∧ (a.eval x).cells.size = v.cells.length ∧ (∀ (j : Nat) (d : V) (u : Value), v.cells[j]? = some d → (a.eval x).cells[j]? = some u → FR o1 w d u) := by
  cases ps with
  | nil =>
    obtain ⟨h1, _, h3⟩ := takeDat_nil h ht
    exact ⟨own, Nxt.refl h, h1, h3⟩
  | cons p ps =>
    have one : ∀ {n xs} {c : Value} {o1 : Own}, FR o1 w (.sl n xs) c → c.cells.size = (V.sl n xs).cells.length ∧ ∀ (j : Nat) (d : V) (u : Value), (V.sl n xs).cells[j]? = some d → c.cells[j]? = some u → FR o1 w d u := by
      intro n xs c o1 hf
      have hone := hf.one
      have hcells : c.cells = #[c] := by cases c <;> first | rfl | (simp [Value.oneCell'] at hone)
      refine ⟨by rw [hcells]; rfl, fun j d u hd hu => ?_⟩
      cases j with
      | zero => rw [hcells] at hu; simp [V.cells] at hd hu; subst hd; subst hu; exact hf
      | succ j => simp [V.cells] at hd
    unfold takeDat at ht
    cases hv : opd σ.env x <;> simp only [hv] at ht <;> try (cases ht; done)
    case ex sz n xs =>
      cases htm : tmpOf x <;> simp only [htm] at ht
      · cases ht
      rename_i t
      obtain rfl := tmpOf_some htm
      injection ht with ht; injection ht with h1 h2; subst h1; rw [← h2]
      obtain ⟨o1, c, g1, g2, g3, _⟩ := Nxt.freeze (p := .slot t) h hv
      simp only [conc] at g2; injection g2 with g2; subst g2
      exact ⟨o1, g1, one g3⟩
    case lent q =>
      obtain ⟨sz, n, xs, q1, q2⟩ := opd_lent h hv
      simp only [q1] at ht
      injection ht with ht; injection ht with h1 h2; subst h1; rw [← h2]
      obtain ⟨o1, c, g1, g2, g3, _⟩ := Nxt.freeze h q1
      rw [q2] at g2; injection g2 with g2; subst g2
      exact ⟨o1, g1, one g3⟩
    all_goals (split at ht <;> cases ht)

theorem takesDat_ok (sz len : Nat) : ∀ (l : List (Nat × Operand)) (own : Own) (σ : St) (vs : List (Nat × V)) (ps : List (Place × V)), SR own β w σ a.tmps → takes takeDat σ l = some (vs, ps) →
    (∀ y ∈ vs, y.1 < len ∧ y.2.cells.length = sz) →
    ∃ o1, Nxt own β w σ a o1 β w (setPlaces σ ps) a ∧ PartsD o1 w sz len vs (l.map fun x => (x.1, a.eval x.2))
  | [], own, σ, vs, ps, h, ht, _ => by
    simp only [takes] at ht; injection ht with ht; injection ht with h1 h2; subst h1; subst h2
    exact ⟨own, Nxt.refl h, trivial⟩
  | (i, x) :: rest, own, σ, vs, ps, h, ht, hv => by
    simp only [takes] at ht
    cases hx : takeDat σ x <;> simp only [hx] at ht
    · cases ht
    rename_i vp
    obtain ⟨v, ps1⟩ := vp
    simp only at ht
    cases hr : takes takeDat (setPlaces σ ps1) rest <;> simp only [hr] at ht
    · cases ht
    rename_i vq
    obtain ⟨vs', qs⟩ := vq
    injection ht with ht; injection ht with h1 h2; subst h1; subst h2
    obtain ⟨o1, n1, c1, c2⟩ := takeDat_ok h hx
    obtain ⟨o2, n2, p2⟩ := takesDat_ok sz len rest o1 _ vs' qs n1.sr hr (fun y hy => hv y (by simp [hy]))
    obtain ⟨e1, e2⟩ := hv (i, v) (by simp)
    simp only at e1 e2
    exact ⟨o2, by rw [setPlaces_append]; exact n1.trans n2, rfl, e1, e2, by rw [c1]; exact e2, fun k d u hd hu => (c2 k d u hd hu).mono n2.stay.im, p2⟩

theorem ok_buildSlice {T : Types} {call : CallF} {cx : Cx} {fr : Nat} (h : Hyp P T o own β w σ a) {t : TypeId} {len : Nat} {parts : Array (Nat × Operand)} (ho : o.op = .buildSlice t len parts) {e : Eff}
    (he : eff T call cx fr o σ = some e) : OpOk P o own β w σ a (apply σ o.dst e) := by
  simp only [eff, ho] at he
  cases hk : kindOf T t <;> simp only [hk] at he
  · cases he
  rename_i k
  obtain ⟨i, r, hki⟩ := kindOf_row h.T hk
  cases htk : takes takeDat σ parts.toList <;> simp only [htk] at he
  · cases k <;> cases he
  rename_i vp
  obtain ⟨vs, ps⟩ := vp
  cases k <;> simp only at he <;> try (cases he; done)
  rename_i el
  have hu := kind_slice r hki
  cases hel : T el <;> simp only [hel] at he
  · cases he
  rename_i ei
  obtain ⟨re⟩ := Row.of h.T hel
  split at he
  · rename_i hc
    simp only [Bool.and_eq_true, decide_eq_true_eq, beq_iff_eq] at hc
    obtain ⟨⟨⟨⟨c1, c2⟩, c3⟩, c4⟩, c5⟩ := hc
    injection he with he; subst he
    have hvs : ∀ y ∈ vs, y.1 < len ∧ y.2.cells.length = ei.size := by
      intro y hy
      have := List.all_eq_true.1 c3 y hy
      simpa using this
    obtain ⟨o1, n1, p1⟩ := takesDat_ok (a := a) ei.size len parts.toList own σ vs ps h.sr htk hvs
    have hparts : (parts.map fun (j, x) => (j, a.eval x)).toList = parts.toList.map fun x => (x.1, a.eval x.2) := by simp
    obtain ⟨arr, f1, f2, f3, f4⟩ := fill_lay vs _ (List.replicate len ei.zero) ((Array.range (len * ei.size)).map (re.z.cells[· % re.z.cells.size]!)) p1 (by simp) (by simp) (lay_zeros re o1 w len c2)
    by_cases hlen : len = 0
    · subst hlen
      have hrun : (execOp a.eval o).run P w = .ok (.value (.slice (some ⟨w.heap.size, 0, none⟩) 0 0)) (w.alloc (.cells arr el)) := by
        have hvs0 : vs = [] := by
          cases vs with
          | nil => rfl
          | cons y ys => exact absurd (hvs y (by simp)).1 (by omega)
        have hp0 : parts = #[] := by
          have := takes_keys htk
          rw [hvs0] at this
          simp at this
          exact this
        subst hp0
        have hz0 : ∀ g : Nat → Value, (Array.range (0 * ei.size)).map g = #[] := fun g => by rw [Nat.zero_mul]; simp
        rw [hz0] at f1
        simp only [List.map_nil, Instr.fill] at f1
        injection f1 with f1
        subst f1
        simp [execOp, ho, Instr.buildSlice, run_underlying hu, run_sizeOf_row re, Instr.fill, newRow]
        congr 2
        exact Array.eq_empty_of_size_eq_zero (by simp)
      obtain ⟨o2, s1, s2, s3, _⟩ := n1.sr.fresh (w' := w.alloc (.cells arr el)) (xs := elems ei.zero 0 vs) (cap := 0) rfl rfl rfl rfl (by rw [elems, f4]; exact Nat.le_refl _) f2 f3
      rw [show (elems ei.zero 0 vs).length = 0 from f4] at s3
      exact OpOk.value hrun ⟨s1, n1.stay.trans s2, n1.bx, rfl, rfl⟩ h.dst rfl s3
    · have hpos : ¬ len * ei.size = 0 := by
        intro hz; rcases Nat.mul_eq_zero.1 hz with hz | hz <;> omega
      have hrun : (execOp a.eval o).run P w = .ok (.value (.slice (some ⟨w.heap.size, 0, none⟩) len len)) (w.alloc (.cells arr el)) := by
        have := run_buildSlice (P := P) w t el len (parts.map fun (j, x) => (j, a.eval x)) arr re.info re.z hu re.hinfo re.hz (by rw [re.hsize]; omega) (by rw [re.hsize]; exact hpos) (by rw [re.hsize, hparts]; exact f1)
        simp [execOp, ho, this]
      obtain ⟨o2, s1, s2, s3, _⟩ := n1.sr.fresh (w' := w.alloc (.cells arr el)) (xs := elems ei.zero len vs) (cap := len) rfl rfl rfl rfl (by rw [elems, f4]; exact Nat.le_refl _) f2 f3
      rw [show (elems ei.zero len vs).length = len from f4] at s3
      exact OpOk.value hrun ⟨s1, n1.stay.trans s2, n1.bx, rfl, rfl⟩ h.dst rfl s3
  · cases he

theorem ok_makeSlice {T : Types} {call : CallF} {cx : Cx} {fr : Nat} (h : Hyp P T o own β w σ a) {t : TypeId} {l c : Operand} (ho : o.op = .makeSlice t l c) {e : Eff}
    (he : eff T call cx fr o σ = some e) : OpOk P o own β w σ a (apply σ o.dst e) := by
  simp only [eff, ho] at he
  split at he
  · rename_i el kl ln kc cn hk hl hc
    obtain ⟨i, r, hki⟩ := kindOf_row h.T hk
    have hu := kind_slice r hki
    cases hel : T el <;> simp only [hel] at he
    · cases he
    rename_i ei
    obtain ⟨re⟩ := Row.of h.T hel
    split at he
    · rename_i hcnd
      obtain ⟨c1, c2, c3, c4, c5, c6, c7⟩ := hcnd
      injection he with he; subst he
      have hb : cn.toNat * ei.bytes ≤ 2 ^ 47 := of_decide_eq_true c3
      have hcc : ((cn.toNat : Nat) : Int) = cn := Int.toNat_of_nonneg (by omega)
      have hbytes : (re.info.bytes : Int) * cn ≤ 281474976710656 := by
        rw [re.hbytes, ← hcc]
        have : ((ei.bytes * cn.toNat : Nat) : Int) ≤ 281474976710656 := by rw [Nat.mul_comm]; omega
        simpa using this
      have hrun : (execOp a.eval o).run P w = .ok (.value (.slice (some ⟨w.heap.size, 0, none⟩) ln.toNat cn.toNat)) (w.alloc (.cells (madeCells re.z.cells (cn.toNat * re.info.size)) el)) := by
        have := run_make (P := P) w t el re.info re.z hu re.hinfo re.hz kl kc ln cn c1 c2 hbytes (by omega)
        simp [execOp, ho, opd_int h.sr hl, opd_int h.sr hc, this]
      rw [re.hsize] at hrun
      have hlay : Lay own w ei.size (List.replicate ln.toNat ei.zero) (madeCells re.z.cells (cn.toNat * ei.size)) := by
        intro k y hy
        obtain ⟨hk', rfl⟩ := rep_get hy
        refine ⟨re.hzl, fun j d u hd hu' => ?_⟩
        have hj : j < ei.size := by rw [← re.hzl]; exact (List.getElem?_eq_some_iff.1 hd).1
        have hlt : k * ei.size + j < cn.toNat * ei.size := idx_lt (by omega) hj
        have hz := lay_zeros re own w cn.toNat c5 k ei.zero (get_rep _ (by omega))
        refine hz.2 j d u hd ?_
        rw [← hu']
        simp [madeCells]
      obtain ⟨o2, s1, s2, s3, _⟩ := h.sr.fresh (w' := w.alloc (.cells (madeCells re.z.cells (cn.toNat * ei.size)) el)) (xs := List.replicate ln.toNat ei.zero) (cap := cn.toNat) rfl rfl rfl rfl (by simp; omega)
        (by rw [size_madeCells]) hlay
      rw [List.length_replicate] at s3
      exact OpOk.value hrun ⟨s1, s2, BX.refl _ _, rfl, rfl⟩ h.dst rfl s3
    · cases he
  · cases he

end
end Go.Vm
