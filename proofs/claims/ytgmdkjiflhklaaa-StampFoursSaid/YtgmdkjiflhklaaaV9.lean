/- V9: stores. -/
import Derived.Test.YtgmdkjiflhklaaaV8
namespace Go.Vm
open Go

section
variable {P : Program} {o : Oper} {own : Own} {β : Nat → Nat} {w : World} {σ : St} {a : Act}

/-- The cells of a value that is laid somewhere. -/
def CellsR (own : Own) (β : Nat → Nat) (w : World) (v : V) (c : Value) : Prop :=
  c.cells.size = v.cells.length ∧ ∀ (j : Nat) (d : V) (u : Value), v.cells[j]? = some d → c.cells[j]? = some u → CR own β w (.res 0 j) d u

theorem CellsR.of_TR {v : V} {c : Value} (h : TR own β w (fun i j => .res i j) v c) (hn : isWay v = false) (hu : v ≠ .undef) (ht : ∀ vs, v ≠ .tup vs) (hr : ∀ cs off, v ≠ .rptr cs off) : CellsR own β w v c := by
  cases v with
  | agg cs =>
    obtain ⟨arr, rfl, h2, h3⟩ := h
    exact ⟨h2, h3⟩
  | tup vs => exact absurd rfl (ht vs)
  | undef => exact absurd rfl hu
  | rptr cs off => exact absurd rfl (hr cs off)
  | lent p => cases hn
  | xptr p i off => cases hn
  | _ =>
    simp only [TR, VR] at h
    have hc := h
    have hone := hc.one
    have hcells : c.cells = #[c] := by cases c <;> first | rfl | (simp [Value.oneCell'] at hone)
    refine ⟨by rw [hcells]; rfl, fun j d u hd hu' => ?_⟩
    cases j with
    | zero =>
      rw [hcells] at hu'
      simp [V.cells] at hd hu'
      subst hd; subst hu'; exact hc
    | succ j => simp [V.cells] at hd

theorem reloc_id : Reloc id := ⟨rfl, rfl, fun _ => rfl, fun _ _ h => h, fun _ h => h⟩

theorem take_ok (h : SR own β w σ a.tmps) {x : Operand} {v : V} {ps : List (Place × V)} (ht : take σ x = some (v, ps)) :
    ∃ o1, Nxt own β w σ a o1 β w (setPlaces σ ps) a ∧ CellsR o1 β w v (a.eval x) ∧ ∃ ρ, Reloc ρ ∧ (∀ i j, ρ (.res (i + 1) j) = .res (i + 1) j) ∧ o1 = fun b => ρ (own b) := by
  unfold take at ht
  cases hv : opd σ.env x <;> simp only [hv] at ht <;> try (cases ht; done)
  case ex sz n xs =>
    cases htm : tmpOf x <;> simp only [htm] at ht
    · cases ht
    rename_i t
    obtain rfl := tmpOf_some htm
    injection ht with ht; injection ht with h1 h2; subst h1; subst h2
    obtain ⟨o1, h1, h2, hq⟩ := Nxt.giveSlot h t (by simp only [opd] at hv; rw [hv]; rfl)
    simp only [opd] at hv
    rw [hv] at h2
    exact ⟨o1, h1, CellsR.of_TR h2 rfl (by simp) (by simp) (by simp), slotOut t, slotOut_reloc t, fun _ _ => rfl, hq⟩
  case lent p =>
    obtain ⟨sz, n, xs, q1, q2⟩ := opd_lent h hv
    simp only [q1] at ht
    injection ht with ht; injection ht with h1 h2; subst h1; subst h2
    obtain ⟨o1, c, h1, h2, h3, hq⟩ := Nxt.freeze h q1
    rw [q2] at h2; injection h2 with h2; subst h2
    exact ⟨o1, h1, CellsR.of_TR (v := .sl n xs) (c := a.eval x) h3 rfl (by simp) (by simp) (by simp), _, locOf_reloc p (by simp) (by simp), fun i j => moved_ne (by cases p <;> simp [locOf]), hq⟩
  case agg cs =>
    split at ht
    · rename_i hc
      injection ht with ht; injection ht with h1 h2; subst h1; subst h2
      exact ⟨own, Nxt.refl h, CellsR.of_TR (opd_res' h hv rfl (noEx_dat hc)) rfl (by simp) (by simp) (by simp), id, reloc_id, fun _ _ => rfl, rfl⟩
    · cases htm : tmpOf x <;> simp only [htm] at ht
      · cases ht
      rename_i t
      obtain rfl := tmpOf_some htm
      injection ht with ht; injection ht with h1 h2; subst h1; subst h2
      obtain ⟨o1, h1, h2, hq⟩ := Nxt.giveSlot h t (by simp only [opd] at hv; rw [hv]; rfl)
      simp only [opd] at hv
      rw [hv] at h2
      exact ⟨o1, h1, CellsR.of_TR h2 rfl (by simp) (by simp) (by simp), slotOut t, slotOut_reloc t, fun _ _ => rfl, hq⟩
  all_goals
    injection ht with ht; injection ht with h1 h2; subst h1; subst h2
    exact ⟨own, Nxt.refl h, CellsR.of_TR (opd_res' h hv rfl rfl) rfl (by simp) (by simp) (by simp), id, reloc_id, fun _ _ => rfl, rfl⟩

theorem setPlaces_heap : ∀ (ps : List (Place × V)) (σ : St), ps.all isSlot = true → (setPlaces σ ps).heap = σ.heap
  | [], σ, _ => rfl
  | (p, v) :: rest, σ, h => by
    simp only [List.all_cons, Bool.and_eq_true] at h
    simp only [setPlaces]
    rw [setPlaces_heap rest _ h.2]
    cases p with
    | slot t => rfl
    | cell id off => simp [isSlot] at h

theorem evals_store {t : TypeId} {p x : Operand} (ho : o.op = .store t p x) {b oo : Nat} (hp : a.eval p = .pointer (some ⟨b, oo, none⟩)) {w' : World} (hr : (storeVar t ⟨b, oo, none⟩ (a.eval x)).run P w = .ok () w') :
    (execOp a.eval o).run P w = .ok .skip w' := by simp [execOp, ho, hp, Instr.storeAt, Instr.sureAddr, hr]

theorem run_storeVar {t : Nat} {i : TI} (r : Row P t i) {c : Value} (hs : c.cells.size = i.size) {b oo : Nat} {T0 : TypeId} {arr : Array Value} (hb : w.heap[b]? = some (.cells arr T0 (0, 0)))
    (hfit : oo + c.cells.toList.length ≤ arr.size) (hone : ∀ u ∈ c.cells.toList, u.oneCell' = true) :
    (storeVar t ⟨b, oo, none⟩ c).run P w = .ok () (w.setRow b (patch arr oo c.cells.toList)) := by
  have hst := run_storeCells_at P b oo T0 c.cells.toList 0 arr w hb (by simpa using hfit) hone
  simp only [Nat.add_zero] at hst
  unfold storeVar
  simp only [Sem.run_bind, run_sizeOf_row r, Result.andThen_ok, hs]
  simp only [ne_eq, not_true_eq_false, if_false, Sem.run_pure, Sem.run_bind, Result.andThen_ok]
  exact hst

/-- A store into a block of V's. -/
theorem ok_store_ptr {T : Types} (h : Hyp P T o own β w σ a) {t : TypeId} {p x : Operand} (ho : o.op = .store t p x) {i : TI} (r : Row P t i) {id off : Nat} (hp : opd σ.env p = .ptr id off)
    {v : V} {ps : List (Place × V)} (ht : take σ x = some (v, ps)) {cs : List V} (hcs : bcells σ.heap id = some cs) (hl : v.cells.length = i.size) (hfit : off + i.size ≤ cs.length)
    (hps : ps.all isSlot = true) (hok : v.cells.all (okBelow (id + 1)) = true) : OpOk P o own β w σ a (apply σ o.dst { val := .undef, places := ps, mem := .set id off v.cells }) := by
  have hsr := h.sr
  obtain ⟨q1, q2⟩ := opd_ptr hsr hp
  obtain ⟨o1, h1, ⟨h2, h3⟩, _⟩ := take_ok hsr ht
  have hh := setPlaces_heap ps σ hps
  have hcs' : bcells (setPlaces σ ps).heap id = some cs := by rw [hh]; exact hcs
  obtain ⟨o2, arr, T0, s1, s2, s3, s4, s5, s6⟩ := h1.sr.store hcs' (off := off) (vs := v.cells) (cvs := (a.eval x).cells.toList) (by simpa using h2) (by omega)
    (fun d hd => List.all_eq_true.1 hok d hd) (fun j d u hd hu => h3 j d u hd (by simpa using hu))
  have hrun := evals_store (P := P) (w := w) ho q1 (run_storeVar r (by omega) s1 s2 s3)
  exact OpOk.skip hrun ⟨s4, h1.stay.trans s5, h1.bx.trans s6, rfl, rfl⟩ h.dst

theorem mkOf_cells {e : V} {cs : List V} (h : cs.length = e.cells.length) (hne : ∀ y ∈ cs, ∀ as, y ≠ .agg as) : (mkOf e cs).cells = cs := by
  cases e with
  | agg as => rfl
  | _ =>
    simp only [V.cells, List.length_cons, List.length_nil] at h
    match cs, h with
    | [y], _ =>
      simp only [mkOf, List.getD_cons_zero]
      have := hne y (by simp)
      cases y <;> first | rfl | exact absurd rfl (this _)

/-- The place's array has another content, its block written. -/
theorem SR.rewrite (h : SR own β w σ a.tmps) {q : Place} {sz : Nat} {n : Bool} {xs xs' : List V} (hl : look σ q = .ex sz n xs) {b len cap : Nat} {T0 : TypeId} {arr arr' : Array Value}
    (hc : conc β a.tmps w q = some (.slice (some ⟨b, 0, none⟩) len cap)) (hlen : xs'.length = xs.length) (hb : own b = locOf q) (hw : w.heap[b]? = some (.cells arr T0 (0, 0))) (hsz : arr'.size = arr.size)
    (hne : xs ≠ []) (hlay : Lay own w sz xs' arr') :
    ∃ o1, Nxt own β w σ a o1 β (w.setRow b arr') (setPlace σ q (.ex sz n xs')) a := by
  obtain ⟨c0, h1, h2⟩ := h.at_ hl
  rw [hc] at h1; injection h1 with h1; subst h1
  obtain ⟨o1, c1, g1, g2, g3, g4, g5⟩ := h.give (.res 0 0) (by simp) (by simp) hl
  rw [hc] at g1; injection g1 with g1; subst g1
  rcases h2 with ⟨he, _, _⟩ | ⟨he, _, _⟩ | ⟨hn, b', cap', T', arr0, e1, e2, e3, e4, e5, e6⟩
  · exact absurd he hne
  · exact absurd he hne
  injection e1 with e1 e1' e1''; injection e1 with e1; injection e1 with e1 _ _; subst e1; subst e1'; subst e1''
  rw [hw] at e3; injection e3 with e3; injection e3 with e3 e3' _; subst e3; subst e3'
  have hob : o1 b = .res 0 0 := by rw [g5]; simp only [hb, moved_at]
  obtain ⟨s1, s2⟩ := g3.pokeRes (w' := w.setRow b arr') hob (by simp) (fun k hk => setRow_other w b k _ hk) rfl rfl rfl
  have hx : EXR o1 (w.setRow b arr') (.res 0 0) sz n xs' (.slice (some ⟨b, 0, none⟩) xs.length cap) := by
    refine .inr (.inr ⟨hn, b, cap, T0, arr', by rw [hlen], hob, setRow_at w b arr _ T0 _ hw, by omega, by rw [hsz]; exact e5, ?_⟩)
    exact (hlay.mono g4.im).mono s2.im
  have hc' : conc β a.tmps (w.setRow b arr') q = some (.slice (some ⟨b, 0, none⟩) xs.length cap) := by
    cases q with
    | slot t => exact hc
    | cell id off =>
      simp only [conc] at hc ⊢
      rw [← hc]
      obtain ⟨cs, hcs, _⟩ := Place.cases_look hl
      have hbl := (h.heap.blk id cs hcs).1
      refine World.cell?_of_block (w := w) (setRow_other w b _ _ fun he => ?_)
      simp only at he
      rw [he, hb] at hbl; simp [locOf] at hbl
  have hpl : ∀ id off, q = .cell id off → ∃ cs, bcells (setPlace σ q .undef).heap id = some cs ∧ off < cs.length := by
    rintro id off rfl
    obtain ⟨cs, hcs, hv⟩ := Place.cases_look hl
    simp only [setPlace, hcs]
    exact ⟨cs.set off .undef, by rw [bcells_set (bcells_lt hcs)]; simp, by simpa using (List.getElem?_eq_some_iff.1 hv).1⟩
  obtain ⟨o2, t1, t2⟩ := s1.back q hpl hc' hx
  refine ⟨o2, ?_, (g4.trans s2).trans t2, ?_, rfl, rfl⟩
  · refine t1.congr (fun u => ?_) ?_
    · cases q with
      | slot t =>
        simp only [setPlace]
        by_cases hu : u = t
        · subst hu; simp [get_cons_same]
        · rw [get_cons_ne _ _ (Ne.symm hu), get_cons_ne _ _ (Ne.symm hu), get_kill, get_kill, get_cons_ne _ _ (Ne.symm hu), get_kill]
          split
          · simp [V.refsTo]
          · rfl
      | cell id off =>
        simp only [setPlace, get_kill]
        split
        · simp [V.refsTo]
        · rfl
    · cases q with
      | slot t => rfl
      | cell id off =>
        obtain ⟨cs, hcs, hv⟩ := Place.cases_look hl
        simp only [setPlace, hcs]
        rw [bcells_set (bcells_lt hcs)]
        simp only [if_true, List.set_set]
  · cases q with
    | slot t => exact BX.refl _ _
    | cell id off =>
      obtain ⟨cs, hcs, hv⟩ := Place.cases_look hl
      simp only [setPlace, hcs]
      refine ⟨by simp, fun i ds hi => ⟨rfl, ?_⟩⟩
      rw [bcells_set (bcells_lt hcs)]
      split
      · exact ⟨_, rfl⟩
      · exact ⟨ds, hi⟩


theorem takeDat_nil (h : SR own β w σ a.tmps) {x : Operand} {v : V} (ht : takeDat σ x = some (v, [])) :
    (a.eval x).cells.size = v.cells.length ∧ (∀ y ∈ v.cells, ∀ as, y ≠ .agg as) ∧ ∀ (j : Nat) (d : V) (u : Value), v.cells[j]? = some d → (a.eval x).cells[j]? = some u → FR own w d u := by
  have fin : ∀ v, opd σ.env x = v → v.dat = true → v ≠ .undef → (a.eval x).cells.size = v.cells.length ∧ (∀ y ∈ v.cells, ∀ as, y ≠ .agg as) ∧ ∀ (j : Nat) (d : V) (u : Value), v.cells[j]? = some d → (a.eval x).cells[j]? = some u → FR own w d u := by
    intro v hv hd hu
    have hall : ∀ y ∈ v.cells, cellDat y = true := by
      intro y hy
      cases v <;> first
        | (simp [V.cells] at hy; subst hy; exact hd)
        | exact List.all_eq_true.1 hd y hy
    have hw : isWay v = false := by cases v <;> first | rfl | (simp [V.dat, cellDat] at hd)
    have hne : noEx v = true := by
      cases v <;> first
        | rfl
        | (simp [V.dat, cellDat] at hd; done)
        | exact noEx_dat hd
    have ht : ∀ vs, v ≠ .tup vs := by rintro vs rfl; simp [V.dat, cellDat] at hd
    have hr : ∀ cs off, v ≠ .rptr cs off := by rintro cs off rfl; simp [V.dat, cellDat] at hd
    obtain ⟨h1, h2⟩ := CellsR.of_TR (opd_res' h hv hw hne) hw hu ht hr
    exact ⟨h1, fun y hy as he => by have := hall y hy; rw [he] at this; simp [cellDat] at this, fun j d u hd' hu' => FR_of_CR (h2 j d u hd' hu') (hall d (List.mem_of_getElem? hd'))⟩
  unfold takeDat at ht
  cases hv : opd σ.env x <;> simp only [hv] at ht <;> try (cases ht; done)
  case ex sz n xs =>
    cases htm : tmpOf x <;> simp only [htm] at ht <;> cases ht
  case lent p =>
    obtain ⟨sz, n, xs, q1, q2⟩ := opd_lent h hv
    simp only [q1] at ht
    cases ht
  all_goals
    split at ht
    · rename_i hd
      injection ht with ht; injection ht with h1 h2; subst h1
      exact fin _ hv hd (by simp)
    · cases ht

theorem sep {i k sz j off n : Nat} (hik : i ≠ k) (hj : j < sz) (hn : off + n ≤ sz) : ¬ (k * sz + off ≤ i * sz + j ∧ i * sz + j < k * sz + off + n) := by
  rintro ⟨h1, h2⟩
  rcases Nat.lt_or_gt_of_ne hik with h | h
  · have : (i + 1) * sz ≤ k * sz := Nat.mul_le_mul_right _ h
    rw [Nat.succ_mul] at this; omega
  · have : (k + 1) * sz ≤ i * sz := Nat.mul_le_mul_right _ h
    rw [Nat.succ_mul] at this; omega

theorem ok_store {T : Types} {call : CallF} {cx : Cx} {fr : Nat} (h : Hyp P T o own β w σ a) {t : TypeId} {p x : Operand} (ho : o.op = .store t p x) {e : Eff}
    (he : eff T call cx fr o σ = some e) : OpOk P o own β w σ a (apply σ o.dst e) := by
  have hsr := h.sr
  simp only [eff, ho] at he
  cases hT : T t <;> simp only [hT] at he
  · cases he
  rename_i i
  obtain ⟨r⟩ := Row.of h.T hT
  cases hs : storeAt i σ (opd σ.env p) x <;> simp only [hs] at he
  · cases he
  rename_i e0
  unfold storeAt at hs
  cases hp : opd σ.env p <;> simp only [hp] at hs <;> try (cases hs; done)
  · rename_i id off
    cases ht : take σ x <;> simp only [ht] at hs
    · cases hs
    rename_i vp
    obtain ⟨v, ps⟩ := vp
    cases hcs : bcells σ.heap id <;> simp only [hcs] at hs
    · cases hs
    rename_i cs
    split at hs
    · rename_i hc
      injection hs with hs; subst hs
      simp only at he
      split at he
      · rename_i hok
        injection he with he; subst he
        exact ok_store_ptr h ho r hp ht hcs hc.1 hc.2.1 hc.2.2 hok
      · cases he
    · cases hs
  · rename_i q k off
    cases ht : takeDat σ x <;> simp only [ht] at hs
    · cases hs
    rename_i vp
    obtain ⟨v, ps⟩ := vp
    obtain ⟨sz, n, xs, b, len, cap, q1, q2, q3, q4, q5⟩ := opd_xptr hsr hp
    cases ps with
    | cons _ _ => simp only [q1] at hs; cases hs
    | nil =>
    simp only [q1] at hs
    have hxk : xs[k]? = some xs[k] := List.getElem?_eq_getElem q4
    simp only [hxk] at hs
    split at hs
    · rename_i hc
      injection hs with hs; subst hs
      simp only at he
      injection he with he; subst he
      obtain ⟨t1, t2, t3⟩ := takeDat_nil hsr ht
      obtain ⟨c0, h1, h2⟩ := hsr.at_ q1
      rw [q2] at h1; injection h1 with h1; subst h1
      rcases h2 with ⟨he, _, _⟩ | ⟨he, _, _⟩ | ⟨hn, b', cap', T', arr, e1, e2, e3, e4, e5, e6⟩
      · subst he; simp at q4
      · subst he; simp at q4
      injection e1 with e1 e1' e1''; injection e1 with e1; injection e1 with e1 _ _; subst e1; subst e1'; subst e1''
      obtain ⟨f1, f2⟩ := e6 k _ hxk
      have hcl : (a.eval x).cells.toList.length = i.size := by simp; omega
      have hoff : off + i.size ≤ sz := by omega
      have hfit : k * sz + off + (a.eval x).cells.toList.length ≤ arr.size := by
        have h1 : (k + 1) * sz ≤ cap * sz := Nat.mul_le_mul_right _ (by omega)
        rw [Nat.succ_mul] at h1; rw [e5]; omega
      have hone : ∀ u ∈ (a.eval x).cells.toList, u.oneCell' = true := fun u hu => by
        obtain ⟨j, hj⟩ := List.getElem?_of_mem hu
        have hlt : j < v.cells.length := by have := (List.getElem?_eq_some_iff.1 hj).1; omega
        exact (t3 j _ u (List.getElem?_eq_getElem hlt) (by simpa using hj)).one
      have hrun := evals_store (P := P) (w := w) ho q5 (run_storeVar r (by omega) e3 hfit hone)
      have hset : (setCells xs[k].cells off v.cells).length = xs[k].cells.length := setCells_length _ _ _
      have hget : ∀ j, (setCells xs[k].cells off v.cells)[j]? = if off ≤ j ∧ j < off + v.cells.length then v.cells[j - off]? else xs[k].cells[j]? := fun j => setCells_get _ _ _ j (by omega)
      have hmk : (mkOf xs[k] (setCells xs[k].cells off v.cells)).cells = setCells xs[k].cells off v.cells := by
        refine mkOf_cells hset (fun y hy as he => ?_)
        obtain ⟨j, hj⟩ := List.getElem?_of_mem hy
        rw [hget] at hj
        split at hj
        · exact t2 y (List.mem_of_getElem? hj) as he
        · have hlt : k * sz + j < arr.size := by
            have hjs : j < sz := by rw [← f1]; exact (List.getElem?_eq_some_iff.1 hj).1
            rw [e5]; exact Nat.lt_of_lt_of_le (idx_lt q4 hjs) (Nat.mul_le_mul_right _ e4)
          have := f2 j y _ hj (Array.getElem?_eq_getElem hlt)
          rw [he] at this; cases this
      have hlay : Lay own w sz (xs.set k (mkOf xs[k] (setCells xs[k].cells off v.cells))) (patch arr (k * sz + off) (a.eval x).cells.toList) := by
        intro i' y hy
        by_cases hik : i' = k
        · subst hik
          rw [List.getElem?_set_self q4] at hy
          injection hy with hy; subst hy
          rw [hmk]
          refine ⟨by rw [hset]; exact f1, fun j d c hd hcv => ?_⟩
          rw [hget] at hd
          rw [patch_get _ _ _ hfit] at hcv
          by_cases hin : off ≤ j ∧ j < off + v.cells.length
          · rw [if_pos hin] at hd
            rw [if_pos (by omega)] at hcv
            have he : i' * sz + j - (i' * sz + off) = j - off := by omega
            rw [he] at hcv
            exact t3 _ d c hd (by simpa using hcv)
          · rw [if_neg hin] at hd
            rw [if_neg (by omega)] at hcv
            exact f2 j d c hd hcv
        · rw [List.getElem?_set_ne (Ne.symm hik)] at hy
          obtain ⟨g1, g2⟩ := e6 i' y hy
          refine ⟨g1, fun j d c hd hcv => ?_⟩
          have hjs : j < sz := by rw [← g1]; exact (List.getElem?_eq_some_iff.1 hd).1
          rw [patch_get _ _ _ hfit, if_neg (by rw [hcl]; exact sep hik hjs hoff)] at hcv
          exact g2 j d c hd hcv
      obtain ⟨o1, hnx⟩ := hsr.rewrite (xs' := xs.set k (mkOf xs[k] (setCells xs[k].cells off v.cells))) (arr' := patch arr (k * sz + off) (a.eval x).cells.toList) q1 q2 (by simp) q3 e3 (patch_size _ _ _ hfit)
        (by rintro rfl; simp at q4) hlay
      exact OpOk.skip hrun hnx h.dst
    · cases hs

end
end Go.Vm
