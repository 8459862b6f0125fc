/- V8: loads, stores, indexes. -/
import Derived.Test.YtgmdkjiflhklaaaV7
namespace Go.Vm
open Go

section
variable {P : Program} {o : Oper} {own : Own} {β : Nat → Nat} {w : World} {σ : St} {a : Act}

theorem Row.one {t : Nat} {i : TI} (r : Row P t i) (h : i.kind.isAgg = false) : i.size = 1 := by
  have hz := r.hzs
  have hn : ¬ ∃ arr, r.z = .agg arr := fun hx => by rw [r.hagg.2 hx] at h; cases h
  cases hz' : r.z <;> rw [hz'] at hz <;> first
    | (simp [Value.cells] at hz; exact hz.symm)
    | exact absurd ⟨_, hz'⟩ hn

/-- Cells as a value of the machine. -/
def mkV (i : TI) (cvs : List Value) : Value := if i.kind.isAgg then .agg cvs.toArray else cvs.getD 0 undef

theorem run_loadVar {t : Nat} {i : TI} (r : Row P t i) (w : World) (b oo : Nat) (cvs : List Value) (hl : cvs.length = i.size)
    (hc : ∀ (j : Nat) (u : Value), cvs[j]? = some u → w.cell? ⟨b, oo + j, none⟩ = some u) : (loadVar t ⟨b, oo, none⟩).run P w = .ok (mkV i cvs) w := by
  have hla : (loadCells ⟨b, oo, none⟩ cvs.length).run P w = .ok cvs.toArray w :=
    run_loadCells_list (P := P) w ⟨b, oo, none⟩ cvs (fun j v hv => by rw [Addr.add_mid]; exact hc j v hv)
  unfold loadVar mkV
  simp only [Sem.run_bind, r.isAgg, Result.andThen_ok]
  cases hk : i.kind.isAgg
  · have h1 := r.one hk
    simp only [Bool.false_eq_true, if_false]
    have h0 : cvs[0]? = some (cvs.getD 0 undef) := by
      rw [List.getD_eq_getElem?_getD, List.getElem?_eq_getElem (by omega)]; simp
    have := hc 0 _ h0
    simp only [Nat.add_zero] at this
    simp [this]
  · simp only [if_true, Sem.run_bind, run_sizeOf_row r, Result.andThen_ok]
    rw [← hl]
    simp [hla]

theorem VR_of_CR {β : Nat → Nat} {L : Nat → Loc} {v : V} {c : Value} (h : CR own β w (L 0) v c) : VR own β w L v c := by
  cases v <;> first
    | exact h
    | trivial
    | (simp only [CR] at h; cases h; done)

theorem asType_VR {i : TI} {t : Nat} (r : Row P t i) {ds : List V} {v : V} (ha : asType i ds = some v) {cvs : List Value} (hl : cvs.length = i.size) {β : Nat → Nat} {L : Nat → Loc}
    (hc : ∀ (j : Nat) (v : V) (c : Value), ds[j]? = some v → cvs[j]? = some c → CR own β w (L j) v c) : VR own β w L v (mkV i cvs) := by
  unfold asType at ha
  split at ha
  · rename_i hlen
    unfold mkV
    cases hk : i.kind.isAgg <;> rw [hk] at ha <;> simp only [Bool.false_eq_true, if_false, if_true] at ha ⊢
    · have h1 := r.one hk
      refine VR_of_CR (hc 0 v _ ha ?_)
      rw [List.getD_eq_getElem?_getD, List.getElem?_eq_getElem (by omega)]; simp
    · injection ha with ha; subst ha
      exact ⟨cvs.toArray, rfl, by simp; omega, fun j v c hv hcv => hc j v c hv (by simpa using hcv)⟩
  · cases ha

theorem asType_cells {i : TI} {ds : List V} {v : V} (ha : asType i ds = some v) : ds.length = i.size := by
  unfold asType at ha
  split at ha
  · assumption
  · cases ha

/-- Cells of memory, a list of them. -/
def readCells (w : World) (b oo n : Nat) : List Value := (List.range n).map fun j => (w.cell? ⟨b, oo + j, none⟩).getD undef
theorem readCells_length (w : World) (b oo n : Nat) : (readCells w b oo n).length = n := by simp [readCells]
theorem readCells_get {w : World} {b oo n j : Nat} {u : Value} (h : (readCells w b oo n)[j]? = some u) : j < n ∧ u = (w.cell? ⟨b, oo + j, none⟩).getD undef := by
  have hlt := (List.getElem?_eq_some_iff.1 h).1
  rw [readCells_length] at hlt
  refine ⟨hlt, ?_⟩
  simp only [readCells, List.getElem?_map, List.getElem?_range hlt, Option.map_some, Option.some.injEq] at h
  exact h.symm

theorem take_drop_get {α : Type} {l : List α} {off n j : Nat} {v : α} (h : ((l.drop off).take n)[j]? = some v) : j < n ∧ l[off + j]? = some v := by
  rw [List.getElem?_take] at h
  split at h
  · rename_i hj; rw [List.getElem?_drop] at h; exact ⟨hj, h⟩
  · cases h

theorem take_drop_len {α : Type} {l : List α} {off n : Nat} (h : ((l.drop off).take n).length = n) (hn : 0 < n) : off + n ≤ l.length := by
  simp at h; omega

theorem evals_load {t : TypeId} {x : Operand} (ho : o.op = .load t x) {b oo : Nat} (hx : a.eval x = .pointer (some ⟨b, oo, none⟩)) {c : Value} (hr : (loadVar t ⟨b, oo, none⟩).run P w = .ok c w) :
    (execOp a.eval o).run P w = .ok (.value c) w := by simp [execOp, ho, hx, Instr.loadAt, Instr.sureAddr, hr]

/-- A cell that is no array of its own. -/
def plainC : V → Bool
  | .undef | .bool _ | .int _ _ | .str _ | .nilp | .nilf | .ptr _ _ | .sl _ _ | .clo _ _ _ => true
  | _ => false
theorem plain_of_CR {β : Nat → Nat} {l : Loc} {v : V} {c : Value} (h : CR own β w l v c) (hn : notEx v = true) : plainC v = true := by
  cases v <;> first
    | rfl
    | (simp [notEx] at hn; done)
    | (simp only [CR] at h; cases h; done)
theorem plain_of_FR {v : V} {c : Value} (h : FR own w v c) : plainC v = true := by cases h <;> rfl
theorem notEx_of_plain {v : V} (h : plainC v = true) : notEx v = true := by cases v <;> first | rfl | (simp [plainC] at h)
theorem asType_plain {i : TI} {ds : List V} {v : V} (ha : asType i ds = some v) (hd : ∀ d ∈ ds, plainC d = true) : isWay v = false ∧ noEx v = true := by
  unfold asType at ha
  split at ha
  · cases hk : i.kind.isAgg <;> rw [hk] at ha <;> simp at ha
    · have := hd v (List.mem_of_getElem? ha)
      cases v <;> first | exact ⟨rfl, rfl⟩ | (simp [plainC] at this)
    · subst ha
      exact ⟨rfl, by simp only [noEx, List.all_eq_true]; exact fun x hx => notEx_of_plain (hd x hx)⟩
  · cases ha

/-- A load, once it is known what lies there. -/
theorem OpOk.load {T : Types} (h : Hyp P T o own β w σ a) {t : TypeId} {x : Operand} (ho : o.op = .load t x) {i : TI} (r : Row P t i) {b oo : Nat} (hx : a.eval x = .pointer (some ⟨b, oo, none⟩))
    {ds : List V} {v : V} (ha : asType i ds = some v) (hc : ∀ (j : Nat) (d : V), ds[j]? = some d → ∃ c, w.cell? ⟨b, oo + j, none⟩ = some c ∧ CR own β w (.res 0 0) d c ∧ plainC d = true) :
    OpOk P o own β w σ a (put σ o.dst v) := by
  have hl := asType_cells ha
  have hget : ∀ (j : Nat) (u : Value), (readCells w b oo i.size)[j]? = some u → ∃ d, ds[j]? = some d ∧ w.cell? ⟨b, oo + j, none⟩ = some u ∧ CR own β w (.res 0 0) d u := by
    intro j u hu
    obtain ⟨hj, rfl⟩ := readCells_get hu
    have hd : ds[j]? = some (ds[j]'(by omega)) := List.getElem?_eq_getElem _
    obtain ⟨c, h1, h2, _⟩ := hc j _ hd
    exact ⟨_, hd, by rw [h1]; rfl, by rw [h1]; exact h2⟩
  have hrun := evals_load (P := P) (w := w) ho hx (run_loadVar r w b oo (readCells w b oo i.size) (readCells_length _ _ _ _) (fun j u hu => let ⟨_, _, h1, _⟩ := hget j u hu; h1))
  have hvr := asType_VR (L := fun _ => .res 0 0) r ha (readCells_length w b oo i.size) (fun j d c hd hc => by
    obtain ⟨d', h1, h2, h3⟩ := hget j c hc
    rw [hd] at h1; injection h1 with h1; subst h1; exact h3)
  obtain ⟨hw, hn⟩ := asType_plain ha (fun d hd => by
    obtain ⟨j, hj⟩ := List.getElem?_of_mem hd
    obtain ⟨c, _, _, h3⟩ := hc j d hj
    exact h3)
  exact OpOk.value hrun (Nxt.refl h.sr) h.dst hw (TR_of_VR hvr hn)

theorem ok_load {T : Types} {call : CallF} {cx : Cx} {fr : Nat} (h : Hyp P T o own β w σ a) {t : TypeId} {x : Operand} (ho : o.op = .load t x) {e : Eff}
    (he : eff T call cx fr o σ = some e) (hnd : ∀ d, o.dst = some d → e.val.refsTo (.slot d) = false) : OpOk P o own β w σ a (apply σ o.dst e) := by
  have hsr := h.sr
  simp only [eff, ho] at he
  cases hT : T t <;> simp only [hT] at he
  · cases he
  rename_i i
  obtain ⟨r⟩ := Row.of h.T hT
  rw [Option.map_eq_some_iff] at he
  obtain ⟨v, hv, rfl⟩ := he
  unfold loadAt at hv
  cases hx : opd σ.env x <;> simp only [hx] at hv <;> try (cases hv; done)
  · -- a block of V's
    rename_i id off
    obtain ⟨q1, q2⟩ := opd_ptr hsr hx
    cases hb : bcells σ.heap id <;> simp only [hb] at hv
    · cases hv
    rename_i cs
    obtain ⟨b1, b2, arr, T0, b3, b4, b5⟩ := hsr.heap.blk id cs hb
    have hcell : ∀ (j : Nat) (d : V), cs[j]? = some d → ∃ c, w.cell? ⟨β id, j, none⟩ = some c ∧ CR own β w (.cell id j) d c := fun j d hd => by
      have hlt := (List.getElem?_eq_some_iff.1 hd).1
      have ha' : j < arr.size := by omega
      refine ⟨arr[j], ?_, b5 j d _ hd (Array.getElem?_eq_getElem ha')⟩
      rw [cell_of_row w _ _ arr T0 _ b3, Array.getElem?_eq_getElem ha']
    have key : ∀ v0, asType i ((cs.drop off).take i.size) = some v0 → (∀ d ∈ (cs.drop off).take i.size, notEx d = true) → OpOk P o own β w σ a (put σ o.dst v0) := by
      intro v0 ha hne
      refine OpOk.load h ho r q1 ha (fun j d hd => ?_)
      obtain ⟨_, hd'⟩ := take_drop_get hd
      obtain ⟨c, h1, h2⟩ := hcell _ d hd'
      have hn := hne d (List.mem_of_getElem? hd)
      exact ⟨c, h1, h2.place (fun sz n xs he => by subst he; simp [notEx] at hn), plain_of_CR h2 hn⟩
    cases ha : asType i ((cs.drop off).take i.size) <;> simp only [ha] at hv
    · cases hv
    rename_i v0
    have hl := asType_cells ha
    have hsingle : i.kind.isAgg = false → i.size = 1 ∧ (cs.drop off).take i.size = [v0] ∧ cs[off]? = some v0 := by
      intro hk
      have h1 := r.one hk
      have ha' := ha
      unfold asType at ha'
      rw [if_pos hl, hk] at ha'
      simp only [Bool.false_eq_true, if_false] at ha'
      have h2 := (take_drop_get ha').2
      refine ⟨h1, ?_, by simpa using h2⟩
      rw [h1] at hl ha' ⊢
      match hq : (cs.drop off).take 1, hl with
      | [y], _ => rw [hq] at ha'; simp at ha'; rw [ha']
    have hkagg : (∀ ds, v0 ≠ .agg ds) → i.kind.isAgg = false := by
      intro hne
      cases hk : i.kind.isAgg
      · rfl
      · have ha' := ha
        unfold asType at ha'
        rw [if_pos hl, hk] at ha'
        simp at ha'
        exact absurd ha'.symm (hne _)
    cases v0 <;> simp only at hv
    case ex sz n xs =>
      injection hv with hv; subst hv
      obtain ⟨h1, h2, h3⟩ := hsingle (hkagg (by simp))
      have hlook : look σ (.cell id off) = .ex sz n xs := by
        simp only [look, hb]
        rw [List.getD_eq_getElem?_getD, h3]; rfl
      obtain ⟨c, q3, q4⟩ := hcell off _ h3
      have hrun := evals_load (P := P) (w := w) ho q1 (run_loadVar r w (β id) off [c] (by simp [h1]) (fun j u hu => by
        cases j with
        | zero => simp at hu; subst hu; exact q3
        | succ j => simp at hu))
      have hm : mkV i [c] = c := by simp [mkV, hkagg (by simp)]
      rw [hm] at hrun
      exact OpOk.way hrun (Nxt.refl hsr) h.dst rfl hnd (fun d => ⟨sz, n, xs, hlook, q3⟩)
    case agg ds =>
      split at hv
      · rename_i hall
        injection hv with hv; subst hv
        refine key _ ha (fun d hd => ?_)
        have hds : ds = (cs.drop off).take i.size := by
          have ha' := ha
          unfold asType at ha'
          rw [if_pos hl] at ha'
          cases hk : i.kind.isAgg <;> rw [hk] at ha' <;> simp only [Bool.false_eq_true, if_false, if_true] at ha'
          · obtain ⟨_, _, h3⟩ := hsingle hk
            obtain ⟨c, _, q4⟩ := hcell off _ h3
            simp only [CR] at q4; cases q4
          · injection ha' with ha'; injection ha' with ha'; exact ha'.symm
        rw [← hds] at hd
        exact List.all_eq_true.1 hall d hd
      · cases hv
    all_goals
      injection hv with hv; subst hv
      refine key _ ha (fun d hd => ?_)
      obtain ⟨_, h2, _⟩ := hsingle (hkagg (by simp))
      rw [h2] at hd
      simp at hd; subst hd; rfl
  · -- an element of a frozen slice
    rename_i cs off
    obtain ⟨b, oo, q1, q2, q3⟩ := opd_rptr hsr hx
    refine OpOk.load h ho r q1 hv (fun j d hd => ?_)
    obtain ⟨_, hd'⟩ := take_drop_get hd
    obtain ⟨c', h1, h2⟩ := q3 _ d hd'
    exact ⟨c', by rw [Nat.add_assoc]; exact h1, CR_of_FR h2, plain_of_FR h2⟩
  · -- an element of an array of ours
    rename_i p k off
    obtain ⟨sz, n, xs, b, len, cap, q1, q2, q3, q4, q5⟩ := opd_xptr hsr hx
    simp only [q1] at hv
    have hxk : xs[k]? = some xs[k] := List.getElem?_eq_getElem q4
    simp only [hxk] at hv
    obtain ⟨c0, h1, h2⟩ := hsr.at_ q1
    rw [q2] at h1; injection h1 with h1; subst h1
    rcases h2 with ⟨rfl, _, _⟩ | ⟨rfl, _, _⟩ | ⟨_, b', cap', T', arr, e1, e2, e3, e4, e5, e6⟩
    · simp at q4
    · simp at q4
    · injection e1 with e1 _ _; injection e1 with e1; injection e1 with e1 _ _; subst e1
      obtain ⟨f1, f2⟩ := e6 k _ hxk
      refine OpOk.load h ho r q5 hv (fun j d hd => ?_)
      obtain ⟨_, hd'⟩ := take_drop_get hd
      have hj : off + j < sz := by rw [← f1]; exact (List.getElem?_eq_some_iff.1 hd').1
      have hlt : k * sz + (off + j) < arr.size := by
        rw [e5]; exact Nat.lt_of_lt_of_le (idx_lt q4 hj) (Nat.mul_le_mul_right _ e4)
      have hfr := f2 (off + j) d arr[k * sz + (off + j)] hd' (Array.getElem?_eq_getElem hlt)
      refine ⟨_, ?_, CR_of_FR hfr, plain_of_FR hfr⟩
      rw [cell_of_row w b _ arr T' _ e3, Nat.add_assoc, Array.getElem?_eq_getElem hlt]

end
end Go.Vm
