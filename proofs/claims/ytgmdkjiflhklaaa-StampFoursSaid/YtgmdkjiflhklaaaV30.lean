/- V30: two operations, the other way round. -/
import Derived.Test.YtgmdkjiflhklaaaV29
namespace Go.Vm
open Go

section
variable {T : Types} {call : CallF} {cx : Cx} {ops : Array Oper} {σ τ : St} {o : Oper} {e : Eff} {fr : Nat}

theorem rd_same (h : ∀ x ∈ rd σ.env o, opd σ.env x = opd τ.env x) : rd τ.env o = rd σ.env o := by
  unfold rd at h ⊢
  cases ho : o.op <;> simp only [ho] at h ⊢
  rename_i c a b
  cases hc : opd σ.env c <;> simp only [hc] at h <;> rw [← h c (by simp), hc]

theorem opReads_same {b : Bool} {x : Operand} (h : opd σ.env x = opd τ.env x) : opReads b τ.env x = opReads b σ.env x := by
  unfold opReads; rw [h]

theorem seen_same {b : Bool} {x : Operand} (h : Alike b σ τ x) : seen τ x = seen σ x := by
  unfold seen
  rw [← h.opd]
  cases hv : opd σ.env x <;> simp only
  · rw [h.look _ (by rw [hv]; simp [V.refsTo])]
  · rw [h.look _ (by rw [hv]; simp [V.refsTo])]

theorem eff_rd (he : eff T call cx fr o σ = some e) (hc : calm o e = true ∨ Eqv σ τ) (h : ∀ x ∈ rd σ.env o, Alike (derefs o) σ τ x)
    (hput : ∀ ks H, e.mem = .put ks H → σ.heap.length = τ.heap.length ∧ ∀ id, ks.contains id = true → bcells σ.heap id = bcells τ.heap id)
    (hfr : isFresh o = true → σ.heap.length = τ.heap.length ∧ bcells σ.heap fr = bcells τ.heap fr) : eff T call cx fr o τ = some e := by
  have viaAll : rd σ.env o = o.op.operands.toList → eff T call cx fr o τ = some e := fun hr => by
    rw [hr] at h
    exact eff_same he hc ⟨fun x hx => (h x hx).opd, fun x hx => (h x hx).look, fun hb x hx => (h x hx).blk hb⟩ hput hfr
  cases ho : o.op
  case pick c a b =>
    simp only [eff, ho] at he ⊢
    unfold rd at h
    simp only [ho] at h
    cases hv : opd σ.env c <;> simp only [hv] at he h <;> try (cases he; done)
    rename_i t
    rw [← (h c (by simp)).opd, hv]
    have h2 := (h (if t then a else b) (by simp)).opd
    cases t
    · simp only [Bool.false_eq_true, if_false] at he h2 ⊢
      rw [← h2]; exact he
    · simp only [if_true] at he h2 ⊢
      rw [← h2]; exact he
  all_goals exact viaAll (by unfold rd; rw [ho])

def gsame (ops : Array Oper) (o : Oper) (σ τ : St) : Prop := ∀ t, guardSlot ops o = some t → get σ.env t = get τ.env t

theorem wants_same (h : gsame ops o σ τ) : wants ops τ.env o = wants ops σ.env o := by
  unfold gsame guardSlot at h
  unfold wants
  cases hg : o.guard with
  | none => rfl
  | some jw =>
    obtain ⟨j, want⟩ := jw
    simp only [hg] at h ⊢
    cases ht : (ops[j]?).bind (·.dst) with
    | none => rfl
    | some t => simp only; rw [h t ht]

theorem effG_rd (he : effG T call cx ops fr o σ = some e) (hc : calm o e = true ∨ Eqv σ τ) (hg : gsame ops o σ τ) (h : ∀ x ∈ rdG ops σ.env o, Alike (derefs o) σ τ x)
    (hput : ∀ ks H, e.mem = .put ks H → σ.heap.length = τ.heap.length ∧ ∀ id, ks.contains id = true → bcells σ.heap id = bcells τ.heap id)
    (hfr : isFresh o = true → σ.heap.length = τ.heap.length ∧ bcells σ.heap fr = bcells τ.heap fr) : effG T call cx ops fr o τ = some e := by
  unfold effG at he ⊢
  rw [wants_same hg]
  cases hw : wants ops σ.env o with
  | none => simp [hw] at he
  | some b =>
    cases b with
    | false => simpa [hw] using he
    | true =>
      simp only [hw] at he ⊢
      cases h1 : eff T call cx fr o σ with
      | none => simp [h1] at he
      | some e1 =>
        simp only [h1] at he
        have hee : e1 = e := by
          split at he
          · split at he
            · cases he
            · injection he
          · simpa using he
        subst hee
        rw [eff_rd h1 hc (by unfold rdG at h; simpa [hw] using h) hput hfr]
        exact he

theorem effG_guard (he : effG T call cx ops fr o σ = some e) {t : Nat} (ht : guardSlot ops o = some t) : isWay (get σ.env t) = false ∧ isUndef (get σ.env t) = false := by
  unfold effG wants at he
  unfold guardSlot at ht
  cases hg : o.guard with
  | none => simp [hg] at ht
  | some jw =>
    obtain ⟨j, want⟩ := jw
    simp only [hg] at he ht
    rw [ht] at he
    cases hv : get σ.env t <;> simp only [hv] at he <;> first
      | (cases he; done)
      | exact ⟨rfl, rfl⟩

theorem rdG_same (hg : gsame ops o σ τ) (h : ∀ x ∈ rdG ops σ.env o, opd σ.env x = opd τ.env x) : rdG ops τ.env o = rdG ops σ.env o := by
  unfold rdG at h ⊢
  rw [wants_same hg]
  cases hw : wants ops σ.env o with
  | none => rw [hw] at h; exact rd_same h
  | some b => cases b with
    | false => rfl
    | true => rw [hw] at h; exact rd_same h

/-- An operation comes up, and is what the table says of it. -/
def Stp (T : Types) (call : CallF) (cx : Cx) (ops : Array Oper) (fr : Nat → Nat) (R W : Nat → List Res) (i : Nat) (σ σ' : St) : Prop :=
  (∃ o e, ops[i]? = some o ∧ effG T call cx ops (fr i) o σ = some e ∧ Tame e ∧ calm o e = true ∧ (rdG ops σ.env o).all (seen σ) = true ∧ reads ops (fr i) o σ.env e = R i ∧ writes o.dst e = W i ∧
    (∀ r ∈ refRes e.val, r ∈ R i) ∧ σ' = apply σ o.dst e) ∨
  ∃ o e, ops[i]? = some o ∧ effG T call cx ops (fr i) o σ = some e ∧ Res.top ∈ R i ∧ σ' = apply σ o.dst e

theorem Stp.op {fr : Nat → Nat} {R W : Nat → List Res} {i : Nat} {σ σ' : St} (h : Stp T call cx ops fr R W i σ σ') : ∃ o e, ops[i]? = some o ∧ effG T call cx ops (fr i) o σ = some e ∧ σ' = apply σ o.dst e := by
  rcases h with ⟨o, e, h1, h2, _, _, _, _, _, _, h3⟩ | ⟨o, e, h1, h2, _, h3⟩
  · exact ⟨o, e, h1, h2, h3⟩
  · exact ⟨o, e, h1, h2, h3⟩

/-- The same operation where it sees the same. -/
theorem stp_same {fr : Nat → Nat} {i : Nat} (ho : ops[i]? = some o) (he : effG T call cx ops (fr i) o σ = some e) (hc : calm o e = true) (hs : (rdG ops σ.env o).all (seen σ) = true)
    (hg : gsame ops o σ τ) (h : ∀ x ∈ rdG ops σ.env o, Alike (derefs o) σ τ x)
    (hput : ∀ ks H, e.mem = .put ks H → σ.heap.length = τ.heap.length ∧ ∀ id, ks.contains id = true → bcells σ.heap id = bcells τ.heap id)
    (hfr : isFresh o = true → σ.heap.length = τ.heap.length ∧ bcells σ.heap (fr i) = bcells τ.heap (fr i)) :
    effG T call cx ops (fr i) o τ = some e ∧ (rdG ops τ.env o).all (seen τ) = true ∧ reads ops (fr i) o τ.env e = reads ops (fr i) o σ.env e := by
  have hr := rdG_same (τ := τ) hg (fun x hx => (h x hx).opd)
  refine ⟨effG_rd he (.inl hc) hg h hput hfr, ?_, ?_⟩
  · rw [hr, List.all_eq_true] at *
    exact fun x hx => by rw [seen_same (h x hx)]; exact hs x hx
  · unfold reads
    rw [hr]
    have : (rdG ops σ.env o).flatMap (opReads (derefs o) τ.env) = (rdG ops σ.env o).flatMap (opReads (derefs o) σ.env) := by
      simp only [List.flatMap]
      congr 1
      exact List.map_congr_left fun x hx => opReads_same (h x hx).opd
    rw [this]

def apartR (R W R' W' : List Res) : Prop := (Res.top ∉ R ∧ Res.top ∉ R') ∧ (∀ r ∈ W, r ∉ R') ∧ (∀ r ∈ W', r ∉ R) ∧ (∀ r ∈ W, r ∉ W')

theorem reads_op {x : Operand} (hx : x ∈ rdG ops σ.env o) {r : Res} (hr : r ∈ opReads (derefs o) σ.env x) : r ∈ reads ops fr o σ.env e := by
  unfold reads
  simp only [List.mem_append, List.mem_flatMap]
  exact .inl (.inl (.inr ⟨x, hx, hr⟩))
theorem reads_guard {t : Nat} (h : guardSlot ops o = some t) : Res.slot t ∈ reads ops fr o σ.env e := by
  unfold reads; rw [h]; simp
theorem reads_fresh (h : isFresh o = true) : Res.blk fr ∈ reads ops fr o σ.env e := by
  unfold reads; rw [h]; simp

theorem reads_put {ks : List Nat} {H : Heap} (h : e.mem = .put ks H) {id : Nat} (hid : ks.contains id = true) : Res.blk id ∈ reads ops fr o σ.env e := by
  unfold reads memReads
  rw [h]
  simp only [List.mem_append, List.mem_map]
  exact .inl (.inl (.inl ⟨id, by simpa using hid, rfl⟩))

/-- **The other way round.** -/
theorem swap {fr : Nat → Nat} {R W : Nat → List Res} {i j : Nat} {σ1 σ2 : St} (hi : Stp T call cx ops fr R W i σ σ1) (hj : Stp T call cx ops fr R W j σ1 σ2) (ha : apartR (R i) (W i) (R j) (W j)) :
    ∃ τ τ2, Stp T call cx ops fr R W j σ τ ∧ Stp T call cx ops fr R W i τ τ2 ∧ Eqv σ2 τ2 := by
  obtain ⟨⟨a01, a02⟩, a1, a2, a3⟩ := ha
  rcases hi with ⟨oi, ei, i1, i2, i3, i4, i5, i6, i7, i8, rfl⟩ | ⟨_, _, _, _, ht, _⟩
  case inr => exact absurd ht a01
  rcases hj with ⟨oj, ej, j1, j2, j3, j4, j5, j6, j7, j8, rfl⟩ | ⟨_, _, _, _, ht, _⟩
  case inr => exact absurd ht a02
  rw [List.all_eq_true] at i5 j5
  -- j first
  have alj : ∀ x ∈ rdG ops (apply σ oi.dst ei).env oj, Alike (derefs oj) σ (apply σ oi.dst ei) x := fun x hx =>
    alike_back i3 (j5 x hx) (fun r hr hw => a1 r (i7 ▸ hw) (j6 ▸ reads_op hx hr))
  have alj' : ∀ x ∈ rdG ops (apply σ oi.dst ei).env oj, Alike (derefs oj) (apply σ oi.dst ei) σ x := fun x hx => by
    obtain ⟨q1, q2, q3⟩ := alj x hx
    exact ⟨q1.symm, fun p hp => (q2 p (by rw [q1]; exact hp)).symm, fun hb id off hp => (q3 hb id off (by rw [q1]; exact hp)).symm⟩
  have gj : gsame ops oj (apply σ oi.dst ei) σ := fun t ht => by
    obtain ⟨_, hb⟩ := effG_guard j2 ht
    have hn := told_none (d := oi.dst) (e := ei) (t := t) (fun hw => a1 _ (i7 ▸ hw) (j6 ▸ reads_guard ht))
    rw [get_apply _ _ i3.ways, hn] at hb ⊢
    simp only at hb ⊢
    by_cases hk : kills oi.dst ei (get σ.env t) = true
    · simp [hk, isUndef] at hb
    · simp only [hk, Bool.false_eq_true, if_false]
  obtain ⟨e1, e2, e3⟩ := stp_same (τ := σ) j1 j2 j4 (List.all_eq_true.2 j5) gj alj' (fun ks H hm => ⟨(bcells_apply _ _ i3.all 0).2, fun id hid => blk_left i3 (fun hw => a1 _ (i7 ▸ hw) (j6 ▸ reads_put hm hid))⟩) (fun hf => ⟨(bcells_apply _ _ i3.all 0).2, blk_left i3 (fun hw => a1 _ (i7 ▸ hw) (j6 ▸ reads_fresh hf))⟩)
  -- i behind it
  have ali : ∀ x ∈ rdG ops σ.env oi, Alike (derefs oi) σ (apply σ oj.dst ej) x := fun x hx => alike_forth j3 (i5 x hx) (fun r hr hw => a2 r (j7 ▸ hw) (i6 ▸ reads_op hx hr))
  have gi : gsame ops oi σ (apply σ oj.dst ej) := fun t ht => by
    obtain ⟨hb, _⟩ := effG_guard i2 ht
    have hn := told_none (d := oj.dst) (e := ej) (t := t) (fun hw => a2 _ (j7 ▸ hw) (i6 ▸ reads_guard ht))
    rw [get_apply _ _ j3.ways, hn]
    have : kills oj.dst ej (get σ.env t) = false := by
      unfold kills
      rw [memKills_nonway hb]
      cases oj.dst <;> simp [killedBy, refsTo_nonway hb]
    simp only [this, Bool.false_eq_true, if_false]
  obtain ⟨f1, f2, f3⟩ := stp_same (τ := apply σ oj.dst ej) i1 i2 i4 (List.all_eq_true.2 i5) gi ali (fun ks H hm => ⟨(bcells_apply _ _ j3.all 0).2.symm, fun id hid => (blk_left j3 (fun hw => a2 _ (j7 ▸ hw) (i6 ▸ reads_put hm hid))).symm⟩) (fun hf => ⟨(bcells_apply _ _ j3.all 0).2.symm, (blk_left j3 (fun hw => a2 _ (j7 ▸ hw) (i6 ▸ reads_fresh hf))).symm⟩)
  refine ⟨_, _, .inl ⟨oj, ej, j1, e1, j3, j4, e2, by rw [e3, j6], j7, j8, rfl⟩, .inl ⟨oi, ei, i1, f1, i3, i4, f2, by rw [f3, i6], i7, i8, rfl⟩, ?_⟩
  exact comm i3 j3 (fun r hr hw => a3 r (i7 ▸ hr) (j7 ▸ hw)) (fun r hr hw => a2 r (j7 ▸ hw) (i8 r hr)) (fun r hr hw => a1 r (i7 ▸ hw) (j8 r hr))

end
end Go.Vm
