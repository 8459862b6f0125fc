/- V7: what each operation does, by V and by the machine. -/
import Derived.Test.YtgmdkjiflhklaaaV6
namespace Go.Vm
open Go

/-- An operation goes through, and behind it all is as V says. -/
def OpOk (P : Program) (o : Oper) (own : Own) (β : Nat → Nat) (w : World) (σ : St) (a : Act) (σ' : St) : Prop :=
  ∀ (K : Act → World → Prop) (Q : Exit → Act → World → Prop), (∀ own' β' w' a', Nxt own β w σ a own' β' w' σ' a' → K a' w') → o.wp P a w K Q

section
variable {P : Program} {o : Oper} {own : Own} {β : Nat → Nat} {w : World} {σ : St} {a : Act}

theorem OpOk.value {o1 : Own} {β1 : Nat → Nat} {w1 : World} {σ1 : St} {v : V} {c : Value} (hrun : (execOp a.eval o).run P w = .ok (.value c) w1)
    (h : Nxt own β w σ a o1 β1 w1 σ1 a) (hd : ∀ d, o.dst = some d → d < a.tmps.size) (hv : isWay v = false) (hn : TR o1 β1 w1 (fun i j => .res i j) v c) :
    OpOk P o own β w σ a (put σ1 o.dst v) := by
  intro K Q hK
  obtain ⟨o3, h3⟩ := h.put hd hv hn
  unfold Oper.wp
  rw [hrun]
  exact hK _ _ _ _ h3

theorem OpOk.way {o1 : Own} {β1 : Nat → Nat} {w1 : World} {σ1 : St} {v : V} {c : Value} (hrun : (execOp a.eval o).run P w = .ok (.value c) w1)
    (h : Nxt own β w σ a o1 β1 w1 σ1 a) (hd : ∀ d, o.dst = some d → d < a.tmps.size) (hv : isWay v = true) (hnd : ∀ d, o.dst = some d → v.refsTo (.slot d) = false)
    (hn : ∀ d, ER o1 β1 w1 σ1 a.tmps d v c) : OpOk P o own β w σ a (put σ1 o.dst v) := by
  intro K Q hK
  have h3 := h.putWay hd hv hnd hn
  unfold Oper.wp
  rw [hrun]
  exact hK _ _ _ _ h3

theorem OpOk.skip {o1 : Own} {β1 : Nat → Nat} {w1 : World} {σ1 : St} (hrun : (execOp a.eval o).run P w = .ok .skip w1)
    (h : Nxt own β w σ a o1 β1 w1 σ1 a) (hd : ∀ d, o.dst = some d → d < a.tmps.size) : OpOk P o own β w σ a (put σ1 o.dst .undef) := by
  intro K Q hK
  obtain ⟨o3, h3⟩ := h.put (c := undef) hd (v := .undef) rfl (by simp only [TR, VR])
  unfold Oper.wp
  rw [hrun]
  exact hK _ _ _ _ h3

theorem TR.place {L L' : Nat → Nat → Loc} {v : V} {c : Value} (h : TR own β w L v c) (hn : noEx v = true) : TR own β w L' v c := by
  cases v <;> first
    | (simp [noEx] at hn; done)
    | (simp only [TR] at h ⊢; exact VR.place h hn)

theorem opd_res (h : SR own β w σ a.tmps) (x : Operand) (hw : isWay (opd σ.env x) = false) (hn : noEx (opd σ.env x) = true) :
    TR own β w (fun i j => .res i j) (opd σ.env x) (a.eval x) := (opd_TR h x hw).place hn

theorem opd_res' (h : SR own β w σ a.tmps) {x : Operand} {v : V} (hx : opd σ.env x = v) (hw : isWay v = false) (hn : noEx v = true) :
    TR own β w (fun i j => .res i j) v (a.eval x) := by
  subst hx; exact opd_res h x hw hn

theorem tmpOf_some {x : Operand} {t : Nat} (h : tmpOf x = some t) : x = .tmp t := by
  cases x <;> simp [tmpOf] at h
  rw [h]

theorem noEx_dat {cs : List V} (h : cs.all cellDat = true) : noEx (.agg cs) = true := by
  simp only [noEx, List.all_eq_true] at h ⊢
  intro v hv
  have := h v hv
  cases v <;> first | rfl | (simp [cellDat] at this)

/-- A place that freezes its array, as a step. -/
theorem Nxt.freeze (h : SR own β w σ a.tmps) {p : Place} {sz : Nat} {n : Bool} {xs : List V} (hl : look σ p = .ex sz n xs) :
    ∃ o1 c, Nxt own β w σ a o1 β w (setPlace σ p (.sl n xs)) a ∧ conc β a.tmps w p = some c ∧ FR o1 w (.sl n xs) c ∧ o1 = fun b => moved (locOf p) .im (own b) := by
  obtain ⟨o1, c, h1, h2, h3, h4, h5⟩ := h.freeze hl
  refine ⟨o1, c, ⟨h3, h4, ?_, rfl, rfl⟩, h1, h2, h5⟩
  cases p with
  | slot t => exact BX.refl _ _
  | cell id off =>
    obtain ⟨cs, hc, _⟩ := Place.cases_look hl
    simp only [setPlace, hc]
    refine ⟨by simp, fun i ds hi => ⟨rfl, ?_⟩⟩
    rw [bcells_set (bcells_lt hc)]
    split
    · exact ⟨_, rfl⟩
    · exact ⟨ds, hi⟩
theorem Nxt.give (h : SR own β w σ a.tmps) {p : Place} {sz : Nat} {n : Bool} {xs : List V} (hl : look σ p = .ex sz n xs) :
    ∃ o1 c, Nxt own β w σ a o1 β w (setPlace σ p .undef) a ∧ conc β a.tmps w p = some c ∧ EXR o1 w (.res 0 0) sz n xs c ∧ o1 = fun b => moved (locOf p) (.res 0 0) (own b) := by
  obtain ⟨o1, c, h1, h2, h3, h4, h5⟩ := h.give (.res 0 0) (by simp) (by simp) hl
  refine ⟨o1, c, ⟨h3, h4, ?_, rfl, rfl⟩, h1, h2, h5⟩
  cases p with
  | slot t => exact BX.refl _ _
  | cell id off =>
    obtain ⟨cs, hc, _⟩ := Place.cases_look hl
    simp only [setPlace, hc]
    refine ⟨by simp, fun i ds hi => ⟨rfl, ?_⟩⟩
    rw [bcells_set (bcells_lt hc)]
    split
    · exact ⟨_, rfl⟩
    · exact ⟨ds, hi⟩
theorem Nxt.giveSlot (h : SR own β w σ a.tmps) (t : Nat) (hw : isWay (get σ.env t) = false) :
    ∃ o1, Nxt own β w σ a o1 β w (setPlace σ (.slot t) .undef) a ∧ TR o1 β w (fun i j => .res i j) (get σ.env t) (a.tmps.getD t undef) ∧ o1 = fun b => slotOut t (own b) := by
  obtain ⟨h1, h2, h3⟩ := h.giveSlot t hw
  exact ⟨_, ⟨h2, h3, BX.refl _ _, rfl, rfl⟩, h1, rfl⟩

theorem eval_tmp (a : Act) (t : Nat) : a.eval (.tmp t) = a.tmps.getD t undef := rfl

/-- What every case is handed. -/
structure Hyp (P : Program) (T : Types) (o : Oper) (own : Own) (β : Nat → Nat) (w : World) (σ : St) (a : Act) : Prop where
  sr : SR own β w σ a.tmps
  dst : ∀ d, o.dst = some d → d < a.tmps.size
  T : TOk P T

theorem ok_move {T : Types} (h : Hyp P T o own β w σ a) {x : Operand} (ho : o.op = .move x) {e : Eff} (he : moveAt σ x = some e)
    (hnd : ∀ d, o.dst = some d → e.val.refsTo (.slot d) = false) : OpOk P o own β w σ a (apply σ o.dst e) := by
  have hrun : (execOp a.eval o).run P w = .ok (.value (a.eval x)) w := by simp [execOp, ho]
  have hsr := h.sr
  unfold moveAt at he
  cases hv : opd σ.env x <;> simp only [hv] at he
  case ex sz n xs =>
    cases ht : tmpOf x <;> simp only [ht] at he
    · cases he
    rename_i t
    injection he with he; subst he
    obtain rfl := tmpOf_some ht
    exact OpOk.way hrun (Nxt.refl hsr) h.dst rfl hnd (fun d => ⟨sz, n, xs, hv, rfl⟩)
  case agg cs =>
    split at he
    · rename_i hc
      injection he with he; subst he
      exact OpOk.value hrun (Nxt.refl hsr) h.dst rfl (opd_res' hsr hv rfl (noEx_dat hc))
    · cases he
  case tup vs =>
    cases ht : tmpOf x <;> simp only [ht] at he
    · cases he
    rename_i t
    injection he with he; subst he
    obtain rfl := tmpOf_some ht
    simp only [opd] at hv
    obtain ⟨o1, h1, h2, _⟩ := Nxt.giveSlot hsr t (by rw [hv]; rfl)
    rw [hv] at h2
    exact OpOk.value hrun h1 h.dst rfl h2
  case xptr => cases he
  case lent p =>
    injection he with he; subst he
    obtain ⟨sz, n, xs, q1, q2⟩ := opd_lent hsr hv
    exact OpOk.way hrun (Nxt.refl hsr) h.dst rfl hnd (fun d => ⟨sz, n, xs, q1, q2⟩)
  all_goals
    injection he with he; subst he
    exact OpOk.value hrun (Nxt.refl hsr) h.dst rfl (opd_res' hsr hv rfl rfl)


theorem ok_assign {T : Types} (h : Hyp P T o own β w σ a) {cx : Cx} {d : Nat} {x : Operand} (ho : o.op = .assign x) {e : Eff} (he : assignAt cx σ d x = some e)
    (hnd : ∀ d, o.dst = some d → e.val.refsTo (.slot d) = false) : OpOk P o own β w σ a (apply σ o.dst e) := by
  have hrun : (execOp a.eval o).run P w = .ok (.value (a.eval x)) w := by simp [execOp, ho]
  have hsr := h.sr
  unfold assignAt at he
  cases hv : opd σ.env x <;> simp only [hv] at he
  case ex sz n xs =>
    cases ht : tmpOf x <;> simp only [ht] at he
    · cases he
    rename_i t
    obtain rfl := tmpOf_some ht
    have hl : look σ (.slot t) = .ex sz n xs := hv
    split at he
    · injection he with he; subst he
      obtain ⟨o1, c, h1, h2, h3, _⟩ := Nxt.give hsr hl
      simp only [conc] at h2; injection h2 with h2; subst h2
      exact OpOk.value hrun h1 h.dst rfl h3
    · injection he with he; subst he
      obtain ⟨o1, c, h1, h2, h3, _⟩ := Nxt.freeze hsr hl
      simp only [conc] at h2; injection h2 with h2; subst h2
      exact OpOk.value hrun h1 h.dst rfl h3
  case agg cs =>
    split at he
    · rename_i hc
      injection he with he; subst he
      exact OpOk.value hrun (Nxt.refl hsr) h.dst rfl (opd_res' hsr hv rfl (noEx_dat hc))
    · cases ht : tmpOf x <;> simp only [ht] at he
      · cases he
      rename_i t
      injection he with he; subst he
      obtain rfl := tmpOf_some ht
      simp only [opd] at hv
      obtain ⟨o1, h1, h2, _⟩ := Nxt.giveSlot hsr t (by rw [hv]; rfl)
      rw [hv] at h2
      exact OpOk.value hrun h1 h.dst rfl h2
  case tup vs => cases he
  case xptr => cases he
  case lent p =>
    obtain ⟨sz, n, xs, q1, q2⟩ := opd_lent hsr hv
    simp only [q1] at he
    split at he
    · injection he with he; subst he
      obtain ⟨o1, c, h1, h2, h3, _⟩ := Nxt.give hsr q1
      rw [q2] at h2; injection h2 with h2; subst h2
      exact OpOk.value hrun h1 h.dst rfl h3
    · injection he with he; subst he
      obtain ⟨o1, c, h1, h2, h3, _⟩ := Nxt.freeze hsr q1
      rw [q2] at h2; injection h2 with h2; subst h2
      exact OpOk.value hrun h1 h.dst rfl h3
  case sl n xs =>
    have hd := opd_res' hsr hv rfl rfl
    cases n with
    | false =>
      injection he with he; subst he
      exact OpOk.value hrun (Nxt.refl hsr) h.dst rfl hd
    | true =>
      cases xs with
      | cons y ys =>
        injection he with he; subst he
        exact OpOk.value hrun (Nxt.refl hsr) h.dst rfl hd
      | nil =>
        cases hm : cx.msz d <;> simp only [hm] at he
        · injection he with he; subst he
          exact OpOk.value hrun (Nxt.refl hsr) h.dst rfl hd
        · injection he with he; subst he
          have hd' : FR own w (.sl true []) (a.eval x) := hd
          have hc : a.eval x = .slice none 0 0 := by
            generalize a.eval x = c at hd'
            cases hd'; rfl
          exact OpOk.value hrun (Nxt.refl hsr) h.dst rfl (show EXR own w _ _ true [] (a.eval x) from .inl ⟨rfl, rfl, hc⟩)
  all_goals
    injection he with he; subst he
    exact OpOk.value hrun (Nxt.refl hsr) h.dst rfl (opd_res' hsr hv rfl rfl)

theorem ok_pick {T : Types} {call : CallF} {cx : Cx} {fr : Nat} (h : Hyp P T o own β w σ a) {c x y : Operand} (ho : o.op = .pick c x y) {e : Eff} (he : eff T call cx fr o σ = some e) :
    OpOk P o own β w σ a (apply σ o.dst e) := by
  have hsr := h.sr
  simp only [eff, ho] at he
  cases hc : opd σ.env c <;> simp only [hc] at he <;> try (cases he; done)
  rename_i t
  have hce := opd_bool hsr hc
  have hrun : (execOp a.eval o).run P w = .ok (.value (if t then a.eval x else a.eval y)) w := by simp [execOp, ho, hce, asBool]
  cases t
  · simp only [Bool.false_eq_true, if_false] at he hrun
    cases hv : opd σ.env y <;> simp only [hv] at he <;> try (cases he; done)
    all_goals (injection he with he; subst he; exact OpOk.value hrun (Nxt.refl hsr) h.dst rfl (opd_res' hsr hv rfl rfl))
  · simp only [if_true] at he hrun
    cases hv : opd σ.env x <;> simp only [hv] at he <;> try (cases he; done)
    all_goals (injection he with he; subst he; exact OpOk.value hrun (Nxt.refl hsr) h.dst rfl (opd_res' hsr hv rfl rfl))

theorem ok_nilCheck {T : Types} {call : CallF} {cx : Cx} {fr : Nat} (h : Hyp P T o own β w σ a) {x : Operand} (ho : o.op = .nilCheck x) {e : Eff} (he : eff T call cx fr o σ = some e) :
    OpOk P o own β w σ a (apply σ o.dst e) := by
  have hsr := h.sr
  simp only [eff, ho] at he
  cases hv : opd σ.env x <;> simp only [hv] at he <;> try (cases he; done)
  · injection he with he; subst he
    have hrun : (execOp a.eval o).run P w = .ok (.value (a.eval x)) w := by simp [execOp, ho, (opd_ptr hsr hv).1]
    exact OpOk.value hrun (Nxt.refl hsr) h.dst rfl (opd_res' hsr hv rfl rfl)
  · injection he with he; subst he
    obtain ⟨b, oo, q, _⟩ := opd_rptr hsr hv
    have hrun : (execOp a.eval o).run P w = .ok (.value (a.eval x)) w := by simp [execOp, ho, q]
    exact OpOk.value hrun (Nxt.refl hsr) h.dst rfl (opd_res' hsr hv rfl rfl)

/-- A result that is a number, a truth, a text. -/
theorem OpOk.plain {T : Types} (h : Hyp P T o own β w σ a) {v : V} {c : Value} (hrun : (execOp a.eval o).run P w = .ok (.value c) w) (hw : isWay v = false) (hf : ∀ own : Own, FR own w v c)
    (hd : cellDat v = true) : OpOk P o own β w σ a (put σ o.dst v) := by
  refine OpOk.value hrun (Nxt.refl h.sr) h.dst hw ?_
  have := hf own
  cases v <;> first
    | (simp [cellDat] at hd; done)
    | exact this
    | (simp only [TR, VR])

theorem ok_unOp {T : Types} {call : CallF} {cx : Cx} {fr : Nat} (h : Hyp P T o own β w σ a) {op : UnOp} {t : TypeId} {x : Operand} (ho : o.op = .unOp op t x) {e : Eff}
    (he : eff T call cx fr o σ = some e) : OpOk P o own β w σ a (apply σ o.dst e) := by
  have hsr := h.sr
  simp only [eff, ho, Option.map_eq_some_iff] at he
  obtain ⟨v, hv, rfl⟩ := he
  unfold vun at hv
  split at hv
  · rename_i k n hx
    injection hv with hv; subst hv
    have := opd_int hsr hx
    exact OpOk.plain h (by simp [execOp, ho, this, Op.unary, Op.intArith]) rfl (fun _ => .int _ _) rfl
  · rename_i k n hx
    injection hv with hv; subst hv
    have := opd_int hsr hx
    exact OpOk.plain h (by simp [execOp, ho, this, Op.unary, Op.intBits]) rfl (fun _ => .int _ _) rfl
  · rename_i b hx
    injection hv with hv; subst hv
    have := opd_bool hsr hx
    exact OpOk.plain h (by simp [execOp, ho, this, Op.unary]) rfl (fun _ => .bool _) rfl
  · cases hv

theorem kindOf_row {T : Types} (hT : TOk P T) {t : Nat} {k : TK} (h : kindOf T t = some k) : ∃ (i : TI) (_ : Row P t i), i.kind = k := by
  unfold kindOf at h
  cases hi : T t <;> simp only [hi] at h
  · cases h
  rename_i i
  injection h with h
  obtain ⟨r⟩ := Row.of hT hi
  exact ⟨i, r, h⟩

theorem ok_convert {T : Types} {call : CallF} {cx : Cx} {fr : Nat} (h : Hyp P T o own β w σ a) {s t : TypeId} {x : Operand} (ho : o.op = .convert s t x) {e : Eff}
    (he : eff T call cx fr o σ = some e) : OpOk P o own β w σ a (apply σ o.dst e) := by
  have hsr := h.sr
  simp only [eff, ho] at he
  split at he
  · rename_i k0 k k' n hk0 hk hx
    injection he with he; subst he
    have hxe := opd_int hsr hx
    obtain ⟨i, r, hk⟩ := kindOf_row h.T hk
    obtain ⟨i0, r0, _⟩ := kindOf_row h.T hk0
    have hkk := r.hkind
    rw [hk] at hkk
    have hds := r0.hd
    have hd : r.d = .int k := by cases hd : r.d <;> simp [hd, kindB] at hkk; rw [hkk]
    have hrun : (execOp a.eval o).run P w = .ok (.value (.int k (k.wrap n))) w := by
      have h1 := run_underlying (P := P) r.hd w
      have h2 := run_underlying (P := P) hds w
      rw [hd] at h1
      simp [execOp, ho, hxe, convert, h1, h2, Conv.intToInt]
    exact OpOk.plain h hrun rfl (fun _ => .int _ _) rfl
  · cases he


theorem kind_slice {t e : Nat} {i : TI} (r : Row P t i) (hk : i.kind = .slice e) : P.underlying t = some (.slice e) := by
  have := r.hkind; rw [hk] at this
  rw [r.hd]
  cases hd : r.d <;> simp [hd, kindB] at this
  rw [this]
theorem kind_array {t n e : Nat} {i : TI} (r : Row P t i) (hk : i.kind = .array n e) : P.underlying t = some (.array n e) := by
  have := r.hkind; rw [hk] at this
  rw [r.hd]
  cases hd : r.d <;> simp [hd, kindB] at this
  rw [this.1, this.2]
theorem fieldsB_get : ∀ {fs : List Field} {gs : List (Nat × Nat)}, fieldsB fs gs = true → ∀ (j off t : Nat), gs[j]? = some (off, t) → ∃ f, fs[j]? = some f ∧ f.offset = off ∧ f.type = t
  | [], [], _, j, off, t, h => by simp at h
  | f :: fs, (o, u) :: gs, hb, j, off, t, h => by
    simp only [fieldsB, Bool.and_eq_true, beq_iff_eq] at hb
    cases j with
    | zero => simp at h; exact ⟨f, by simp, by rw [hb.1.1, h.1], by rw [hb.1.2, h.2]⟩
    | succ j => simpa using fieldsB_get hb.2 j off t (by simpa using h)
  | [], _ :: _, hb, _, _, _, _ => by simp [fieldsB] at hb
  | _ :: _, [], hb, _, _, _, _ => by simp [fieldsB] at hb
theorem kind_struct {t : Nat} {gs : List (Nat × Nat)} {i : TI} (r : Row P t i) (hk : i.kind = .struct gs) : ∃ fields, P.underlying t = some (.struct fields) ∧ fieldsB fields.toList gs = true := by
  have := r.hkind; rw [hk] at this
  rw [r.hd]
  cases hd : r.d <;> simp [hd, kindB] at this
  exact ⟨_, rfl, this⟩

theorem Addr.add_eq (b o k : Nat) : (⟨b, o, none⟩ : Addr).add k = ⟨b, o + k, none⟩ := Addr.add_mid b o k

theorem ok_fieldAddr {T : Types} {call : CallF} {cx : Cx} {fr : Nat} (h : Hyp P T o own β w σ a) {t : TypeId} {x : Operand} {f : Nat} (ho : o.op = .fieldAddr t x f) {e : Eff}
    (he : eff T call cx fr o σ = some e) (hnd : ∀ d, o.dst = some d → e.val.refsTo (.slot d) = false) : OpOk P o own β w σ a (apply σ o.dst e) := by
  have hsr := h.sr
  simp only [eff, ho] at he
  cases hk : kindOf T t <;> simp only [hk] at he
  · cases he
  rename_i k
  cases k <;> simp only at he <;> try (cases he; done)
  rename_i gs
  obtain ⟨i, r, hki⟩ := kindOf_row h.T hk
  obtain ⟨fields, hu, hf⟩ := kind_struct r hki
  cases hg : gs[f]? <;> simp only [hg] at he
  · cases he
  rename_i g
  obtain ⟨off, ft⟩ := g
  simp only at he
  cases hft : T ft <;> simp only [hft] at he
  · cases he
  rename_i fi
  obtain ⟨rf⟩ := Row.of h.T hft
  obtain ⟨fd, h1, h2, h3⟩ := fieldsB_get hf f off ft hg
  have h1' : fields[f]? = some fd := by simpa using h1
  split at he
  · rename_i hpos
    have run : ∀ b oo, a.eval x = .pointer (some ⟨b, oo, none⟩) → (execOp a.eval o).run P w = .ok (.value (.pointer (some ⟨b, oo + off, none⟩))) w := by
      intro b oo hx
      have hs : (sizeOf fd.type).run P w = .ok fi.size w := by rw [h3]; exact run_sizeOf_row rf w
      have hne : fi.size ≠ 0 := by omega
      simp [execOp, ho, hx, Instr.fieldAt, run_underlying hu, h1', Instr.sureAddr, fieldPlace, hs, hne, Addr.add_eq, h2]
    cases hv : opd σ.env x <;> simp only [hv] at he <;> try (cases he; done)
    · injection he with he; subst he
      obtain ⟨q1, q2⟩ := opd_ptr hsr hv
      exact OpOk.value (run _ _ q1) (Nxt.refl hsr) h.dst rfl ⟨rfl, q2⟩
    · injection he with he; subst he
      obtain ⟨b, oo, q1, q2, q3⟩ := opd_rptr hsr hv
      refine OpOk.value (run _ _ q1) (Nxt.refl hsr) h.dst rfl ⟨b, oo, by rw [Nat.add_assoc], q2, q3⟩
    · injection he with he; subst he
      obtain ⟨sz, n, xs, b, len, cap, q1, q2, q3, q4, q5⟩ := opd_xptr hsr hv
      exact OpOk.way (run _ _ q5) (Nxt.refl hsr) h.dst rfl hnd (fun d => ⟨sz, n, xs, b, len, cap, q1, q2, q3, q4, by rw [Nat.add_assoc]⟩)
  · cases he

theorem PR_of {β : Nat → Nat} {L : Nat → Nat → Loc} {v : V} {c : Value} (h : TR own β w L v c) (hv : capOk v = true) : PR own β w v c := by
  cases v <;> first
    | (simp [capOk] at hv; done)
    | exact h

theorem ok_makeFunc {T : Types} {call : CallF} {cx : Cx} {fr : Nat} (h : Hyp P T o own β w σ a) {fn : Fn} {first captured : Array Operand} (ho : o.op = .makeFunc fn first captured) {e : Eff}
    (he : eff T call cx fr o σ = some e) : OpOk P o own β w σ a (apply σ o.dst e) := by
  have hsr := h.sr
  simp only [eff, ho] at he
  split at he
  · rename_i hall
    injection he with he; subst he
    have hrun : (execOp a.eval o).run P w = .ok (.value (.func fn (first.map a.eval) (captured.map a.eval))) w := by simp [execOp, ho, Instr.makeFunc]
    have key : ∀ l : Array Operand, (∀ x ∈ l, x ∈ first.toList ++ captured.toList) → ∀ (j : Nat) (v : V) (c : Value), (l.toList.map (opd σ.env))[j]? = some v → (l.map a.eval)[j]? = some c → PR own β w v c := by
      intro l hl j v c hv hc
      rw [List.getElem?_map] at hv
      rw [Array.getElem?_map] at hc
      cases hx : l[j]? with
      | none => simp [hx] at hc
      | some x =>
        have hx' : l.toList[j]? = some x := by simpa using hx
        rw [hx'] at hv; rw [hx] at hc
        simp at hv hc
        subst hv; subst hc
        have hm := hl x (by simpa using Array.mem_of_getElem? hx)
        have hq : capOk (opd σ.env x) = true := by
          rw [← List.map_append, List.all_map, List.all_eq_true] at hall
          exact hall x hm
        have hw : isWay (opd σ.env x) = false := by cases hv : opd σ.env x <;> rw [hv] at hq <;> first | rfl | (simp [capOk] at hq)
        exact PR_of (opd_TR hsr x hw) hq
    refine OpOk.value hrun (Nxt.refl hsr) h.dst rfl ⟨_, _, rfl, by simp, by simp, key first (fun x hx => by simp [hx]), key captured (fun x hx => by simp [hx])⟩
  · cases he

end
end Go.Vm
