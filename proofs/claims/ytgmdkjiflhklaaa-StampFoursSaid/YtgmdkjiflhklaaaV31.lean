/- V31: all orders. -/
import Derived.Test.YtgmdkjiflhklaaaV30
import Derived.Orders
namespace Go.Vm
open Go

def Closed (ops : Array Oper) (L : Array Bool) : Prop := ∀ j o, ops[j]? = some o → L.getD j false = true → ∀ e ∈ o.after, Region.binds .any e = true → L.getD e.on false = true

theorem fold_bits (anc : List Nat) (i : Nat) : ∀ (l : List Edge) (b : Nat), (l.foldl (fun b e => if Region.binds .any e then b ||| 2 ^ e.on ||| anc.getD e.on 0 else b) b).testBit i = true →
    b.testBit i = true ∨ ∃ e ∈ l, Region.binds .any e = true ∧ (e.on = i ∨ (anc.getD e.on 0).testBit i = true)
  | [], b, h => .inl h
  | e :: l, b, h => by
    simp only [List.foldl_cons] at h
    rcases fold_bits anc i l _ h with h | ⟨x, hx, h⟩
    · split at h
      · rename_i hb
        simp only [Nat.testBit_or, Bool.or_eq_true, Nat.testBit_two_pow, decide_eq_true_eq] at h
        rcases h with (h | h) | h
        · exact .inl h
        · exact .inr ⟨e, by simp, hb, .inl h⟩
        · exact .inr ⟨e, by simp, hb, .inr h⟩
      · exact .inl h
    · exact .inr ⟨x, by simp [hx], h⟩

def AncOk (ops : Array Oper) (acc : List Nat) : Prop := ∀ (L : Array Bool), Closed ops L → ∀ j i o, ops[j]? = some o → (∀ e ∈ o.after, Region.binds .any e = true → L.getD e.on false = true) → (acc.getD j 0).testBit i = true → L.getD i false = true

theorem ancs_ok {ops : Array Oper} : ∀ (l : List Oper) (acc : List Nat), AncOk ops acc → (∀ j, l[j]? = ops[acc.length + j]?) → AncOk ops (ancs l acc)
  | [], acc, h, _ => h
  | o :: l, acc, h, hl => by
    refine ancs_ok l _ (fun L hc j i o' ho' hd hb => ?_) (fun j => by have := hl (j + 1); simpa [Nat.add_assoc, Nat.add_comm 1 j] using this)
    rcases Nat.lt_or_ge j acc.length with hlt | hge
    · rw [List.getD_eq_getElem?_getD, List.getElem?_append_left hlt, ← List.getD_eq_getElem?_getD] at hb
      exact h L hc j i o' ho' hd hb
    · by_cases hj : j = acc.length
      · subst hj
        have h0 : ops[acc.length]? = some o := by simpa using (hl 0).symm
        obtain rfl : o' = o := Option.some.inj (ho'.symm.trans h0)
        have hb' : (ancStep acc o').testBit i = true := by simpa using hb
        rcases fold_bits acc i _ 0 hb' with h1 | ⟨e, he, h1, h2⟩
        · simp at h1
        · have he' : e ∈ o'.after := by simpa using he
          rcases h2 with h2 | h2
          · rw [← h2]; exact hd e he' h1
          · cases hoe : ops[e.on]? with
            | none =>
              have hlt : e.on < acc.length := by
                rcases Nat.lt_or_ge e.on acc.length with h' | h'
                · exact h'
                · simp [List.getD_eq_getElem?_getD, List.getElem?_eq_none h'] at h2
              have h3 := (Array.getElem?_eq_some_iff.1 h0).1
              rw [Array.getElem?_eq_none_iff] at hoe; omega
            | some oe => exact h L hc e.on i oe hoe (hc e.on oe hoe (hd e he' h1)) h2
      · have : (acc ++ [ancStep acc o]).getD j 0 = 0 := by
          rw [List.getD_eq_getElem?_getD, List.getElem?_eq_none (by simp; omega)]; rfl
        rw [this] at hb; simp at hb

theorem dep_listed {ops : Array Oper} {L : Array Bool} (hc : Closed ops L) (j i : Nat) (o : Oper) (ho : ops[j]? = some o) (hd : ∀ e ∈ o.after, Region.binds .any e = true → L.getD e.on false = true)
    (h : depB ops j i = true) : L.getD i false = true :=
  ancs_ok ops.toList [] (fun _ _ _ _ _ _ _ h => by simp at h) (by simp) L hc j i o ho hd h

theorem Closed.set {ops : Array Oper} {L : Array Bool} (hc : Closed ops L) {i : Nat} (hi : i ∈ Region.ready .any ops L) : Closed ops (L.setIfInBounds i true) := by
  obtain ⟨_, oi, hoi, hall⟩ := mem_ready.1 hi
  intro j o hj hl e he hb
  by_cases hij : i = j
  · subst hij
    have : o = oi := Option.some.inj (hj.symm.trans hoi)
    subst this
    exact getD_set_true (hall e he hb)
  · rw [getD_set_ne false hij] at hl
    exact getD_set_true (hc j o hj hl e he hb)

section
variable {T : Types} {call : CallF} {cx : Cx} {ops : Array Oper} {fr : Nat → Nat} {R W : Nat → List Res} {Q : St → Prop}

theorem alike_eqv {b : Bool} {σ τ : St} (h : Eqv σ τ) (x : Operand) : Alike b σ τ x := by
  have ho : opd σ.env x = opd τ.env x := by cases x <;> first | rfl | exact h.1 _
  refine ⟨ho, fun p _ => ?_, fun _ id off _ => by rw [h.2]⟩
  cases p with
  | slot t => exact h.1 t
  | cell id off => simp only [look, h.2]

theorem stp_eqv {σ τ σ' : St} {i : Nat} (hs : Stp T call cx ops fr R W i σ σ') (h : Eqv σ τ) : ∃ τ', Stp T call cx ops fr R W i τ τ' ∧ Eqv σ' τ' := by
  rcases hs with ⟨o, e, i1, i2, i3, i4, i5, i6, i7, i8, rfl⟩ | ⟨o, e, i1, i2, i3, rfl⟩
  · obtain ⟨f1, f2, f3⟩ := stp_same (τ := τ) i1 i2 i4 i5 (fun t _ => h.1 t) (fun x _ => alike_eqv h x) (fun _ _ _ => ⟨by rw [h.2], fun _ _ => by rw [h.2]⟩) (fun _ => ⟨by rw [h.2], by rw [h.2]⟩)
    exact ⟨_, .inl ⟨o, e, i1, f1, i3, i4, f2, by rw [f3, i6], i7, i8, rfl⟩, h.apply _ _⟩
  · exact ⟨_, .inr ⟨o, e, i1, effG_rd i2 (.inr h) (fun t _ => h.1 t) (fun x _ => alike_eqv h x) (fun _ _ _ => ⟨by rw [h.2], fun _ _ => by rw [h.2]⟩) (fun _ => ⟨by rw [h.2], by rw [h.2]⟩), i3, rfl⟩, h.apply _ _⟩

def VAny (T : Types) (call : CallF) (cx : Cx) (ops : Array Oper) (fr : Nat → Nat) (R W : Nat → List Res) (Q : St → Prop) : Nat → Array Bool → St → Prop
  | 0, L, σ => Region.ready .any ops L = [] ∧ Q σ
  | f + 1, L, σ => (Region.ready .any ops L = [] → Q σ) ∧ ∀ i ∈ Region.ready .any ops L, ∃ σ', Stp T call cx ops fr R W i σ σ' ∧ VAny T call cx ops fr R W Q f (L.setIfInBounds i true) σ'

theorem vany_eqv (hQ : ∀ σ τ, Eqv σ τ → Q σ → Q τ) : ∀ (f : Nat) (L : Array Bool) (σ τ : St), VAny T call cx ops fr R W Q f L σ → Eqv σ τ → VAny T call cx ops fr R W Q f L τ
  | 0, L, σ, τ, h, he => ⟨h.1, hQ _ _ he h.2⟩
  | f + 1, L, σ, τ, h, he => by
    refine ⟨fun h0 => hQ _ _ he (h.1 h0), fun i hi => ?_⟩
    obtain ⟨σ', h1, h2⟩ := h.2 i hi
    obtain ⟨τ', g1, g2⟩ := stp_eqv h1 he
    exact ⟨τ', g1, vany_eqv hQ f _ σ' τ' h2 g2⟩

theorem getD_not {L : Array Bool} {i : Nat} (h : L.getD i true = false) : L.getD i false = false := by
  rcases Nat.lt_or_ge i L.size with h' | h'
  · simp [h'] at h ⊢; exact h
  · simp [Array.getElem?_eq_none h'] at h

theorem vany_first (hQ : ∀ σ τ, Eqv σ τ → Q σ → Q τ) {i : Nat} : ∀ (f : Nat) (L : Array Bool) (σ σ1 : St), Closed ops L →
    (∀ j, j < ops.size → j ≠ i → L.getD j true = false → depB ops j i = true ∨ apartR (R i) (W i) (R j) (W j)) → i ∈ Region.ready .any ops L → Stp T call cx ops fr R W i σ σ1 →
    VAny T call cx ops fr R W Q f (L.setIfInBounds i true) σ1 → VAny T call cx ops fr R W Q (f + 1) L σ
  | 0, L, σ, σ1, hc, hfree, hr, hs, H => by
    refine ⟨fun h => (by rw [h] at hr; cases hr), fun j hj => ?_⟩
    by_cases hji : j = i
    · subst hji; exact ⟨σ1, hs, H⟩
    · have := ready_mono hj hji
      rw [H.1] at this
      cases this
  | f + 1, L, σ, σ1, hc, hfree, hr, hs, H => by
    refine ⟨fun h => (by rw [h] at hr; cases hr), fun j hj => ?_⟩
    by_cases hji : j = i
    · subst hji; exact ⟨σ1, hs, H⟩
    · obtain ⟨σ2, h1, h2⟩ := H.2 j (ready_mono hj hji)
      obtain ⟨hjun, oj, hoj, hall⟩ := mem_ready.1 hj
      have hap : apartR (R i) (W i) (R j) (W j) := by
        rcases hfree j (Array.getElem?_eq_some_iff.1 hoj).1 hji hjun with hd | ha
        · have := dep_listed hc j i oj hoj hall hd
          rw [getD_not (mem_ready.1 hr).1] at this; cases this
        · exact ha
      obtain ⟨τ, τ2, g1, g2, g3⟩ := swap hs h1 hap
      refine ⟨τ, g1, vany_first hQ f _ τ τ2 (hc.set hj) (fun k hk hki hun => hfree k hk hki ?_) (ready_mono hr (Ne.symm hji)) g2 ?_⟩
      · by_cases hjk : j = k
        · subst hjk; exact hjun
        · rw [getD_set_ne true hjk] at hun; exact hun
      · rw [Array.setIfInBounds_comm _ _ hji]
        exact vany_eqv hQ f _ σ2 τ2 h2 g3

/-- The text's order. -/
def Lex (T : Types) (call : CallF) (cx : Cx) (ops : Array Oper) (fr : Nat → Nat) (R W : Nat → List Res) (Q : St → Prop) : Nat → Nat → St → Prop
  | 0, _, σ => Q σ
  | n + 1, k, σ => ∃ σ', Stp T call cx ops fr R W k σ σ' ∧ Lex T call cx ops fr R W Q n (k + 1) σ'
theorem getD_in_range {L : Array Bool} {i : Nat} (h : i < L.size) (b c : Bool) : L.getD i b = L.getD i c := by simp [h]

theorem vany_lex (hQ : ∀ σ τ, Eqv σ τ → Q σ → Q τ) (hback : ∀ k o, ops[k]? = some o → ∀ e ∈ o.after, Region.binds .any e = true → e.on < k)
    (hp : ∀ i j, i < j → j < ops.size → depB ops j i = true ∨ apartR (R i) (W i) (R j) (W j)) : ∀ (n k : Nat) (L : Array Bool) (σ : St),
    Closed ops L → (∀ j, j < ops.size → L.getD j true = decide (j < k)) → k + n = ops.size → L.size = ops.size → Lex T call cx ops fr R W Q n k σ → VAny T call cx ops fr R W Q n L σ
  | 0, k, L, σ, hc, hl, hn, hs, h => by
    refine ⟨?_, h⟩
    rw [List.eq_nil_iff_forall_not_mem]
    intro j hj
    obtain ⟨h1, o, ho, _⟩ := mem_ready.1 hj
    have hlt := (Array.getElem?_eq_some_iff.1 ho).1
    rw [hl j hlt] at h1
    simp at h1; omega
  | n + 1, k, L, σ, hc, hl, hn, hs, h => by
    have hk : k < ops.size := by omega
    have hr' : k ∈ Region.ready .any ops L := by
      refine mem_ready.2 ⟨by rw [hl k hk]; simp, ops[k], Array.getElem?_eq_getElem hk, fun e he hb => ?_⟩
      have hlt := hback k _ (Array.getElem?_eq_getElem hk) e he hb
      rw [getD_in_range (by omega) false true, hl e.on (by omega)]; simpa using hlt
    obtain ⟨σ1, h1, h2⟩ := h
    refine vany_first hQ n L σ σ1 hc (fun j hj hjk hun => hp k j ?_ hj) hr' h1 (vany_lex hQ hback hp n (k + 1) _ σ1 (hc.set hr') (fun j hj => ?_) (by omega) (by simpa using hs) h2)
    · rw [hl j hj] at hun; simp at hun; omega
    · by_cases hjk : k = j
      · subst hjk
        simp [hs, hj]
      · rw [getD_set_ne true hjk, hl j hj]
        rw [Bool.eq_iff_iff]; simp; omega

end
end Go.Vm
