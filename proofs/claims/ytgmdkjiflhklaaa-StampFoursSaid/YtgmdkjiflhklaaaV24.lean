/- V24: arguments as they are read are V's. -/
import Derived.Test.YtgmdkjiflhklaaaV23
import Derived.ChangeShapes
import Derived.DataReads
import Derived.ChangeOld
import Derived.ChangeArms
import Derived.OpenShut
namespace Go.Vm
open Go

/-- Cells that a value of a type may have (data alone: no pointer, no interface, no map). -/
def HasC (T : Types) : Nat → TypeId → List V → Prop
  | 0, _, _ => False
  | m + 1, t, vs => match T t with
    | none => False
    | some i => match i.kind with
      | .bool => ∃ b, vs = [.bool b]
      | .int k => ∃ n, vs = [.int k n] ∧ (Lit.int k n).wf = true
      | .str => ∃ s : ByteArray, vs = [.str s] ∧ s.size ≤ maxLen
      | .slice e => ∃ b xs, vs = [.sl b xs] ∧ (b = true → xs = []) ∧ xs.length ≤ maxLen ∧ ∀ x ∈ xs, ∃ ei, T e = some ei ∧ asType ei x.cells = some x ∧ HasC T m e x.cells
      | .array n e => vs.length = i.size ∧ ∀ j, j < n → ∃ ei, T e = some ei ∧ HasC T m e ((vs.drop (j * ei.size)).take ei.size)
      | .struct fs => vs.length = i.size ∧ ∀ f ∈ fs, ∃ fi, T f.2 = some fi ∧ HasC T m f.2 ((vs.drop f.1).take fi.size)
      | _ => False

def HasV (T : Types) (m : Nat) (t : TypeId) (v : V) : Prop := ∃ i, T t = some i ∧ asType i v.cells = some v ∧ HasC T m t v.cells

/-- Fields that lie one behind the other and fill the struct. -/
def packed (T : Types) : Nat → List (Nat × Nat) → Option Nat
  | o, [] => some o
  | o, f :: fs => match T f.2 with
    | some i => if f.1 = o ∧ 0 < i.size then packed T (o + i.size) fs else none
    | none => none

/-- Types of data, and nothing else. -/
def pureT (T : Types) : Nat → TypeId → Bool
  | 0, _ => false
  | m + 1, t => match T t with
    | none => false
    | some i => match i.kind with
      | .bool => true
      | .int _ => true
      | .str => true
      | .slice e => (match T e with | some ei => decide (0 < ei.size) | none => false) && pureT T m e
      | .array n e => (match T e with | some ei => decide (0 < ei.size ∧ n * ei.size = i.size) | none => false) && pureT T m e
      | .struct fs => decide (packed T 0 fs = some i.size) && fs.all (fun f => pureT T m f.2)
      | _ => false

section
variable {P : Program} {T : Types} {own : Own} {w : World} {H : Type} {enc : TypeId × Value → H} {base : Nat} {spare : Nat → Bool} {held : Bool}

/-- Cells put together from parts. -/
def Parts (own : Own) (w : World) (cs : List Value) (vs : List V) : Prop := vs.length = cs.length ∧ ∀ (j : Nat) (v : V) (c : Value), vs[j]? = some v → cs[j]? = some c → FR own w v c

theorem Parts.append {cs cs' : List Value} {vs vs' : List V} (h : Parts own w cs vs) (h' : Parts own w cs' vs') : Parts own w (cs ++ cs') (vs ++ vs') := by
  refine ⟨by simp [h.1, h'.1], fun j v c hv hc => ?_⟩
  rw [List.getElem?_append] at hv hc
  rw [h.1] at hv
  split at hv
  · rename_i hlt; rw [if_pos hlt] at hc; exact h.2 _ _ _ hv hc
  · rename_i hlt; rw [if_neg hlt] at hc; exact h'.2 _ _ _ hv hc

theorem read_fields {m : Nat} (cs : List Value) (ih : ∀ (t : TypeId) (cs : List Value), (∃ k x, DataW.trod enc P w base spare held k t cs = some x) → pureT T m t = true → ∃ vs, Parts own w cs vs ∧ HasC T m t vs) (hT : TOk P T) :
    ∀ (fs : List (Nat × Nat)) (fds : List Field) (o : Nat) (n : Nat), fieldsB fds fs = true → packed T o fs = some n → n ≤ cs.length → fs.all (fun f => pureT T m f.2) = true →
      (∀ fd ∈ fds, ∃ k x, DataW.trod enc P w base spare held k fd.type ((cs.drop fd.offset).take (P.cellsOf fd.type)) = some x) →
      ∃ vs, Parts own w ((cs.drop o).take (n - o)) vs ∧ o ≤ n ∧ ∀ f ∈ fs, ∃ fi, T f.2 = some fi ∧ o ≤ f.1 ∧ f.1 + fi.size ≤ n ∧ HasC T m f.2 ((vs.drop (f.1 - o)).take fi.size)
  | [], fds, o, n, _, hp, hn, _, _ => by
    simp only [packed] at hp; injection hp with hp; subst hp
    exact ⟨[], ⟨by simp, by simp⟩, Nat.le_refl _, by simp⟩
  | f :: fs, [], o, n, hb, _, _, _, _ => by simp [fieldsB] at hb
  | (fo, ft) :: fs, fd :: fds, o, n, hb, hp, hn, hpure, hread => by
    simp only [fieldsB, Bool.and_eq_true, beq_iff_eq] at hb
    obtain ⟨⟨hb1, hb2⟩, hb3⟩ := hb
    simp only [packed] at hp
    cases hft : T ft with
    | none => simp [hft] at hp
    | some fi =>
      simp only [hft] at hp
      split at hp
      · rename_i hc
        obtain ⟨h1, h2⟩ := hc
        subst h1
        simp only [List.all_cons, Bool.and_eq_true] at hpure
        obtain ⟨vs', p1, p2, p3⟩ := read_fields cs ih hT fs fds (fo + fi.size) n hb3 hp hn hpure.2 (fun fd hfd => hread fd (by simp [hfd]))
        obtain ⟨r⟩ := Row.of hT hft
        have hsz : P.cellsOf fd.type = fi.size := by rw [hb2]; simp [Program.cellsOf, r.hinfo, r.hsize]
        have hrd := hread fd (by simp)
        rw [hsz, hb1, hb2] at hrd
        obtain ⟨vs1, q1, q2⟩ := ih ft _ hrd hpure.1
        have hlen : vs1.length = fi.size := by rw [q1.1]; simp; omega
        refine ⟨vs1 ++ vs', ?_, by omega, ?_⟩
        · have : (cs.drop fo).take (n - fo) = (cs.drop fo).take fi.size ++ (cs.drop (fo + fi.size)).take (n - (fo + fi.size)) := by
            rw [show n - fo = fi.size + (n - (fo + fi.size)) by omega, List.take_add, List.drop_drop]
          rw [this]
          exact q1.append p1
        · intro g hg
          rcases List.mem_cons.1 hg with rfl | hg
          · refine ⟨fi, hft, Nat.le_refl _, p2, ?_⟩
            simp only [Nat.sub_self, List.drop_zero]
            rw [List.take_append_of_le_length (by omega), List.take_of_length_le (by omega)]
            exact q2
          · obtain ⟨gi, g1, g2, g3, g4⟩ := p3 g hg
            refine ⟨gi, g1, by omega, g3, ?_⟩
            rw [List.drop_append, List.drop_eq_nil_of_le (by omega), List.nil_append, hlen, show g.1 - fo - fi.size = g.1 - (fo + fi.size) by omega]
            exact g4
      · cases hp

theorem read_elems {m : Nat} (cs : List Value) {e : TypeId} {sz : Nat}
    (ih : ∀ (cs : List Value), (∃ k x, DataW.trod enc P w base spare held k e cs = some x) → ∃ vs, Parts own w cs vs ∧ HasC T m e vs) :
    ∀ (n : Nat), n * sz ≤ cs.length → (∀ i, i < n → ∃ k x, DataW.trod enc P w base spare held k e ((cs.drop (i * sz)).take sz) = some x) →
      ∃ vs, Parts own w (cs.take (n * sz)) vs ∧ ∀ j, j < n → HasC T m e ((vs.drop (j * sz)).take sz)
  | 0, _, _ => ⟨[], ⟨by simp, by simp⟩, by simp⟩
  | n + 1, hn, hread => by
    rw [Nat.succ_mul] at hn
    obtain ⟨vs, p1, p2⟩ := read_elems cs ih n (by omega) (fun i hi => hread i (by omega))
    obtain ⟨vs1, q1, q2⟩ := ih _ (hread n (by omega))
    have hlen : vs.length = n * sz := by rw [p1.1]; simp; omega
    have hlen1 : vs1.length = sz := by rw [q1.1]; simp; omega
    refine ⟨vs ++ vs1, ?_, fun j hj => ?_⟩
    · rw [Nat.succ_mul, List.take_add]
      exact p1.append q1
    · by_cases hjn : j = n
      · subst hjn
        rw [List.drop_append, List.drop_eq_nil_of_le (by omega), List.nil_append, hlen, Nat.sub_self, List.drop_zero, List.take_of_length_le (by omega)]
        exact q2
      · have hle : (j + 1) * sz ≤ n * sz := Nat.mul_le_mul_right _ (by omega)
        rw [Nat.succ_mul] at hle
        rw [List.drop_append_of_le_length (by omega), List.take_append_of_le_length (by simp; omega)]
        exact p2 j (by omega)

theorem list_of {p : Nat → V → Prop} : ∀ (n : Nat), (∀ i, i < n → ∃ x, p i x) → ∃ xs : List V, xs.length = n ∧ ∀ (i : Nat) (x : V), xs[i]? = some x → p i x
  | 0, _ => ⟨[], rfl, by simp⟩
  | n + 1, h => by
    obtain ⟨xs, h1, h2⟩ := list_of n (fun i hi => h i (by omega))
    obtain ⟨x, hx⟩ := h n (by omega)
    refine ⟨xs ++ [x], by simp [h1], fun i y hy => ?_⟩
    rw [List.getElem?_append] at hy
    split at hy
    · exact h2 i y hy
    · have hi : i = n := by
        have := (List.getElem?_eq_some_iff.1 hy).1
        simp at this; omega
      subst hi
      rw [h1] at hy; simp at hy; subst hy; exact hx

theorem mapM_each {α β : Type} {f : α → Option β} : ∀ {l : List α} {r : List β}, l.mapM f = some r → ∀ x ∈ l, ∃ y, f x = some y := by
  intro l r h x hx
  obtain ⟨i, hi⟩ := List.getElem?_of_mem hx
  have h1 := mapM_some_get h i x hi
  have h2 := mapM_some_length h
  have h3 := (List.getElem?_eq_some_iff.1 hi).1
  exact ⟨r[i]'(by omega), by rw [h1, List.getElem?_eq_getElem]⟩

theorem Row.cellsOf {t : Nat} {i : TI} (r : Row P t i) : P.cellsOf t = i.size := by simp [Program.cellsOf, r.hinfo, r.hsize]

theorem one_cell {m : Nat} {t : TypeId} {i : TI} {y : V} (hi : T t = some i) (hk : i.kind.isAgg = false) (h : HasC T m t [y]) : y.cells = [y] := by
  cases m with
  | zero => exact h.elim
  | succ m =>
    simp only [HasC, hi] at h
    cases hkk : i.kind <;> simp only [hkk] at h <;> first
      | (obtain ⟨_, h⟩ := h; simp at h; first | (subst h; rfl) | (obtain ⟨rfl, _⟩ := h; rfl))
      | (obtain ⟨_, _, h, _⟩ := h; simp at h; subst h; rfl)
      | exact h.elim
      | (rw [hkk] at hk; simp [TK.isAgg] at hk)

theorem asType_of {m : Nat} {t : TypeId} {i : TI} {cs : List V} (r : Row P t i) (hi : T t = some i) (hl : cs.length = i.size) (h : HasC T m t cs) : ∃ x, asType i x.cells = some x ∧ x.cells = cs := by
  unfold asType
  cases hk : i.kind.isAgg
  · have := r.one hk
    match cs, hl, h with
    | [y], _, h =>
      have hc := one_cell hi hk h
      exact ⟨y, by rw [hc]; simp [this], hc⟩
    | [], hl, _ => simp at hl; omega
    | _ :: _ :: _, hl, _ => simp at hl; omega
  · exact ⟨.agg cs, by simp [V.cells, hl], rfl⟩

theorem Parts.one {v : V} {c : Value} (h : FR own w v c) : Parts own w [c] [v] :=
  ⟨rfl, fun j v' c' hv hc => by
    cases j with
    | zero => simp at hv hc; subst hv; subst hc; exact h
    | succ j => simp at hv⟩

theorem Addr.spot_none {a : Addr} {v : Value} (h : w.cell? a = some v) : a = ⟨a.block, a.off, none⟩ := by
  unfold World.cell? at h
  split at h
  · split at h
    · cases h
    · rename_i hs
      obtain ⟨b, o, s⟩ := a
      cases s with
      | none => rfl
      | some s => simp at hs
  · cases h

theorem read_ok (hT : TOk P T) (hown : ∀ b, b < w.heap.size → own b = .im) : ∀ (m : Nat) (t : TypeId) (cs : List Value), (∃ k x, DataW.trod enc P w base spare held k t cs = some x) → pureT T m t = true → ∃ vs, Parts own w cs vs ∧ HasC T m t vs
  | 0, _, _, _, hp => by simp [pureT] at hp
  | m + 1, t, cs, hr, hp => by
    obtain ⟨k, x, h⟩ := hr
    have ih := fun t cs hr hp => read_ok hT hown m t cs hr hp
    simp only [pureT] at hp
    cases hi : T t with
    | none => simp [hi] at hp
    | some i =>
      obtain ⟨r⟩ := Row.of hT hi
      simp only [hi] at hp
      simp only [HasC, hi]
      have hkk := r.hkind
      have hu := r.hd
      cases hk : i.kind <;> simp only [hk] at hp hkk ⊢ <;> try (cases hp; done)
      case bool =>
        have hd : r.d = .bool := by cases hd : r.d <;> simp [hd, kindB] at hkk ⊢
        rw [hd] at hu
        obtain ⟨b, rfl, _⟩ := DataW.trod_bool hu h
        exact ⟨[.bool b], .one (.bool b), b, rfl⟩
      case int kd =>
        have hd : r.d = .int kd := by cases hd : r.d <;> simp [hd, kindB] at hkk ⊢; rw [hkk]
        rw [hd] at hu
        obtain ⟨n, rfl, _, hwf⟩ := DataW.trod_int hu h
        exact ⟨[.int kd n], .one (.int kd n), n, rfl, hwf⟩
      case str =>
        have hd : r.d = .string := by cases hd : r.d <;> simp [hd, kindB] at hkk ⊢
        rw [hd] at hu
        obtain ⟨s, rfl, _, hs⟩ := DataW.trod_string hu h
        exact ⟨[.str s], .one (.str s), s, rfl, hs⟩
      case slice e =>
        have hus := kind_slice r hk
        simp only [Bool.and_eq_true] at hp
        cases he : T e with
        | none => simp [he] at hp
        | some ei =>
          obtain ⟨re⟩ := Row.of hT he
          simp only [he, decide_eq_true_eq] at hp
          obtain ⟨hpos, hpe⟩ := hp
          rcases DataW.trod_slice hus h with ⟨rfl, _⟩ | ⟨a, len, cap, elems, rest, n, rfl, rfl, _, hb, hlc, hcm, hel, hread, _, _⟩
          · exact ⟨[.sl true []], .one .nil, true, [], rfl, fun _ => rfl, by simp, by simp⟩
          · rw [re.cellsOf] at hread
            rcases Nat.eq_zero_or_pos len with rfl | hlen
            · exact ⟨[.sl false []], .one (.none a cap), false, [], rfl, by simp, by simp, by simp⟩
            · have each : ∀ i, i < len → ∃ cs, (w.cells? base (a.add (i * ei.size)) ei.size) = some cs ∧ ∃ x, DataW.trod enc P w base spare held n e cs = some x := by
                intro i hi
                have := hread i hi
                rw [List.getElem?_eq_getElem (by omega), Option.bind_eq_some_iff] at this
                obtain ⟨cs, h1, h2⟩ := this
                exact ⟨cs, h1, _, h2⟩
              obtain ⟨cs0, h0, _⟩ := each 0 hlen
              obtain ⟨_, h01, h02⟩ := World.cells?_some h0
              have hcell : w.cell? a = some (cs0[0]'(by omega)) := by
                have := h02 0 hpos
                rw [List.getElem?_eq_getElem (by omega)] at this
                simpa [Addr.add] using this
              have ha := Addr.spot_none hcell
              have hblk : a.block < w.heap.size := World.block_lt_of_cell? w a hcell
              have addr : ∀ i j, ((a.add (i * ei.size)).add j) = ⟨a.block, a.off + i * ei.size + j, none⟩ := by
                intro i j
                rw [ha, Addr.add_mid, Addr.add_mid]
              obtain ⟨xs, x1, x2⟩ := list_of (p := fun i x => asType ei x.cells = some x ∧ HasC T m e x.cells ∧ x.cells.length = ei.size ∧ ∃ cs, (∀ j, j < ei.size → w.cell? ⟨a.block, a.off + i * ei.size + j, none⟩ = cs[j]?) ∧ Parts own w cs x.cells) len (by
                intro i hi
                obtain ⟨cs, e1, x, e2⟩ := each i hi
                obtain ⟨_, e3, e4⟩ := World.cells?_some e1
                obtain ⟨vs, q1, q2⟩ := ih e cs ⟨n, x, e2⟩ hpe
                obtain ⟨y, y1, y2⟩ := asType_of re he (by rw [q1.1, e3]) q2
                exact ⟨y, y1, by rw [y2]; exact q2, by rw [y2, q1.1, e3], cs, fun j hj => by rw [← addr]; exact e4 j hj, by rw [y2]; exact q1⟩)
              refine ⟨[.sl false xs], .one ?_, false, xs, rfl, by simp, by omega, fun x hx => ?_⟩
              · have hf := FR.sl (own := own) (w := w) a.block a.off cap ei.size xs (fun i j => (w.cell? ⟨a.block, a.off + i * ei.size + j, none⟩).getD undef) (hown _ hblk) (by omega) (fun i x hx => by
                    obtain ⟨_, _, g3, cs, g4, g5⟩ := x2 i x hx
                    refine ⟨g3, fun j hj => ?_⟩
                    rw [g4 j hj, List.getElem?_eq_getElem (by rw [← g5.1, g3]; exact hj)]; rfl) (fun i x j y hx hy => by
                    obtain ⟨_, _, g3, cs, g4, g5⟩ := x2 i x hx
                    have hj : j < x.cells.length := (List.getElem?_eq_some_iff.1 hy).1
                    have hjc : j < cs.length := by rw [← g5.1]; exact hj
                    rw [g4 j (by omega), List.getElem?_eq_getElem hjc]
                    exact g5.2 j y _ hy (List.getElem?_eq_getElem hjc))
                rw [x1, ← ha] at hf
                exact hf
              · obtain ⟨i, hxi⟩ := List.getElem?_of_mem hx
                obtain ⟨g1, g2, _⟩ := x2 i x hxi
                exact ⟨ei, rfl, g1, g2⟩
      case array n e =>
        have hus := kind_array r hk
        simp only [Bool.and_eq_true] at hp
        cases he : T e with
        | none => simp [he] at hp
        | some ei =>
          obtain ⟨re⟩ := Row.of hT he
          simp only [he, decide_eq_true_eq] at hp
          obtain ⟨⟨hpos, hsz⟩, hpe⟩ := hp
          obtain ⟨xs, k', rfl, _, hl, hxl, hread⟩ := DataW.trod_array hus h
          rw [re.cellsOf] at hread
          rw [r.cellsOf] at hl
          obtain ⟨vs, p1, p2⟩ := read_elems (sz := ei.size) cs (fun cs hr => ih e cs hr hpe) n (by omega) (fun i hi => ⟨k', xs[i]'(by omega), by rw [hread i hi, List.getElem?_eq_getElem]⟩)
          rw [hsz, ← hl, List.take_length] at p1
          exact ⟨vs, p1, by rw [p1.1, hl], fun j hj => ⟨ei, rfl, p2 j hj⟩⟩
      case struct fs =>
        obtain ⟨fields, hus, hfb⟩ := kind_struct r hk
        simp only [Bool.and_eq_true, decide_eq_true_eq] at hp
        obtain ⟨xs, k', rfl, _, hl, hxl, hread⟩ := DataW.trod_struct hus h
        rw [r.cellsOf] at hl
        obtain ⟨vs, p1, _, p3⟩ := read_fields cs ih hT fs fields.toList 0 i.size hfb hp.1 (by omega) hp.2 (fun fd hfd => by
          obtain ⟨j, hj⟩ := List.getElem?_of_mem hfd
          have hj' : fields[j]? = some fd := by simpa using hj
          have hlt : j < xs.length := by rw [hxl]; exact (Array.getElem?_eq_some_iff.1 hj').1
          exact ⟨k', xs[j], by rw [hread j fd hj', List.getElem?_eq_getElem]⟩)
        rw [List.drop_zero, Nat.sub_zero, ← hl, List.take_length] at p1
        refine ⟨vs, p1, by rw [p1.1, hl], fun f hf => ?_⟩
        obtain ⟨fi, g1, _, _, g4⟩ := p3 f hf
        exact ⟨fi, g1, by simpa using g4⟩

end
end Go.Vm
