/- V2: what it is for the machine's memory to be as V says, and what a change elsewhere leaves of it. -/
import Derived.Test.YtgmdkjiflhklaaaV1
import Derived.Laws.AppendOwn
import Derived.Laws.Rows
import Derived.Laws.Cells
namespace Go.Vm
open Go

/-- Who holds a block: nobody writes it any more; a place of ours; a block of V's; or it is none of ours. -/
inductive Loc where
  | im
  | other
  | slot (t i j : Nat)
  | cell (id j : Nat)
  | blk (id : Nat)
  | res (i j : Nat)
  deriving DecidableEq

abbrev Own := Nat → Loc

/-- A value of data as it lies in memory: whatever it leads to is written no more. -/
inductive FR (own : Own) (w : World) : V → Value → Prop where
  | undef (c : Value) (h1 : c.oneCell' = true) : FR own w .undef c
  | bool (b : Bool) : FR own w (.bool b) (.bool b)
  | int (k : IntKind) (n : Int) : FR own w (.int k n) (.int k n)
  | str (s : ByteArray) : FR own w (.str s) (.string s)
  | nilp : FR own w .nilp (.pointer none)
  | nilf : FR own w .nilf .nilFunc
  | nil : FR own w (.sl true []) (.slice none 0 0)
  | none (a : Addr) (cap : Nat) : FR own w (.sl false []) (.slice (some a) 0 cap)
  | sl (b o cap sz : Nat) (xs : List V) (cv : Nat → Nat → Value) (him : own b = .im) (hcap : xs.length ≤ cap)
      (hcells : ∀ (i : Nat) (x : V), xs[i]? = some x → x.cells.length = sz ∧ ∀ j, j < sz → w.cell? ⟨b, o + i * sz + j, none⟩ = some (cv i j))
      (hfr : ∀ (i : Nat) (x : V) (j : Nat) (y : V), xs[i]? = some x → x.cells[j]? = some y → FR own w y (cv i j)) :
      FR own w (.sl false xs) (.slice (some ⟨b, o, none⟩) xs.length cap)

theorem FR.one {own : Own} {w : World} {v : V} {c : Value} (h : FR own w v c) : c.oneCell' = true := by
  cases h <;> first | rfl | assumption
theorem FR.mono {own own' : Own} {w w' : World} {v : V} {c : Value} (h : FR own w v c)
    (hk : ∀ b, own b = .im → own' b = .im ∧ w'.heap[b]? = w.heap[b]?) : FR own' w' v c := by
  induction h with
  | undef c h1 => exact .undef c h1
  | bool b => exact .bool b
  | int k n => exact .int k n
  | str s => exact .str s
  | nilp => exact .nilp
  | nilf => exact .nilf
  | nil => exact .nil
  | none a cap => exact .none a cap
  | sl b o cap sz xs cv him hcap hcells hfr ih =>
    obtain ⟨h1, h2⟩ := hk b him
    refine .sl b o cap sz xs cv h1 hcap (fun i x hx => ⟨(hcells i x hx).1, fun j hj => ?_⟩) ih
    rw [World.cell?_of_block (w := w) (by exact h2)]
    exact (hcells i x hx).2 j hj

/-- The elements of an array that a place alone holds. -/
def Lay (own : Own) (w : World) (sz : Nat) (xs : List V) (arr : Array Value) : Prop :=
  ∀ (i : Nat) (x : V), xs[i]? = some x → x.cells.length = sz ∧ ∀ (j : Nat) (y : V) (c : Value), x.cells[j]? = some y → arr[i * sz + j]? = some c → FR own w y c

def EXR (own : Own) (w : World) (l : Loc) (sz : Nat) (n : Bool) (xs : List V) (c : Value) : Prop :=
  (xs = [] ∧ n = true ∧ c = .slice none 0 0) ∨ (xs = [] ∧ n = false ∧ ∃ a, c = .slice (some a) 0 0) ∨
  (n = false ∧ ∃ b cap T arr, c = .slice (some ⟨b, 0, none⟩) xs.length cap ∧ own b = l ∧ w.heap[b]? = some (.cells arr T (0, 0)) ∧
    xs.length ≤ cap ∧ arr.size = cap * sz ∧ Lay own w sz xs arr)

def PR (own : Own) (β : Nat → Nat) (w : World) (v : V) (c : Value) : Prop :=
  match v with
  | .ptr id off => c = .pointer (some ⟨β id, off, none⟩) ∧ own (β id) = .blk id
  | v => FR own w v c

/-- A cell. -/
def CR (own : Own) (β : Nat → Nat) (w : World) (l : Loc) (v : V) (c : Value) : Prop :=
  match v with
  | .ptr id off => c = .pointer (some ⟨β id, off, none⟩) ∧ own (β id) = .blk id
  | .ex sz n xs => EXR own w l sz n xs c
  | .clo fn a b => ∃ ca cb : Array Value, c = .func fn ca cb ∧ ca.size = a.length ∧ cb.size = b.length ∧
      (∀ (j : Nat) (v : V) (c : Value), a[j]? = some v → ca[j]? = some c → PR own β w v c) ∧ (∀ (j : Nat) (v : V) (c : Value), b[j]? = some v → cb[j]? = some c → PR own β w v c)
  | v => FR own w v c

theorem EXR.one {own : Own} {w : World} {l : Loc} {sz : Nat} {n : Bool} {xs : List V} {c : Value} (h : EXR own w l sz n xs c) : c.oneCell' = true := by
  rcases h with ⟨_, _, rfl⟩ | ⟨_, _, _, rfl⟩ | ⟨_, _, _, _, _, rfl, _⟩ <;> rfl
theorem CR.one {own : Own} {β : Nat → Nat} {w : World} {l : Loc} {v : V} {c : Value} (h : CR own β w l v c) : c.oneCell' = true := by
  cases v <;> simp only [CR] at h <;> first
    | exact FR.one h
    | (obtain ⟨rfl, _⟩ := h; rfl)
    | exact EXR.one h
    | (obtain ⟨_, _, rfl, _⟩ := h; rfl)

/-- A value whose cells stand at the places L 0, L 1, .. -/
def VR (own : Own) (β : Nat → Nat) (w : World) (L : Nat → Loc) (v : V) (c : Value) : Prop :=
  match v with
  | .undef => True
  | .agg cs => ∃ arr, c = .agg arr ∧ arr.size = cs.length ∧ ∀ (j : Nat) (v : V) (c : Value), cs[j]? = some v → arr[j]? = some c → CR own β w (L j) v c
  | .rptr cs off => ∃ b o, c = .pointer (some ⟨b, o + off, none⟩) ∧ own b = .im ∧ ∀ (j : Nat) (v : V), cs[j]? = some v → ∃ c', w.cell? ⟨b, o + j, none⟩ = some c' ∧ FR own w v c'
  | v => CR own β w (L 0) v c

def TR (own : Own) (β : Nat → Nat) (w : World) (L : Nat → Nat → Loc) (v : V) (c : Value) : Prop :=
  match v with
  | .tup vs => ∃ arr, c = .tuple arr ∧ arr.size = vs.length ∧ ∀ (i : Nat) (v : V) (c : Value), vs[i]? = some v → arr[i]? = some c → VR own β w (L i) v c
  | v => VR own β w (L 0) v c

def locOf : Place → Loc
  | .slot t => .slot t 0 0
  | .cell id off => .cell id off

def conc (β : Nat → Nat) (tmps : Array Value) (w : World) : Place → Option Value
  | .slot t => some (tmps.getD t undef)
  | .cell id off => w.cell? ⟨β id, off, none⟩

/-- What a slot holds. -/
def ER (own : Own) (β : Nat → Nat) (w : World) (σ : St) (tmps : Array Value) (t : Nat) (v : V) (c : Value) : Prop :=
  match v with
  | .lent p => ∃ sz n xs, look σ p = .ex sz n xs ∧ conc β tmps w p = some c
  | .xptr p i off => ∃ sz n xs b len cap, look σ p = .ex sz n xs ∧ conc β tmps w p = some (.slice (some ⟨b, 0, none⟩) len cap) ∧ own b = locOf p ∧
      i < xs.length ∧ c = .pointer (some ⟨b, i * sz + off, none⟩)
  | v => TR own β w (fun i j => .slot t i j) v c

def BR (own : Own) (β : Nat → Nat) (w : World) (id : Nat) (cs : List V) : Prop :=
  own (β id) = .blk id ∧ (∀ v ∈ cs, okBelow (id + 1) v = true) ∧ ∃ arr T, w.heap[β id]? = some (.cells arr T (0, 0)) ∧ arr.size = cs.length ∧
    ∀ (j : Nat) (v : V) (c : Value), cs[j]? = some v → arr[j]? = some c → CR own β w (.cell id j) v c

structure HR (own : Own) (β : Nat → Nat) (w : World) (H : Heap) : Prop where
  blk : ∀ id cs, bcells H id = some cs → BR own β w id cs
  inv : ∀ b id, own b = .blk id → β id = b ∧ ∃ cs, bcells H id = some cs
  lt : ∀ b, own b ≠ .other → b < w.heap.size

structure SR (own : Own) (β : Nat → Nat) (w : World) (σ : St) (tmps : Array Value) : Prop where
  env : ∀ t, ER own β w σ tmps t (get σ.env t) (tmps.getD t undef)
  heap : HR own β w σ.heap

/-- What a stretch of a run leaves: what is none of ours, and what nobody writes. -/
structure Stay (own : Own) (w : World) (own' : Own) (w' : World) : Prop where
  im : ∀ b, own b = .im → own' b = .im ∧ w'.heap[b]? = w.heap[b]?
  other : ∀ b, b < w.heap.size → own b = .other → own' b = .other ∧ w'.heap[b]? = w.heap[b]?
  size : w.heap.size ≤ w'.heap.size
  os : w'.os = w.os
  tape : w'.tape = w.tape
  output : w'.output = w.output

theorem Stay.refl (own : Own) (w : World) : Stay own w own w := ⟨fun _ h => ⟨h, rfl⟩, fun _ _ h => ⟨h, rfl⟩, Nat.le_refl _, rfl, rfl, rfl⟩
theorem Stay.trans {o1 o2 o3 : Own} {w1 w2 w3 : World} (h : Stay o1 w1 o2 w2) (k : Stay o2 w2 o3 w3) : Stay o1 w1 o3 w3 :=
  ⟨fun b hb => let ⟨x, y⟩ := h.im b hb; let ⟨x', y'⟩ := k.im b x; ⟨x', y'.trans y⟩,
   fun b hl hb => let ⟨x, y⟩ := h.other b hl hb; let ⟨x', y'⟩ := k.other b (Nat.lt_of_lt_of_le hl h.size) x; ⟨x', y'.trans y⟩,
   Nat.le_trans h.size k.size, k.os.trans h.os, k.tape.trans h.tape, k.output.trans h.output⟩

/-- Blocks of V's that are there stay where they are. -/
def BX (β β' : Nat → Nat) (H H' : Heap) : Prop :=
  H.length ≤ H'.length ∧ ∀ id cs, bcells H id = some cs → β' id = β id ∧ ∃ cs', bcells H' id = some cs'
theorem BX.refl (β : Nat → Nat) (H : Heap) : BX β β H H := ⟨Nat.le_refl _, fun _ cs h => ⟨rfl, cs, h⟩⟩
theorem BX.trans {β1 β2 β3 : Nat → Nat} {H1 H2 H3 : Heap} (h : BX β1 β2 H1 H2) (k : BX β2 β3 H2 H3) : BX β1 β3 H1 H3 :=
  ⟨Nat.le_trans h.1 k.1, fun id cs hc => let ⟨x, cs', hc'⟩ := h.2 id cs hc; let ⟨x', r⟩ := k.2 id cs' hc'; ⟨x'.trans x, r⟩⟩

/-! ### A change elsewhere -/
section
variable {own own' : Own} {β β' : Nat → Nat} {w w' : World}

theorem EXR.mono {l : Loc} {sz : Nat} {n : Bool} {xs : List V} {c : Value} (h : EXR own w l sz n xs c)
    (hk : ∀ b, own b = .im → own' b = .im ∧ w'.heap[b]? = w.heap[b]?) (hl : ∀ b, own b = l → own' b = l ∧ w'.heap[b]? = w.heap[b]?) : EXR own' w' l sz n xs c := by
  rcases h with h | h | ⟨hn, b, cap, T, arr, h1, h2, h3, h4, h5, h6⟩
  · exact .inl h
  · exact .inr (.inl h)
  · exact .inr (.inr ⟨hn, b, cap, T, arr, h1, (hl b h2).1, by rw [(hl b h2).2]; exact h3, h4, h5, fun i x hx => ⟨(h6 i x hx).1, fun j y c hy hc => ((h6 i x hx).2 j y c hy hc).mono hk⟩⟩)

theorem PR.mono {v : V} {c : Value} (h : PR own β w v c) (hk : ∀ b, own b = .im → own' b = .im ∧ w'.heap[b]? = w.heap[b]?)
    (hb : ∀ id, own (β id) = .blk id → own' (β' id) = .blk id ∧ β' id = β id) : PR own' β' w' v c := by
  cases v <;> simp only [PR] at h ⊢ <;> first
    | exact h.mono hk
    | exact ⟨by rw [(hb _ h.2).2]; exact h.1, (hb _ h.2).1⟩

theorem CR.mono {l : Loc} {v : V} {c : Value} (h : CR own β w l v c) (hk : ∀ b, own b = .im → own' b = .im ∧ w'.heap[b]? = w.heap[b]?)
    (hb : ∀ id, own (β id) = .blk id → own' (β' id) = .blk id ∧ β' id = β id) (hl : ∀ b, own b = l → own' b = l ∧ w'.heap[b]? = w.heap[b]?) : CR own' β' w' l v c := by
  cases v <;> simp only [CR] at h ⊢ <;> first
    | exact h.mono hk
    | exact ⟨by rw [(hb _ h.2).2]; exact h.1, (hb _ h.2).1⟩
    | exact EXR.mono h hk hl
    | (obtain ⟨ca, cb, h1, h2, h3, h4, h5⟩ := h
       exact ⟨ca, cb, h1, h2, h3, fun j v c hv hc => (h4 j v c hv hc).mono hk hb, fun j v c hv hc => (h5 j v c hv hc).mono hk hb⟩)

/-- Where a cell holds no array of its own, its place doesn't matter. -/
def noEx : V → Bool
  | .ex _ _ _ => false
  | .agg cs => cs.all notEx
  | .tup _ => false
  | _ => true

theorem CR.place {l l' : Loc} {v : V} {c : Value} (h : CR own β w l v c) (hn : ∀ sz n xs, v ≠ .ex sz n xs) : CR own β w l' v c := by
  cases v <;> simp only [CR] at h ⊢ <;> first
    | exact h
    | exact absurd rfl (hn _ _ _)

theorem VR.place {L L' : Nat → Loc} {v : V} {c : Value} (h : VR own β w L v c) (hn : noEx v = true) : VR own β w L' v c := by
  cases v with
  | agg cs =>
    obtain ⟨arr, h1, h2, h3⟩ := h
    refine ⟨arr, h1, h2, fun j v c hv hc => (h3 j v c hv hc).place ?_⟩
    rintro sz n xs rfl
    simp only [noEx, List.all_eq_true] at hn
    have := hn _ (List.mem_of_getElem? hv)
    simp [notEx] at this
  | rptr cs off => exact h
  | ex sz n xs => simp [noEx] at hn
  | undef => trivial
  | _ => exact h

theorem VR.mono {L : Nat → Loc} {v : V} {c : Value} (h : VR own β w L v c) (hk : ∀ b, own b = .im → own' b = .im ∧ w'.heap[b]? = w.heap[b]?)
    (hb : ∀ id, own (β id) = .blk id → own' (β' id) = .blk id ∧ β' id = β id) (hl : ∀ j b, own b = L j → own' b = L j ∧ w'.heap[b]? = w.heap[b]?) : VR own' β' w' L v c := by
  cases v with
  | agg cs =>
    obtain ⟨arr, h1, h2, h3⟩ := h
    exact ⟨arr, h1, h2, fun j v c hv hc => (h3 j v c hv hc).mono hk hb (hl j)⟩
  | rptr cs off =>
    obtain ⟨b, o, h1, h2, h3⟩ := h
    refine ⟨b, o, h1, (hk b h2).1, fun j v hv => ?_⟩
    obtain ⟨c', h4, h5⟩ := h3 j v hv
    exact ⟨c', by rw [World.cell?_of_block (w := w) (by exact (hk b h2).2)]; exact h4, h5.mono hk⟩
  | undef => trivial
  | _ => simp only [VR] at h ⊢; exact CR.mono h hk hb (hl 0)

theorem TR.mono {L : Nat → Nat → Loc} {v : V} {c : Value} (h : TR own β w L v c) (hk : ∀ b, own b = .im → own' b = .im ∧ w'.heap[b]? = w.heap[b]?)
    (hb : ∀ id, own (β id) = .blk id → own' (β' id) = .blk id ∧ β' id = β id) (hl : ∀ i j b, own b = L i j → own' b = L i j ∧ w'.heap[b]? = w.heap[b]?) : TR own' β' w' L v c := by
  cases v with
  | tup vs =>
    obtain ⟨arr, h1, h2, h3⟩ := h
    exact ⟨arr, h1, h2, fun i v c hv hc => (h3 i v c hv hc).mono hk hb (hl i)⟩
  | _ => simp only [TR] at h ⊢; exact VR.mono h hk hb (hl 0)

theorem BR.mono {id : Nat} {cs : List V} (h : BR own β w id cs) (hk : ∀ b, own b = .im → own' b = .im ∧ w'.heap[b]? = w.heap[b]?)
    (hb : ∀ id, own (β id) = .blk id → own' (β' id) = .blk id ∧ β' id = β id) (hl : ∀ j b, own b = .cell id j → own' b = .cell id j ∧ w'.heap[b]? = w.heap[b]?)
    (hw : w'.heap[β id]? = w.heap[β id]?) : BR own' β' w' id cs := by
  obtain ⟨h1, h2, arr, T, h3, h4, h5⟩ := h
  refine ⟨(hb id h1).1, h2, arr, T, by rw [(hb id h1).2, hw]; exact h3, h4, fun j v c hv hc => (h5 j v c hv hc).mono hk hb (hl j)⟩
end

end Go.Vm
