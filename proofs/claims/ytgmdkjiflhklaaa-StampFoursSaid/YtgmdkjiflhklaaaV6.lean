/- V6: what V's tables say of the program; operands; how an operation's run is carried on. -/
import Derived.Test.YtgmdkjiflhklaaaV5
import Derived.ChangeKeysEq
import Derived.DeepKeys
namespace Go.Vm
open Go

def cellBeq : V → V → Bool
  | .undef, .undef => true
  | .bool a, .bool b => a == b
  | .int k a, .int l b => decide (k = l) && decide (a = b)
  | .str a, .str b => decide (a = b)
  | .nilp, .nilp => true
  | .nilf, .nilf => true
  | .sl true [], .sl true [] => true
  | _, _ => false
theorem cellBeq_eq {a b : V} (h : cellBeq a b = true) : a = b := by
  unfold cellBeq at h
  split at h <;> simp_all
def cellsBeq : List V → List V → Bool
  | [], [] => true
  | a :: as, b :: bs => cellBeq a b && cellsBeq as bs
  | _, _ => false
theorem cellsBeq_eq : ∀ {as bs : List V}, cellsBeq as bs = true → as = bs
  | [], [], _ => rfl
  | a :: as, b :: bs, h => by
    simp only [cellsBeq, Bool.and_eq_true] at h
    rw [cellBeq_eq h.1, cellsBeq_eq h.2]
  | [], _ :: _, h => by simp [cellsBeq] at h
  | _ :: _, [], h => by simp [cellsBeq] at h

def fieldsB : List Field → List (Nat × Nat) → Bool
  | [], [] => true
  | f :: fs, (o, t) :: gs => (f.offset == o) && (f.type == t) && fieldsB fs gs
  | _, _ => false
def kindB : TypeDesc → TK → Bool
  | .bool, .bool => true
  | .int k, .int l => decide (k = l)
  | .string, .str => true
  | .pointer _, .ptr => true
  | .func _ _ _, .func => true
  | .slice e, .slice f => e == f
  | .array n e, .array m f => n == m && e == f
  | .struct fs, .struct gs => fieldsB fs.toList gs
  | _, _ => false

/-- The kinds of a type's cells, where its values can be compared cell by cell. -/
def leavesF (g : TypeId → Option (List TK)) (size : TypeId → Nat) : Nat → List Field → Option (List TK)
  | _, [] => some []
  | o, f :: fs => match g f.type with
    | some ks => if f.offset = o ∧ f.name ≠ "_" ∧ size f.type = ks.length then (leavesF g size (o + ks.length) fs).map (ks ++ ·) else none
    | none => none
def leavesP (P : Program) : Nat → TypeId → Option (List TK)
  | 0, _ => none
  | d + 1, t => match P.underlying t with
    | some .bool => some [.bool]
    | some (.int k) => some [.int k]
    | some .string => some [.str]
    | some (.struct fs) => if P.stoodInHeld t = true then none else leavesF (leavesP P d) P.cellsOf 0 fs.toList
    | some (.array n e) => match leavesP P d e with
      | some ks => if P.cellsOf e = ks.length then some (List.replicate n ks).flatten else none
      | none => none
    | _ => none

def leavesB (P : Program) (t : Nat) (i : TI) : Bool :=
  match i.leaves with
  | [] => true
  | ks => decide (leavesP P 8 t = some ks) && !(P.eqGuardType P.depth t) && i.kind.isAgg && (ks.length == i.size)

/-- A row of V's types is right. -/
def rowB (P : Program) (t : Nat) (i : TI) : Bool :=
  match P.info? t, P.underlying t with
  | some info, some d => (info.size == i.size) && (info.bytes == i.bytes) && (kindB d i.kind && leavesB P t i) &&
    (match info.zero with
    | some (.agg arr) => i.kind.isAgg && (arr.size == i.size) && arr.all (·.oneCell') && (match i.zero with | .agg cs => cellsBeq (arr.toList.map cellOf) cs | _ => false)
    | some c => (!i.kind.isAgg) && (i.size == 1) && c.oneCell' && cellBeq (cellOf c) i.zero
    | none => false)
  | _, _ => false
def rowsB (P : Program) : Nat → List (Option TI) → Bool
  | _, [] => true
  | t, r :: rest => (match r with | some i => rowB P t i | none => true) && rowsB P (t + 1) rest

def tysOf (l : List (Option TI)) : Types := fun t => match l[t]? with
  | some r => r
  | none => none

structure TOk (P : Program) (T : Types) : Prop where
  rows : ∀ t i, T t = some i → rowB P t i = true
  mixed : P.follows .mixedOrders = true
theorem rowsB_get {P : Program} : ∀ (l : List (Option TI)) (s : Nat), rowsB P s l = true → ∀ t i, l[t]? = some (some i) → rowB P (s + t) i = true
  | [], _, _, t, i, h => by simp at h
  | r :: rest, s, hb, t, i, h => by
    simp only [rowsB, Bool.and_eq_true] at hb
    cases t with
    | zero => simp at h; subst h; exact hb.1
    | succ t =>
      have := rowsB_get rest (s + 1) hb.2 t i (by simpa using h)
      rw [show s + (t + 1) = s + 1 + t from by omega]; exact this
theorem FR.cellOf {own : Own} {w : World} {c : Value} (h : c.oneCell' = true) : FR own w (cellOf c) c := by
  unfold Vm.cellOf
  split <;> first
    | exact .bool _
    | exact .int _ _
    | exact .str _
    | exact .nilp
    | exact .nilf
    | exact .nil
    | exact .undef _ h
theorem CR_of_FR {own : Own} {β : Nat → Nat} {w : World} {l : Loc} {v : V} {c : Value} (h : FR own w v c) : CR own β w l v c := by
  cases h <;> first | exact .undef _ ‹_› | exact .bool _ | exact .int _ _ | exact .str _ | exact .nilp | exact .nilf | exact .nil | exact .none _ _ | exact .sl _ _ _ _ _ _ ‹_› ‹_› ‹_› ‹_›
theorem FR_of_CR {own : Own} {β : Nat → Nat} {w : World} {l : Loc} {v : V} {c : Value} (h : CR own β w l v c) (hd : cellDat v = true) : FR own w v c := by
  cases v <;> first | exact h | (simp [cellDat] at hd)
theorem FR_noEx {v : V} (h : cellDat v = true) (sz : Nat) (n : Bool) (xs : List V) : v ≠ .ex sz n xs := by
  rintro rfl; simp [cellDat] at h

structure Row (P : Program) (t : Nat) (i : TI) where
  info : TypeInfo
  z : Value
  d : TypeDesc
  hinfo : P.info? t = some info
  hd : P.underlying t = some d
  hsize : info.size = i.size
  hbytes : info.bytes = i.bytes
  hkind : kindB d i.kind = true
  hz : info.zero = some z
  hzs : z.cells.size = i.size
  hzc : ∀ (own : Own) (w : World) (j : Nat) (v : V) (c : Value), i.zero.cells[j]? = some v → z.cells[j]? = some c → FR own w v c
  hzl : i.zero.cells.length = i.size
  hagg : i.kind.isAgg = true ↔ ∃ arr, z = .agg arr
  hleaves : leavesB P t i = true

theorem Row.of {P : Program} {T : Types} (hT : TOk P T) {t : Nat} {i : TI} (h : T t = some i) : Nonempty (Row P t i) := by
  have hr := hT.rows t i h
  unfold rowB at hr
  cases hi : P.info? t with
  | none => simp [hi] at hr
  | some info =>
    cases hd : P.underlying t with
    | none => simp [hi, hd] at hr
    | some d =>
      simp only [hi, hd, Bool.and_eq_true, beq_iff_eq] at hr
      obtain ⟨⟨⟨h1, h2⟩, ⟨h3, h3l⟩⟩, h4⟩ := hr
      cases hz : info.zero with
      | none => simp [hz] at h4
      | some z =>
        cases z with
        | agg arr =>
          simp only [hz, Bool.and_eq_true, beq_iff_eq] at h4
          obtain ⟨⟨⟨h5, h6⟩, h7⟩, h8⟩ := h4
          cases hzz : i.zero with
          | agg cs =>
            simp only [hzz] at h8
            have hcs := cellsBeq_eq h8
            refine ⟨⟨info, .agg arr, d, hi, hd, h1, h2, h3, hz, h6, fun own w j v c hv hc => ?_, ?_, by simp [h5], h3l⟩⟩
            · simp only [hzz, V.cells, ← hcs] at hv
              simp only [Value.cells] at hc
              rw [List.getElem?_map] at hv
              have hc' : arr.toList[j]? = some c := by simpa using hc
              rw [hc'] at hv; simp at hv; subst hv
              exact FR.cellOf (Array.all_eq_true_iff_forall_mem.1 h7 c (Array.mem_of_getElem? hc))
            · rw [hzz]; simp only [V.cells, ← hcs]; simpa using h6
          | _ => simp [hzz] at h8
        | _ =>
          simp only [hz, Bool.and_eq_true, beq_iff_eq, Bool.not_eq_true'] at h4
          obtain ⟨⟨⟨h5, h6⟩, h7⟩, h8⟩ := h4
          first
            | (simp [Value.oneCell'] at h7; done)
            | (have hcs := cellBeq_eq h8
               have hcell : i.zero.cells = [i.zero] := by
                 rw [← hcs]; unfold Vm.cellOf; split <;> rfl
               refine ⟨⟨info, _, d, hi, hd, h1, h2, h3, hz, by simp [Value.cells, h6], fun own w j v c hv hc => ?_, by rw [hcell]; simp [h6], by simp [h5], h3l⟩⟩
               rw [hcell] at hv
               cases j with
               | zero =>
                 simp [Value.cells] at hv hc
                 subst hv; subst hc; rw [← hcs]
                 exact FR.cellOf h7
               | succ j => simp at hv)

theorem Row.isAgg {P : Program} {t : Nat} {i : TI} (r : Row P t i) (w : World) : (Go.isAgg t).run P w = .ok i.kind.isAgg w := by
  have h3 := r.hkind
  have hd := r.hd
  simp only [Go.isAgg, Sem.run_bind, run_underlying hd, Result.andThen_ok]
  cases hdd : r.d <;> cases hk : i.kind <;> simp [hdd, hk, kindB] at h3 <;> simp [TK.isAgg]


theorem run_sizeOf_row {P : Program} {t : Nat} {i : TI} (r : Row P t i) (w : World) : (sizeOf t).run P w = .ok i.size w := by
  simp [sizeOf, typeInfo, r.hinfo, r.hsize]

theorem FR.of_bool {own : Own} {w : World} {b : Bool} {c : Value} (h : FR own w (.bool b) c) : c = .bool b := by cases h; rfl
theorem FR.of_int {own : Own} {w : World} {k : IntKind} {n : Int} {c : Value} (h : FR own w (.int k n) c) : c = .int k n := by cases h; rfl
theorem FR.of_str {own : Own} {w : World} {s : ByteArray} {c : Value} (h : FR own w (.str s) c) : c = .string s := by cases h; rfl
theorem FR.of_nilp {own : Own} {w : World} {c : Value} (h : FR own w .nilp c) : c = .pointer Option.none := by cases h; rfl
theorem FR.of_nilf {own : Own} {w : World} {c : Value} (h : FR own w .nilf c) : c = .nilFunc := by cases h; rfl

/-! ### Operands -/
section
variable {own : Own} {β : Nat → Nat} {w : World} {σ : St} {a : Act}

def opL : Operand → Nat → Nat → Loc
  | .tmp t, i, j => .slot t i j
  | _, _, _ => .im

theorem opd_TR (h : SR own β w σ a.tmps) (x : Operand) (hw : isWay (opd σ.env x) = false) :
    TR own β w (opL x) (opd σ.env x) (a.eval x) := by
  cases x with
  | tmp t => exact (h.env t).to_TR hw
  | const v =>
    simp only [opd, Act.eval]
    unfold cellOf
    split <;> first
      | exact FR.bool _
      | exact FR.int _ _
      | exact FR.str _
      | exact FR.nilp
      | exact FR.nilf
      | exact FR.nil
      | (simp only [TR, VR])
  | global g => simp only [opd, TR, VR]
  | func f => exact ⟨#[], #[], rfl, rfl, rfl, by simp, by simp⟩

theorem opd_bool (h : SR own β w σ a.tmps) {x : Operand} {b : Bool} (hx : opd σ.env x = .bool b) : a.eval x = .bool b := by
  have := opd_TR h x (by rw [hx]; rfl)
  rw [hx] at this
  exact FR.of_bool this
theorem opd_int (h : SR own β w σ a.tmps) {x : Operand} {k : IntKind} {n : Int} (hx : opd σ.env x = .int k n) : a.eval x = .int k n := by
  have := opd_TR h x (by rw [hx]; rfl)
  rw [hx] at this
  exact FR.of_int this
theorem opd_str (h : SR own β w σ a.tmps) {x : Operand} {s : ByteArray} (hx : opd σ.env x = .str s) : a.eval x = .string s := by
  have := opd_TR h x (by rw [hx]; rfl)
  rw [hx] at this
  exact FR.of_str this
theorem opd_nilp (h : SR own β w σ a.tmps) {x : Operand} (hx : opd σ.env x = .nilp) : a.eval x = .pointer none := by
  have := opd_TR h x (by rw [hx]; rfl)
  rw [hx] at this
  exact FR.of_nilp this
theorem opd_nilf (h : SR own β w σ a.tmps) {x : Operand} (hx : opd σ.env x = .nilf) : a.eval x = .nilFunc := by
  have := opd_TR h x (by rw [hx]; rfl)
  rw [hx] at this
  exact FR.of_nilf this
theorem opd_ptr (h : SR own β w σ a.tmps) {x : Operand} {id off : Nat} (hx : opd σ.env x = .ptr id off) : a.eval x = .pointer (some ⟨β id, off, none⟩) ∧ own (β id) = .blk id := by
  have := opd_TR h x (by rw [hx]; rfl)
  rwa [hx] at this
theorem opd_rptr (h : SR own β w σ a.tmps) {x : Operand} {cs : List V} {off : Nat} (hx : opd σ.env x = .rptr cs off) :
    ∃ b o, a.eval x = .pointer (some ⟨b, o + off, none⟩) ∧ own b = .im ∧ ∀ (j : Nat) (v : V), cs[j]? = some v → ∃ c', w.cell? ⟨b, o + j, none⟩ = some c' ∧ FR own w v c' := by
  have := opd_TR h x (by rw [hx]; rfl)
  rwa [hx] at this
theorem opd_sl (h : SR own β w σ a.tmps) {x : Operand} {n : Bool} {xs : List V} (hx : opd σ.env x = .sl n xs) : FR own w (.sl n xs) (a.eval x) := by
  have := opd_TR h x (by rw [hx]; rfl)
  rwa [hx] at this
theorem opd_way {p : Place} {x : Operand} (hx : (opd σ.env x).refsTo p = true) : ∃ t, x = .tmp t := by
  cases x with
  | tmp t => exact ⟨t, rfl⟩
  | const v => simp only [opd] at hx; unfold cellOf at hx; split at hx <;> simp [V.refsTo] at hx
  | global g => simp [opd, V.refsTo] at hx
  | func f => simp [opd, V.refsTo] at hx
theorem opd_lent (h : SR own β w σ a.tmps) {x : Operand} {p : Place} (hx : opd σ.env x = .lent p) : ∃ sz n xs, look σ p = .ex sz n xs ∧ conc β a.tmps w p = some (a.eval x) := by
  obtain ⟨t, rfl⟩ := opd_way (p := p) (by rw [hx]; simp [V.refsTo])
  have := h.env t
  simp only [opd] at hx
  rwa [hx] at this
theorem opd_xptr (h : SR own β w σ a.tmps) {x : Operand} {p : Place} {i off : Nat} (hx : opd σ.env x = .xptr p i off) :
    ∃ sz n xs b len cap, look σ p = .ex sz n xs ∧ conc β a.tmps w p = some (.slice (some ⟨b, 0, none⟩) len cap) ∧ own b = locOf p ∧ i < xs.length ∧ a.eval x = .pointer (some ⟨b, i * sz + off, none⟩) := by
  obtain ⟨t, rfl⟩ := opd_way (p := p) (by rw [hx]; simp [V.refsTo])
  have := h.env t
  simp only [opd] at hx
  rwa [hx] at this
theorem opd_agg (h : SR own β w σ a.tmps) {x : Operand} {cs : List V} (hx : opd σ.env x = .agg cs) (hd : cs.all cellDat = true) :
    ∃ arr, a.eval x = .agg arr ∧ arr.size = cs.length ∧ ∀ (j : Nat) (v : V) (c : Value), cs[j]? = some v → arr[j]? = some c → FR own w v c := by
  have := opd_TR h x (by rw [hx]; rfl)
  rw [hx] at this
  obtain ⟨arr, h1, h2, h3⟩ := this
  exact ⟨arr, h1, h2, fun j v c hv hc => FR_of_CR (h3 j v c hv hc) (List.all_eq_true.1 hd v (List.mem_of_getElem? hv))⟩
end

/-- The state behind an operation, a call, a stretch of code. -/
structure Nxt (own : Own) (β : Nat → Nat) (w : World) (σ : St) (a : Act) (own' : Own) (β' : Nat → Nat) (w' : World) (σ' : St) (a' : Act) : Prop where
  sr : SR own' β' w' σ' a'.tmps
  stay : Stay own w own' w'
  bx : BX β β' σ.heap σ'.heap
  defers : a'.defers = a.defers
  size : a'.tmps.size = a.tmps.size

theorem Nxt.refl {own : Own} {β : Nat → Nat} {w : World} {σ : St} {a : Act} (h : SR own β w σ a.tmps) : Nxt own β w σ a own β w σ a := ⟨h, Stay.refl _ _, BX.refl _ _, rfl, rfl⟩
theorem Nxt.trans {o1 o2 o3 : Own} {β1 β2 β3 : Nat → Nat} {w1 w2 w3 : World} {σ1 σ2 σ3 : St} {a1 a2 a3 : Act} (h : Nxt o1 β1 w1 σ1 a1 o2 β2 w2 σ2 a2) (k : Nxt o2 β2 w2 σ2 a2 o3 β3 w3 σ3 a3) :
    Nxt o1 β1 w1 σ1 a1 o3 β3 w3 σ3 a3 := ⟨k.sr, h.stay.trans k.stay, h.bx.trans k.bx, k.defers.trans h.defers, k.size.trans h.size⟩

theorem put_heap (σ : St) (d : Option Nat) (v : V) : (put σ d v).heap = σ.heap := by cases d <;> rfl
theorem Act.put_size (a : Act) (d : Option Tmp) (c : Value) : (a.put d c).tmps.size = a.tmps.size := by cases d <;> simp [Act.put]
theorem Act.put_defers' (a : Act) (d : Option Tmp) (c : Value) : (a.put d c).defers = a.defers := by cases d <;> rfl

/-- The value is put. -/
theorem Nxt.put {o1 o2 : Own} {β1 β2 : Nat → Nat} {w1 w2 : World} {σ1 σ2 : St} {a : Act} (h : Nxt o1 β1 w1 σ1 a o2 β2 w2 σ2 a) {dst : Option Nat} {v : V} {c : Value}
    (hd : ∀ d, dst = some d → d < a.tmps.size) (hv : isWay v = false) (hn : TR o2 β2 w2 (fun i j => .res i j) v c) :
    ∃ o3, Nxt o1 β1 w1 σ1 a o3 β2 w2 (Vm.put σ2 dst v) (a.put dst c) := by
  cases dst with
  | none => exact ⟨o2, h.sr, h.stay, h.bx, h.defers, h.size⟩
  | some d =>
    obtain ⟨s1, s2⟩ := h.sr.put (hd d rfl) hv hn
    exact ⟨_, s1, h.stay.trans s2, h.bx, rfl, by simp [Act.put]⟩
theorem Nxt.putWay {o1 o2 : Own} {β1 β2 : Nat → Nat} {w1 w2 : World} {σ1 σ2 : St} {a : Act} (h : Nxt o1 β1 w1 σ1 a o2 β2 w2 σ2 a) {dst : Option Nat} {v : V} {c : Value}
    (hd : ∀ d, dst = some d → d < a.tmps.size) (hv : isWay v = true) (hnd : ∀ d, dst = some d → v.refsTo (.slot d) = false) (hn : ∀ d, ER o2 β2 w2 σ2 a.tmps d v c) :
    Nxt o1 β1 w1 σ1 a o2 β2 w2 (Vm.put σ2 dst v) (a.put dst c) := by
  cases dst with
  | none => exact ⟨h.sr, h.stay, h.bx, h.defers, h.size⟩
  | some d => exact ⟨h.sr.putWay (hd d rfl) hv (hnd d rfl) (hn d), h.stay, h.bx, rfl, by simp [Act.put]⟩

/-- A value without an array of its own is the result's as it is. -/
theorem TR_of_VR {own : Own} {β : Nat → Nat} {w : World} {L : Nat → Loc} {L' : Nat → Nat → Loc} {v : V} {c : Value} (h : VR own β w L v c) (hn : noEx v = true) : TR own β w L' v c := by
  cases v <;> first
    | (simp [noEx] at hn; done)
    | exact VR.place (L' := L' 0) h hn

end Go.Vm
