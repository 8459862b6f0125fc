/- V16: calls. -/
import Derived.Test.YtgmdkjiflhklaaaV15
namespace Go.Vm
open Go

/-- What a call leaves, as its caller sees it. -/
def Ret (own : Own) (β : Nat → Nat) (w : World) (H : Heap) (r : V) (H' : Heap) (e : Ending) (w' : World) : Prop :=
  ∃ c own' β', e = .returned c ∧ TR own' β' w' (fun i j => .res i j) r c ∧ HR own' β' w' H' ∧ Stay own w own' w' ∧ BX β β' H H' ∧ ∀ b i j k, own' b ≠ .slot i j k

/-- V's calls are right. -/
def Sound (P : Program) (call : CallF) : Prop :=
  ∀ f vs H r H', call f vs H = some (r, H') → (∃ fn, P.funcs[f]? = some fn ∧ fn.name ≠ "runtime.NumGoroutine" ∧ fn.body.isSome = true) ∧
    ∀ (own : Own) (β : Nat → Nat) (w : World) (cs : List Value), HR own β w H → AR own β w vs cs → (∀ b i j k, own b ≠ .slot i j k) → Calls P f cs.toArray w (Ret own β w H r H')

section
variable {P : Program} {o : Oper} {own : Own} {β : Nat → Nat} {w : World} {σ : St} {a : Act}

theorem OpOk.call {σ1 : St} {v : V} {f : FuncId} {args : Array Value} (hrun : (execOp a.eval o).run P w = .ok (.enter f args) w)
    (hc : Calls P f args w (fun e w' => ∃ c o1 β1, e = .returned c ∧ Nxt own β w σ a o1 β1 w' σ1 a ∧ TR o1 β1 w' (fun i j => .res i j) v c)) (hd : ∀ d, o.dst = some d → d < a.tmps.size) :
    OpOk P o own β w σ a (put σ1 o.dst v) := by
  intro K Q hK
  unfold Oper.wp
  rw [hrun]
  refine hc.mono ?_
  rintro e w' ⟨c, o1, β1, rfl, h, hn⟩
  obtain ⟨o3, h3⟩ := h.put hd hn.notWay hn
  exact hK _ _ _ _ h3

/-- What may be forgotten: ways to cells. -/
theorem SR.killCells (h : SR own β w σ a.tmps) : SR own β w { env := σ.env.map (fun x => (x.1, killCell x.2)), heap := σ.heap } a.tmps := by
  refine ⟨fun u => ?_, h.heap⟩
  rw [get_map killCell rfl]
  have hu := h.env u
  cases hv : get σ.env u with
  | lent p =>
    cases p with
    | cell i j => exact ER.undef _ _ _ _ _ _ _
    | slot t =>
      rw [hv] at hu
      obtain ⟨sz, n, xs, h1, h2⟩ := hu
      refine ⟨sz, n, xs, ?_, h2⟩
      simp only [look] at h1 ⊢
      rw [get_map killCell rfl, h1]; rfl
  | xptr p i off =>
    cases p with
    | cell i j => exact ER.undef _ _ _ _ _ _ _
    | slot t =>
      rw [hv] at hu
      obtain ⟨sz, n, xs, b, len, cap, h1, h2⟩ := hu
      refine ⟨sz, n, xs, b, len, cap, ?_, h2⟩
      simp only [look] at h1 ⊢
      rw [get_map killCell rfl, h1]; rfl
  | _ => rw [hv] at hu; exact hu

theorem killCell_ref {v : V} {i j : Nat} : (killCell v).refsTo (.cell i j) = false := by
  cases v with
  | lent p => cases p <;> simp [killCell, V.refsTo]
  | xptr p k off => cases p <;> simp [killCell, V.refsTo]
  | _ => rfl

/-- Our slots, as the one that is called sees them. -/
def lower (l : Loc) : Loc := match l with | .slot _ _ _ => .other | .res _ _ => .other | l => l
def onlyIm (l : Loc) : Loc := match l with | .im => .im | _ => .other

theorem HR.lower (h : HR own β w σ.heap) : HR (fun b => lower (own b)) β w σ.heap := by
  refine ⟨fun id cs hi => ?_, fun b id hb => ?_, fun b hb => h.lt b fun hn => hb (by simp only [hn, Vm.lower])⟩
  · exact (h.blk id cs hi).mono (fun b hb => ⟨by simp only [hb, Vm.lower], rfl⟩) (fun id hb => ⟨by simp only [hb, Vm.lower], rfl⟩) (fun j b hb => ⟨by simp only [hb, Vm.lower], rfl⟩) rfl
  · refine h.inv b id ?_
    simp only [Vm.lower] at hb
    split at hb <;> first | cases hb | exact hb
theorem AR.lower {vs : List V} {cs : List Value} (h : AR own β w vs cs) : AR (fun b => lower (own b)) β w vs cs :=
  ⟨h.1, fun j v c hv hc => ⟨VR.mono (L := fun _ => .other) (h.2 j v c hv hc).1 (fun b hb => ⟨by simp only [hb, Vm.lower], rfl⟩) (fun id hb => ⟨by simp only [hb, Vm.lower], rfl⟩) (fun j b hb => ⟨by simp only [hb, Vm.lower], rfl⟩), (h.2 j v c hv hc).2⟩⟩
theorem HR.onlyIm (h : HR own β w σ.heap) : HR (fun b => onlyIm (own b)) β w [] := by
  refine ⟨fun id cs hi => by simp [bcells] at hi, fun b id hb => ?_, fun b hb => h.lt b fun hn => hb (by simp only [hn, Vm.onlyIm])⟩
  simp only [Vm.onlyIm] at hb
  split at hb <;> cases hb

theorem FR.onlyIm {v : V} {c : Value} (h : FR own w v c) : FR (fun b => onlyIm (own b)) w v c := h.mono fun b hb => ⟨by simp only [hb, Vm.onlyIm], rfl⟩
theorem PR.onlyIm {v : V} {c : Value} (h : PR own β w v c) (hd : cellDat v = true) : PR (fun b => onlyIm (own b)) β w v c := by
  cases v <;> first
    | (simp [cellDat] at hd; done)
    | exact FR.onlyIm h
theorem AR.onlyIm {vs : List V} {cs : List Value} (h : AR own β w vs cs) (hd : vs.all noPtr = true) : AR (fun b => onlyIm (own b)) β w vs cs := by
  refine ⟨h.1, fun j v c hv hc => ⟨?_, (h.2 j v c hv hc).2⟩⟩
  have h1 := (h.2 j v c hv hc).1
  have h2 : noPtr v = true := List.all_eq_true.1 hd v (List.mem_of_getElem? hv)
  cases v with
  | agg cs =>
    obtain ⟨arr, e1, e2, e3⟩ := h1
    simp only [noPtr, List.all_eq_true] at h2
    refine ⟨arr, e1, e2, fun j v c hv hc => ?_⟩
    have := FR_of_CR (e3 j v c hv hc) (h2 v (List.mem_of_getElem? hv))
    exact CR_of_FR this.onlyIm
  | clo f x y =>
    obtain ⟨ca, cb, e1, e2, e3, e4, e5⟩ := h1
    simp only [noPtr, Bool.and_eq_true, List.all_eq_true] at h2
    exact ⟨ca, cb, e1, e2, e3, fun j v c hv hc => (e4 j v c hv hc).onlyIm (h2.1 v (List.mem_of_getElem? hv)), fun j v c hv hc => (e5 j v c hv hc).onlyIm (h2.2 v (List.mem_of_getElem? hv))⟩
  | undef => trivial
  | _ => first
    | (simp [noPtr, cellDat] at h2; done)
    | exact FR.onlyIm h1

/-- **A call that may reach our variables.** -/
theorem back_all (h : SR own β w σ a.tmps) {o1 : Own} {β1 : Nat → Nat} {w1 : World} {H1 : Heap} {r : V} {c : Value} (hh : HR o1 β1 w1 H1) (hs : Stay (fun b => lower (own b)) w o1 w1)
    (hb : BX β β1 σ.heap H1) (ht : TR o1 β1 w1 (fun i j => .res i j) r c) (hn : ∀ b i j k, o1 b ≠ .slot i j k) :
    ∃ o2, Nxt own β w σ a o2 β1 w1 (setMem σ (.all H1)) a ∧ TR o2 β1 w1 (fun i j => .res i j) r c := by
  let o2 : Own := fun b => match own b with | .slot t i j => .slot t i j | _ => o1 b
  have slotv : ∀ b t i j, own b = .slot t i j → o2 b = .slot t i j := fun b t i j hb => by simp only [o2, hb]
  have slotu : ∀ b t i j, own b = .slot t i j → o1 b = .other ∧ w1.heap[b]? = w.heap[b]? := fun b t i j hb =>
    hs.other b (h.heap.lt b (by rw [hb]; simp)) (by simp only [hb, Vm.lower])
  have same : ∀ b, o1 b ≠ .other → o2 b = o1 b := fun b hb' => by
    simp only [o2]
    split
    · rename_i t i j hs'; exact absurd (slotu b t i j hs').1 hb'
    · rfl
  have imv : ∀ b, own b = .im → o2 b = .im ∧ w1.heap[b]? = w.heap[b]? := fun b hb' => by
    obtain ⟨h1, h2⟩ := hs.im b (by simp only [hb', Vm.lower])
    exact ⟨by rw [same b (by rw [h1]; simp), h1], h2⟩
  have blkv : ∀ id, own (β id) = .blk id → o2 (β1 id) = .blk id ∧ β1 id = β id := fun id hb' => by
    obtain ⟨_, cs, hcs⟩ := h.heap.inv _ _ hb'
    obtain ⟨e1, cs', hcs'⟩ := hb.2 id cs hcs
    have := (hh.blk id cs' hcs').1
    exact ⟨by rw [same _ (by rw [this]; simp), this], e1⟩
  have k1 : ∀ b, o1 b = .im → o2 b = .im ∧ w1.heap[b]? = w1.heap[b]? := fun b hb' => ⟨by rw [same b (by rw [hb']; simp), hb'], rfl⟩
  have k2 : ∀ id, o1 (β1 id) = .blk id → o2 (β1 id) = .blk id ∧ β1 id = β1 id := fun id hb' => ⟨by rw [same _ (by rw [hb']; simp), hb'], rfl⟩
  have hk := h.killCells
  refine ⟨o2, ⟨⟨fun u => ?_, ?_⟩, ⟨imv, fun b hlt hb' => ?_, hs.size, hs.os, hs.tape, hs.output⟩, hb, rfl, rfl⟩, ?_⟩
  · have hu := hk.env u
    simp only [setMem]
    rw [get_map killCell rfl] at hu ⊢
    refine hu.keep imv blkv (fun i j b hb' => ⟨slotv b u i j hb', (slotu b u i j hb').2⟩) (fun p hp => ?_)
    cases p with
    | cell i j => rw [killCell_ref] at hp; cases hp
    | slot x => exact ⟨fun sz n xs hl => ⟨n, xs, hl, rfl⟩, fun c hc => hc, fun b hb' => slotv b x 0 0 hb'⟩
  · refine ⟨fun id cs hi => ?_, fun b id hb' => ?_, fun b hb' => ?_⟩
    · exact (hh.blk id cs hi).mono k1 k2 (fun j b hb' => ⟨by rw [same b (by rw [hb']; simp), hb'], rfl⟩) rfl
    · simp only [o2] at hb'
      split at hb'
      · cases hb'
      · exact hh.inv b id hb'
    · by_cases hs' : ∃ t i j, own b = .slot t i j
      · obtain ⟨t, i, j, hs'⟩ := hs'
        exact Nat.lt_of_lt_of_le (h.heap.lt b (by rw [hs']; simp)) hs.size
      · have : o2 b = o1 b := by
          simp only [o2]
          split
          · rename_i t i j hq; exact absurd ⟨t, i, j, hq⟩ hs'
          · rfl
        rw [this] at hb'
        exact hh.lt b hb'
  · obtain ⟨h1, h2⟩ := hs.other b hlt (by simp only [hb', Vm.lower])
    exact ⟨by simp only [o2, hb', h1], h2⟩
  · exact ht.mono k1 k2 (fun i j b hb' => ⟨by rw [same b (by rw [hb']; simp), hb'], rfl⟩)


/-! ### A call that sees some blocks -/
theorem zipIdx_map_getElem? {α γ : Type} (f : α × Nat → γ) : ∀ (l : List α) (i : Nat), (l.zipIdx.map f)[i]? = (l[i]?).map fun x => f (x, i) := by
  intro l i
  rw [List.getElem?_map, List.getElem?_zipIdx]
  cases l[i]? <;> simp
theorem maskH_length (ks : List Nat) (H : Heap) : (maskH ks H).length = H.length := by simp [maskH]
theorem putH_length (ks : List Nat) (H H' : Heap) : (putH ks H H').length = H.length := by simp [putH]
theorem bcells_mask (ks : List Nat) (H : Heap) (id : Nat) : bcells (maskH ks H) id = if ks.contains id then bcells H id else none := by
  unfold bcells maskH
  rw [zipIdx_map_getElem?]
  cases H[id]? with
  | none => simp
  | some b => cases hk : ks.contains id <;> simp only [Option.map_some, hk, Bool.false_eq_true, if_false, if_true]
theorem bcells_putH (ks : List Nat) (H H' : Heap) (id : Nat) : bcells (putH ks H H' ++ H'.drop H.length) id = if id < H.length ∧ ks.contains id = false then bcells H id else bcells H' id := by
  unfold bcells
  rcases Nat.lt_or_ge id H.length with hlt | hge
  · rw [List.getElem?_append_left (by rw [putH_length]; exact hlt)]
    unfold putH
    rw [zipIdx_map_getElem?, List.getElem?_eq_getElem hlt]
    by_cases hk : ks.contains id = true
    · simp only [hk, Option.map_some, if_true]
      rw [if_neg (by simp)]
      rw [List.getD_eq_getElem?_getD]
      cases H'[id]? <;> simp
    · have hk' : ks.contains id = false := by simpa using hk
      simp only [hk', Option.map_some, Bool.false_eq_true, if_false]
      rw [if_pos ⟨hlt, trivial⟩]
  · rw [List.getElem?_append_right (by rw [putH_length]; exact hge), putH_length, List.getElem?_drop, if_neg (by omega), Nat.add_sub_cancel' hge]
theorem deadOut_none {ks : List Nat} {n : Nat} {H : Heap} (h : deadOut ks n H = true) {id : Nat} (hid : id < n) (hk : ks.contains id = false) : bcells H id = none := by
  have := List.all_eq_true.1 h id (List.mem_range.2 hid)
  rw [hk, Bool.false_or, List.getD_eq_getElem?_getD] at this
  unfold bcells
  cases hx : H[id]? with
  | none => rfl
  | some b => rw [hx] at this; cases b <;> simp [isDead] at this ⊢

def mlower (ks : List Nat) (l : Loc) : Loc := match l with
  | .slot _ _ _ => .other
  | .res _ _ => .other
  | .blk id => if ks.contains id then .blk id else .other
  | .cell id j => if ks.contains id then .cell id j else .other
  | l => l
def hid (ks : List Nat) (l : Loc) : Bool := match l with
  | .slot _ _ _ => true
  | .blk id => !ks.contains id
  | .cell id _ => !ks.contains id
  | _ => false
theorem mlower_hid {ks : List Nat} {l : Loc} (h : hid ks l = true) : mlower ks l = .other := by
  cases l <;> simp_all [hid, mlower]
theorem mlower_not {ks : List Nat} {l : Loc} : ∀ {i j k : Nat}, mlower ks l ≠ .slot i j k := by
  intro i j k hq
  cases l <;> simp only [mlower] at hq <;> first | cases hq | (split at hq <;> cases hq)

theorem PR.mask {ks : List Nat} {v : V} {c : Value} (h : PR own β w v c) (hv : (ptrId v).all ks.contains = true) : PR (fun b => mlower ks (own b)) β w v c := by
  cases v <;> simp only [PR] at h ⊢ <;> first
    | exact h.mono fun b hb => ⟨by simp only [hb, mlower], rfl⟩
    | (refine ⟨h.1, ?_⟩
       simp only [ptrId, List.all_cons, List.all_nil, Bool.and_true] at hv
       rw [h.2]; simp only [mlower, hv, if_true])
theorem CR.mask {ks : List Nat} {l : Loc} {v : V} {c : Value} (h : CR own β w l v c) (hl : mlower ks l = l) (hv : (ptrId v).all ks.contains = true) : CR (fun b => mlower ks (own b)) β w l v c := by
  have k1 : ∀ b, own b = .im → (fun b => mlower ks (own b)) b = .im ∧ w.heap[b]? = w.heap[b]? := fun b hb => ⟨by simp only [hb, mlower], rfl⟩
  cases v <;> simp only [CR] at h ⊢ <;> first
    | exact h.mono k1
    | (refine ⟨h.1, ?_⟩
       simp only [ptrId, List.all_cons, List.all_nil, Bool.and_true] at hv
       rw [h.2]; simp only [mlower, hv, if_true])
    | exact EXR.mono h k1 (fun b hb => ⟨by simp only [hb, hl], rfl⟩)
    | (obtain ⟨ca, cb, h1, h2, h3, h4, h5⟩ := h
       simp only [ptrId, List.flatMap_append, List.all_append, Bool.and_eq_true] at hv
       have sub : ∀ (a : List V), (a.flatMap fun x => match x with | .ptr id _ => [id] | _ => []).all ks.contains = true → ∀ (j : Nat) (v : V) (c : Value), a[j]? = some v → PR own β w v c → PR (fun b => mlower ks (own b)) β w v c := by
         intro a ha j v c hv hc
         cases v with
         | ptr id off =>
           refine hc.mask ?_
           rw [List.all_eq_true] at ha ⊢
           intro x hx
           simp only [ptrId, List.mem_singleton] at hx
           subst hx
           exact ha x (List.mem_flatMap.2 ⟨_, List.mem_of_getElem? hv, by simp⟩)
         | _ => exact FR.mono hc fun b hb => ⟨by simp only [hb, mlower], rfl⟩
       exact ⟨ca, cb, h1, h2, h3, fun j v c hv' hc => sub _ hv.1 j v c hv' (h4 j v c hv' hc), fun j v c hv' hc => sub _ hv.2 j v c hv' (h5 j v c hv' hc)⟩)

theorem HR.mask {ks : List Nat} {H : Heap} (h : HR own β w H) (hc : closedK ks H = true) : HR (fun b => mlower ks (own b)) β w (maskH ks H) := by
  refine ⟨fun id cs hi => ?_, fun b id hb => ?_, fun b hb => h.lt b fun hn => hb (by simp only [hn, mlower])⟩
  · rw [bcells_mask] at hi
    split at hi
    · rename_i hk
      obtain ⟨h1, h2, arr, T, h3, h4, h5⟩ := h.blk id cs hi
      have hall := List.all_eq_true.1 hc id (by simpa using hk)
      simp only [cellIds, hi] at hall
      refine ⟨by simp only [h1, mlower, hk, if_true], h2, arr, T, h3, h4, fun j v c hv hcv => (h5 j v c hv hcv).mask (by simp only [mlower, hk, if_true]) ?_⟩
      rw [List.all_eq_true] at hall ⊢
      exact fun x hx => hall x (List.mem_flatMap.2 ⟨v, List.mem_of_getElem? hv, hx⟩)
    · cases hi
  · cases ho : own b with
    | blk id' =>
      rw [ho] at hb; simp only [mlower] at hb
      split at hb
      · rename_i hk
        injection hb with hb; subst hb
        obtain ⟨e, cs, hcs⟩ := h.inv b _ ho
        exact ⟨e, cs, by rw [bcells_mask, if_pos hk]; exact hcs⟩
      · cases hb
    | _ =>
      rw [ho] at hb; simp only [mlower] at hb
      first
        | (cases hb; done)
        | (split at hb <;> cases hb)

theorem AR.mask {ks : List Nat} {vs : List V} {cs : List Value} (h : AR own β w vs cs) (hv : (argIds vs).all ks.contains = true) : AR (fun b => mlower ks (own b)) β w vs cs := by
  refine ⟨h.1, fun j v c hj hc => ⟨?_, (h.2 j v c hj hc).2⟩⟩
  obtain ⟨h1, h2⟩ := h.2 j v c hj hc
  have hin : ∀ x ∈ v.cells, (ptrId x).all ks.contains = true := fun x hx => by
    rw [List.all_eq_true] at hv ⊢
    exact fun y hy => hv y (List.mem_flatMap.2 ⟨v, List.mem_of_getElem? hj, List.mem_flatMap.2 ⟨x, hx, hy⟩⟩)
  cases v with
  | undef => trivial
  | agg ds =>
    obtain ⟨arr, e1, e2, e3⟩ := h1
    exact ⟨arr, e1, e2, fun j u c hu hcu => (e3 j u c hu hcu).mask rfl (hin u (List.mem_of_getElem? hu))⟩
  | rptr ds off =>
    obtain ⟨b, o, e1, e2, e3⟩ := h1
    refine ⟨b, o, e1, by simp only [e2, mlower], fun j u hu => ?_⟩
    obtain ⟨c', q1, q2⟩ := e3 j u hu
    exact ⟨c', q1, q2.mono fun b hb => ⟨by simp only [hb, mlower], rfl⟩⟩
  | bool b => exact CR.mask (β := β) (w := w) (l := .other) (v := .bool b) h1 rfl (hin _ (by simp [V.cells]))
  | int k n => exact CR.mask (β := β) (w := w) (l := .other) (v := .int k n) h1 rfl (hin _ (by simp [V.cells]))
  | str s => exact CR.mask (β := β) (w := w) (l := .other) (v := .str s) h1 rfl (hin _ (by simp [V.cells]))
  | nilp => exact CR.mask (β := β) (w := w) (l := .other) (v := .nilp) h1 rfl (hin _ (by simp [V.cells]))
  | nilf => exact CR.mask (β := β) (w := w) (l := .other) (v := .nilf) h1 rfl (hin _ (by simp [V.cells]))
  | ptr id off => exact CR.mask (β := β) (w := w) (l := .other) (v := .ptr id off) h1 rfl (hin _ (by simp [V.cells]))
  | xptr p i off => exact CR.mask (β := β) (w := w) (l := .other) (v := .xptr p i off) h1 rfl (hin _ (by simp [V.cells]))
  | sl n xs => exact CR.mask (β := β) (w := w) (l := .other) (v := .sl n xs) h1 rfl (hin _ (by simp [V.cells]))
  | ex sz n xs => exact CR.mask (β := β) (w := w) (l := .other) (v := .ex sz n xs) h1 rfl (hin _ (by simp [V.cells]))
  | lent p => exact CR.mask (β := β) (w := w) (l := .other) (v := .lent p) h1 rfl (hin _ (by simp [V.cells]))
  | clo f x y => exact CR.mask (β := β) (w := w) (l := .other) (v := .clo f x y) h1 rfl (hin _ (by simp [V.cells]))
  | tup us => exact CR.mask (β := β) (w := w) (l := .other) (v := .tup us) h1 rfl (hin _ (by simp [V.cells]))

theorem killCellsIn_ref {ks : List Nat} {v : V} {i j : Nat} (h : (killCellsIn ks v).refsTo (.cell i j) = true) : ks.contains i = false := by
  cases v with
  | lent p =>
    cases p with
    | slot t => simp [killCellsIn, V.refsTo] at h
    | cell a b =>
      by_cases hk : ks.contains a = true
      · simp only [killCellsIn, hk, if_true, V.refsTo, Bool.false_eq_true] at h
      · simp only [killCellsIn, hk, V.refsTo, Bool.false_eq_true, if_false, beq_iff_eq] at h
        injection h with h1 _; subst h1; simpa using hk
  | xptr p k off =>
    cases p with
    | slot t => simp [killCellsIn, V.refsTo] at h
    | cell a b =>
      by_cases hk : ks.contains a = true
      · simp only [killCellsIn, hk, if_true, V.refsTo, Bool.false_eq_true] at h
      · simp only [killCellsIn, hk, V.refsTo, Bool.false_eq_true, if_false, beq_iff_eq] at h
        injection h with h1 _; subst h1; simpa using hk
  | _ => simp [killCellsIn, V.refsTo] at h

theorem SR.killCellsIn (ks : List Nat) (h : SR own β w σ a.tmps) : SR own β w { env := σ.env.map (fun x => (x.1, Vm.killCellsIn ks x.2)), heap := σ.heap } a.tmps := by
  have hlook : ∀ p sz n xs, look σ p = .ex sz n xs → look { env := σ.env.map (fun x => (x.1, Vm.killCellsIn ks x.2)), heap := σ.heap } p = .ex sz n xs := fun p sz n xs hl => by
    cases p with
    | slot t => simp only [look] at hl ⊢; rw [get_map (Vm.killCellsIn ks) rfl, hl]; rfl
    | cell i j => exact hl
  refine ⟨fun u => ?_, h.heap⟩
  rw [get_map (Vm.killCellsIn ks) rfl]
  have hu := h.env u
  cases hv : get σ.env u with
  | lent p =>
    rw [hv] at hu
    obtain ⟨sz, n, xs, h1, h2⟩ := hu
    have keep : ER own β w { env := σ.env.map (fun x => (x.1, Vm.killCellsIn ks x.2)), heap := σ.heap } a.tmps u (.lent p) (a.tmps.getD u undef) := ⟨sz, n, xs, hlook p sz n xs h1, h2⟩
    cases p with
    | slot t => exact keep
    | cell i j =>
      by_cases hk : ks.contains i = true
      · simp only [Vm.killCellsIn, hk, if_true]; exact ER.undef _ _ _ _ _ _ _
      · simp only [Vm.killCellsIn, hk]; exact keep
  | xptr p i off =>
    rw [hv] at hu
    obtain ⟨sz, n, xs, b, len, cap, h1, h2⟩ := hu
    have keep : ER own β w { env := σ.env.map (fun x => (x.1, Vm.killCellsIn ks x.2)), heap := σ.heap } a.tmps u (.xptr p i off) (a.tmps.getD u undef) := ⟨sz, n, xs, b, len, cap, hlook p sz n xs h1, h2⟩
    cases p with
    | slot t => exact keep
    | cell i' j =>
      by_cases hk : ks.contains i' = true
      · simp only [Vm.killCellsIn, hk, if_true]; exact ER.undef _ _ _ _ _ _ _
      · simp only [Vm.killCellsIn, hk]; exact keep
  | _ => rw [hv] at hu; exact hu

def partS (ks : List Nat) (σ : St) (H1 : Heap) : St := { env := σ.env.map (fun x => (x.1, killCellsIn ks x.2)), heap := putH ks σ.heap H1 ++ H1.drop σ.heap.length }

/-- **A call that may reach some of our variables.** -/
theorem back_part (ks : List Nat) (h : SR own β w σ a.tmps) {o1 : Own} {β1 : Nat → Nat} {w1 : World} {H1 : Heap} {r : V} {c : Value} (hh : HR o1 β1 w1 H1) (hs : Stay (fun b => mlower ks (own b)) w o1 w1)
    (hb : BX β β1 (maskH ks σ.heap) H1) (hd : deadOut ks σ.heap.length H1 = true) (ht : TR o1 β1 w1 (fun i j => .res i j) r c) :
    ∃ o2 β2, Nxt own β w σ a o2 β2 w1 (partS ks σ H1) a ∧ TR o2 β2 w1 (fun i j => .res i j) r c := by
  have hlen : σ.heap.length ≤ H1.length := by have := hb.1; rwa [maskH_length] at this
  let o2 : Own := fun b => if hid ks (own b) = true then own b else o1 b
  let β2 : Nat → Nat := fun id => if id < σ.heap.length ∧ ks.contains id = false then β id else β1 id
  have hidv : ∀ b, hid ks (own b) = true → o1 b = .other ∧ w1.heap[b]? = w.heap[b]? := fun b hq =>
    hs.other b (h.heap.lt b (by intro hn; rw [hn] at hq; simp [hid] at hq)) (mlower_hid hq)
  have o2h : ∀ b, hid ks (own b) = true → o2 b = own b := fun b hq => by simp only [o2, if_pos hq]
  have same : ∀ b, o1 b ≠ .other → o2 b = o1 b := fun b hb' => by
    simp only [o2]
    split
    · rename_i hq; exact absurd (hidv b hq).1 hb'
    · rfl
  have imv : ∀ b, own b = .im → o2 b = .im ∧ w1.heap[b]? = w.heap[b]? := fun b hb' => by
    obtain ⟨h1, h2⟩ := hs.im b (by simp only [hb', mlower])
    exact ⟨by rw [same b (by rw [h1]; simp), h1], h2⟩
  have bnew : ∀ id, bcells (partS ks σ H1).heap id = if id < σ.heap.length ∧ ks.contains id = false then bcells σ.heap id else bcells H1 id := fun id => bcells_putH ks σ.heap H1 id
  have b2h : ∀ id, id < σ.heap.length ∧ ks.contains id = false → β2 id = β id := fun id hq => by simp only [β2, if_pos hq]
  have b2k : ∀ id, ¬ (id < σ.heap.length ∧ ks.contains id = false) → β2 id = β1 id := fun id hq => by simp only [β2, if_neg hq]
  have vis : ∀ id cs, bcells H1 id = some cs → ¬ (id < σ.heap.length ∧ ks.contains id = false) := fun id cs hi hq => by
    rw [deadOut_none hd hq.1 hq.2] at hi; cases hi
  have kept : ∀ id cs, bcells σ.heap id = some cs → ks.contains id = true → β1 id = β id ∧ ∃ cs', bcells H1 id = some cs' := fun id cs hi hk =>
    hb.2 id cs (by rw [bcells_mask, if_pos hk]; exact hi)
  have blkv : ∀ id, own (β id) = .blk id → o2 (β2 id) = .blk id ∧ β2 id = β id := fun id hb' => by
    obtain ⟨_, cs, hcs⟩ := h.heap.inv _ _ hb'
    by_cases hk : ks.contains id = true
    · obtain ⟨e1, cs', hcs'⟩ := kept id cs hcs hk
      have := (hh.blk id cs' hcs').1
      have e2 := b2k id (fun hq => absurd (hk.symm.trans hq.2) (by simp))
      exact ⟨by rw [e2, same _ (by rw [this]; simp), this], by rw [e2, e1]⟩
    · have hk' : ks.contains id = false := by simpa only [Bool.not_eq_true] using hk
      have e2 := b2h id ⟨bcells_lt hcs, hk'⟩
      exact ⟨by rw [e2, o2h _ (by rw [hb']; simp only [hid, hk', Bool.not_false]), hb'], e2⟩
  have k1 : ∀ b, o1 b = .im → o2 b = .im ∧ w1.heap[b]? = w1.heap[b]? := fun b hb' => ⟨by rw [same b (by rw [hb']; simp), hb'], rfl⟩
  have k2 : ∀ id, o1 (β1 id) = .blk id → o2 (β2 id) = .blk id ∧ β2 id = β1 id := fun id hb' => by
    obtain ⟨_, cs, hcs⟩ := hh.inv _ _ hb'
    have e2 := b2k id (vis id cs hcs)
    exact ⟨by rw [e2, same _ (by rw [hb']; simp), hb'], e2⟩
  have cellv : ∀ id j b, ks.contains id = false → own b = .cell id j → o2 b = .cell id j ∧ w1.heap[b]? = w.heap[b]? := fun id j b hk hb' => by
    have hq : hid ks (own b) = true := by rw [hb']; simp only [hid, hk, Bool.not_false]
    exact ⟨by rw [o2h b hq, hb'], (hidv b hq).2⟩
  have slotv : ∀ b t i j, own b = .slot t i j → o2 b = .slot t i j ∧ w1.heap[b]? = w.heap[b]? := fun b t i j hb' => by
    have hq : hid ks (own b) = true := by rw [hb']; rfl
    exact ⟨by rw [o2h b hq, hb'], (hidv b hq).2⟩
  have blkheap : ∀ id cs, bcells σ.heap id = some cs → ks.contains id = false → w1.heap[β id]? = w.heap[β id]? := fun id cs hi hk => by
    have hq : hid ks (own (β id)) = true := by rw [(h.heap.blk id cs hi).1]; simp only [hid, hk, Bool.not_false]
    exact (hidv _ hq).2
  have hk := h.killCellsIn ks
  refine ⟨o2, β2, ⟨⟨fun u => ?_, ⟨fun id cs hi => ?_, fun b id hb' => ?_, fun b hb' => ?_⟩⟩, ⟨imv, fun b hlt hb' => ?_, hs.size, hs.os, hs.tape, hs.output⟩, ⟨?_, fun id cs hi => ?_⟩, rfl, rfl⟩, ?_⟩
  · have hu := hk.env u
    simp only [partS]
    rw [get_map (Vm.killCellsIn ks) rfl] at hu ⊢
    have hlk : ∀ p, (Vm.killCellsIn ks (get σ.env u)).refsTo p = true → ∃ sz n xs, look { env := σ.env.map (fun x => (x.1, Vm.killCellsIn ks x.2)), heap := σ.heap } p = .ex sz n xs := fun p hp => by
      generalize Vm.killCellsIn ks (get σ.env u) = v at hu hp
      cases v with
      | lent q =>
        obtain ⟨sz, n, xs, q1, _⟩ := hu
        simp only [V.refsTo, beq_iff_eq] at hp; subst hp
        exact ⟨sz, n, xs, q1⟩
      | xptr q i off =>
        obtain ⟨sz, n, xs, _, _, _, q1, _⟩ := hu
        simp only [V.refsTo, beq_iff_eq] at hp; subst hp
        exact ⟨sz, n, xs, q1⟩
      | _ => simp [V.refsTo] at hp
    refine hu.keep imv blkv (fun i j b hb' => slotv b u i j hb') (fun p hp => ?_)
    cases p with
    | slot x => exact ⟨fun sz n xs hl => ⟨n, xs, hl, rfl⟩, fun c hc => hc, fun b hb' => (slotv b x 0 0 hb').1⟩
    | cell i j =>
      have hki := killCellsIn_ref hp
      refine ⟨fun sz n xs hl => ⟨n, xs, ?_, rfl⟩, fun c hc => ?_, fun b hb' => (cellv i j b hki hb').1⟩
      · obtain ⟨cs, hcs, _⟩ := Place.cases_look hl
        simp only [look] at hl ⊢
        have := bnew i
        simp only [partS] at this
        rw [this, if_pos ⟨bcells_lt hcs, hki⟩]; exact hl
      · obtain ⟨sz, n, xs, hl⟩ := hlk _ hp
        obtain ⟨cs, hcs, _⟩ := Place.cases_look hl
        simp only [conc] at hc ⊢
        rw [b2h i ⟨bcells_lt hcs, hki⟩, World.cell?_of_block (w := w) (by exact blkheap i cs hcs hki)]
        exact hc
  · rw [bnew] at hi
    split at hi
    · rename_i hq
      exact (h.heap.blk id cs hi).mono imv blkv (fun j b hb' => cellv id j b hq.2 hb') (blkheap id cs hi hq.2)
    · exact (hh.blk id cs hi).mono k1 k2 (fun j b hb' => ⟨by rw [same b (by rw [hb']; simp), hb'], rfl⟩) rfl
  · simp only [o2] at hb'
    split at hb'
    · rename_i hq
      obtain ⟨e, cs, hcs⟩ := h.heap.inv b id hb'
      have hk' : ks.contains id = false := by rw [hb'] at hq; simpa only [hid, Bool.not_eq_true'] using hq
      refine ⟨by rw [b2h id ⟨bcells_lt hcs, hk'⟩, e], cs, ?_⟩
      rw [bnew, if_pos ⟨bcells_lt hcs, hk'⟩]; exact hcs
    · obtain ⟨e, cs, hcs⟩ := hh.inv b id hb'
      refine ⟨by rw [b2k id (vis id cs hcs), e], cs, ?_⟩
      rw [bnew, if_neg (vis id cs hcs)]; exact hcs
  · by_cases hq : hid ks (own b) = true
    · exact Nat.lt_of_lt_of_le (h.heap.lt b (by intro hn; rw [hn] at hq; simp [hid] at hq)) hs.size
    · have : o2 b = o1 b := by simp only [o2, if_neg hq]
      rw [this] at hb'
      exact hh.lt b hb'
  · obtain ⟨h1, h2⟩ := hs.other b hlt (by simp only [hb', mlower])
    exact ⟨by simp only [o2, hb', hid, h1]; rfl, h2⟩
  · simp only [partS, List.length_append, putH_length, List.length_drop]; omega
  · by_cases hk' : ks.contains id = true
    · obtain ⟨e, cs', hcs'⟩ := kept id cs hi hk'
      refine ⟨by rw [b2k id (fun hq => absurd (hk'.symm.trans hq.2) (by simp)), e], cs', ?_⟩
      rw [bnew, if_neg (fun hq => absurd (hk'.symm.trans hq.2) (by simp))]; exact hcs'
    · have hk'' : ks.contains id = false := by simpa only [Bool.not_eq_true] using hk'
      refine ⟨b2h id ⟨bcells_lt hi, hk''⟩, cs, ?_⟩
      rw [bnew, if_pos ⟨bcells_lt hi, hk''⟩]; exact hi
  · exact ht.mono k1 k2 (fun i j b hb' => ⟨by rw [same b (by rw [hb']; simp), hb'], rfl⟩)

end
end Go.Vm
