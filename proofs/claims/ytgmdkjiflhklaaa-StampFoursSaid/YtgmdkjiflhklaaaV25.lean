/- V25: a law, from V's equation to the machine. -/
import Derived.Test.YtgmdkjiflhklaaaV24
import Derived.Carry
namespace Go.Vm
open Go Go.ChangeShapes Go.RowKit

/-- Arguments of these types, as V has them. -/
def AllV (T : Types) (m : Nat) : List TypeId → List V → Prop
  | [], [] => True
  | t :: ts, v :: vs => HasV T m t v ∧ AllV T m ts vs
  | _, _ => False

section
variable {P : Program} {T : Types} {own : Own} {β : Nat → Nat} {w : World} {H : Type} {enc : TypeId × Value → H} {base : Nat} {spare : Nat → Bool} {held : Bool}

theorem arg_ok (hT : TOk P T) (hown : ∀ b, b < w.heap.size → own b = .im) {m : Nat} {t : TypeId} {v : Value} {d : DataW H} {ps : List MemPlace} {bb : Nat} (hp : pureT T m t = true)
    (hval : Value.okWide P w .any bb t v) (h : DataW.Trod enc P w base spare held t v d ps) : ∃ x, HasV T m t x ∧ VR own β w (fun _ => .other) x v ∧ noEx x = true := by
  obtain ⟨k, hk⟩ := h
  obtain ⟨vs, p1, p2⟩ := read_ok hT hown m t _ ⟨k, _, hk⟩ hp
  cases m with
  | zero => simp [pureT] at hp
  | succ m =>
    cases hi : T t with
    | none => simp [pureT, hi] at hp
    | some i =>
      obtain ⟨r⟩ := Row.of hT hi
      have hu := r.hd
      have hkk := r.hkind
      cases hag : i.kind.isAgg
      · have hna : v.cells = #[v] ∧ r.z.cells.size = 1 := by
          refine ⟨?_, by rw [r.hzs, r.one hag]⟩
          simp only [pureT, hi] at hp
          unfold Value.okWide at hval
          rw [hu] at hval
          cases hk2 : i.kind <;> rw [hk2] at hag hkk <;> simp only [hk2] at hp <;> try (simp [TK.isAgg] at hag; done)
          all_goals try (cases hp; done)
          all_goals
            cases hd : r.d <;> simp only [hd, kindB] at hkk hval <;> try (cases hkk; done)
            cases v <;> first
              | rfl
              | (simp [Cell.okWide, hu, hd, Cell.ok] at hval; done)
        rw [hna.1] at p1
        have hlen : vs.length = 1 := by simpa using p1.1
        match vs, hlen, p1, p2 with
        | [y], _, p1, p2 =>
          have hc := one_cell hi hag p2
          have hf := p1.2 0 y v (by simp) (by simp)
          obtain ⟨g1, g2⟩ := VR_of_FR (β := β) (L := fun _ => .other) hf
          refine ⟨y, ⟨i, hi, ?_, by rw [hc]; exact p2⟩, g1, g2⟩
          unfold asType
          rw [hc, if_pos (by simp [r.one hag]), hag]
          rfl
      · have harr : ∃ arr, v = .agg arr ∧ arr.size = i.size := by
          unfold Value.okWide at hval
          rw [hu] at hval
          cases hk2 : i.kind <;> rw [hk2] at hag hkk <;> try (simp [TK.isAgg] at hag; done)
          all_goals
            cases hd : r.d <;> simp only [hd, kindB] at hkk hval <;> try (cases hkk; done)
            obtain ⟨cs, h1, h2, _⟩ := hval
            exact ⟨cs, h1, by rw [h2, r.cellsOf]⟩
        obtain ⟨arr, rfl, hs⟩ := harr
        simp only [Value.cells] at p1
        have hl : vs.length = i.size := by rw [p1.1]; simpa using hs
        have hdat : ∀ y ∈ vs, notEx y = true := fun y hy => by
          obtain ⟨j, hj⟩ := List.getElem?_of_mem hy
          have hjl := (List.getElem?_eq_some_iff.1 hj).1
          have := p1.2 j y (arr[j]'(by omega)) hj (by simp)
          generalize arr[j]'(by omega) = c at this
          cases this <;> rfl
        refine ⟨.agg vs, ⟨i, hi, by simp [asType, V.cells, hl, hag], p2⟩, ⟨arr, rfl, by omega, fun j u c hu' hc => ?_⟩, by simpa [noEx] using hdat⟩
        exact CR_of_FR (p1.2 j u c hu' (by simpa using hc))

theorem args_ok (hT : TOk P T) (hown : ∀ b, b < w.heap.size → own b = .im) {m : Nat} {bb : Nat} : ∀ (ts : List TypeId) (vs : List Value) (ds : List (DataW H)) (ps : List MemPlace), ts.all (pureT T m) = true →
    (∀ (j : Nat) t v, ts[j]? = some t → vs[j]? = some v → Value.okWide P w .any bb t v) → DataW.TrodAll enc P w base spare held ts vs ds ps → ∃ xs, AllV T m ts xs ∧ AR own β w xs vs
  | [], vs, ds, ps, _, _, h => by
    obtain ⟨rfl, _, _⟩ := trodAll_nil h
    exact ⟨[], trivial, rfl, by simp⟩
  | t :: ts, vs, ds, ps, hp, hval, h => by
    obtain ⟨v, vs', d, ds', p, q, rfl, rfl, rfl, h1, h2⟩ := trodAll_cons h
    simp only [List.all_cons, Bool.and_eq_true] at hp
    obtain ⟨x, x1, x2, x3⟩ := arg_ok (β := β) hT hown hp.1 (hval 0 t v rfl rfl) h1
    obtain ⟨xs, y1, y2⟩ := args_ok hT hown ts vs' ds' q hp.2 (fun j t v ht hv => hval (j + 1) t v (by simpa using ht) (by simpa using hv)) h2
    refine ⟨x :: xs, ⟨x1, y1⟩, by simp [y2.1], fun j u c hu hc => ?_⟩
    cases j with
    | zero => simp at hu hc; subst hu; subst hc; exact ⟨x2, x3⟩
    | succ j => exact y2.2 j u c (by simpa using hu) (by simpa using hc)

theorem trodAll_back (hl : laidOutB P = true) {W W' : World} (hb : Below W.heap.size W W') : ∀ (ts : List TypeId) (vs : List Value) (ds : List (DataW H)) (ps : List MemPlace), ts.all (fun t => P.readableRec t && decide (t < P.types.size)) = true →
    DataW.TrodAll enc P W 0 (fun _ => true) true ts vs ds ps → DataW.TrodAll enc P W' 0 (fun b => decide (b < W.heap.size)) true ts vs ds ps
  | [], vs, ds, ps, _, h => by
    obtain ⟨rfl, rfl, rfl⟩ := trodAll_nil h
    rfl
  | t :: ts, vs, ds, ps, hr, h => by
    have hlt := h.lt
    obtain ⟨v, vs', d, ds', p, q, rfl, rfl, rfl, h1, h2⟩ := trodAll_cons h
    simp only [List.all_cons, Bool.and_eq_true, decide_eq_true_eq] at hr
    exact trodAll_cons_mk (Below.trod hl hr.1.1 hr.1.2 h1 hb (fun x hx => hlt x (List.mem_append.2 (.inl hx)))) (trodAll_back hl hb ts vs' ds' q hr.2 h2)

/-- **A law that V finds true**, for whatever arguments of these types. -/
theorem vlaw {F : Fns} (hT : TOk P T) (hF : FnsOk P F) (hl : laidOutB P = true) {m : Nat} {ts : List TypeId} {f : FuncId} (hp : ts.all (pureT T m) = true) (hr : ts.all (fun t => P.readableRec t && decide (t < P.types.size)) = true)
    (law : ∀ xs, AllV T m ts xs → ∃ k, vcall T F k f xs [] = some (.bool true, [])) {W : World} {bb : Nat} {args : Array Value} {ds : List (DataW H)} {ps : List MemPlace}
    (hval : ∀ (j : Nat) t v, ts[j]? = some t → args[j]? = some v → Value.okWide P W .any bb t v) (hA : DataW.TrodAll enc P W 0 (fun _ => true) true ts args.toList ds ps) :
    Calls P f args W fun e W' => e = .returned (.bool true) ∧ Below W.heap.size W W' ∧ DataW.TrodAll enc P W' 0 (fun b => decide (b < W.heap.size)) true ts args.toList ds ps := by
  let own : Own := fun b => if b < W.heap.size then .im else .other
  have hown : ∀ b, b < W.heap.size → own b = .im := fun b hb => by simp only [own, if_pos hb]
  obtain ⟨xs, h1, h2⟩ := args_ok (β := fun _ => 0) hT hown ts args.toList ds ps hp (fun j t v ht hv => hval j t v ht (by simpa using hv)) hA
  obtain ⟨k, hk⟩ := law xs h1
  have hHR : HR own (fun _ => 0) W [] := by
    refine ⟨fun id cs hi => by simp [bcells] at hi, fun b id hb => ?_, fun b hb => ?_⟩
    · simp only [own] at hb; split at hb <;> cases hb
    · simp only [own] at hb
      split at hb
      · assumption
      · exact absurd rfl hb
  have hc := (sound hT hF k f xs [] _ _ hk).2 own (fun _ => 0) W args.toList hHR h2 (fun b i j k hq => by simp only [own] at hq; split at hq <;> cases hq)
  rw [Array.toArray_toList] at hc
  refine hc.mono ?_
  rintro e W' ⟨c, o', β', rfl, t1, t2, t3, t4, t5⟩
  have hc' : c = .bool true := FR.of_bool (own := o') (w := W') t1
  have hb : Below W.heap.size W W' := ⟨t3.os, t3.tape, t3.output, t3.size, fun b hb => (t3.im b (hown b hb)).2⟩
  exact ⟨by rw [hc'], hb, trodAll_back hl hb ts _ ds ps hr hA⟩

end
end Go.Vm
