/- V18: a call as an operation; every operation. -/
import Derived.Test.YtgmdkjiflhklaaaV17
namespace Go.Vm
open Go

section
variable {P : Program} {o : Oper} {own : Own} {β : Nat → Nat} {w : World} {σ : St} {a : Act}

theorem onlyIm_ne {l : Loc} (h : l ≠ .im) : onlyIm l = .other := by
  cases l <;> first | exact absurd rfl h | rfl

def shiftL (n : Nat) (l : Loc) : Loc := match l with | .blk id => .blk (id + n) | .cell id j => .cell (id + n) j | l => l

/-- Behind a call with data. -/
theorem after_data (h : SR own β w σ a.tmps) {og : Own} {o1 : Own} {β1 : Nat → Nat} {w1 : World} {H1 : Heap} (hh : HR o1 β1 w1 H1) (hst : Stay (fun b => onlyIm (og b)) w o1 w1)
    (him : ∀ b, b < w.heap.size → o1 b = .im → own b = .im ∨ H1 = []) :
    ∃ o2 β2, Nxt own β w σ a o2 β2 w1 { env := σ.env, heap := σ.heap ++ H1.map (shiftB σ.heap.length) } a ∧ (∀ b, b < w.heap.size → o2 b = own b) ∧
      (∀ b, w.heap.size ≤ b → o2 b = shiftL σ.heap.length (o1 b)) ∧ (∀ id, β2 (id + σ.heap.length) = β1 id) ∧ (∀ b, b < w.heap.size → o1 b = .im ∨ o1 b = .other) := by
  have hold : ∀ b, b < w.heap.size → w1.heap[b]? = w.heap[b]? ∧ (o1 b = .im ∨ o1 b = .other) := fun b hb => by
    by_cases hi : og b = .im
    · obtain ⟨e1, e2⟩ := hst.im b (by simp only [hi, onlyIm])
      exact ⟨e2, .inl e1⟩
    · obtain ⟨e1, e2⟩ := hst.other b hb (onlyIm_ne hi)
      exact ⟨e2, .inr e1⟩
  let o2 : Own := fun b => if b < w.heap.size then own b else shiftL σ.heap.length (o1 b)
  let β2 : Nat → Nat := fun id => if id < σ.heap.length then β id else β1 (id - σ.heap.length)
  have e2 : ∀ b, b < w.heap.size → o2 b = own b := fun b hb => by simp only [o2, if_pos hb]
  have e3 : ∀ b, w.heap.size ≤ b → o2 b = shiftL σ.heap.length (o1 b) := fun b hb => by simp only [o2, if_neg (Nat.not_lt.2 hb)]
  have e5 : ∀ id, β2 (id + σ.heap.length) = β1 id := fun id => by simp only [β2]; rw [if_neg (by omega)]; congr 1; omega
  obtain ⟨g1, g2⟩ := grown h hh hold him hst.size o2 β2 e2 e3 (fun id hid => by simp only [β2, if_pos hid]) e5
  refine ⟨o2, β2, ⟨g1, ⟨fun b hb => ?_, fun b hlt hb => ⟨by rw [e2 b hlt, hb], (hold b hlt).1⟩, hst.size, hst.os, hst.tape, hst.output⟩, g2, rfl, rfl⟩, e2, e3, e5, fun b hb => (hold b hb).2⟩
  have hlt := h.heap.lt b (by rw [hb]; simp)
  exact ⟨by rw [e2 b hlt, hb], (hold b hlt).1⟩

theorem VR_of_FR {L : Nat → Loc} {v : V} {c : Value} (h : FR own w v c) : VR own β w L v c ∧ noEx v = true := by
  cases h <;> first
    | exact ⟨trivial, rfl⟩
    | exact ⟨FR.bool _, rfl⟩
    | exact ⟨FR.int _ _, rfl⟩
    | exact ⟨FR.str _, rfl⟩
    | exact ⟨FR.nilp, rfl⟩
    | exact ⟨FR.nilf, rfl⟩
    | exact ⟨FR.nil, rfl⟩
    | exact ⟨FR.none _ _, rfl⟩
    | exact ⟨FR.sl _ _ _ _ _ _ ‹_› ‹_› ‹_› ‹_›, rfl⟩
theorem VR_of_PR {L : Nat → Loc} {v : V} {c : Value} (h : PR own β w v c) : VR own β w L v c ∧ noEx v = true := by
  cases v with
  | ptr id off => exact ⟨h, rfl⟩
  | _ => exact VR_of_FR h

theorem AR_of_PR {vs : List V} {cs : Array Value} (hs : cs.size = vs.length) (h : ∀ (j : Nat) (v : V) (c : Value), vs[j]? = some v → cs[j]? = some c → PR own β w v c) : AR own β w vs cs.toList :=
  ⟨by simpa using hs, fun j v c hv hc => VR_of_PR (h j v c hv (by simpa using hc))⟩
theorem AR.reloc {ρ : Loc → Loc} (hr : Reloc ρ) {vs : List V} {cs : List Value} (h : AR own β w vs cs) : AR (fun b => ρ (own b)) β w vs cs :=
  ⟨h.1, fun j v c hv hc => ⟨((h.2 j v c hv hc).1.reloc hr).place (h.2 j v c hv hc).2, (h.2 j v c hv hc).2⟩⟩

theorem killCell_in (ks : List Nat) (v : V) : killCell (killCellsIn ks v) = killCell v := by
  cases v with
  | lent p =>
    cases p with
    | slot t => rfl
    | cell i j => simp only [killCellsIn]; split <;> rfl
  | xptr p k off =>
    cases p with
    | slot t => rfl
    | cell i j => simp only [killCellsIn]; split <;> rfl
  | _ => rfl

theorem ok_call {T : Types} {call : CallF} (hS : Sound P call) (h : Hyp P T o own β w σ a) {c : Call} (ho : o.op = .call c) {f : Operand} (hb : c.callee = .value f) {vs : List V} {ps : List (Place × V)}
    (hv : views σ c.args.toList = some (vs, ps)) {e : Eff} (he : callAt call σ (opd σ.env f) vs ps = some e) : OpOk P o own β w σ a (apply σ o.dst e) := by
  have hsr := h.sr
  obtain ⟨o1, h1, h2, ρ, hr, rfl⟩ := freezes ps own σ hsr (views_ps hsr _ _ _ hv)
  have hargs := views_args hsr hr rfl hr.other _ _ _ hv h2
  unfold callAt at he
  split at he
  case h_2 => cases he
  rename_i fid first captured hf
  have hfe := opd_TR hsr f (by rw [hf]; rfl)
  rw [hf] at hfe
  obtain ⟨ca, cb, hce, hc1, hc2, hc3, hc4⟩ := hfe
  have hAR : AR (fun b => ρ (own b)) β w (first ++ vs ++ captured) (ca.toList ++ c.args.toList.map a.eval ++ cb.toList) :=
    (((AR_of_PR hc1 hc3).reloc hr).append hargs).append ((AR_of_PR hc2 hc4).reloc hr)
  have hrun : ∀ {H r H'}, call fid (first ++ vs ++ captured) H = some (r, H') → (execOp a.eval o).run P w = .ok (.enter fid (ca.toList ++ c.args.toList.map a.eval ++ cb.toList).toArray) w := by
    intro H r H' hcall
    obtain ⟨⟨fn, q1, q2, q3⟩, _⟩ := hS _ _ _ _ _ hcall
    obtain ⟨bd, q3'⟩ := Option.isSome_iff_exists.1 q3
    have hargs' : (ca.toList ++ c.args.toList.map a.eval ++ cb.toList).toArray = ca ++ c.args.map a.eval ++ cb := by
      apply Array.ext'; simp
    rw [hargs']
    simp [execOp, ho, resolve, hb, hce, Deferred.ofValue, invoke, callFunc, q1, q2, q3']
  simp only at he
  split at he
  · rename_i hdata
    have hHR := h1.sr.heap.onlyIm
    have hAR' := hAR.onlyIm hdata
    have noslot : ∀ b i j k, (fun b => onlyIm (ρ (own b))) b ≠ .slot i j k := fun b i j k hq => by
      simp only [onlyIm] at hq; split at hq <;> cases hq
    split at he
    · rename_i r hcall
      injection he with he; subst he
      obtain ⟨_, hC⟩ := hS _ _ _ _ _ hcall
      have hC := hC _ β w _ hHR hAR' noslot
      refine OpOk.call (hrun hcall) (hC.mono ?_) h.dst
      rintro e w' ⟨c', o', β', rfl, t1, t2, t3, t4, t5⟩
      have noblk : ∀ id, o' (β' id) ≠ .blk id := fun id hq => by
        obtain ⟨_, cs, hcs⟩ := t2.inv _ _ hq; simp [bcells] at hcs
      by_cases hap : apart r = true
      · obtain ⟨o2, β2, g1, g2, g3, g4, g5⟩ := after_data hsr t2 t3 (fun _ _ _ => .inr rfl)
        simp only [List.map_nil, List.append_nil] at g1
        refine ⟨c', o2, β2, rfl, by simp only [hap, if_true, setPlaces, setMem]; exact g1, t1.apart hap (fun i j b hq => ?_)⟩
        have hge : w.heap.size ≤ b := by
          rcases Nat.lt_or_ge b w.heap.size with hlt | hge
          · rcases g5 b hlt with e | e <;> rw [hq] at e <;> cases e
          · exact hge
        rw [g3 b hge, hq]; rfl
      · obtain ⟨o2, β2, g1, g2, g3, g4, g5⟩ := after_data h1.sr t2 t3 (fun _ _ _ => .inr rfl)
        simp only [List.map_nil, List.append_nil] at g1
        refine ⟨c', o2, β2, rfl, ?_, t1.mono (fun b hq => ⟨?_, rfl⟩) (fun id hq => absurd hq (noblk id)) (fun i j b hq => ⟨?_, rfl⟩)⟩
        · simp only [hap, setMem]
          exact h1.trans g1
        · rcases Nat.lt_or_ge b w.heap.size with hlt | hge
          · rw [g2 b hlt]
            by_cases hi : ρ (own b) = .im
            · exact hi
            · obtain ⟨e1, _⟩ := t3.other b hlt (onlyIm_ne hi)
              rw [hq] at e1; cases e1
          · rw [g3 b hge, hq]; rfl
        · have hge : w.heap.size ≤ b := by
            rcases Nat.lt_or_ge b w.heap.size with hlt | hge
            · rcases g5 b hlt with e | e <;> rw [hq] at e <;> cases e
            · exact hge
          rw [g3 b hge, hq]; rfl
    · rename_i r H1 hne hcall
      injection he with he; subst he
      obtain ⟨_, hC⟩ := hS _ _ _ _ _ hcall
      have hC := hC _ β w _ hHR hAR' noslot
      refine OpOk.call (hrun hcall) (hC.mono ?_) h.dst
      rintro e w' ⟨c', o', β', rfl, t1, t2, t3, t4, t5⟩
      have himv : ∀ b, b < w.heap.size → o' b = .im → ρ (own b) = .im := fun b hlt hq => by
        by_cases hi : ρ (own b) = .im
        · exact hi
        · obtain ⟨e1, _⟩ := t3.other b hlt (onlyIm_ne hi)
          rw [hq] at e1; cases e1
      obtain ⟨o2, β2, g1, g2, g3, g4, g5⟩ := after_data h1.sr t2 t3 (fun b hlt hq => .inl (himv b hlt hq))
      have hge : ∀ b, o' b ≠ .im → o' b ≠ .other → w.heap.size ≤ b := fun b hq1 hq2 => by
        rcases Nat.lt_or_ge b w.heap.size with hlt | hge
        · rcases g5 b hlt with e | e
          · exact absurd e hq1
          · exact absurd e hq2
        · exact hge
      have g1' : Nxt (fun b => ρ (own b)) β w (setPlaces σ ps) a o2 β2 w' (setMem (setPlaces σ ps) (.all ((setPlaces σ ps).heap ++ H1.map (shiftB (setPlaces σ ps).heap.length)))) a :=
        ⟨g1.sr.killCells, g1.stay, g1.bx, rfl, rfl⟩
      refine ⟨c', o2, β2, rfl, h1.trans g1', t1.shift (fun b hq => ?_) (fun id hq => ⟨?_, g4 id⟩) (fun i j b hq => ?_)⟩
      · rcases Nat.lt_or_ge b w.heap.size with hlt | hge'
        · rw [g2 b hlt]; exact himv b hlt hq
        · rw [g3 b hge', hq]; rfl
      · rw [g4, g3 _ (hge _ (by rw [hq]; simp) (by rw [hq]; simp)), hq]; rfl
      · rw [g3 _ (hge _ (by rw [hq]; simp) (by rw [hq]; simp)), hq]; rfl
    · cases he
  · split at he
    · rename_i hcl
      simp only [Bool.and_eq_true] at hcl
      generalize reach (setPlaces σ ps).heap (setPlaces σ ps).heap.length (argIds (first ++ vs ++ captured)) = ks at he hcl
      split at he
      · rename_i r H' hcall
        split at he
        · rename_i hdead
          obtain ⟨_, hC⟩ := hS _ _ _ _ _ hcall
          have hC := hC _ β w _ (h1.sr.heap.mask hcl.1) (hAR.mask hcl.2) (fun b i j k => mlower_not)
          split at he
          · rename_i hlen
            injection he with he; subst he
            refine OpOk.call (hrun hcall) (hC.mono ?_) h.dst
            rintro e w' ⟨c', o', β', rfl, t1, t2, t3, t4, t5⟩
            obtain ⟨o2, β2, g1, g2⟩ := back_part ks h1.sr t2 t3 t4 hdead t1
            have e1 : partS ks (setPlaces σ ps) H' = setMem (setPlaces σ ps) (.put ks H') := by
              simp only [partS, setMem]
              rw [List.drop_of_length_le (by omega), List.append_nil]
            rw [e1] at g1
            exact ⟨c', o2, β2, rfl, h1.trans g1, g2⟩
          · injection he with he; subst he
            refine OpOk.call (hrun hcall) (hC.mono ?_) h.dst
            rintro e w' ⟨c', o', β', rfl, t1, t2, t3, t4, t5⟩
            obtain ⟨o2, β2, g1, g2⟩ := back_part ks h1.sr t2 t3 t4 hdead t1
            have g1' : Nxt (fun b => ρ (own b)) β w (setPlaces σ ps) a o2 β2 w' (setMem (setPlaces σ ps) (.all (putH ks (setPlaces σ ps).heap H' ++ H'.drop (setPlaces σ ps).heap.length))) a := by
              refine ⟨(g1.sr.killCells).congr (fun t => ?_) rfl, g1.stay, g1.bx, g1.defers, g1.size⟩
              simp only [setMem, partS]
              rw [get_map killCell rfl, get_map killCell rfl, get_map (killCellsIn ks) rfl, killCell_in]
            exact ⟨c', o2, β2, rfl, h1.trans g1', g2⟩
        · cases he
      · cases he
    · cases he

end
end Go.Vm
