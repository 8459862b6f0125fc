/- V10: addresses of elements, new variables, literals. -/
import Derived.Test.YtgmdkjiflhklaaaV9
namespace Go.Vm
open Go

section
variable {P : Program} {o : Oper} {own : Own} {β : Nat → Nat} {w : World} {σ : St} {a : Act}

theorem run_indexAt_slice {t e : TypeId} {ei : TI} (hu : P.underlying t = some (.slice e)) (re : Row P e ei) {b oo len cap : Nat} {kk : IntKind} {k : Int} (h0 : 0 ≤ k) (h1 : k < len) (w : World) :
    (Instr.indexAt t (.slice (some ⟨b, oo, none⟩) len cap) (.int kk k)).run P w = .ok (.pointer (some ⟨b, oo + k.toNat * ei.size, none⟩)) w := by
  simp [Instr.indexAt, asIntOf, run_underlying hu, h0, h1, run_sizeOf_row re, Addr.add_eq]

theorem run_indexAt_array {t e : TypeId} {n : Nat} {ei : TI} (hu : P.underlying t = some (.array n e)) (re : Row P e ei) {b oo : Nat} {kk : IntKind} {k : Int} (h0 : 0 ≤ k) (h1 : k < n) (w : World) :
    (Instr.indexAt t (.pointer (some ⟨b, oo, none⟩)) (.int kk k)).run P w = .ok (.pointer (some ⟨b, oo + k.toNat * ei.size, none⟩)) w := by
  simp [Instr.indexAt, asIntOf, run_underlying hu, h0, h1, run_sizeOf_row re, Addr.add_eq, Instr.sureAddr]

theorem ok_indexAddr {T : Types} {call : CallF} {cx : Cx} {fr : Nat} (h : Hyp P T o own β w σ a) {t : TypeId} {x k : Operand} (ho : o.op = .indexAddr t x k) {e : Eff}
    (he : eff T call cx fr o σ = some e) (hnd : ∀ d, o.dst = some d → e.val.refsTo (.slot d) = false) : OpOk P o own β w σ a (apply σ o.dst e) := by
  have hsr := h.sr
  simp only [eff, ho] at he
  cases hT : T t <;> simp only [hT] at he
  · cases he
  rename_i i
  obtain ⟨r⟩ := Row.of h.T hT
  cases hk : opd σ.env k <;> simp only [hk] at he <;> try (cases he; done)
  rename_i kk kn
  have hke := opd_int hsr hk
  rw [Option.map_eq_some_iff] at he
  obtain ⟨v, hv, rfl⟩ := he
  have hex : ∀ c, (Instr.indexAt t (a.eval x) (.int kk kn)).run P w = .ok c w → (execOp a.eval o).run P w = .ok (.value c) w := fun c hc => by simp [execOp, ho, hke, hc]
  unfold indexAt at hv
  cases hki : i.kind <;> simp only [hki] at hv <;> try (cases hv; done)
  · rename_i el
    have hu := kind_slice r hki
    cases hel : T el <;> simp only [hel] at hv
    · cases hv
    rename_i ei
    obtain ⟨re⟩ := Row.of h.T hel
    have viaEx : ∀ p sz n xs, look σ p = .ex sz n xs → conc β a.tmps w p = some (a.eval x) → 0 ≤ kn → kn < xs.length → sz = ei.size →
        (∀ d, o.dst = some d → (V.xptr p kn.toNat 0).refsTo (.slot d) = false) → OpOk P o own β w σ a (put σ o.dst (.xptr p kn.toNat 0)) := by
      intro p sz n xs q1 q2 h0 h1 hsz hnd'
      obtain ⟨c0, g1, g2⟩ := hsr.at_ q1
      rw [q2] at g1; injection g1 with g1
      rcases g2 with ⟨he, _, _⟩ | ⟨he, _, _⟩ | ⟨hn, b, cap, T', arr, e1, e2, e3, e4, e5, e6⟩
      · subst he; simp at h1; omega
      · subst he; simp at h1; omega
      rw [e1] at g1
      have hrun := hex _ (by rw [g1]; exact run_indexAt_slice (kk := kk) hu re h0 h1 w)
      refine OpOk.way hrun (Nxt.refl hsr) h.dst rfl hnd' (fun d => ⟨sz, n, xs, b, xs.length, cap, q1, by rw [q2, g1], e2, by omega, by rw [hsz]; simp⟩)
    cases hx : opd σ.env x <;> simp only [hx] at hv <;> try (cases hv; done)
    · -- frozen
      rename_i n xs
      split at hv
      · rename_i hb
        injection hv with hv; subst hv
        have hf := opd_sl hsr hx
        have hlt : kn.toNat < xs.length := by omega
        generalize hc : a.eval x = c at hf
        cases hf with
        | nil => simp at hlt
        | none aa cap => simp at hlt
        | sl b oo cap sz _ cv him hcap hcells hfr =>
          have hxk : xs[kn.toNat]? = some xs[kn.toNat] := List.getElem?_eq_getElem hlt
          have hgd : xs.getD kn.toNat .undef = xs[kn.toNat] := by rw [List.getD_eq_getElem?_getD, hxk]; rfl
          obtain ⟨c1, c2⟩ := hcells _ _ hxk
          rw [hgd] at hb ⊢
          have hsz : sz = ei.size := by omega
          have hrun := hex _ (by rw [hc]; exact run_indexAt_slice (kk := kk) hu re hb.1 hb.2.1 w)
          refine OpOk.value hrun (Nxt.refl hsr) h.dst rfl ⟨b, oo + kn.toNat * ei.size, by simp, him, fun j v hj => ?_⟩
          have hjs : j < sz := by rw [← c1]; exact (List.getElem?_eq_some_iff.1 hj).1
          refine ⟨_, ?_, hfr _ _ j v hxk hj⟩
          rw [← hsz]; exact c2 j hjs
      · cases hv
    · -- a temporary's own
      rename_i sz n xs
      cases htm : tmpOf x <;> simp only [htm] at hv
      · cases hv
      rename_i t'
      split at hv
      · rename_i hb
        injection hv with hv; subst hv
        obtain rfl := tmpOf_some htm
        exact viaEx (.slot t') sz n xs hx rfl hb.1 hb.2.1 hb.2.2 hnd
      · cases hv
    · rename_i p
      obtain ⟨sz, n, xs, q1, q2⟩ := opd_lent hsr hx
      simp only [q1] at hv
      split at hv
      · rename_i hb
        injection hv with hv; subst hv
        exact viaEx p sz n xs q1 q2 hb.1 hb.2.1 hb.2.2 hnd
      · cases hv
  · rename_i n el
    have hu := kind_array r hki
    cases hel : T el <;> simp only [hel] at hv
    · cases hv
    rename_i ei
    obtain ⟨re⟩ := Row.of h.T hel
    split at hv
    · rename_i hb
      cases hx : opd σ.env x <;> simp only [hx] at hv <;> try (cases hv; done)
      · injection hv with hv; subst hv
        obtain ⟨q1, q2⟩ := opd_ptr hsr hx
        have hrun := hex _ (by rw [q1]; exact run_indexAt_array (kk := kk) hu re hb.1 hb.2 w)
        exact OpOk.value hrun (Nxt.refl hsr) h.dst rfl ⟨rfl, q2⟩
      · injection hv with hv; subst hv
        obtain ⟨b, oo, q1, q2, q3⟩ := opd_rptr hsr hx
        have hrun := hex _ (by rw [q1]; exact run_indexAt_array (kk := kk) hu re hb.1 hb.2 w)
        exact OpOk.value hrun (Nxt.refl hsr) h.dst rfl ⟨b, oo, by rw [Nat.add_assoc], q2, q3⟩
      · injection hv with hv; subst hv
        obtain ⟨sz, n', xs, b, len, cap, q1, q2, q3, q4, q5⟩ := opd_xptr hsr hx
        have hrun := hex _ (by rw [q5]; exact run_indexAt_array (kk := kk) hu re hb.1 hb.2 w)
        exact OpOk.way hrun (Nxt.refl hsr) h.dst rfl hnd (fun d => ⟨sz, n', xs, b, len, cap, q1, q2, q3, q4, by rw [Nat.add_assoc]⟩)
    · cases hv

/-- A new variable. -/
theorem OpOk.laid {T : Types} {call : CallF} {cx : Cx} {fr : Nat} (h : Hyp P T o own β w σ a) (hfr : fr < σ.heap.length) (hnone : bcells σ.heap fr = none)
    {o1 : Own} {σ1 : St} (h1 : Nxt own β w σ a o1 β w σ1 a) (hh : σ1.heap = σ.heap) {cs : List V} {arr : Array Value} {t : TypeId}
    (hrun : (execOp a.eval o).run P w = .ok (.value (.pointer (some ⟨w.heap.size, 0, none⟩))) (w.alloc (.cells arr t))) (hs : arr.size = cs.length) (hok : cs.all (okBelow (fr + 1)) = true)
    (hc : ∀ (j : Nat) (v : V) (c : Value), cs[j]? = some v → arr[j]? = some c → (∀ sz n xs, v ≠ .ex sz n xs) ∧ CR o1 β w .im v c) :
    OpOk P o own β w σ a (put (setMem σ1 (.init fr cs)) o.dst (.ptr fr 0)) := by
  obtain ⟨o2, β2, s1, s2, s3, s4, s5⟩ := h1.sr.init (T := t) (by rw [hh]; exact hfr) (by rw [hh]; exact hnone) hs (fun v hv => List.all_eq_true.1 hok v hv) hc
  refine OpOk.value hrun ⟨s1, h1.stay.trans s2, ?_, rfl, rfl⟩ h.dst rfl ⟨by rw [s4], s5⟩
  exact h1.bx.trans s3

theorem ok_alloc {T : Types} {call : CallF} {cx : Cx} {fr : Nat} (h : Hyp P T o own β w σ a) {t : TypeId} (ho : o.op = .alloc t) {e : Eff}
    (he : eff T call cx fr o σ = some e) : OpOk P o own β w σ a (apply σ o.dst e) := by
  simp only [eff, ho] at he
  cases hT : T t <;> simp only [hT] at he
  · cases he
  rename_i i
  obtain ⟨r⟩ := Row.of h.T hT
  split at he
  · rename_i hok
    obtain ⟨hfr, hnone, hok⟩ := hok
    injection he with he; subst he
    have hrun : (execOp a.eval o).run P w = .ok (.value (.pointer (some ⟨w.heap.size, 0, none⟩))) (w.alloc (.cells r.z.cells t)) := by
      simp [execOp, ho, Instr.alloc, zeroValue, typeInfo, r.hinfo, r.hz, newVar, newRow]
    refine OpOk.laid (call := call) (cx := cx) h hfr hnone (Nxt.refl h.sr) rfl hrun (by rw [r.hzs, r.hzl]) hok (fun j v c hv hc => ?_)
    have hf := r.hzc own w j v c hv hc
    exact ⟨fun sz n xs he => (by subst he; cases hf), CR_of_FR hf⟩
  · cases he

theorem ok_box {T : Types} {call : CallF} {cx : Cx} {fr : Nat} (h : Hyp P T o own β w σ a) {t : TypeId} {x : Operand} (ho : o.op = .box t x) {e : Eff}
    (he : eff T call cx fr o σ = some e) : OpOk P o own β w σ a (apply σ o.dst e) := by
  simp only [eff, ho] at he
  cases hT : T t <;> simp only [hT] at he
  · cases he
  rename_i i
  cases ht : take σ x <;> simp only [ht] at he
  · cases he
  rename_i vp
  obtain ⟨v, ps⟩ := vp
  simp only at he
  split at he
  · rename_i hok
    obtain ⟨hfr, hnone, hok⟩ := hok
    simp only [Bool.and_eq_true, beq_iff_eq] at hok
    injection he with he; subst he
    obtain ⟨o1, h1, ⟨h2, h3⟩, _⟩ := take_ok h.sr ht
    have hrun : (execOp a.eval o).run P w = .ok (.value (.pointer (some ⟨w.heap.size, 0, none⟩))) (w.alloc (.cells (a.eval x).cells t)) := by
      simp [execOp, ho, Instr.box, newVar, newRow]
    refine OpOk.laid (call := call) (cx := cx) h hfr hnone h1 (setPlaces_heap ps σ hok.2) hrun h2 hok.1.1.1 (fun j d u hd hu => ?_)
    have hn : notEx d = true := List.all_eq_true.1 hok.1.2 d (List.mem_of_getElem? hd)
    have hne : ∀ sz n xs, d ≠ .ex sz n xs := fun sz n xs he => by subst he; simp [notEx] at hn
    exact ⟨hne, (h3 j d u hd hu).place hne⟩
  · cases he

end
end Go.Vm
