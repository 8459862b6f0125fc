/- V13: components, operators, lengths, append. -/
import Derived.Test.YtgmdkjiflhklaaaV12
namespace Go.Vm
open Go

section
variable {P : Program} {o : Oper} {own : Own} {β : Nat → Nat} {w : World} {σ : St} {a : Act}

theorem ok_index {T : Types} {call : CallF} {cx : Cx} {fr : Nat} (h : Hyp P T o own β w σ a) {t : TypeId} {x k : Operand} (ho : o.op = .index t x k) {e : Eff}
    (he : eff T call cx fr o σ = some e) : OpOk P o own β w σ a (apply σ o.dst e) := by
  simp only [eff, ho] at he
  split at he
  · rename_i i cs kk kn hT hx hk
    obtain ⟨r⟩ := Row.of h.T hT
    have hke := opd_int h.sr hk
    split at he
    · rename_i n el hki
      have hu := kind_array r hki
      cases hel : T el <;> simp only [hel] at he
      · cases he
      rename_i ei
      obtain ⟨re⟩ := Row.of h.T hel
      split at he
      · rename_i hc
        rw [Option.map_eq_some_iff] at he
        obtain ⟨v, hv, rfl⟩ := he
        refine OpOk.part h hx hc.2.2.1 re hv (fun arr harr => ?_) hc.2.2.2
        simp [execOp, ho, harr, hke, Instr.index, asIntOf, run_underlying hu, hc.1, hc.2.1, run_sizeOf_row re]
      · cases he
    · cases he
  · rename_i i s kk kn hT hx hk
    obtain ⟨r⟩ := Row.of h.T hT
    have hke := opd_int h.sr hk
    have hxe := opd_str h.sr hx
    split at he
    · rename_i hki
      have hkk := r.hkind
      rw [hki] at hkk
      have hd : r.d = .string := by cases hd : r.d <;> simp [hd, kindB] at hkk ⊢
      have hu := r.hd
      rw [hd] at hu
      split at he
      · rename_i b hb
        injection he with he; subst he
        exact OpOk.plain h (by simp [execOp, ho, hxe, hke, Instr.index, asIntOf, run_underlying hu, hb]) rfl (fun _ => .int _ _) rfl
      · cases he
    · cases he
  · cases he

theorem run_extract {o : Oper} {x : Operand} {j : Nat} (ho : o.op = .extract x j) {arr : Array Value} (hx : a.eval x = .tuple arr) {c : Value} (hc : arr[j]? = some c) (w : World) :
    (execOp a.eval o).run P w = .ok (.value c) w := by
  simp [execOp, ho, hx, Instr.extract, hc]

theorem noEx_of_dat {v : V} (h : v.dat = true) : noEx v = true := by
  cases v <;> first
    | rfl
    | (simp [V.dat, cellDat] at h; done)
    | exact noEx_dat h
theorem isWay_of_dat {v : V} (h : v.dat = true) : isWay v = false := by
  cases v <;> first
    | rfl
    | (simp [V.dat, cellDat] at h; done)

theorem run_builtin {b : Builtin} {c : Call} (ho : o.op = .call c) (hb : c.callee = .builtin b) (w : World) :
    ∃ cs, (execOp a.eval o).run P w = (builtin b c.argTypes o.type cs (c.args.map a.eval)).run P w := by
  simp only [execOp, ho, resolve, hb, Sem.run_bind, Sem.run_pure, Result.andThen_ok, invoke]
  exact ⟨_, rfl⟩

theorem content_shape (h : SR own β w σ a.tmps) {x : Operand} {n : Bool} {xs : List V} (hc : content σ (opd σ.env x) = some (n, xs)) :
    ∃ b cap, a.eval x = .slice b xs.length cap ∧ (n = true ↔ b = none) := by
  have viaEx : ∀ l sz, EXR own w l sz n xs (a.eval x) → ∃ b cap, a.eval x = .slice b xs.length cap ∧ (n = true ↔ b = none) := by
    rintro l sz (⟨rfl, rfl, e⟩ | ⟨rfl, rfl, aa, e⟩ | ⟨rfl, b, cap, T', arr, e, _⟩)
    · exact ⟨_, _, e, by simp⟩
    · exact ⟨_, _, e, by simp⟩
    · exact ⟨_, _, e, by simp⟩
  cases hv : opd σ.env x <;> simp only [hv, content] at hc <;> try (cases hc; done)
  · injection hc with hc; injection hc with h1 h2; subst h1; subst h2
    have := opd_sl h hv
    generalize a.eval x = c at this
    cases this
    · exact ⟨_, _, rfl, by simp⟩
    · exact ⟨_, _, rfl, by simp⟩
    · exact ⟨_, _, rfl, by simp⟩
  · injection hc with hc; injection hc with h1 h2; subst h1; subst h2
    have := opd_TR h x (by rw [hv]; rfl)
    rw [hv] at this
    exact viaEx _ _ this
  · rename_i p
    obtain ⟨sz, m, ys, q1, q2⟩ := opd_lent h hv
    simp only [q1] at hc
    injection hc with hc; injection hc with h1 h2; subst h1; subst h2
    obtain ⟨c0, g1, g2⟩ := h.at_ q1
    rw [q2] at g1; injection g1 with g1
    rw [← g1] at g2
    exact viaEx _ _ g2

theorem ok_len {T : Types} (h : Hyp P T o own β w σ a) {c : Call} (ho : o.op = .call c) (hb : c.callee = .builtin .len) {e : Eff}
    (he : lenAt T σ c = some e) : OpOk P o own β w σ a (apply σ o.dst e) := by
  unfold lenAt at he
  split at he
  · rename_i x t hx ht
    have hx' : c.args = #[x] := by rw [← Array.toList_inj]; simpa using hx
    have ht' : c.argTypes = #[t] := by rw [← Array.toList_inj]; simpa using ht
    obtain ⟨_, hrun⟩ := run_builtin (P := P) (a := a) ho hb w
    simp only [hx', ht', builtin] at hrun
    split at he
    · rename_i hk
      obtain ⟨i, r, hki⟩ := kindOf_row h.T hk
      have hkk := r.hkind
      rw [hki] at hkk
      have hd : r.d = .string := by cases hd : r.d <;> simp [hd, kindB] at hkk ⊢
      have hu := r.hd
      rw [hd] at hu
      split at he
      · rename_i s hs
        injection he with he; subst he
        have hxe := opd_str h.sr hs
        refine OpOk.plain h ?_ rfl (fun _ => .int _ _) rfl
        rw [hrun]
        simp [Builtin.len_, run_underlying hu, hxe, goInt]
      · cases he
    · rename_i n el hk
      obtain ⟨i, r, hki⟩ := kindOf_row h.T hk
      have hu := kind_array r hki
      injection he with he; subst he
      refine OpOk.plain h ?_ rfl (fun _ => .int _ _) rfl
      rw [hrun]
      simp [Builtin.len_, run_underlying hu, goInt]
    · rename_i el hk
      obtain ⟨i, r, hki⟩ := kindOf_row h.T hk
      have hu := kind_slice r hki
      split at he
      · rename_i n xs hc
        injection he with he; subst he
        obtain ⟨b, cap, hxe, _⟩ := content_shape h.sr hc
        refine OpOk.plain h ?_ rfl (fun _ => .int _ _) rfl
        rw [hrun]
        simp [Builtin.len_, run_underlying hu, hxe, goInt]
      · cases he
    · cases he
  · cases he

theorem ok_mm {T : Types} (h : Hyp P T o own β w σ a) {c : Call} (ho : o.op = .call c) {big : Bool} (hb : c.callee = .builtin (if big then .max else .min)) {e : Eff}
    (he : mmAt big σ c = some e) : OpOk P o own β w σ a (apply σ o.dst e) := by
  unfold mmAt at he
  split at he
  · rename_i x y hx
    have hx' : c.args = #[x, y] := by rw [← Array.toList_inj]; simpa using hx
    obtain ⟨_, hrun⟩ := run_builtin (P := P) (a := a) ho hb w
    split at he
    · rename_i k m k' n hm hn
      injection he with he; subst he
      have h1 := opd_int h.sr hm
      have h2 := opd_int h.sr hn
      refine OpOk.plain h ?_ rfl (fun _ => .int _ _) rfl
      rw [hrun]
      cases big <;> simp [builtin, hx', Builtin.max_, Builtin.min_, h1, h2, Builtin.max2, Builtin.min2]
    · cases he
  · cases he

end
end Go.Vm
