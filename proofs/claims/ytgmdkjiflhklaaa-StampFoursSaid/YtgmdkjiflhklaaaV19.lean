/- V19: every operation; regions in their text's order. -/
import Derived.Test.YtgmdkjiflhklaaaV18
import Derived.Tactics
namespace Go.Vm
open Go

section
variable {P : Program} {o : Oper} {own : Own} {β : Nat → Nat} {w : World} {σ : St} {a : Act}

theorem ok_eff {T : Types} {call : CallF} {cx : Cx} {fr : Nat} (hS : Sound P call) (h : Hyp P T o own β w σ a) {e : Eff}
    (he : eff T call cx fr o σ = some e) (hnd : ∀ d, o.dst = some d → e.val.refsTo (.slot d) = false) : OpOk P o own β w σ a (apply σ o.dst e) := by
  cases ho : o.op
  case move x => exact ok_move h ho (by simpa only [eff, ho] using he) hnd
  case assign x =>
    have he' := he
    simp only [eff, ho] at he'
    cases hd : o.dst with
    | none => simp [hd] at he'
    | some d => simp only [hd] at he'; rw [← hd]; exact ok_assign h ho he' hnd
  case pick c x y => exact ok_pick h ho he
  case alloc t => exact ok_alloc h ho he
  case box t x => exact ok_box h ho he
  case build t parts => exact ok_build h ho he
  case buildSlice t l parts => exact ok_buildSlice h ho he
  case load t x => exact ok_load h ho he hnd
  case store t p x => exact ok_store h ho he
  case nilCheck x => exact ok_nilCheck h ho he
  case binOp op t x y g => exact ok_binOp h ho he
  case unOp op t x => exact ok_unOp h ho he
  case convert s t x => exact ok_convert h ho he
  case makeFunc f x y => exact ok_makeFunc h ho he
  case slice t x lo hi mx => exact ok_slice h ho he
  case fieldAddr t p f => exact ok_fieldAddr h ho he hnd
  case field t x f => exact ok_field h ho he
  case indexAddr t x k => exact ok_indexAddr h ho he hnd
  case index t x k => exact ok_index h ho he
  case extract x j => exact ok_extract h ho he
  case makeSlice t l c => exact ok_makeSlice h ho he
  case call c =>
    simp only [eff, ho] at he
    cases hb : c.callee with
    | builtin b =>
      simp only [hb] at he
      cases b <;> simp only [builtinAt] at he <;> try (cases he; done)
      · exact ok_append h ho hb he
      · exact ok_len h ho hb he
      · exact ok_mm h ho (big := true) hb he
      · exact ok_mm h ho (big := false) hb he
    | value f =>
      simp only [hb] at he
      cases hv : views σ c.args.toList with
      | none => simp [hv] at he
      | some vp =>
        obtain ⟨vs, ps⟩ := vp
        simp only [hv] at he
        exact ok_call hS h ho hb hv he
    | invoke x m => simp [hb] at he
  all_goals (simp [eff, ho] at he)

end
end Go.Vm
