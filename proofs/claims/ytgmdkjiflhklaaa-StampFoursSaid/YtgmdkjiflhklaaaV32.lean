/- V32: a region that draws its order. -/
import Derived.Test.YtgmdkjiflhklaaaV31
namespace Go.Vm
open Go

section
variable {P : Program} {T : Types} {call : CallF} {cx : Cx} {ops : Array Oper} {fr : Nat → Nat} {R W : Nat → List Res}

theorem wpAny_of_vany (hS : Sound P call) (hT : TOk P T) (Q : Exit → Act → World → Prop) (G : St → Prop) : ∀ (f : Nat) (L : Array Bool) (own : Own) (β : Nat → Nat) (w : World) (σ : St) (a : Act), SR own β w σ a.tmps →
    (∀ o ∈ ops.toList, ∀ d, o.dst = some d → d < a.tmps.size) → VAny T call cx ops fr R W G f L σ → (∀ own' β' w' a' σ', G σ' → Nxt own β w σ a own' β' w' σ' a' → Q .normal a' w') → wpAny P .any ops Q f L a w
  | 0, L, own, β, w, σ, a, h, hd, hv, hQ => ⟨hv.1, hQ _ _ _ _ _ hv.2 (Nxt.refl h)⟩
  | f + 1, L, own, β, w, σ, a, h, hd, hv, hQ => by
    refine ⟨fun h0 => hQ _ _ _ _ _ (hv.1 h0) (Nxt.refl h), fun i hi => ?_⟩
    obtain ⟨σ', hst, h2⟩ := hv.2 i hi
    obtain ⟨o, e, i1, i2, rfl⟩ := hst.op
    have ho : o ∈ ops.toList := by simpa using Array.mem_of_getElem? i1
    have hvop : vop T call cx ops (fr i) o σ = some (apply σ o.dst e) := by unfold vop; rw [i2]; rfl
    unfold wpOp
    simp only [i1]
    refine ok_vop hS ⟨h, hd o ho, hT⟩ hvop _ Q (fun own1 β1 w1 a1 hn => ?_)
    exact wpAny_of_vany hS hT Q G f _ own1 β1 w1 _ a1 hn.sr (fun o ho d hd' => by rw [hn.size]; exact hd o ho d hd') h2 (fun own' β' w' a' σ' hg hn' => hQ _ _ _ _ _ hg (hn.trans hn'))

/-- What is known of a state is known of one that looks the same. -/
theorem Nxt.eqv {own own' : Own} {β β' : Nat → Nat} {w w' : World} {σ σ1 σ2 : St} {a a' : Act} (h : Nxt own β w σ a own' β' w' σ1 a') (he : Eqv σ1 σ2) : Nxt own β w σ a own' β' w' σ2 a' :=
  ⟨h.sr.congr (fun t => (he.1 t).symm) he.2.symm, h.stay, by rw [← he.2]; exact h.bx, h.defers, h.size⟩

end
end Go.Vm
