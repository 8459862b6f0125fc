/- B6: Audit, as it is told to its callers. -/
import Derived.Test.YtgmdkjiflhklaaaB5
namespace Go.Proofs.Ytgmdkjiflhklaaa
open Go Go.Vm

def decC (v : V) : Chk := ⟨intOf (fld 0 v), intOf (fld 1 v), intOf (fld 2 v)⟩
theorem dec_enc (l : List Chk) : (l.map encC).map decC = l := by
  rw [List.map_map]
  conv => rhs; rw [← List.map_id l]
  exact List.map_congr_left fun c _ => by simp [decC, encC]
def okCb (c : Chk) : Bool := decide (0 ≤ c.at_) && decide (c.at_ ≤ 100000) && decide (-100000000 ≤ c.lo) && decide (c.hi ≤ 100000000) && decide (c.lo ≤ c.hi)
theorem okCb_iff {c : Chk} : okCb c = true ↔ OkC c := by
  simp only [okCb, Bool.and_eq_true, decide_eq_true_eq]
  exact ⟨fun h => ⟨h.1.1.1.1, h.1.1.1.2, h.1.1.2, h.1.2, h.2⟩, fun h => ⟨⟨⟨⟨h.a0, h.a1⟩, h.l0⟩, h.h1⟩, h.le⟩⟩
namespace P
def audE (l : List Chk) : Int := Go.Proofs.Ytgmdkjiflhklaaa.audE l
def av (l : List Chk) (j : Nat) : Int := if Go.Proofs.Ytgmdkjiflhklaaa.audE l = 0 then (match j with | 0 => (audB l).lN | 1 => (audB l).lD | 2 => (audB l).mN | 3 => (audB l).mD | 4 => (audB l).f0 | 5 => (audB l).f1 | 6 => (audB l).g0 | _ => (audB l).g1) else 0
end P
theorem audV_eq (l : List Chk) : audV l = [.int .i64 (P.av l 0), .int .i64 (P.av l 1), .int .i64 (P.av l 2), .int .i64 (P.av l 3), .int .i64 (P.av l 4), .int .i64 (P.av l 5), .int .i64 (P.av l 6), .int .i64 (P.av l 7)] := by
  unfold audV P.av
  split <;> rfl
noncomputable def audS : List V → Heap → Tr (V × Heap) := fun a H => match a, H with
  | [.sl _ xs], [] => .must (eqB xs ((xs.map decC).map encC)) (.must ((xs.map decC).all okCb) (.must (decide (xs.length ≤ 40))
      (.ret (.tup [.agg [.int .i64 (P.av (xs.map decC) 0), .int .i64 (P.av (xs.map decC) 1), .int .i64 (P.av (xs.map decC) 2), .int .i64 (P.av (xs.map decC) 3), .int .i64 (P.av (xs.map decC) 4), .int .i64 (P.av (xs.map decC) 5), .int .i64 (P.av (xs.map decC) 6), .int .i64 (P.av (xs.map decC) 7)], .int .i64 (P.audE (xs.map decC))], []))))
  | _, _ => .fail
theorem audS_ok : ∀ a H r, (audS a H).run = some r → Runs T F 13 a H r := by
  intro a H r h
  unfold audS at h
  split at h
  · rename_i m xs
    obtain ⟨h0, h⟩ := Tr.must_some h
    obtain ⟨h1, h⟩ := Tr.must_some h
    obtain ⟨h2, h⟩ := Tr.must_some h
    have hr := ret_some h
    clear h
    subst hr
    have h0 := of_eqB h0
    simp only [decide_eq_true_eq] at h2
    have hl : (xs.map decC).length ≤ 40 := by simpa using h2
    generalize xs.map decC = l at *
    subst h0
    rw [← audV_eq]
    exact audit_runs hl fun c hc => okCb_iff.1 (List.all_eq_true.1 h1 c hc)
  · cases h
noncomputable def SAu : Vm.Spec := S44.add 13 audS
theorem SAu_ok : Vm.Good (vlim T F) SAu := S44_ok.add audS_ok
end Go.Proofs.Ytgmdkjiflhklaaa
