/- DI: members,points,what is expected: told so that the scale is handed back as it lies. -/
import Derived.Test.YtnijkhcmjpfjeaaDH
namespace Go.Proofs.Ytnijkhcmjpfjeaa
open Go Go.Vm
noncomputable def memR:List V→Heap→Tr (V×Heap):=fun a H=>match a with
 | [p]=>match isPtr 1 p with
  | true=>onSr H (fun _ xs _=>.must ((P.decMs xs).all okN1) (.ret (.tup [.ex 6 false xs,.int .i64 0],H))) (fun _ _=>.ret (.tup [.ex 6 true [],.int .i64 0],H))
  | false=>.fail
 | _=>.fail
theorem memR_ok:∀ a H r,(memR a H).run=some r→Runs T F 20 a H r:=by
 intro a H x h;unfold memR at h;split at h
 ·rename_i p
  split at h
  ·rename_i hp
   rw[of_isPtr hp];rcases onSr_run h with ⟨s,ms,ps,rfl,h1,h2,h3,h⟩ | ⟨s,ps,rfl,h1,h2,h⟩
   ·obtain⟨h4,k1⟩:=Tr.must_some h
    have hr:=ret_some k1;subst hr;rw[decMs_enc] at h4;exact mem_runs s ms ps h3 h4
   ·have hr:=ret_some h;subst hr
    exact mem0_runs s ps
  ·cases h
 ·cases h
noncomputable def ptsR:List V→Heap→Tr (V×Heap):=fun a H=>match a with
 | [p]=>match isPtr 1 p with
  | true=>onSr H (fun _ _ ys=>.must ((P.decPs ys).all okN2) (.ret (.tup [.ex 4 false ys,.int .i64 0],H))) (fun _ ys=>.must ((P.decPs ys).all okN2) (.ret (.tup [.ex 4 false ys,.int .i64 0],H)))
  | false=>.fail
 | _=>.fail
theorem ptsR_ok:∀ a H r,(ptsR a H).run=some r→Runs T F 21 a H r:=by
 intro a H x h;unfold ptsR at h;split at h
 ·rename_i p
  split at h
  ·rename_i hp
   rw[of_isPtr hp];rcases onSr_run h with ⟨s,ms,ps,rfl,h1,h2,h3,h⟩ | ⟨s,ps,rfl,h1,h2,h⟩
   ·obtain⟨h4,k1⟩:=Tr.must_some h
    have hr:=ret_some k1;subst hr;rw[decPs_enc] at h4;exact ptsD_runs s ms ps h1 h2 h4
   ·obtain⟨h4,k1⟩:=Tr.must_some h
    have hr:=ret_some k1;subst hr;rw[decPs_enc] at h4;exact ptsE_runs s ps h1 h2 h4
  ·cases h
 ·cases h
noncomputable def leaveR:List V→Heap→Tr (V×Heap):=fun a H=>match a with
 | [p,.int .i64 i]=>match isPtr 1 p with
  | true=>onSr H (fun s xs ys=>.ret (.int .i64 (P.leE (P.decMs xs) i),[bS s,.cells [.ptr 0 0,.ex 6 false ((P.leM (P.decMs xs) i).map encM),.ex 4 false ys]])) (fun _ _=>.ret (.int .i64 41,H))
  | false=>.fail
 | _=>.fail
theorem leaveR_ok:∀ a H r,(leaveR a H).run=some r→Runs T F 22 a H r:=by
 intro a H x h;unfold leaveR at h;split at h
 ·rename_i p i
  split at h
  ·rename_i hp
   rw[of_isPtr hp];rcases onSr_run h with ⟨s,ms,ps,rfl,h1,h2,h3,h⟩ | ⟨s,ps,rfl,h1,h2,h⟩
   ·rw[decMs_enc] at h
    have hr:=ret_some h;subst hr;exact le_runs s ms ps i h3 h1 h2
   ·have hr:=ret_some h;subst hr
    exact le0_runs s ps i
  ·cases h
 ·cases h
noncomputable def enterR:List V→Heap→Tr (V×Heap):=fun a H=>match a with
 | [p,.int .i64 i,.int .i64 d,.int .i64 r,.int .i64 m]=>match isPtr 1 p with
  | true=>onSr H (fun s xs ys=>.must (okU (P.decPs ys)) (.ret (.int .i64 (P.enE (P.decMs xs) i d r m),[bS s,.cells [.ptr 0 0,.ex 6 false ((P.enM (P.decMs xs) (P.decPs ys) i d r m).map encM),.ex 4 false ys]])))
    (fun s ys=>.must (okU (P.decPs ys)) (.ask (decide (P.enE [] i d r m=0)) (.ret (.int .i64 (P.enE [] i d r m),[bS s,.cells [.ptr 0 0,.ex 6 false ((P.enM [] (P.decPs ys) i d r m).map encM),.ex 4 false ys]])) (.ret (.int .i64 (P.enE [] i d r m),H))))
  | false=>.fail
 | _=>.fail
theorem enterR_ok:∀ a H r,(enterR a H).run=some r→Runs T F 25 a H r:=by
 intro a H x h;unfold enterR at h;split at h
 ·rename_i p i d r m
  split at h
  ·rename_i hp
   rw[of_isPtr hp];rcases onSr_run h with ⟨s,ms,ps,rfl,h1,h2,h3,h⟩ | ⟨s,ps,rfl,h1,h2,h⟩
   ·rw[decMs_enc,decPs_enc] at h
    obtain⟨h4,h⟩:=Tr.must_some h;have hr:=ret_some h;subst hr;exact en_runs s ms ps i d r m h3 h1 h2 (by simpa [okU] using h4)
   ·rw[decPs_enc] at h
    obtain⟨h4,h⟩:=Tr.must_some h;have hq:=en0_runs s ps i d r m h1 h2 (by simpa [okU] using h4)
    by_cases he:P.enE [] i d r m=0
    ·rw[if_pos he] at hq
     rw[decide_eq_true he] at h;have hr:=ret_some h;subst hr;exact hq
    ·rw[if_neg he] at hq
     rw[decide_eq_false he] at h;have hr:=ret_some h;subst hr;exact hq
  ·cases h
 ·cases h
noncomputable def W21:Vm.Spec:=((((U21.add 20 memR).add 21 ptsR).add 26 exrS).add 22 leaveR).add 25 enterR
theorem W21_ok:Vm.Good (vlim T F) W21:=((((U21_ok.add memR_ok).add ptsR_ok).add exrS_ok).add leaveR_ok).add enterR_ok
end Go.Proofs.Ytnijkhcmjpfjeaa
