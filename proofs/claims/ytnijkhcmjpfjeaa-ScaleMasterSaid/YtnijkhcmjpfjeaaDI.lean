/- DI: members,points,what is expected: told so that the scale is handed back as it lies. -/
import Derived.Test.YtnijkhcmjpfjeaaDH
namespace Go.Proofs.Ytnijkhcmjpfjeaa
open Go Go.Vm
noncomputable def onSr {α:Type} (H:Heap) (f:Set4→List V→List V→Tr α) (g:Set4→List V→Tr α):Tr α :=
 onC H fun sc mc pc=>.must (eqB sc (encS4 (decS sc))) (onP pc fun xs=>.must (isPs xs) (.must (decide (0<xs.length)) (.must (decide (xs.length<2 ^ 40)) (onM mc (fun z ys=>match z with
  | false=>.must (isMs ys) (.must (decide (ys.length<2 ^ 40)) (f (decS sc) ys xs))
  | true=>.fail) (g (decS sc) xs)))))
theorem onSr_run {α:Type} {H:Heap} {f:Set4→List V→List V→Tr α} {g:Set4→List V→Tr α} {r:α} (h:(onSr H f g).run=some r) :
  (∃ s ms ps,H=[bS s,bD ms ps]∧0<ps.length∧ps.length<2 ^ 40∧ms.length<2 ^ 40∧(f s (ms.map encM) (ps.map encP)).run=some r)∨(∃ s ps,H=[bS s,bE ps]∧0<ps.length∧ps.length<2 ^ 40∧(g s (ps.map encP)).run=some r):=by
 unfold onSr at h;obtain⟨sc,mc,pc,rfl,g0⟩:=onC_run h;clear h;obtain⟨h1,g1⟩:=Tr.must_some g0;clear g0;obtain⟨xs,rfl,g2⟩:=onP_run g1;clear g1;obtain⟨h2,g3⟩:=Tr.must_some g2;obtain⟨h3,g4⟩:=Tr.must_some g3;obtain⟨h4,h⟩:=Tr.must_some g4;clear g2 g3 g4;obtain⟨ps,rfl⟩:=isPs_of h2;have h1:=of_eqB h1;generalize decS sc=s at *;subst h1;simp only[decide_eq_true_eq,List.length_map] at h3 h4;rcases onM_run h with ⟨z,ys,rfl,h⟩ | ⟨rfl,h⟩
 ·cases z
  ·obtain⟨h5,h⟩:=Tr.must_some h
   obtain⟨h6,h⟩:=Tr.must_some h;obtain⟨ms,rfl⟩:=isMs_of h5;exact .inl ⟨s,ms,ps,rfl,h3,h4,by simpa using h6,h⟩
  ·cases h
 ·exact .inr ⟨s,ps,rfl,h3,h4,h⟩
noncomputable def memR:List V→Heap→Tr (V×Heap):=fun a H=>match a with
 | [p]=>match isPtr 1 p with
  | true=>onSr H (fun _ xs _=>.must ((P.decMs xs).all okN1) (.ret (.tup [.ex 6 false xs,.int .i64 0],H))) (fun _ _=>.ret (.tup [.ex 6 true [],.int .i64 0],H))
  | false=>.fail
 | _=>.fail
theorem memR_ok:∀ a H r,(memR a H).run=some r→Runs T F 20 a H r:=by
 intro a H x h;unfold memR at h;split at h
 ·rename_i p
  split at h
  ·rename_i hp
   rw[of_isPtr hp];rcases onSr_run h with ⟨s,ms,ps,rfl,h1,h2,h3,h⟩ | ⟨s,ps,rfl,h1,h2,h⟩
   ·obtain⟨h4,k1⟩:=Tr.must_some h
    have hr:=ret_some k1;subst hr;rw[decMs_enc] at h4;exact mem_runs s ms ps h3 h4
   ·have hr:=ret_some h;subst hr
    exact mem0_runs s ps
  ·cases h
 ·cases h
noncomputable def ptsR:List V→Heap→Tr (V×Heap):=fun a H=>match a with
 | [p]=>match isPtr 1 p with
  | true=>onSr H (fun _ _ ys=>.must ((P.decPs ys).all okN2) (.ret (.tup [.ex 4 false ys,.int .i64 0],H))) (fun _ ys=>.must ((P.decPs ys).all okN2) (.ret (.tup [.ex 4 false ys,.int .i64 0],H)))
  | false=>.fail
 | _=>.fail
theorem ptsR_ok:∀ a H r,(ptsR a H).run=some r→Runs T F 21 a H r:=by
 intro a H x h;unfold ptsR at h;split at h
 ·rename_i p
  split at h
  ·rename_i hp
   rw[of_isPtr hp];rcases onSr_run h with ⟨s,ms,ps,rfl,h1,h2,h3,h⟩ | ⟨s,ps,rfl,h1,h2,h⟩
   ·obtain⟨h4,k1⟩:=Tr.must_some h
    have hr:=ret_some k1;subst hr;rw[decPs_enc] at h4;exact ptsD_runs s ms ps h1 h2 h4
   ·obtain⟨h4,k1⟩:=Tr.must_some h
    have hr:=ret_some k1;subst hr;rw[decPs_enc] at h4;exact ptsE_runs s ps h1 h2 h4
  ·cases h
 ·cases h
noncomputable def exrS:List V→Heap→Tr (V×Heap):=fun a H=>match a with
 | [p,.sl _ ys]=>match isPtr 1 p with
  | true=>.must (isDs ys) (.must (decide (ys.length<2 ^ 40)) (onSr H (fun s ms ps=>.must (decide ((P.decMs ms).length≤16)) (.must (okMs (P.decMs ms)) (.must (okMb (P.decMs ms)) (.must (okEp s (P.decPs ps)) (.ask (decide (P.rdE (P.decMs ms) (P.decPs ps) (P.decDs ys)=0))
    (.ret (.tup [.agg [.int .i64 (P.pto s (P.decMs ms) (P.decPs ps) (P.decDs ys)).ep,.int .i64 (P.pto s (P.decMs ms) (P.decPs ps) (P.decDs ys)).u,.sl false ((P.pto s (P.decMs ms) (P.decPs ps) (P.decDs ys)).ids.map encI),.sl false ((P.pto s (P.decMs ms) (P.decPs ps) (P.decDs ys)).ws.map encI)],.int .i64 0],H))
    (.must (P.rdE (P.decMs ms) (P.decPs ps) (P.decDs ys) != 0) (.ret (.tup [encP ⟨0,0,true,[],true,[]⟩,.int .i64 (P.rdE (P.decMs ms) (P.decPs ps) (P.decDs ys))],H))))))))
    (fun _ ps=>.must (P.rd0 (P.decPs ps) (P.decDs ys) != 0) (.ret (.tup [encP ⟨0,0,true,[],true,[]⟩,.int .i64 (P.rd0 (P.decPs ps) (P.decDs ys))],H)))))
  | false=>.fail
 | _=>.fail
theorem exrS_ok:∀ a H r,(exrS a H).run=some r→Runs T F 26 a H r:=by
 intro a H x h;unfold exrS at h;split at h
 ·rename_i p x ys
  split at h
  ·rename_i hp
   rw[of_isPtr hp];obtain⟨g1,g⟩:=Tr.must_some h;obtain⟨g2,g'⟩:=Tr.must_some g;clear h g;obtain⟨l,rfl⟩:=isDs_of g1;rw[decDs_enc] at g';simp only[List.length_map,decide_eq_true_eq] at g2;rcases onSr_run g' with ⟨s,ms,ps,rfl,h1,h2,h3,h⟩ | ⟨s,ps,rfl,h1,h2,h⟩
   ·rw[decMs_enc,decPs_enc] at h
    obtain⟨h4,k1⟩:=Tr.must_some h;obtain⟨h5,k2⟩:=Tr.must_some k1;obtain⟨h6,k3⟩:=Tr.must_some k2;obtain⟨h7,k4⟩:=Tr.must_some k3;have hq:=ex_runs s x ms ps l (by simpa using h4) h1 h2 g2 h5 h6 h7
    unfold exP at hq;by_cases he:P.rdE ms ps l=0
    ·rw[if_pos he,he] at hq
     rw[decide_eq_true he] at k4;have hr:=ret_some k4;subst hr;exact hq
    ·rw[if_neg he] at hq
     rw[decide_eq_false he] at k4;obtain⟨_,k5⟩:=Tr.must_some (show (Tr.must _ _).run=some _ from k4);have hr:=ret_some k5;subst hr;exact hq
   ·rw[decPs_enc] at h
    obtain⟨_,k5⟩:=Tr.must_some h;have hr:=ret_some k5;subst hr;exact ex0_runs s x ps l h1 h2 g2
  ·cases h
 ·cases h
noncomputable def leaveR:List V→Heap→Tr (V×Heap):=fun a H=>match a with
 | [p,.int .i64 i]=>match isPtr 1 p with
  | true=>onSr H (fun s xs ys=>.ret (.int .i64 (P.leE (P.decMs xs) i),[bS s,.cells [.ptr 0 0,.ex 6 false ((P.leM (P.decMs xs) i).map encM),.ex 4 false ys]])) (fun _ _=>.ret (.int .i64 41,H))
  | false=>.fail
 | _=>.fail
theorem leaveR_ok:∀ a H r,(leaveR a H).run=some r→Runs T F 22 a H r:=by
 intro a H x h;unfold leaveR at h;split at h
 ·rename_i p i
  split at h
  ·rename_i hp
   rw[of_isPtr hp];rcases onSr_run h with ⟨s,ms,ps,rfl,h1,h2,h3,h⟩ | ⟨s,ps,rfl,h1,h2,h⟩
   ·rw[decMs_enc] at h
    have hr:=ret_some h;subst hr;exact le_runs s ms ps i h3 h1 h2
   ·have hr:=ret_some h;subst hr
    exact le0_runs s ps i
  ·cases h
 ·cases h
noncomputable def enterR:List V→Heap→Tr (V×Heap):=fun a H=>match a with
 | [p,.int .i64 i,.int .i64 d,.int .i64 r,.int .i64 m]=>match isPtr 1 p with
  | true=>onSr H (fun s xs ys=>.must (okU (P.decPs ys)) (.ret (.int .i64 (P.enE (P.decMs xs) i d r m),[bS s,.cells [.ptr 0 0,.ex 6 false ((P.enM (P.decMs xs) (P.decPs ys) i d r m).map encM),.ex 4 false ys]])))
    (fun s ys=>.must (okU (P.decPs ys)) (.ask (decide (P.enE [] i d r m=0)) (.ret (.int .i64 (P.enE [] i d r m),[bS s,.cells [.ptr 0 0,.ex 6 false ((P.enM [] (P.decPs ys) i d r m).map encM),.ex 4 false ys]])) (.ret (.int .i64 (P.enE [] i d r m),H))))
  | false=>.fail
 | _=>.fail
theorem enterR_ok:∀ a H r,(enterR a H).run=some r→Runs T F 25 a H r:=by
 intro a H x h;unfold enterR at h;split at h
 ·rename_i p i d r m
  split at h
  ·rename_i hp
   rw[of_isPtr hp];rcases onSr_run h with ⟨s,ms,ps,rfl,h1,h2,h3,h⟩ | ⟨s,ps,rfl,h1,h2,h⟩
   ·rw[decMs_enc,decPs_enc] at h
    obtain⟨h4,h⟩:=Tr.must_some h;have hr:=ret_some h;subst hr;exact en_runs s ms ps i d r m h3 h1 h2 (by simpa [okU] using h4)
   ·rw[decPs_enc] at h
    obtain⟨h4,h⟩:=Tr.must_some h;have hq:=en0_runs s ps i d r m h1 h2 (by simpa [okU] using h4)
    by_cases he:P.enE [] i d r m=0
    ·rw[if_pos he] at hq
     rw[decide_eq_true he] at h;have hr:=ret_some h;subst hr;exact hq
    ·rw[if_neg he] at hq
     rw[decide_eq_false he] at h;have hr:=ret_some h;subst hr;exact hq
  ·cases h
 ·cases h
noncomputable def W21:Vm.Spec:=((((U21.add 20 memR).add 21 ptsR).add 26 exrS).add 22 leaveR).add 25 enterR
theorem W21_ok:Vm.Good (vlim T F) W21:=((((U21_ok.add memR_ok).add ptsR_ok).add exrS_ok).add leaveR_ok).add enterR_ok
end Go.Proofs.Ytnijkhcmjpfjeaa
