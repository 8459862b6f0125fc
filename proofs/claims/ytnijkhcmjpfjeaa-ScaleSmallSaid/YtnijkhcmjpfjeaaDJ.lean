/- DJ: what is taken and what is expected,told so that the scale is handed back as it lies. -/
import Derived.Test.YtnijkhcmjpfjeaaE3
namespace Go.Proofs.Ytnijkhcmjpfjeaa
open Go Go.Vm
namespace P
noncomputable def inv (s:Set4) (ms:List Mem) (ps:List Pnt):Bool:=@decide (∃ n,n≤20000∧Inv s ms ps n) (Classical.propDecidable _)
def pto (s:Set4) (ms:List Mem) (ps:List Pnt) (l:List Rd):Pnt:=ptO s ms ps (rdV ms ps l)
end P
noncomputable def onSr {α:Type} (H:Heap) (f:Set4→List V→List V→Tr α) (g:Set4→List V→Tr α):Tr α :=
 onC H fun sc mc pc=>.must (eqB sc (encS4 (decS sc))) (onP pc fun xs=>.must (isPs xs) (.must (decide (0<xs.length)) (.must (decide (xs.length<2 ^ 40)) (onM mc (fun z ys=>match z with
  | false=>.must (isMs ys) (.must (decide (ys.length<2 ^ 40)) (f (decS sc) ys xs))
  | true=>.fail) (g (decS sc) xs)))))
theorem onSr_run {α:Type} {H:Heap} {f:Set4→List V→List V→Tr α} {g:Set4→List V→Tr α} {r:α} (h:(onSr H f g).run=some r) :
  (∃ s ms ps,H=[bS s,bD ms ps]∧0<ps.length∧ps.length<2 ^ 40∧ms.length<2 ^ 40∧(f s (ms.map encM) (ps.map encP)).run=some r)∨(∃ s ps,H=[bS s,bE ps]∧0<ps.length∧ps.length<2 ^ 40∧(g s (ps.map encP)).run=some r):=by
 unfold onSr at h;obtain⟨sc,mc,pc,rfl,g0⟩:=onC_run h;clear h;obtain⟨h1,g1⟩:=Tr.must_some g0;clear g0;obtain⟨xs,rfl,g2⟩:=onP_run g1;clear g1;obtain⟨h2,g3⟩:=Tr.must_some g2;obtain⟨h3,g4⟩:=Tr.must_some g3;obtain⟨h4,h⟩:=Tr.must_some g4;clear g2 g3 g4;obtain⟨ps,rfl⟩:=isPs_of h2;have h1:=of_eqB h1;generalize decS sc=s at *;subst h1;simp only[decide_eq_true_eq,List.length_map] at h3 h4;rcases onM_run h with ⟨z,ys,rfl,h⟩ | ⟨rfl,h⟩
 ·cases z
  ·obtain⟨h5,h⟩:=Tr.must_some h
   obtain⟨h6,h⟩:=Tr.must_some h;obtain⟨ms,rfl⟩:=isMs_of h5;exact .inl ⟨s,ms,ps,rfl,h3,h4,by simpa using h6,h⟩
  ·cases h
 ·exact .inr ⟨s,ps,rfl,h3,h4,h⟩
noncomputable def exrS:List V→Heap→Tr (V×Heap):=fun a H=>match a with
 | [p,.sl _ ys]=>match isPtr 1 p with
  | true=>.must (isDs ys) (.must (decide (ys.length<2 ^ 40)) (onSr H (fun s ms ps=>.must (decide ((P.decMs ms).length≤16)) (.must (okMs (P.decMs ms)) (.must (okMb (P.decMs ms)) (.must (okEp s (P.decPs ps)) (.ask (decide (P.rdE (P.decMs ms) (P.decPs ps) (P.decDs ys)=0))
    (.ret (.tup [.agg [.int .i64 (P.pto s (P.decMs ms) (P.decPs ps) (P.decDs ys)).ep,.int .i64 (P.pto s (P.decMs ms) (P.decPs ps) (P.decDs ys)).u,.sl false ((P.pto s (P.decMs ms) (P.decPs ps) (P.decDs ys)).ids.map encI),.sl false ((P.pto s (P.decMs ms) (P.decPs ps) (P.decDs ys)).ws.map encI)],.int .i64 0],H))
    (.must (P.rdE (P.decMs ms) (P.decPs ps) (P.decDs ys) != 0) (.ret (.tup [encP ⟨0,0,true,[],true,[]⟩,.int .i64 (P.rdE (P.decMs ms) (P.decPs ps) (P.decDs ys))],H))))))))
    (fun _ ps=>.must (P.rd0 (P.decPs ps) (P.decDs ys) != 0) (.ret (.tup [encP ⟨0,0,true,[],true,[]⟩,.int .i64 (P.rd0 (P.decPs ps) (P.decDs ys))],H)))))
  | false=>.fail
 | _=>.fail
theorem exrS_ok:∀ a H r,(exrS a H).run=some r→Runs T F 26 a H r:=by
 intro a H x h;unfold exrS at h;split at h
 ·rename_i p x ys
  split at h
  ·rename_i hp
   rw[of_isPtr hp];obtain⟨g1,g⟩:=Tr.must_some h;obtain⟨g2,g'⟩:=Tr.must_some g;clear h g;obtain⟨l,rfl⟩:=isDs_of g1;rw[decDs_enc] at g';simp only[List.length_map,decide_eq_true_eq] at g2;rcases onSr_run g' with ⟨s,ms,ps,rfl,h1,h2,h3,h⟩ | ⟨s,ps,rfl,h1,h2,h⟩
   ·rw[decMs_enc,decPs_enc] at h
    obtain⟨h4,k1⟩:=Tr.must_some h;obtain⟨h5,k2⟩:=Tr.must_some k1;obtain⟨h6,k3⟩:=Tr.must_some k2;obtain⟨h7,k4⟩:=Tr.must_some k3;have hq:=ex_runs s x ms ps l (by simpa using h4) h1 h2 g2 h5 h6 h7
    unfold exP at hq;by_cases he:P.rdE ms ps l=0
    ·rw[if_pos he,he] at hq
     rw[decide_eq_true he] at k4;have hr:=ret_some k4;subst hr;exact hq
    ·rw[if_neg he] at hq
     rw[decide_eq_false he] at k4;obtain⟨_,k5⟩:=Tr.must_some (show (Tr.must _ _).run=some _ from k4);have hr:=ret_some k5;subst hr;exact hq
   ·rw[decPs_enc] at h
    obtain⟨_,k5⟩:=Tr.must_some h;have hr:=ret_some k5;subst hr;exact ex0_runs s x ps l h1 h2 g2
  ·cases h
 ·cases h
theorem inv_iff {s:Set4} {ms:List Mem} {ps:List Pnt}:P.inv s ms ps=true↔∃ n,n≤20000∧Inv s ms ps n:=by
 unfold P.inv;exact @decide_eq_true_iff _ (Classical.propDecidable _)
noncomputable def takeR:List V→Heap→Tr (V×Heap):=fun a H=>match a with
 | [p,.sl _ ys]=>match isPtr 1 p with
  | true=>.must (isDs ys) (.must (decide (ys.length<2 ^ 40)) (onSr H (fun s ms ps=>.must (P.inv s (P.decMs ms) (P.decPs ps)) (.ask (decide (P.rdE (P.decMs ms) (P.decPs ps) (P.decDs ys)=0))
    (.ret (.tup [.agg [.int .i64 (P.pto s (P.decMs ms) (P.decPs ps) (P.decDs ys)).ep,.int .i64 (P.pto s (P.decMs ms) (P.decPs ps) (P.decDs ys)).u,.sl false ((P.pto s (P.decMs ms) (P.decPs ps) (P.decDs ys)).ids.map encI),.sl false ((P.pto s (P.decMs ms) (P.decPs ps) (P.decDs ys)).ws.map encI)],.int .i64 0],
     [bS s,.cells [.ptr 0 0,.ex 6 false ((P.takeM s (P.decMs ms) (P.decPs ps) (P.decDs ys)).map encM),.ex 4 false ((P.decPs ps++[P.pto s (P.decMs ms) (P.decPs ps) (P.decDs ys)]).map encP)]]))
    (.must (P.rdE (P.decMs ms) (P.decPs ps) (P.decDs ys) != 0) (.ret (.tup [encP ⟨0,0,true,[],true,[]⟩,.int .i64 (P.rdE (P.decMs ms) (P.decPs ps) (P.decDs ys))],H)))))
    (fun _ ps=>.must (P.rd0 (P.decPs ps) (P.decDs ys) != 0) (.ret (.tup [encP ⟨0,0,true,[],true,[]⟩,.int .i64 (P.rd0 (P.decPs ps) (P.decDs ys))],H)))))
  | false=>.fail
 | _=>.fail
theorem takeR_ok:∀ a H r,(takeR a H).run=some r→Runs T F 19 a H r:=by
 intro a H x h;unfold takeR at h;split at h
 ·rename_i p x ys
  split at h
  ·rename_i hp
   rw[of_isPtr hp];obtain⟨g1,g⟩:=Tr.must_some h;obtain⟨g2,g'⟩:=Tr.must_some g;clear h g;obtain⟨l,rfl⟩:=isDs_of g1;rw[decDs_enc] at g';simp only[List.length_map,decide_eq_true_eq] at g2;rcases onSr_run g' with ⟨s,ms,ps,rfl,h1,h2,h3,h⟩ | ⟨s,ps,rfl,h1,h2,h⟩
   ·rw[decMs_enc,decPs_enc] at h
    obtain⟨h4,k4⟩:=Tr.must_some h;obtain⟨n,hn,hI⟩:=inv_iff.1 h4;have hq:=take_runs s x ms ps l hI.len h1 h2 g2 (hI.okMs hn) hI.okMb (hI.okEp hn) hI.okMt hI.set.keep;by_cases he:P.rdE ms ps l=0
    ·rw[if_pos he] at hq
     rw[decide_eq_true he] at k4;have hr:=ret_some k4;subst hr;exact hq
    ·rw[if_neg he] at hq
     rw[decide_eq_false he] at k4;obtain⟨_,k5⟩:=Tr.must_some (show (Tr.must _ _).run=some _ from k4);have hr:=ret_some k5;subst hr;exact hq
   ·rw[decPs_enc] at h
    obtain⟨_,k5⟩:=Tr.must_some h;have hr:=ret_some k5;subst hr;exact take0_runs s x ps l h1 h2 g2
  ·cases h
 ·cases h
end Go.Proofs.Ytnijkhcmjpfjeaa
