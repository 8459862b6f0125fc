/- DG: deeds: what is done with a scale;one made. -/
import Derived.Test.YtnijkhcmjpfjeaaDF
import Derived.Test.YtnijkhcmjpfjeaaA6
import Derived.Test.YtnijkhcmjpfjeaaDJ
namespace Go.Proofs.Ytnijkhcmjpfjeaa
open Go Go.Vm
def loS (z:Bool) (l:List Dd) (k:Int):St:=⟨[(0,.sl z (l.map encDd)),(3,.int .i64 k)],[]⟩
namespace P
noncomputable def invB (s:Set4) (x:Sc):Bool:=@decide (InvS s x 40) (Classical.propDecidable _)
def small (l:List Dd):Bool:=decide (l.length≤40)&&l.all fun d=>decide (d.rds.length≤40)
def long (l:List Dd):Bool:=decide (40<l.length) || l.any fun d=>decide (40<d.rds.length)
end P
theorem invB_iff {s:Set4} {x:Sc}:P.invB s x=true↔InvS s x 40:=by
 unfold P.invB;exact @decide_eq_true_iff _ (Classical.propDecidable _)
theorem small_ok {l:List Dd} (h:P.small l=true):l.length≤40∧∀ d∈l,d.rds.length≤40:=by
 unfold P.small at h;simpa using h
theorem run_runs (s:Set4) (x:Sc) (zl:Bool) (l:List Dd) (hs:P.small l=true) (hX:InvS s x 40) :
  Runs T F 44 [.ptr 1 0,.sl zl (l.map encDd)] [bS s,bX x] (.tup [],[bS s,bX (P.run s x l)]):=by
 obtain⟨h1,h2⟩:=small_ok hs;have hq:=run_loop s zl l (by omega) (fun d hd=>by have:=h2 d hd;omega) l.length 0 40 x (by omega) hX (by omega)
 rw[List.drop_zero] at hq;have hz:(P.run s x l).z=true→x.z=true:=by
  have:∀ (l:List Dd) (x:Sc),(P.run s x l).z=true→x.z=true:=by
   intro l
   induction l with
   | nil=>intro x h;exact h
   | cons d l ih =>
    intro x h;have h:=ih _ (show (P.run s (P.deed s x d) l).z=true from h);unfold P.deed at h;split at h
    ·split at h<;>exact h
    ·split at h
     ·simp only[Bool.and_eq_true] at h;exact h.1
     ·split at h<;>exact h
  exact this l x
 generalize P.run s x l=y at *;obtain⟨z,ms,ps⟩:=x;obtain⟨z2,ms2,ps2⟩:=y;cases z with
 | false =>
  cases z2 with
  | true=>have:=hz rfl;cases this
  | false =>
   refine wayE U28_ok (fi:=fi44) (by kernel_rfl) (LGood.one (b:=lb fi44 0) (k:=1) (σ0:=rnS s (bD ms ps) zl l 0) (by kernel_rfl) (by exact hq)) [(is {env:=[(0,V.ptr 1 0),(1,V.sl (zl) (List.map encDd l)),(4,.int .i64 0)],heap:=[bS s,bD ms ps]} {env:=[(0,V.ptr 1 0),(1,V.sl (zl) (List.map encDd l)),(4,.int .i64 0)],heap:=[bS s,bD ms ps]},true)] [2] (V.tup [],[bS s,bD ms2 ps2]) (by kernel_rfl) ?_ rfl
   exact⟨is_eq rfl,trivial⟩
 | true =>
  cases z2 with
  | true =>
   refine wayE U28_ok (fi:=fi44) (by kernel_rfl) (LGood.one (b:=lb fi44 0) (k:=1) (σ0:=rnS s (bE ps) zl l 0) (by kernel_rfl) (by exact hq)) [(is {env:=[(0,V.ptr 1 0),(1,V.sl (zl) (List.map encDd l)),(4,.int .i64 0)],heap:=[bS s,bE ps]} {env:=[(0,V.ptr 1 0),(1,V.sl (zl) (List.map encDd l)),(4,.int .i64 0)],heap:=[bS s,bE ps]},true)] [2] (V.tup [],[bS s,bE ps2]) (by kernel_rfl) ?_ rfl
   exact⟨is_eq rfl,trivial⟩
  | false =>
   refine wayE U28_ok (fi:=fi44) (by kernel_rfl) (LGood.one (b:=lb fi44 0) (k:=1) (σ0:=rnS s (bE ps) zl l 0) (by kernel_rfl) (by exact hq)) [(is {env:=[(0,V.ptr 1 0),(1,V.sl (zl) (List.map encDd l)),(4,.int .i64 0)],heap:=[bS s,bE ps]} {env:=[(0,V.ptr 1 0),(1,V.sl (zl) (List.map encDd l)),(4,.int .i64 0)],heap:=[bS s,bE ps]},true)] [2] (V.tup [],[bS s,bD ms2 ps2]) (by kernel_rfl) ?_ rfl
   exact⟨is_eq rfl,trivial⟩
def decDd (v:V):Dd:=match v with
 | .agg [a,b,c,d,e,m]=>⟨intOf a,intOf b,intOf c,intOf d,intOf e,nilOf m,P.decDs (listOf m)⟩
 | _=>⟨0,0,0,0,0,false,[]⟩
theorem decDd_enc (d:Dd):decDd (encDd d)=d:=by
 simp only[encDd,decDd,intOf,nilOf,listOf,decDs_enc]
namespace P
def decDds (xs:List V):List Dd:=xs.map decDd
end P
theorem decDds_enc (l:List Dd):P.decDds (l.map encDd)=l:=by
 induction l with
 | nil=>rfl
 | cons m ms ih=>simp only[P.decDds,List.map_cons,List.cons.injEq] at ih ⊢;exact⟨decDd_enc m,ih⟩
noncomputable def isDds (xs:List V):Bool:=eqB xs ((P.decDds xs).map encDd)
theorem isDds_enc (l:List Dd):isDds (l.map encDd)=true:=by unfold isDds;rw[decDds_enc];exact eqB_self _
theorem isDds_of {xs:List V} (h:isDds xs=true):∃ l:List Dd,xs=l.map encDd:=⟨_,of_eqB h⟩
noncomputable def runS:List V→Heap→Tr (V×Heap):=fun a H=>match a with
 | [p,.sl _ xs]=>match isPtr 1 p with
  | true=>.must (isDds xs) (.must (P.small (P.decDds xs)) (onSc H
    (fun s ms ps=>.must (P.invB s ⟨false,ms,ps⟩) (.must (!(P.run s ⟨false,ms,ps⟩ (P.decDds xs)).z) (.ret (.tup [],[bS s,bD (P.run s ⟨false,ms,ps⟩ (P.decDds xs)).ms (P.run s ⟨false,ms,ps⟩ (P.decDds xs)).ps]))))
    (fun s ps=>.must (P.invB s ⟨true,[],ps⟩) (.ask (P.run s ⟨true,[],ps⟩ (P.decDds xs)).z (.ret (.tup [],[bS s,bE (P.run s ⟨true,[],ps⟩ (P.decDds xs)).ps])) (.ret (.tup [],[bS s,bD (P.run s ⟨true,[],ps⟩ (P.decDds xs)).ms (P.run s ⟨true,[],ps⟩ (P.decDds xs)).ps]))))))
  | false=>.fail
 | _=>.fail
theorem runS_ok:∀ a H r,(runS a H).run=some r→Runs T F 44 a H r:=by
 intro a H x h;unfold runS at h;split at h
 ·rename_i p zl xs
  split at h
  ·rename_i hp
   rw[of_isPtr hp];obtain⟨g1,g⟩:=Tr.must_some h;obtain⟨g2,g'⟩:=Tr.must_some g;clear h g;obtain⟨l,rfl⟩:=isDds_of g1;rw[decDds_enc] at g' g2;rcases onSc_run g' with ⟨s,ms,ps,rfl,h1,h2,h3,h⟩ | ⟨s,ps,rfl,h1,h2,h⟩
   ·obtain⟨h4,k1⟩:=Tr.must_some h
    obtain⟨h5,k2⟩:=Tr.must_some k1;have hr:=ret_some k2;subst hr;have hq:=run_runs s ⟨false,ms,ps⟩ zl l g2 (invB_iff.1 h4);simp only[Bool.not_eq_true'] at h5;generalize P.run s ⟨false,ms,ps⟩ l=y at *;obtain⟨z2,ms2,ps2⟩:=y;simp only at h5;subst h5;exact hq
   ·obtain⟨h4,k1⟩:=Tr.must_some h
    have hq:=run_runs s ⟨true,[],ps⟩ zl l g2 (invB_iff.1 h4);generalize P.run s ⟨true,[],ps⟩ l=y at *;obtain⟨z2,ms2,ps2⟩:=y;cases z2 with
    | true=>have hr:=ret_some k1;subst hr;exact hq
    | false=>have hr:=ret_some k1;subst hr;exact hq
  ·cases h
 ·cases h
noncomputable def U44:Vm.Spec:=U28.add 44 runS
theorem U44_ok:Vm.Good (vlim T F) U44:=U28_ok.add runS_ok
theorem lo_loop (z:Bool) (l:List Dd) (hl:l.length<2 ^ 40):∀ (d k:Nat),k+d=l.length→LRuns (vstep T (vlim T F) lplim fi16.cx 0 (lb fi16 0)) (loS z l k)
  (if (l.drop k).any (fun d=>decide (40<d.rds.length)) then (.ret,⟨[(2,.bool true)],[]⟩) else (.exit 0,⟨(loS z l l.length).env++[(10,.bool false)],[]⟩))
 | 0,k,hd=>by
  have hk:k=l.length:=by omega
  subst hk;rw[List.drop_length,if_neg (by simp)]
  refine lastE U28_ok noL [(decide ((↑(l.length):Int)<(↑(List.map encDd l).length:Int)),false)] [2] (Ex.exit 0,{env:=[(0,V.sl z (List.map encDd l)),(3,.int .i64 (↑(l.length):Int)),(10,V.bool (decide ((↑(l.length):Int)<(↑(List.map encDd l).length:Int))))],heap:=[]}) (by kernel_rfl) (by simp) ⟨by simp,trivial⟩ (by simp[loS])
 | d+1,k,hd=>by
  have hk:k<l.length:=by omega
  have hwi:IntKind.i64.wrap ((k:Int)+1)=((k+1:Nat):Int):=by rw[i64in (by omega) (by omega)];rfl
  have hdr:Fd.dr l k=l[k].rds.map encD:=by unfold Fd.dr;rw[dd_at l k hk];rfl
  rw[List.drop_eq_getElem_cons hk,List.any_cons];by_cases hb:40<l[k].rds.length
  ·rw[if_pos (by simp[hb])]
   refine lastE U28_ok noL [(decide ((↑k:Int)<(↑(List.map encDd l).length:Int)),true),(((List.map encDd l).getD k V.undef).cells.length==6&&fitP [.int .i64,.int .i64,.int .i64,.int .i64,.int .i64,TK.slice 64] 0 ((List.map encDd l).getD k V.undef),true),(decide ((↑(Fd.dr l k).length:Int)>40),true)] [2,0,2,3,4] (Ex.ret,{env:=[(2,V.bool true)],heap:=[]}) (by kernel_rfl) (by simp) ⟨by simp;omega,by (rw[dd_at l k hk];rfl),by (rw[hdr];simp;omega),trivial⟩ rfl
  ·rw[decide_eq_false hb,Bool.false_or]
   refine nextE U28_ok noL [(decide ((↑k:Int)<(↑(List.map encDd l).length:Int)),true),(((List.map encDd l).getD k V.undef).cells.length==6&&fitP [.int .i64,.int .i64,.int .i64,.int .i64,.int .i64,TK.slice 64] 0 ((List.map encDd l).getD k V.undef),true),(decide ((↑(Fd.dr l k).length:Int)>40),false)] [2,0,2,3,4] {env:=[(0,V.sl z (List.map encDd l)),(3,.int .i64 (IntKind.i64.wrap ((↑k:Int)+1)))],heap:=[]} (by kernel_rfl) ⟨by simp;omega,by (rw[dd_at l k hk];rfl),by (rw[hdr];simp;omega),trivial⟩ (by rw[hwi];rfl) (lo_loop z l hl d (k+1) (by omega))
theorem long_runs (z:Bool) (l:List Dd):Runs T F 16 [.sl z (l.map encDd)] [] (.bool (P.long l),[]):=by
 unfold P.long;by_cases hb:40<l.length
 ·rw[decide_eq_true hb,Bool.true_or]
  exact wayE U28_ok (fi:=fi16) (by kernel_rfl) noL [(decide ((↑(List.map encDd l).length:Int)>40),true)] [2] (V.bool true,[]) (by kernel_rfl) ⟨by simp;omega,trivial⟩ rfl
 ·rw[decide_eq_false hb,Bool.false_or]
  have hq:=lo_loop z l (by omega) l.length 0 (by omega)
  rw[List.drop_zero] at hq;cases hx:l.any (fun d=>decide (40<d.rds.length)) with
  | true =>
   rw[hx,if_pos rfl] at hq;refine wayE U28_ok (fi:=fi16) (by kernel_rfl) (LGood.one (b:=lb fi16 0) (k:=4) (σ0:=loS z l 0) (by kernel_rfl) (by exact hq)) [(decide ((↑(List.map encDd l).length:Int)>40),false),(is {env:=[(0,V.sl z (List.map encDd l)),(3,.int .i64 0)],heap:=[]} {env:=[(0,V.sl z (List.map encDd l)),(3,.int .i64 0)],heap:=[]},true)] [2,3] (V.bool true,[]) (by kernel_rfl) ⟨by simp;omega,is_eq rfl,trivial⟩ rfl
  | false =>
   rw[hx,if_neg (by simp)] at hq
   refine wayE U28_ok (fi:=fi16) (by kernel_rfl) (LGood.one (b:=lb fi16 0) (k:=4) (σ0:=loS z l 0) (by kernel_rfl) (by exact hq)) [(decide ((↑(List.map encDd l).length:Int)>40),false),(is {env:=[(0,V.sl z (List.map encDd l)),(3,.int .i64 0)],heap:=[]} {env:=[(0,V.sl z (List.map encDd l)),(3,.int .i64 0)],heap:=[]},true)] [2,3] (V.bool false,[]) (by kernel_rfl) ⟨by simp;omega,is_eq rfl,trivial⟩ rfl
noncomputable def longS:List V→Heap→Tr (V×Heap):=fun a H=>match a,H with
 | [.sl _ xs],[]=>.must (isDds xs) (.ret (.bool (P.long (P.decDds xs)),[]))
 | _,_=>.fail
theorem longS_ok:∀ a H r,(longS a H).run=some r→Runs T F 16 a H r:=by
 intro a H r h;unfold longS at h;split at h
 ·rename_i z xs
  obtain⟨g1,g⟩:=Tr.must_some h;obtain⟨l,rfl⟩:=isDds_of g1;rw[decDds_enc] at g;have hr:=ret_some g;subst hr;exact long_runs z l
 ·cases h
noncomputable def U16:Vm.Spec:=U44.add 16 longS
theorem U16_ok:Vm.Good (vlim T F) U16:=U44_ok.add longS_ok
namespace P
def mkd (s:Set4) (u:Int) (l:List Dd):Sc:=run s ⟨true,[],[⟨0,u,true,[],true,[]⟩]⟩ l
end P
theorem mkd_inv {s:Set4} {u:Int} {l:List Dd} (h:P.nwE s.cap s.gate s.wait s.keep u=0) (hs:P.small l=true):InvS s (P.mkd s u l) 80:=by
 have h0:InvS s ⟨true,[],[⟨0,u,true,[],true,[]⟩]⟩ 0:=⟨Inv.new h,fun _=>rfl⟩
 have h1:=h0.run (l:=l);have:=(small_ok hs).1
 have hm:∀ (d n:Nat) (x:Sc),InvS s x n→InvS s x (n+d):=by
  intro d
  induction d with
  | zero=>intro n x h;exact h
  | succ d ih=>intro n x h;exact⟨(ih n x h).inv.more,h.nil⟩
 have h2:=hm (80-l.length) _ _ h1;rw[show 0+l.length+(80-l.length)=80 by omega] at h2
 exact h2
theorem new_inv {a b c d u:Int} (h:P.nwE a b c d u=0):InvS ⟨a,b,c,d⟩ ⟨true,[],[⟨0,u,true,[],true,[]⟩]⟩ 40:=by
 have hm:∀ (k:Nat),Inv ⟨a,b,c,d⟩ [] [⟨0,u,true,[],true,[]⟩] k:=by
  intro k
  induction k with
  | zero=>exact Inv.new h
  | succ k ih=>exact ih.more
 exact⟨hm 40,fun _=>rfl⟩
def bA (x:Sc):B:=match x.z with
 | true=>.cells [.ptr 1 0,.sl true [],.ex 4 false (x.ps.map encP)]
 | false=>.cells [.ptr 1 0,.ex 6 false (x.ms.map encM),.ex 4 false (x.ps.map encP)]
theorem made_runs (s:Set4) (u:Int) (zl:Bool) (l:List Dd) (hs:P.small l=true) :
  Runs T F 17 [.agg (encS4 s),.int .i64 u,.sl zl (l.map encDd)] [] (if P.nwE s.cap s.gate s.wait s.keep u=0 then (.ptr 2 0,[bS s,bS s,bA (P.mkd s u l)]) else (.nilp,[])):=by
 obtain⟨a,b,c,d⟩:=s;simp only;by_cases h0:P.nwE a b c d u=0
 ·rw[if_pos h0]
  have hd:P.decPs [V.agg [.int .i64 0,.int .i64 u,V.sl true [],V.sl true []]]=[⟨0,u,true,[],true,[]⟩]:=rfl;have he:eqB [V.agg [.int .i64 0,.int .i64 u,V.sl true [],V.sl true []]] (List.map encP (P.decPs [V.agg [.int .i64 0,.int .i64 u,V.sl true [],V.sl true []]]))=true:=eqB_eq (by rw[hd];rfl)
  have hi:=invB_iff.2 (new_inv h0);have hm:P.run ⟨a,b,c,d⟩ ⟨true,[],P.decPs [V.agg [.int .i64 0,.int .i64 u,V.sl true [],V.sl true []]]⟩ (P.decDds (List.map encDd l))=P.mkd ⟨a,b,c,d⟩ u l:=by rw[decDds_enc,hd];rfl
  cases hz:(P.mkd ⟨a,b,c,d⟩ u l).z with
  | true =>
   refine wayE U16_ok (fi:=fi17) (by kernel_rfl) noL [(decide (P.nwE a b c d u=0),true),(eqB (List.map encDd l) (List.map encDd (P.decDds (List.map encDd l))),true),(P.small (P.decDds (List.map encDd l)),true),(eqB [V.int IntKind.i64 a,.int .i64 b,.int .i64 c,.int .i64 d] [.int .i64 a,.int .i64 b,.int .i64 c,.int .i64 d],true),(eqB [V.agg [.int .i64 0,.int .i64 u,V.sl true [],V.sl true []]] (List.map encP (P.decPs [V.agg [.int .i64 0,.int .i64 u,V.sl true [],V.sl true []]])),true),(P.invB {cap:=a,gate:=b,wait:=c,keep:=d} {z:=true,ms:=[],ps:=P.decPs [V.agg [.int .i64 0,.int .i64 u,V.sl true [],V.sl true []]]},true),((P.run {cap:=a,gate:=b,wait:=c,keep:=d} {z:=true,ms:=[],ps:=P.decPs [V.agg [.int .i64 0,.int .i64 u,V.sl true [],V.sl true []]]} (P.decDds (List.map encDd l))).1,true)] [2,1,0,1,3,4,5,6,0,0,7,8,0,1] (V.ptr 2 0,[B.cells [.int .i64 a,.int .i64 b,.int .i64 c,.int .i64 d],B.cells [.int .i64 a,.int .i64 b,.int .i64 c,.int .i64 d],B.cells [V.ptr 1 0,V.sl true [],V.ex 4 false (List.map encP (P.run {cap:=a,gate:=b,wait:=c,keep:=d} {z:=true,ms:=[],ps:=P.decPs [V.agg [.int .i64 0,.int .i64 u,V.sl true [],V.sl true []]]} (P.decDds (List.map encDd l))).3)]]) (by kernel_rfl) ⟨decide_eq_true h0,isDds_enc _,by (rw[decDds_enc];exact hs),eqB_self _,he,by (rw[hd];exact hi),by (rw[hm];exact hz),trivial⟩ (by rw[hm,bA,hz];rfl)
  | false =>
   refine wayE U16_ok (fi:=fi17) (by kernel_rfl) noL [(decide (P.nwE a b c d u=0),true),(eqB (List.map encDd l) (List.map encDd (P.decDds (List.map encDd l))),true),(P.small (P.decDds (List.map encDd l)),true),(eqB [V.int IntKind.i64 a,.int .i64 b,.int .i64 c,.int .i64 d] [.int .i64 a,.int .i64 b,.int .i64 c,.int .i64 d],true),(eqB [V.agg [.int .i64 0,.int .i64 u,V.sl true [],V.sl true []]] (List.map encP (P.decPs [V.agg [.int .i64 0,.int .i64 u,V.sl true [],V.sl true []]])),true),(P.invB {cap:=a,gate:=b,wait:=c,keep:=d} {z:=true,ms:=[],ps:=P.decPs [V.agg [.int .i64 0,.int .i64 u,V.sl true [],V.sl true []]]},true),((P.run {cap:=a,gate:=b,wait:=c,keep:=d} {z:=true,ms:=[],ps:=P.decPs [V.agg [.int .i64 0,.int .i64 u,V.sl true [],V.sl true []]]} (P.decDds (List.map encDd l))).1,false)] [2,1,0,1,3,4,5,6,0,0,7,8,0,1] (V.ptr 2 0,[B.cells [.int .i64 a,.int .i64 b,.int .i64 c,.int .i64 d],B.cells [.int .i64 a,.int .i64 b,.int .i64 c,.int .i64 d],B.cells [V.ptr 1 0,V.ex 6 false (List.map encM (P.run {cap:=a,gate:=b,wait:=c,keep:=d} {z:=true,ms:=[],ps:=P.decPs [V.agg [.int .i64 0,.int .i64 u,V.sl true [],V.sl true []]]} (P.decDds (List.map encDd l))).2),V.ex 4 false (List.map encP (P.run {cap:=a,gate:=b,wait:=c,keep:=d} {z:=true,ms:=[],ps:=P.decPs [V.agg [.int .i64 0,.int .i64 u,V.sl true [],V.sl true []]]} (P.decDds (List.map encDd l))).3)]]) (by kernel_rfl) ⟨decide_eq_true h0,isDds_enc _,by (rw[decDds_enc];exact hs),eqB_self _,he,by (rw[hd];exact hi),by (rw[hm];exact hz),trivial⟩ (by rw[hm,bA,hz];rfl)
 ·rw[if_neg h0]
  exact wayE U16_ok (fi:=fi17) (by kernel_rfl) noL [(decide (P.nwE a b c d u=0),false),(P.nwE a b c d u != 0,true)] [2,3] (V.nilp,[]) (by kernel_rfl) ⟨decide_eq_false h0,by simpa using h0,trivial⟩ rfl
noncomputable def madeS:List V→Heap→Tr (V×Heap):=fun a H=>match a,H with
 | [.agg cs,.int .i64 u,.sl _ xs],[]=>.must (eqB cs (encS4 (decS cs))) (.must (isDds xs) (.must (P.small (P.decDds xs)) (.ask (decide (P.nwE (decS cs).cap (decS cs).gate (decS cs).wait (decS cs).keep u=0))
   (.ask (P.mkd (decS cs) u (P.decDds xs)).z (.ret (.ptr 2 0,[bS (decS cs),bS (decS cs),.cells [.ptr 1 0,.sl true [],.ex 4 false ((P.mkd (decS cs) u (P.decDds xs)).ps.map encP)]]))
    (.ret (.ptr 2 0,[bS (decS cs),bS (decS cs),.cells [.ptr 1 0,.ex 6 false ((P.mkd (decS cs) u (P.decDds xs)).ms.map encM),.ex 4 false ((P.mkd (decS cs) u (P.decDds xs)).ps.map encP)]])))
   (.ret (.nilp,[])))))
 | _,_=>.fail
theorem madeS_ok:∀ a H r,(madeS a H).run=some r→Runs T F 17 a H r:=by
 intro a H r h;unfold madeS at h;split at h
 ·rename_i cs u zl xs
  obtain⟨h1,g1⟩:=Tr.must_some h;obtain⟨h2,g2⟩:=Tr.must_some g1;obtain⟨h3,g3⟩:=Tr.must_some g2;clear h g1 g2;have h1:=of_eqB h1;generalize decS cs=s at *;subst h1;obtain⟨l,rfl⟩:=isDds_of h2;rw[decDds_enc] at h3 g3;have hq:=made_runs s u zl l h3;by_cases h0:P.nwE s.cap s.gate s.wait s.keep u=0
  ·rw[if_pos h0] at hq
   rw[decide_eq_true h0] at g3;unfold bA at hq;cases hz:(P.mkd s u l).z with
   | true =>
    rw[hz] at hq g3;have hr:=ret_some g3;subst hr;exact hq
   | false =>
    rw[hz] at hq g3;have hr:=ret_some g3;subst hr;exact hq
  ·rw[if_neg h0] at hq
   rw[decide_eq_false h0] at g3;have hr:=ret_some g3;subst hr;exact hq
 ·cases h
noncomputable def awakeS:List V→Heap→Tr (V×Heap):=fun a H=>match a,H with
 | [],[]=>.ret (.bool true,[])
 | _,_=>.fail
theorem awakeS_ok:∀ a H r,(awakeS a H).run=some r→Runs T F 9 a H r:=by
 intro a H r h;unfold awakeS at h;split at h
 ·have hr:=ret_some h;clear h;subst hr;exact⟨60,awake_v⟩
 ·cases h
namespace P
end P
noncomputable def exqS:List V→Heap→Tr (V×Heap):=fun a H=>match a with
 | [p,.sl _ ys]=>match isPtr 1 p with
  | true=>.must (isDs ys) (.must (decide (ys.length<2 ^ 40)) (onSc H (fun s ms ps=>.must (decide (ms.length≤16)) (.must (okMs ms) (.must (okMb ms) (.must (okEp s ps) (.ask (decide (P.rdE ms ps (P.decDs ys)=0))
    (.ret (.tup [.agg [.int .i64 (P.pto s ms ps (P.decDs ys)).ep,.int .i64 (P.pto s ms ps (P.decDs ys)).u,.sl false ((P.pto s ms ps (P.decDs ys)).ids.map encI),.sl false ((P.pto s ms ps (P.decDs ys)).ws.map encI)],.int .i64 0],[bS s,bD ms ps]))
    (.must (P.rdE ms ps (P.decDs ys) != 0) (.ret (.tup [encP ⟨0,0,true,[],true,[]⟩,.int .i64 (P.rdE ms ps (P.decDs ys))],[bS s,bD ms ps]))))))))
    (fun s ps=>.must (P.rd0 ps (P.decDs ys) != 0) (.ret (.tup [encP ⟨0,0,true,[],true,[]⟩,.int .i64 (P.rd0 ps (P.decDs ys))],[bS s,bE ps])))))
  | false=>.fail
 | _=>.fail
theorem exqS_ok:∀ a H r,(exqS a H).run=some r→Runs T F 26 a H r:=by
 intro a H x h;unfold exqS at h;split at h
 ·rename_i p x ys
  split at h
  ·rename_i hp
   rw[of_isPtr hp];obtain⟨g1,g⟩:=Tr.must_some h;obtain⟨g2,g'⟩:=Tr.must_some g;clear h g;obtain⟨l,rfl⟩:=isDs_of g1;rw[decDs_enc] at g';simp only[List.length_map,decide_eq_true_eq] at g2;rcases onSc_run g' with ⟨s,ms,ps,rfl,h1,h2,h3,h⟩ | ⟨s,ps,rfl,h1,h2,h⟩
   ·obtain⟨h4,k1⟩:=Tr.must_some h
    obtain⟨h5,k2⟩:=Tr.must_some k1;obtain⟨h6,k3⟩:=Tr.must_some k2;obtain⟨h7,k4⟩:=Tr.must_some k3;have hq:=ex_runs s x ms ps l (by simpa using h4) h1 h2 g2 h5 h6 h7
    unfold exP at hq;by_cases he:P.rdE ms ps l=0
    ·rw[if_pos he,he] at hq
     rw[decide_eq_true he] at k4;have hr:=ret_some k4;subst hr;exact hq
    ·rw[if_neg he] at hq
     rw[decide_eq_false he] at k4;obtain⟨_,k5⟩:=Tr.must_some (show (Tr.must _ _).run=some _ from k4);have hr:=ret_some k5;subst hr;exact hq
   ·obtain⟨_,k5⟩:=Tr.must_some h
    have hr:=ret_some k5;subst hr;exact ex0_runs s x ps l h1 h2 g2
  ·cases h
 ·cases h
noncomputable def U17:Vm.Spec:=((U16.add 17 madeS).add 9 awakeS).add 26 exqS
theorem U17_ok:Vm.Good (vlim T F) U17:=((U16_ok.add madeS_ok).add awakeS_ok).add exqS_ok
end Go.Proofs.Ytnijkhcmjpfjeaa
