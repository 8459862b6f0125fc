/- S7: the reference apportions: the loops. -/
import Derived.Test.YtnijkhcmjpfjeaaS6
import Derived.Test.YtnijkhcmjpfjeaaSL
namespace Go.Proofs.Ytnijkhcmjpfjeaa
open Go Go.Vm
def rSt (n z:Bool) (l:List Int) (f:List Bool) (m t s i:Int):St:=⟨[(0,V.sl n (List.map encI l)),(1,V.sl z (List.map encB f)),(3,.int .i64 m),(10,.int .i64 t),(11,.int .i64 s),(12,.int .i64 i)],[]⟩
theorem re_loop (n z:Bool) (l:List Int) (f:List Bool) (m:Int) (hl:l.length≤16) (hp:pwP l) (hf:f.length=l.length) (hm:0≤m∧m≤1000000):∀ (d i:Nat) (t s:Int),i+d=l.length→-1000000*(i:Int)≤t→t≤1000000→0≤s→s≤100000000000*(i:Int) →
  LRuns (vstep T (vlim T F) lplim fi43.cx 0 (lb fi43 0)) (rSt n z l f m t s i) (.exit 0,⟨(rSt n z l f m (t-m*P.cnt (f.drop i)) (s+P.sml (l.drop i) (f.drop i)) l.length).env++[(17,.bool false)],[]⟩)
 | 0,i,t,s,hd,h1,h2,h3,h4=>by
  have hi:i=l.length:=by omega
  subst hi;rw[List.drop_length,←hf,List.drop_length,hf];simp only[P.cnt,P.sml,Int.mul_zero,Int.sub_zero,Int.add_zero];refine lastE Y11_ok noL [(decide ((↑(l.length):Int)<(↑(List.map encI l).length:Int)),false)] [2] (Ex.exit 0,{env:=[(0,V.sl n (List.map encI l)),(1,V.sl z (List.map encB f)),(3,.int .i64 m),(10,.int .i64 t),(11,.int .i64 s),(12,.int .i64 (↑(l.length):Int)),(17,V.bool (decide ((↑(l.length):Int)<(↑(List.map encI l).length:Int))))],heap:=[]}) (by kernel_rfl) (by simp) ⟨by simp,trivial⟩ (by simp[rSt])
 | d+1,i,t,s,hd,h1,h2,h3,h4=>by
  have hk:i<l.length:=by omega
  have hi:i<f.length:=by omega
  have hwi:IntKind.i64.wrap ((i:Int)+1)=((i+1:Nat):Int):=by rw[i64in (by omega) (by omega)];rfl
  have hg:Fd.it l i=l[i]:=it_at l i hk;have hfa:=fa_at f i hi;have hpi:=hp l[i] (List.getElem_mem hk);rw[List.drop_eq_getElem_cons hk,List.drop_eq_getElem_cons hi];by_cases hb:f[i]=true
  ·have hwt:IntKind.i64.wrap (t-m)=t-m:=i64in (by omega) (by omega)
   refine nextE Y11_ok noL [(decide ((↑i:Int)<(↑(List.map encI l).length:Int)),true),(decide ((↑i:Int)<(↑(List.map encB f).length:Int)),true),(((List.map encB f).getD i V.undef).cells.length==1&&fitP [TK.bool] 0 ((List.map encB f).getD i V.undef),true),(Fd.fa f i,true)] [2,0,3,4,5] {env:=[(0,V.sl n (List.map encI l)),(1,V.sl z (List.map encB f)),(3,.int .i64 m),(10,.int .i64 (IntKind.i64.wrap (t-m))),(11,.int .i64 s),(12,.int .i64 (IntKind.i64.wrap ((↑i:Int)+1)))],heap:=[]} (by kernel_rfl) ?_ (by rw[hwt,hwi];rfl) (?_:LRuns _ (rSt n z l f m (t-m) s (i+1:Nat)) _)
   ·refine⟨?_,?_,?_,?_,trivial⟩
    all_goals first|exact fitI _ _ (by omega)|exact fitB _ _ (by omega)|(simp only[hfa,hb];done)|(simp;done)|(simp;omega)|done
   ·have ih:=re_loop n z l f m hl hp hf hm d (i+1) (t-m) s (by omega) (by omega) (by omega) h3 (by omega)
    simp only[P.cnt,P.sml,hb,if_true,Int.mul_add,Int.mul_one,Int.zero_add];rw[←Int.sub_sub];exact ih
  ·have hb:f[i]=false:=by simpa using hb
   have hws:IntKind.i64.wrap (s+l[i])=s+l[i]:=i64in (by omega) (by omega)
   refine nextE Y11_ok noL [(decide ((↑i:Int)<(↑(List.map encI l).length:Int)),true),(decide ((↑i:Int)<(↑(List.map encB f).length:Int)),true),(((List.map encB f).getD i V.undef).cells.length==1&&fitP [TK.bool] 0 ((List.map encB f).getD i V.undef),true),(Fd.fa f i,false),(decide ((↑i:Int)<(↑(List.map encI l).length:Int)),true),(((List.map encI l).getD i V.undef).cells.length==1&&fitP [.int .i64] 0 ((List.map encI l).getD i V.undef),true)] [2,0,3,4,5,0,6,7] {env:=[(0,V.sl n (List.map encI l)),(1,V.sl z (List.map encB f)),(3,.int .i64 m),(10,.int .i64 t),(11,.int .i64 (IntKind.i64.wrap (s+Fd.it l i))),(12,.int .i64 (IntKind.i64.wrap ((↑i:Int)+1)))],heap:=[]} (by kernel_rfl) ?_ (by rw[hg,hws,hwi];rfl) (?_:LRuns _ (rSt n z l f m t (s+l[i]) (i+1:Nat)) _)
   ·refine⟨?_,?_,?_,?_,?_,?_,trivial⟩
    all_goals first|exact fitI _ _ (by omega)|exact fitB _ _ (by omega)|(simp only[hfa,hb];done)|(simp;done)|(simp;omega)|done
   ·have ih:=re_loop n z l f m hl hp hf hm d (i+1) t (s+l[i]) (by omega) (by omega) (by omega) (by omega) (by omega)
    simp only[P.cnt,P.sml,hb,Bool.false_eq_true,if_false,Int.zero_add];rw[←Int.add_assoc];exact ih
def isB:V→Bool
 | .bool _=>true
 | _=>false
theorem isB_all:∀ {xs:List V},xs.all isB=true→xs=(xs.map boolOf).map encB
 | [],_=>rfl
 | x::xs,h=>by
  simp only[List.all_cons,Bool.and_eq_true] at h;obtain⟨h1,h2⟩:=h;simp only[List.map_cons];rw[←isB_all h2]
  congr 1
  unfold isB at h1;split at h1
  ·rfl
  ·cases h1
theorem isB_enc (l:List Bool):(l.map encB).all isB=true:=by simp[encB,isB]
theorem bools_enc (l:List Bool):(l.map encB).map boolOf=l:=by simp[encB,Function.comp_def,boolOf]
def restS:List V→Heap→Tr (V×Heap):=fun a H=>match a,H with
 | [.sl _ xs,.sl _ ys,.int .i64 t,.int .i64 m],[]=>.must (xs.all isI) (.must (ys.all isB) (.must (decide (ys.length=xs.length∧xs.length≤16)) (.must (P.pw (xs.map intOf)) (.must (decide (0≤m∧m≤1000000∧0≤t∧t≤1000000))
  (.ret (.tup [.int .i64 (t-m*P.cnt (ys.map boolOf)),.int .i64 (P.sml (xs.map intOf) (ys.map boolOf))],[]))))))
 | _,_=>.fail
theorem restS_ok:∀ a H r,(restS a H).run=some r→Runs T F 43 a H r:=by
 intro a H r h;unfold restS at h;split at h
 ·rename_i n xs z ys t m
  obtain⟨h1,h⟩:=Tr.must_some h;obtain⟨h2,h⟩:=Tr.must_some h;obtain⟨h3,h⟩:=Tr.must_some h;obtain⟨h4,h⟩:=Tr.must_some h;obtain⟨h5,h⟩:=Tr.must_some h;have hr:=ret_some h;clear h;subst hr;simp only[decide_eq_true_eq] at h3 h5;have hx:=isI_all h1;have hy:=isB_all h2;have e1:xs.length=(xs.map intOf).length:=by simp
  have e2:ys.length=(ys.map boolOf).length:=by simp
  rw[e1,e2] at h3;clear e1 e2;generalize xs.map intOf=l at *;generalize ys.map boolOf=f at *;subst hx;subst hy;have hq:=re_loop n z l f m h3.2 (pw_iff.1 h4) h3.1 ⟨h5.1,h5.2.1⟩ l.length 0 t 0 (by omega) (by omega) (by omega) (by omega) (by omega)
  simp only[List.drop_zero,Int.zero_add] at hq;generalize t-m*P.cnt f=t2 at *;generalize P.sml l f=s2 at *;refine wayE Y11_ok (fi:=fi43) (by kernel_rfl) (LGood.one (b:=lb fi43 0) (k:=3) (σ0:=rSt n z l f m t 0 0) (by kernel_rfl) (by exact hq)) [(is {env:=[(0,V.sl n (List.map encI l)),(1,V.sl z (List.map encB f)),(3,.int .i64 m),(10,.int .i64 t),(11,.int .i64 0),(12,.int .i64 0)],heap:=[]} {env:=[(0,V.sl n (List.map encI l)),(1,V.sl z (List.map encB f)),(3,.int .i64 m),(10,.int .i64 t),(11,.int .i64 0),(12,.int .i64 0)],heap:=[]},true)] [2] (V.tup [.int .i64 t2,.int .i64 s2],[]) (by kernel_rfl) ⟨is_eq (by simp[rSt]),trivial⟩ rfl
 ·cases h
noncomputable def Y43:Vm.Spec:=Y11.add 43 restS
theorem Y43_ok:Vm.Good (vlim T F) Y43:=Y11_ok.add restS_ok
end Go.Proofs.Ytnijkhcmjpfjeaa
