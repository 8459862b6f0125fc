/- S1: powers that are allowed;lists compared and copied;setups. -/
import Derived.Test.YtnijkhcmjpfjeaaS0
namespace Go.Proofs.Ytnijkhcmjpfjeaa
open Go Go.Vm
namespace P
def bd:List Int→Int→Int
 | [],_=>-1
 | x::l,k=>if 1≤x∧x≤100000000000 then bd l (k+1) else k
def pw (l:List Int):Bool:=l.all fun x=>decide (1≤x)&&decide (x≤100000000000)
def st (a b c d:Int):Int:=if 1≤a∧a≤1000000∧1≤b∧b≤100000000000∧0≤c∧c≤100∧1≤d∧d≤30 then 0 else 6
end P
theorem bd_cons (x:Int) (l:List Int) (k:Int):P.bd (x::l) k=if 1≤x∧x≤100000000000 then P.bd l (k+1) else k:=rfl
theorem bd_neg:∀ (l:List Int) (k:Int),0≤k→P.bd l k<0→P.bd l k=-1
 | [],k,_,_=>rfl
 | x::l,k,h,h1=>by
  rw[bd_cons] at h1 ⊢;by_cases hx:1≤x∧x≤100000000000
  ·rw[if_pos hx] at h1 ⊢;exact bd_neg l (k+1) (by omega) h1
  ·rw[if_neg hx] at h1;omega
theorem bd_pw:∀ (l:List Int) (k:Int),0≤k→(decide (P.bd l k≥0)=!P.pw l)
 | [],k,_=>by simp[P.bd,P.pw]
 | x::l,k,h=>by
  have ih:=bd_pw l (k+1) (by omega)
  rw[bd_cons];by_cases hx:1≤x∧x≤100000000000
  ·rw[if_pos hx,ih];simp[P.pw,hx.1,hx.2]
  ·rw[if_neg hx]
   have hw:P.pw (x::l)=false:=by
    unfold P.pw;simp only[List.all_cons];rw[Bool.and_eq_false_iff]
    left
    simp only[Bool.and_eq_false_iff,decide_eq_false_iff_not];omega
   rw[hw];simpa using h
def isI:V→Bool
 | .int .i64 _=>true
 | _=>false
theorem isI_all:∀ {xs:List V},xs.all isI=true→xs=(xs.map intOf).map encI
 | [],_=>rfl
 | x::xs,h=>by
  simp only[List.all_cons,Bool.and_eq_true] at h;obtain⟨h1,h2⟩:=h;simp only[List.map_cons];rw[←isI_all h2]
  congr 1
  unfold isI at h1;split at h1
  ·rfl
  ·cases h1
theorem isI_enc (l:List Int):(l.map encI).all isI=true:=by simp[encI,isI]
theorem ints_enc (l:List Int):(l.map encI).map intOf=l:=by simp[encI,Function.comp_def]
def Fd.it (l:List Int) (i:Nat):Int:=intOf (fld 0 ((l.map encI).getD i V.undef))
theorem it_at (l:List Int) (k:Nat) (h:k<l.length):Fd.it l k=l[k]:=by simp[Fd.it,encI,h]
def wSt (n:Bool) (l:List Int) (k:Int):St:=⟨[(0,.sl n (l.map encI)),(1,.clo (.func 38) [] []),(7,.int .i64 l.length),(8,.int .i64 k)],[]⟩
def wEnd (n:Bool) (l:List Int) (k:Int):Ex×St:=if k<0 then (.exit 0,⟨(wSt n l l.length).env++[(9,.bool false)],[]⟩) else (.ret,⟨[(4,.int .i64 k)],[]⟩)
theorem w_loop (n:Bool) (l:List Int) (hl:l.length<2 ^ 62):∀ (d k:Nat),k+d=l.length→LRuns (vstep T (vlim T F) lplim fi61.cx 0 (lb fi61 0)) (wSt n l k) (wEnd n l (P.bd (l.drop k) k))
 | 0,k,hd=>by
  have hk:k=l.length:=by omega
  subst hk;rw[List.drop_length];have:=LRuns.last (F:=F) Z15_ok (sh:=Sh) (L:=fun _ _=>.fail) (n:=0) (b:=lb fi61 0) (cx:=fi61.cx) (τ:=wSt n l l.length) (LGood.none (by kernel_rfl)) [(decide ((l.length:Int) < ↑l.length),false)] [2]
   (r:=(.exit 0,⟨(wSt n l l.length).env++[(9,.bool (decide ((l.length:Int) < ↑l.length)))],[]⟩)) (by kernel_rfl) (by simp) ⟨by simp,trivial⟩
  simpa [P.bd,wEnd] using this
 | d+1,k,hd=>by
  have hk:k<l.length:=by omega
  have ih:=w_loop n l hl d (k+1) (by omega)
  have hw:IntKind.i64.wrap ((k:Int)+1)=((k+1:Nat):Int):=by rw[i64in (by omega) (by omega)];rfl
  have hg:=it_at l k hk;rw[List.drop_eq_getElem_cons hk,bd_cons];by_cases hx:1≤l[k]∧l[k]≤100000000000
  ·rw[if_pos hx]
   refine LRuns.next (F:=F) Z15_ok (sh:=Sh) (L:=fun _ _=>.fail) (LGood.none (by kernel_rfl)) [(decide ((↑k:Int)<(↑l.length:Int)),true),(decide ((↑k:Int)<(↑(List.map encI l).length:Int)),true),(((List.map encI l).getD k V.undef).cells.length==1&&fitP [.int .i64] 0 ((List.map encI l).getD k V.undef),true),(decide (Fd.it l k≥1),true),(!decide (Fd.it l k≤100000000000),false)] [2,0,3,4,5,5,5,5,6] (τ':=wSt n l (IntKind.i64.wrap ((k:Int)+1))) (by kernel_rfl) ?_ ?_
   ·refine⟨?_,?_,?_,?_,?_,trivial⟩
    all_goals first|(simp[encI,fitP,fld,leafFits,V.cells,hk];done)|(simp;omega)|(rw[hg];simp;omega)
   ·rw[hw];exact ih
  ·rw[if_neg hx]
   have he:wEnd n l k=(.ret,⟨[(4,.int .i64 k)],[]⟩):=by unfold wEnd;rw[if_neg (by omega)]
   rw[he];by_cases hx0:1≤l[k]
   ·refine LRuns.last (F:=F) Z15_ok (sh:=Sh) (L:=fun _ _=>.fail) (LGood.none (by kernel_rfl)) [(decide ((↑k:Int)<(↑l.length:Int)),true),(decide ((↑k:Int)<(↑(List.map encI l).length:Int)),true),(((List.map encI l).getD k V.undef).cells.length==1&&fitP [.int .i64] 0 ((List.map encI l).getD k V.undef),true),(decide (Fd.it l k≥1),true),(!decide (Fd.it l k≤100000000000),true)] [2,0,3,4,5,5,5,5,6] (by kernel_rfl) (by simp) ?_
    refine⟨?_,?_,?_,?_,?_,trivial⟩
    all_goals first|(simp[encI,fitP,fld,leafFits,V.cells,hk];done)|(simp;omega)|(rw[hg];simp;omega)
   ·refine LRuns.last (F:=F) Z15_ok (sh:=Sh) (L:=fun _ _=>.fail) (LGood.none (by kernel_rfl)) [(decide ((↑k:Int)<(↑l.length:Int)),true),(decide ((↑k:Int)<(↑(List.map encI l).length:Int)),true),(((List.map encI l).getD k V.undef).cells.length==1&&fitP [.int .i64] 0 ((List.map encI l).getD k V.undef),true),(decide (Fd.it l k≥1),false)] [2,0,3,4,5,5,5,5,0] (by kernel_rfl) (by simp) ?_
    refine⟨?_,?_,?_,?_,trivial⟩
    all_goals first|(simp[encI,fitP,fld,leafFits,V.cells,hk];done)|(simp;omega)|(rw[hg];simp;omega)
def idxS:List V→Heap→Tr (V×Heap):=fun a H=>match a,H with
 | [.sl _ xs,.clo (.func 38) [] []],[]=>.must (xs.all isI) (.must (decide (xs.length<2 ^ 62)) (.ret (.int .i64 (P.bd (xs.map intOf) 0),[])))
 | _,_=>.fail
theorem idxS_ok:∀ a H r,(idxS a H).run=some r→Runs T F 61 a H r:=by
 intro a H r h;unfold idxS at h;split at h
 ·rename_i n xs
  obtain⟨h1,h⟩:=Tr.must_some h;obtain⟨h2,h⟩:=Tr.must_some h;have hr:=ret_some h;clear h;subst hr;simp only[decide_eq_true_eq] at h2;have hx:=isI_all h1;rw[←List.length_map (f:=intOf)] at h2;generalize xs.map intOf=l at *;subst hx;have hw:=w_loop n l h2 l.length 0 (by omega)
  rw[List.drop_zero,Int.natCast_zero] at hw;have hL:=LGood.one (c:=fi61.body) (b:=lb fi61 0) (k:=2) (σ0:=wSt n l 0) (by kernel_rfl) (by exact hw)
  unfold wEnd at hL;by_cases hk:P.bd l 0<0
  ·rw[if_pos hk] at hL
   rw[bd_neg l 0 (by omega) hk]
   exact Runs.way (F:=F) (sh:=Sh) (S:=Z15) Z15_ok (fi:=fi61) (by kernel_rfl) hL [(is {env:=[(0,V.sl n (List.map encI l)),(1,V.clo (Fn.func 38) [] []),(7,.int .i64 (↑(List.map encI l).length:Int)),(8,.int .i64 0)],heap:=[]} {env:=[(0,V.sl n (List.map encI l)),(1,V.clo (Fn.func 38) [] []),(7,.int .i64 (↑l.length:Int)),(8,.int .i64 0)],heap:=[]},true)] [2] (by kernel_rfl) ⟨is_eq (by simp[wSt]),trivial⟩
  ·rw[if_neg hk] at hL
   exact Runs.way (F:=F) (sh:=Sh) (S:=Z15) Z15_ok (fi:=fi61) (by kernel_rfl) hL [(is {env:=[(0,V.sl n (List.map encI l)),(1,V.clo (Fn.func 38) [] []),(7,.int .i64 (↑(List.map encI l).length:Int)),(8,.int .i64 0)],heap:=[]} {env:=[(0,V.sl n (List.map encI l)),(1,V.clo (Fn.func 38) [] []),(7,.int .i64 (↑l.length:Int)),(8,.int .i64 0)],heap:=[]},true)] [2] (by kernel_rfl) ⟨is_eq (by simp[wSt]),trivial⟩
 ·cases h
noncomputable def Z61:Vm.Spec:=Z15.add 61 idxS
theorem Z61_ok:Vm.Good (vlim T F) Z61:=Z15_ok.add idxS_ok
def conS:List V→Heap→Tr (V×Heap):=fun a H=>match a,H with
 | [.sl _ xs,.clo (.func 38) [] []],[]=>.must (xs.all isI) (.must (decide (xs.length<2 ^ 62)) (.ret (.bool (!P.pw (xs.map intOf)),[])))
 | _,_=>.fail
theorem conS_ok:∀ a H r,(conS a H).run=some r→Runs T F 37 a H r:=by
 intro a H r h;unfold conS at h;split at h
 ·rename_i n xs
  obtain⟨h1,h⟩:=Tr.must_some h;obtain⟨h2,h⟩:=Tr.must_some h;have hr:=ret_some h;clear h;subst hr;rw[←bd_pw _ 0 (by omega)]
  exact Runs.way (F:=F) (sh:=Sh) (S:=Z61) (L:=fun _ _=>.fail) Z61_ok (fi:=fi37) (by kernel_rfl) (LGood.none (by kernel_rfl)) [(xs.all isI,true),(decide (xs.length<4611686018427387904),true)] [2,3] (by kernel_rfl) ⟨h1,h2,trivial⟩
 ·cases h
def sSt (n m:Bool) (k l:List Int) (i:Int):St:=⟨[(0,V.sl n (k.map encI)),(1,V.sl m (l.map encI)),(5,.int .i64 i)],[]⟩
theorem s_loop (n m:Bool) (k l:List Int) (he:k.length=l.length) (hl:l.length<2 ^ 62):∀ (d i:Nat),i+d=l.length →
  (k.drop i=l.drop i→LRuns (vstep T (vlim T F) lplim fi13.cx 0 (lb fi13 0)) (sSt n m k l i) (.exit 0,⟨(sSt n m k l l.length).env++[(14,.bool false)],[]⟩)) ∧
  (k.drop i≠l.drop i→LRuns (vstep T (vlim T F) lplim fi13.cx 0 (lb fi13 0)) (sSt n m k l i) (.ret,⟨[(4,.bool false)],[]⟩))
 | 0,i,hd=>by
  have hi:i=l.length:=by omega
  subst hi;refine⟨fun _=>?_,fun h=>absurd (by rw[List.drop_length,←he,List.drop_length]) h⟩
  have:=LRuns.last (F:=F) Z15_ok (sh:=Sh) (L:=fun _ _=>.fail) (n:=0) (b:=lb fi13 0) (cx:=fi13.cx) (τ:=sSt n m k l l.length) (LGood.none (by kernel_rfl)) [(decide ((l.length:Int) < ↑(k.map encI).length),false)] [2]
   (r:=(.exit 0,⟨(sSt n m k l l.length).env++[(14,.bool (decide ((l.length:Int) < ↑(k.map encI).length)))],[]⟩)) (by kernel_rfl) (by simp) ⟨by simp[he],trivial⟩
  simpa [he] using this
 | d+1,i,hd=>by
  have hi:i<l.length:=by omega
  have hk:i<k.length:=by omega
  have ih:=s_loop n m k l he hl d (i+1) (by omega)
  have hw:IntKind.i64.wrap ((i:Int)+1)=((i+1:Nat):Int):=by rw[i64in (by omega) (by omega)];rfl
  have g1:=it_at k i hk;have g2:=it_at l i hi;rw[List.drop_eq_getElem_cons hk,List.drop_eq_getElem_cons hi];by_cases hx:k[i]=l[i]
  ·have hn:∀ r,LRuns (vstep T (vlim T F) lplim fi13.cx 0 (lb fi13 0)) (sSt n m k l (i+1:Nat)) r→LRuns (vstep T (vlim T F) lplim fi13.cx 0 (lb fi13 0)) (sSt n m k l i) r:=fun r hr=>by
    refine LRuns.next (F:=F) Z15_ok (sh:=Sh) (L:=fun _ _=>.fail) (LGood.none (by kernel_rfl)) [(decide ((↑i:Int)<(↑(List.map encI k).length:Int)),true),(decide ((↑i:Int)<(↑(List.map encI k).length:Int)),true),(((List.map encI k).getD i V.undef).cells.length==1&&fitP [.int .i64] 0 ((List.map encI k).getD i V.undef),true),(decide ((↑i:Int)<(↑(List.map encI l).length:Int)),true),(((List.map encI l).getD i V.undef).cells.length==1&&fitP [.int .i64] 0 ((List.map encI l).getD i V.undef),true),(Fd.it k i != Fd.it l i,false)] [2,0,3,4,0,5,6,7] (τ':=sSt n m k l (IntKind.i64.wrap ((i:Int)+1))) (by kernel_rfl) ?_ ?_
    ·refine⟨?_,?_,?_,?_,?_,?_,trivial⟩
     all_goals first|(simp[encI,fitP,fld,leafFits,V.cells,hk,hi];done)|(rw[g1,g2];simp[hx];done)|(simp;omega)
    ·rw[hw];exact hr
   exact⟨fun h=>hn _ (ih.1 (by injection h)),fun h=>hn _ (ih.2 (fun hq=>h (by rw[hx,hq])))⟩
  ·refine⟨fun h=>absurd (by injection h) hx,fun _=>?_⟩
   refine LRuns.last (F:=F) Z15_ok (sh:=Sh) (L:=fun _ _=>.fail) (LGood.none (by kernel_rfl)) [(decide ((↑i:Int)<(↑(List.map encI k).length:Int)),true),(decide ((↑i:Int)<(↑(List.map encI k).length:Int)),true),(((List.map encI k).getD i V.undef).cells.length==1&&fitP [.int .i64] 0 ((List.map encI k).getD i V.undef),true),(decide ((↑i:Int)<(↑(List.map encI l).length:Int)),true),(((List.map encI l).getD i V.undef).cells.length==1&&fitP [.int .i64] 0 ((List.map encI l).getD i V.undef),true),(Fd.it k i != Fd.it l i,true)] [2,0,3,4,0,5,6,7] (by kernel_rfl) (by simp) ?_
   refine⟨?_,?_,?_,?_,?_,?_,trivial⟩
   all_goals first|(simp[encI,fitP,fld,leafFits,V.cells,hk,hi];done)|(rw[g1,g2];simp[hx];done)|(simp;omega)
def P.sm (k l:List Int):Bool:=decide (k=l)
theorem same_runs (n m:Bool) (k l:List Int) (hl:l.length<2 ^ 62):Runs T F 13 [.sl n (k.map encI),.sl m (l.map encI)] [] (.bool (P.sm k l),[]):=by
 by_cases he:k.length=l.length
 ·have hq:=s_loop n m k l he hl l.length 0 (by omega)
  rw[List.drop_zero,List.drop_zero,Int.natCast_zero] at hq;by_cases hx:k=l
  ·rw[P.sm,decide_eq_true hx]
   exact Runs.way (F:=F) (sh:=Sh) (S:=Z15) Z15_ok (fi:=fi13) (by kernel_rfl) (LGood.one (b:=lb fi13 0) (k:=4) (σ0:=sSt n m k l 0) (by kernel_rfl) (hq.1 hx)) [((↑(List.map encI k).length:Int) != (↑(List.map encI l).length:Int),false),(is {env:=[(0,V.sl n (List.map encI k)),(1,V.sl m (List.map encI l)),(5,.int .i64 0)],heap:=[]} {env:=[(0,V.sl n (List.map encI k)),(1,V.sl m (List.map encI l)),(5,.int .i64 0)],heap:=[]},true)] [2,3] (by kernel_rfl) ⟨by simp[he],is_eq (by simp[sSt]),trivial⟩
  ·rw[P.sm,decide_eq_false hx]
   exact Runs.way (F:=F) (sh:=Sh) (S:=Z15) Z15_ok (fi:=fi13) (by kernel_rfl) (LGood.one (b:=lb fi13 0) (k:=4) (σ0:=sSt n m k l 0) (by kernel_rfl) (hq.2 hx)) [((↑(List.map encI k).length:Int) != (↑(List.map encI l).length:Int),false),(is {env:=[(0,V.sl n (List.map encI k)),(1,V.sl m (List.map encI l)),(5,.int .i64 0)],heap:=[]} {env:=[(0,V.sl n (List.map encI k)),(1,V.sl m (List.map encI l)),(5,.int .i64 0)],heap:=[]},true)] [2,3] (by kernel_rfl) ⟨by simp[he],is_eq (by simp[sSt]),trivial⟩
 ·rw[P.sm,decide_eq_false (fun h=>he (by rw[h]))]
  exact Runs.way (F:=F) (sh:=Sh) (S:=Z15) (L:=fun _ _=>.fail) Z15_ok (fi:=fi13) (by kernel_rfl) (fun _ _ _ _ h=>by cases h) [((↑(List.map encI k).length:Int) != (↑(List.map encI l).length:Int),true)] [2] (by kernel_rfl) ⟨by simp;omega,trivial⟩
def sameS:List V→Heap→Tr (V×Heap):=fun a H=>match a,H with
 | [.sl _ xs,.sl _ ys],[]=>.must (xs.all isI) (.must (ys.all isI) (.must (decide (ys.length<2 ^ 62)) (.ret (.bool (P.sm (xs.map intOf) (ys.map intOf)),[]))))
 | _,_=>.fail
theorem sameS_ok:∀ a H r,(sameS a H).run=some r→Runs T F 13 a H r:=by
 intro a H r h;unfold sameS at h;split at h
 ·rename_i n xs m ys
  obtain⟨h1,h⟩:=Tr.must_some h;obtain⟨h2,h⟩:=Tr.must_some h;obtain⟨h3,h⟩:=Tr.must_some h;have hr:=ret_some h;clear h;subst hr;simp only[decide_eq_true_eq] at h3;have hx:=isI_all h1;have hy:=isI_all h2;rw[←List.length_map (f:=intOf)] at h3;generalize xs.map intOf=k at *;generalize ys.map intOf=l at *;subst hx;subst hy;exact same_runs n m k l h3
 ·cases h
def copyS:List V→Heap→Tr (V×Heap):=fun a H=>match a,H with
 | [.sl _ xs],[]=>.must (xs.all isI) (.must (decide (xs.length<2 ^ 40)) (.ret (.ex 1 xs.isEmpty xs,[])))
 | _,_=>.fail
theorem copyS_ok:∀ a H r,(copyS a H).run=some r→Runs T F 10 a H r:=by
 intro a H r h;unfold copyS at h;split at h
 ·rename_i n xs
  obtain⟨h1,h⟩:=Tr.must_some h;obtain⟨h2,h⟩:=Tr.must_some h;have hr:=ret_some h;clear h;subst hr;simp only[decide_eq_true_eq] at h2;have hc:∀ x∈xs,x.cells.length=1:=fun x hx=>by
   have:=List.all_eq_true.1 h1 x hx
   cases x<;>first | rfl | (simp[isI] at this)
  have:=Runs.way (F:=F) (sh:=Sh) (S:=Z15) (L:=fun _ _=>.fail) Z15_ok (fi:=fi10) (by kernel_rfl) (LGood.none (by kernel_rfl)) [(rooms (0+xs.length) 8,true),(decide (0+xs.length<4611686018427387904),true),(xs.all fun y=>y.cells.length==1,true)] [2,3,4] (f:=10) (a:=[.sl n xs]) (H:=[]) (r:=(V.ex 1 (true&&(xs).isEmpty) xs,[])) (by kernel_rfl) (by
   refine⟨?_,?_,?_,trivial⟩
   all_goals first
    | (simp[rooms,maxRoom];omega)
    | (simp;omega)
    | (simp only[List.all_eq_true,beq_iff_eq];exact hc))
  simpa using this
 ·cases h
theorem ck_runs (a b c d:Int):∃ e,Runs T F 14 [.agg [.int .i64 a,.int .i64 b,.int .i64 c,.int .i64 d]] [] (.int .i64 e,[])∧P.st a b c d=e:=by
 by_cases h0:a≥1
 ·skip
  by_cases h1:(!decide (a≤1000000))=true
  ·skip
   exact⟨_,Runs.way (F:=F) (sh:=Sh) (S:=Z15) (L:=fun _ _=>.fail) Z15_ok (fi:=fi14) (by kernel_rfl) (LGood.none (by kernel_rfl)) [(decide (a≥1),true),
     (!decide (a≤1000000),true)] [2,2,2,2,3,3,3,3,3,0,0,0,0,0,0,0,0,0,0,0] (by kernel_rfl) ⟨(decide_eq_true h0),h1,trivial⟩,by simp at *;unfold P.st;first | (rw[if_pos (by omega)]) | (rw[if_neg (by omega)])⟩
   done
  ·skip
   by_cases h2:b≥1
   ·skip
    by_cases h3:(!decide (b≤100000000000))=true
    ·skip
     exact⟨_,Runs.way (F:=F) (sh:=Sh) (S:=Z15) (L:=fun _ _=>.fail) Z15_ok (fi:=fi14) (by kernel_rfl) (LGood.none (by kernel_rfl)) [(decide (a≥1),true),
       (!decide (a≤1000000),false),
       (decide (b≥1),true),
       (!decide (b≤100000000000),true)] [2,2,2,2,3,3,3,4,4,4,4,3,3,5,5,5,5,5,0,0,0,0,0,0] (by kernel_rfl) ⟨(decide_eq_true h0),(Bool.eq_false_iff.2 h1),(decide_eq_true h2),h3,trivial⟩,by simp at *;unfold P.st;first | (rw[if_pos (by omega)]) | (rw[if_neg (by omega)])⟩
     done
    ·skip
     by_cases h4:c≥0
     ·skip
      by_cases h5:(!decide (c≤100))=true
      ·skip
       exact⟨_,Runs.way (F:=F) (sh:=Sh) (S:=Z15) (L:=fun _ _=>.fail) Z15_ok (fi:=fi14) (by kernel_rfl) (LGood.none (by kernel_rfl)) [(decide (a≥1),true),
         (!decide (a≤1000000),false),
         (decide (b≥1),true),
         (!decide (b≤100000000000),false),
         (decide (c≥0),true),
         (!decide (c≤100),true)] [2,2,2,2,3,3,3,4,4,4,4,3,3,5,5,5,6,6,6,6,5,5,7,7,7,7,7,0] (by kernel_rfl) ⟨(decide_eq_true h0),(Bool.eq_false_iff.2 h1),(decide_eq_true h2),(Bool.eq_false_iff.2 h3),(decide_eq_true h4),h5,trivial⟩,by simp at *;unfold P.st;first | (rw[if_pos (by omega)]) | (rw[if_neg (by omega)])⟩
       done
      ·skip
       by_cases h6:d≥1
       ·skip
        by_cases h7:(!decide (d≤30))=true
        ·skip
         exact⟨_,Runs.way (F:=F) (sh:=Sh) (S:=Z15) (L:=fun _ _=>.fail) Z15_ok (fi:=fi14) (by kernel_rfl) (LGood.none (by kernel_rfl)) [(decide (a≥1),true),
           (!decide (a≤1000000),false),
           (decide (b≥1),true),
           (!decide (b≤100000000000),false),
           (decide (c≥0),true),
           (!decide (c≤100),false),
           (decide (d≥1),true),
           (!decide (d≤30),true)] [2,2,2,2,3,3,3,4,4,4,4,3,3,5,5,5,6,6,6,6,5,5,7,7,7,8,8,8,8,7,7,9] (by kernel_rfl) ⟨(decide_eq_true h0),(Bool.eq_false_iff.2 h1),(decide_eq_true h2),(Bool.eq_false_iff.2 h3),(decide_eq_true h4),(Bool.eq_false_iff.2 h5),(decide_eq_true h6),h7,trivial⟩,by simp at *;unfold P.st;first | (rw[if_pos (by omega)]) | (rw[if_neg (by omega)])⟩
         done
        ·skip
         exact⟨_,Runs.way (F:=F) (sh:=Sh) (S:=Z15) (L:=fun _ _=>.fail) Z15_ok (fi:=fi14) (by kernel_rfl) (LGood.none (by kernel_rfl)) [(decide (a≥1),true),
           (!decide (a≤1000000),false),
           (decide (b≥1),true),
           (!decide (b≤100000000000),false),
           (decide (c≥0),true),
           (!decide (c≤100),false),
           (decide (d≥1),true),
           (!decide (d≤30),false)] [2,2,2,2,3,3,3,4,4,4,4,3,3,5,5,5,6,6,6,6,5,5,7,7,7,8,8,8,8,7,7,9] (by kernel_rfl) ⟨(decide_eq_true h0),(Bool.eq_false_iff.2 h1),(decide_eq_true h2),(Bool.eq_false_iff.2 h3),(decide_eq_true h4),(Bool.eq_false_iff.2 h5),(decide_eq_true h6),(Bool.eq_false_iff.2 h7),trivial⟩,by simp at *;unfold P.st;first | (rw[if_pos (by omega)]) | (rw[if_neg (by omega)])⟩
         done
       ·skip
        exact⟨_,Runs.way (F:=F) (sh:=Sh) (S:=Z15) (L:=fun _ _=>.fail) Z15_ok (fi:=fi14) (by kernel_rfl) (LGood.none (by kernel_rfl)) [(decide (a≥1),true),
          (!decide (a≤1000000),false),
          (decide (b≥1),true),
          (!decide (b≤100000000000),false),
          (decide (c≥0),true),
          (!decide (c≤100),false),
          (decide (d≥1),false)] [2,2,2,2,3,3,3,4,4,4,4,3,3,5,5,5,6,6,6,6,5,5,7,7,7,8,8,8,8,7,7,0] (by kernel_rfl) ⟨(decide_eq_true h0),(Bool.eq_false_iff.2 h1),(decide_eq_true h2),(Bool.eq_false_iff.2 h3),(decide_eq_true h4),(Bool.eq_false_iff.2 h5),(decide_eq_false h6),trivial⟩,by simp at *;unfold P.st;first | (rw[if_pos (by omega)]) | (rw[if_neg (by omega)])⟩
        done
     ·skip
      exact⟨_,Runs.way (F:=F) (sh:=Sh) (S:=Z15) (L:=fun _ _=>.fail) Z15_ok (fi:=fi14) (by kernel_rfl) (LGood.none (by kernel_rfl)) [(decide (a≥1),true),
        (!decide (a≤1000000),false),
        (decide (b≥1),true),
        (!decide (b≤100000000000),false),
        (decide (c≥0),false)] [2,2,2,2,3,3,3,4,4,4,4,3,3,5,5,5,6,6,6,6,5,5,0,0,0,0,0,0] (by kernel_rfl) ⟨(decide_eq_true h0),(Bool.eq_false_iff.2 h1),(decide_eq_true h2),(Bool.eq_false_iff.2 h3),(decide_eq_false h4),trivial⟩,by simp at *;unfold P.st;first | (rw[if_pos (by omega)]) | (rw[if_neg (by omega)])⟩
      done
   ·skip
    exact⟨_,Runs.way (F:=F) (sh:=Sh) (S:=Z15) (L:=fun _ _=>.fail) Z15_ok (fi:=fi14) (by kernel_rfl) (LGood.none (by kernel_rfl)) [(decide (a≥1),true),
      (!decide (a≤1000000),false),
      (decide (b≥1),false)] [2,2,2,2,3,3,3,4,4,4,4,3,3,0,0,0,0,0,0,0,0,0,0,0] (by kernel_rfl) ⟨(decide_eq_true h0),(Bool.eq_false_iff.2 h1),(decide_eq_false h2),trivial⟩,by simp at *;unfold P.st;first | (rw[if_pos (by omega)]) | (rw[if_neg (by omega)])⟩
    done
 ·skip
  exact⟨_,Runs.way (F:=F) (sh:=Sh) (S:=Z15) (L:=fun _ _=>.fail) Z15_ok (fi:=fi14) (by kernel_rfl) (LGood.none (by kernel_rfl)) [(decide (a≥1),false)] [2,2,2,2,0,0,0,0,0,0,0,0,0,0,0,0,0,0,0,0] (by kernel_rfl) ⟨(decide_eq_false h0),trivial⟩,by simp at *;unfold P.st;first | (rw[if_pos (by omega)]) | (rw[if_neg (by omega)])⟩
  done
theorem cr_runs (a b c d:Int):∃ e,Runs T F 15 [.agg [.int .i64 a,.int .i64 b,.int .i64 c,.int .i64 d]] [] (.int .i64 e,[])∧P.st a b c d=e:=by
 by_cases h0:a≥1
 ·skip
  by_cases h1:(!decide (a≤1000000))=true
  ·skip
   exact⟨_,Runs.way (F:=F) (sh:=Sh) (S:=Z15) (L:=fun _ _=>.fail) Z15_ok (fi:=fi15) (by kernel_rfl) (LGood.none (by kernel_rfl)) [(decide (a≥1),true),
     (!decide (a≤1000000),true)] [2,2,2,2,3,3,3,3,3,0,0,0,0,0,0,0,0,0,0,0] (by kernel_rfl) ⟨(decide_eq_true h0),h1,trivial⟩,by simp at *;unfold P.st;first | (rw[if_pos (by omega)]) | (rw[if_neg (by omega)])⟩
   done
  ·skip
   by_cases h2:b≥1
   ·skip
    by_cases h3:(!decide (b≤100000000000))=true
    ·skip
     exact⟨_,Runs.way (F:=F) (sh:=Sh) (S:=Z15) (L:=fun _ _=>.fail) Z15_ok (fi:=fi15) (by kernel_rfl) (LGood.none (by kernel_rfl)) [(decide (a≥1),true),
       (!decide (a≤1000000),false),
       (decide (b≥1),true),
       (!decide (b≤100000000000),true)] [2,2,2,2,3,3,3,4,4,4,4,3,3,5,5,5,5,5,0,0,0,0,0,0] (by kernel_rfl) ⟨(decide_eq_true h0),(Bool.eq_false_iff.2 h1),(decide_eq_true h2),h3,trivial⟩,by simp at *;unfold P.st;first | (rw[if_pos (by omega)]) | (rw[if_neg (by omega)])⟩
     done
    ·skip
     by_cases h4:c≥0
     ·skip
      by_cases h5:(!decide (c≤100))=true
      ·skip
       exact⟨_,Runs.way (F:=F) (sh:=Sh) (S:=Z15) (L:=fun _ _=>.fail) Z15_ok (fi:=fi15) (by kernel_rfl) (LGood.none (by kernel_rfl)) [(decide (a≥1),true),
         (!decide (a≤1000000),false),
         (decide (b≥1),true),
         (!decide (b≤100000000000),false),
         (decide (c≥0),true),
         (!decide (c≤100),true)] [2,2,2,2,3,3,3,4,4,4,4,3,3,5,5,5,6,6,6,6,5,5,7,7,7,7,7,0] (by kernel_rfl) ⟨(decide_eq_true h0),(Bool.eq_false_iff.2 h1),(decide_eq_true h2),(Bool.eq_false_iff.2 h3),(decide_eq_true h4),h5,trivial⟩,by simp at *;unfold P.st;first | (rw[if_pos (by omega)]) | (rw[if_neg (by omega)])⟩
       done
      ·skip
       by_cases h6:d≥1
       ·skip
        by_cases h7:(!decide (d≤30))=true
        ·skip
         exact⟨_,Runs.way (F:=F) (sh:=Sh) (S:=Z15) (L:=fun _ _=>.fail) Z15_ok (fi:=fi15) (by kernel_rfl) (LGood.none (by kernel_rfl)) [(decide (a≥1),true),
           (!decide (a≤1000000),false),
           (decide (b≥1),true),
           (!decide (b≤100000000000),false),
           (decide (c≥0),true),
           (!decide (c≤100),false),
           (decide (d≥1),true),
           (!decide (d≤30),true)] [2,2,2,2,3,3,3,4,4,4,4,3,3,5,5,5,6,6,6,6,5,5,7,7,7,8,8,8,8,7,7,9] (by kernel_rfl) ⟨(decide_eq_true h0),(Bool.eq_false_iff.2 h1),(decide_eq_true h2),(Bool.eq_false_iff.2 h3),(decide_eq_true h4),(Bool.eq_false_iff.2 h5),(decide_eq_true h6),h7,trivial⟩,by simp at *;unfold P.st;first | (rw[if_pos (by omega)]) | (rw[if_neg (by omega)])⟩
         done
        ·skip
         exact⟨_,Runs.way (F:=F) (sh:=Sh) (S:=Z15) (L:=fun _ _=>.fail) Z15_ok (fi:=fi15) (by kernel_rfl) (LGood.none (by kernel_rfl)) [(decide (a≥1),true),
           (!decide (a≤1000000),false),
           (decide (b≥1),true),
           (!decide (b≤100000000000),false),
           (decide (c≥0),true),
           (!decide (c≤100),false),
           (decide (d≥1),true),
           (!decide (d≤30),false)] [2,2,2,2,3,3,3,4,4,4,4,3,3,5,5,5,6,6,6,6,5,5,7,7,7,8,8,8,8,7,7,9] (by kernel_rfl) ⟨(decide_eq_true h0),(Bool.eq_false_iff.2 h1),(decide_eq_true h2),(Bool.eq_false_iff.2 h3),(decide_eq_true h4),(Bool.eq_false_iff.2 h5),(decide_eq_true h6),(Bool.eq_false_iff.2 h7),trivial⟩,by simp at *;unfold P.st;first | (rw[if_pos (by omega)]) | (rw[if_neg (by omega)])⟩
         done
       ·skip
        exact⟨_,Runs.way (F:=F) (sh:=Sh) (S:=Z15) (L:=fun _ _=>.fail) Z15_ok (fi:=fi15) (by kernel_rfl) (LGood.none (by kernel_rfl)) [(decide (a≥1),true),
          (!decide (a≤1000000),false),
          (decide (b≥1),true),
          (!decide (b≤100000000000),false),
          (decide (c≥0),true),
          (!decide (c≤100),false),
          (decide (d≥1),false)] [2,2,2,2,3,3,3,4,4,4,4,3,3,5,5,5,6,6,6,6,5,5,7,7,7,8,8,8,8,7,7,0] (by kernel_rfl) ⟨(decide_eq_true h0),(Bool.eq_false_iff.2 h1),(decide_eq_true h2),(Bool.eq_false_iff.2 h3),(decide_eq_true h4),(Bool.eq_false_iff.2 h5),(decide_eq_false h6),trivial⟩,by simp at *;unfold P.st;first | (rw[if_pos (by omega)]) | (rw[if_neg (by omega)])⟩
        done
     ·skip
      exact⟨_,Runs.way (F:=F) (sh:=Sh) (S:=Z15) (L:=fun _ _=>.fail) Z15_ok (fi:=fi15) (by kernel_rfl) (LGood.none (by kernel_rfl)) [(decide (a≥1),true),
        (!decide (a≤1000000),false),
        (decide (b≥1),true),
        (!decide (b≤100000000000),false),
        (decide (c≥0),false)] [2,2,2,2,3,3,3,4,4,4,4,3,3,5,5,5,6,6,6,6,5,5,0,0,0,0,0,0] (by kernel_rfl) ⟨(decide_eq_true h0),(Bool.eq_false_iff.2 h1),(decide_eq_true h2),(Bool.eq_false_iff.2 h3),(decide_eq_false h4),trivial⟩,by simp at *;unfold P.st;first | (rw[if_pos (by omega)]) | (rw[if_neg (by omega)])⟩
      done
   ·skip
    exact⟨_,Runs.way (F:=F) (sh:=Sh) (S:=Z15) (L:=fun _ _=>.fail) Z15_ok (fi:=fi15) (by kernel_rfl) (LGood.none (by kernel_rfl)) [(decide (a≥1),true),
      (!decide (a≤1000000),false),
      (decide (b≥1),false)] [2,2,2,2,3,3,3,4,4,4,4,3,3,0,0,0,0,0,0,0,0,0,0,0] (by kernel_rfl) ⟨(decide_eq_true h0),(Bool.eq_false_iff.2 h1),(decide_eq_false h2),trivial⟩,by simp at *;unfold P.st;first | (rw[if_pos (by omega)]) | (rw[if_neg (by omega)])⟩
    done
 ·skip
  exact⟨_,Runs.way (F:=F) (sh:=Sh) (S:=Z15) (L:=fun _ _=>.fail) Z15_ok (fi:=fi15) (by kernel_rfl) (LGood.none (by kernel_rfl)) [(decide (a≥1),false)] [2,2,2,2,0,0,0,0,0,0,0,0,0,0,0,0,0,0,0,0] (by kernel_rfl) ⟨(decide_eq_false h0),trivial⟩,by simp at *;unfold P.st;first | (rw[if_pos (by omega)]) | (rw[if_neg (by omega)])⟩
  done
def setupS:List V→Heap→Tr (V×Heap):=fun a H=>match a,H with
 | [.agg [.int .i64 a,.int .i64 b,.int .i64 c,.int .i64 d]],[]=>.ret (.int .i64 (P.st a b c d),[])
 | _,_=>.fail
theorem setupS14_ok:∀ a H r,(setupS a H).run=some r→Runs T F 14 a H r:=by
 intro a H r h;unfold setupS at h;split at h
 ·rename_i a b c d
  have hr:=ret_some h;clear h;subst hr;obtain⟨e,h1,h2⟩:=ck_runs a b c d;rw[h2];exact h1
 ·cases h
theorem setupS15_ok:∀ a H r,(setupS a H).run=some r→Runs T F 15 a H r:=by
 intro a H r h;unfold setupS at h;split at h
 ·rename_i a b c d
  have hr:=ret_some h;clear h;subst hr;obtain⟨e,h1,h2⟩:=cr_runs a b c d;rw[h2];exact h1
 ·cases h
noncomputable def Y:Vm.Spec:=((((Z61.add 37 conS).add 13 sameS).add 10 copyS).add 14 setupS).add 15 setupS
theorem Y_ok:Vm.Good (vlim T F) Y:=((((Z61_ok.add conS_ok).add sameS_ok).add copyS_ok).add setupS14_ok).add setupS15_ok
end Go.Proofs.Ytnijkhcmjpfjeaa
