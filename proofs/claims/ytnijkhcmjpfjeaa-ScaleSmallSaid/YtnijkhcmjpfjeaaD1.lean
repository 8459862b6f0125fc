/- D1: the scale: its members and points;one is found. -/
import Derived.Test.YtnijkhcmjpfjeaaS5
import Derived.Test.YtnijkhcmjpfjeaaSL
namespace Go.Proofs.Ytnijkhcmjpfjeaa
open Go Go.Vm
structure Mem where
 id:Int
 h:Int
 rate:Int
 memory:Int
 since:Int
 nil:Bool
 miss:List Int
structure Pnt where
 ep:Int
 u:Int
 ni:Bool
 ids:List Int
 nw:Bool
 ws:List Int
structure Set4 where
 cap:Int
 gate:Int
 wait:Int
 keep:Int
def encM (m:Mem):V:=.agg [.int .i64 m.id,.int .i64 m.h,.int .i64 m.rate,.int .i64 m.memory,.int .i64 m.since,.sl m.nil (m.miss.map encI)]
def encP (p:Pnt):V:=.agg [.int .i64 p.ep,.int .i64 p.u,.sl p.ni (p.ids.map encI),.sl p.nw (p.ws.map encI)]
def bS (s:Set4):B:=.cells [.int .i64 s.cap,.int .i64 s.gate,.int .i64 s.wait,.int .i64 s.keep]
def decM (v:V):Mem:=match v with
 | .agg [a,b,c,d,e,m]=>⟨intOf a,intOf b,intOf c,intOf d,intOf e,nilOf m,(listOf m).map intOf⟩
 | _=>⟨0,0,0,0,0,false,[]⟩
def decP (v:V):Pnt:=match v with
 | .agg [a,b,c,d]=>⟨intOf a,intOf b,nilOf c,(listOf c).map intOf,nilOf d,(listOf d).map intOf⟩
 | _=>⟨0,0,false,[],false,[]⟩
theorem decM_enc (m:Mem):decM (encM m)=m:=by
 simp only[encM,decM,intOf,nilOf,listOf,ints_enc]
theorem decP_enc (p:Pnt):decP (encP p)=p:=by
 simp only[encP,decP,intOf,nilOf,listOf,ints_enc]
namespace P
def decMs (xs:List V):List Mem:=xs.map decM
def decPs (xs:List V):List Pnt:=xs.map decP
def fd (ms:List Mem) (i:Int) (k:Int):Int:=match ms with
 | []=>-1
 | m::ms=>if m.id=i then k else fd ms i (k+1)
end P
theorem decMs_enc (ms:List Mem):P.decMs (ms.map encM)=ms:=by
 induction ms with
 | nil=>rfl
 | cons m ms ih=>simp only[P.decMs,List.map_cons,List.cons.injEq] at ih ⊢;exact⟨decM_enc m,ih⟩
theorem decPs_enc (ps:List Pnt):P.decPs (ps.map encP)=ps:=by
 induction ps with
 | nil=>rfl
 | cons m ms ih=>simp only[P.decPs,List.map_cons,List.cons.injEq] at ih ⊢;exact⟨decP_enc m,ih⟩
theorem fd_cons (m:Mem) (ms:List Mem) (i k:Int):P.fd (m::ms) i k=if m.id=i then k else P.fd ms i (k+1):=rfl
theorem fd_range:∀ (ms:List Mem) (i k:Int),0≤k→(P.fd ms i k=-1∨(k≤P.fd ms i k∧P.fd ms i k<k+ms.length))
 | [],i,k,_=>.inl rfl
 | m::ms,i,k,h=>by
  rw[fd_cons];split
  ·right;simp only[List.length_cons];omega
  ·have:=fd_range ms i (k+1) (by omega)
   simp only[List.length_cons];omega
def Fd.mi (ms:List Mem) (k:Nat):Int:=intOf (fld 0 ((ms.map encM).getD k V.undef))
theorem m_at (ms:List Mem) (k:Nat) (h:k<ms.length):(ms.map encM).getD k V.undef=encM ms[k]:=by simp[h]
theorem mi_at (ms:List Mem) (k:Nat) (h:k<ms.length):Fd.mi ms k=ms[k].id:=by rw[Fd.mi,m_at ms k h];rfl
def fdS (z:Bool) (ms:List Mem) (i k:Int):St:=⟨[(0,V.sl z (List.map encM ms)),(1,V.clo (Fn.func 71) [] [V.ptr 0 0]),(7,.int .i64 ms.length),(8,.int .i64 k)],[B.cells [.int .i64 i]]⟩
noncomputable def U71:Vm.Spec:=Y11.add 71 (inl T Sh Y11 0 0 fi71)
theorem U71_ok:Vm.Good (vlim T F) U71:=Y11_ok.inl (by kernel_rfl) 0 0 (by kernel_rfl)
theorem fitM (ms:List Mem) (k:Nat) (h:k<ms.length):(((ms.map encM).getD k V.undef).cells.length==6&&fitP [.int .i64,.int .i64,.int .i64,.int .i64,.int .i64,TK.slice 3] 0 ((ms.map encM).getD k V.undef))=true:=by
 rw[m_at ms k h];rfl
theorem fitM' (ms:List Mem) (k:Nat) (h:k<ms.length):fitP [.int .i64,.int .i64,.int .i64,.int .i64,.int .i64,TK.slice 3] 0 ((ms.map encM).getD k V.undef)=true:=by
 rw[m_at ms k h];rfl
theorem fd_loop (z:Bool) (ms:List Mem) (i:Int) (hl:ms.length<2 ^ 40):∀ (d k:Nat),k+d=ms.length→LRuns (vstep T (vlim T F) lplim fi70.cx 1 (lb fi70 0)) (fdS z ms i k)
  (if P.fd (ms.drop k) i k<0 then (.exit 0,⟨(fdS z ms i ms.length).env++[(9,.bool false)],[B.cells [.int .i64 i]]⟩) else (.ret,⟨[(4,.int .i64 (P.fd (ms.drop k) i k))],[B.cells [.int .i64 i]]⟩))
 | 0,k,hd=>by
  have hk:k=ms.length:=by omega
  subst hk;rw[List.drop_length,if_pos (by simp[P.fd])]
  refine lastE U71_ok noL [(decide ((↑(ms.length):Int)<(↑ms.length:Int)),false)] [2] (Ex.exit 0,{env:=[(0,V.sl z (List.map encM ms)),(1,V.clo (Fn.func 71) [] [V.ptr 0 0]),(7,.int .i64 (↑ms.length:Int)),(8,.int .i64 (↑(ms.length):Int)),(9,V.bool (decide ((↑(ms.length):Int)<(↑ms.length:Int))))],heap:=[B.cells [.int .i64 i]]}) (by kernel_rfl) (by simp) ⟨by simp,trivial⟩ (by simp[fdS])
 | d+1,k,hd=>by
  have hk:k<ms.length:=by omega
  have hwi:IntKind.i64.wrap ((k:Int)+1)=((k+1:Nat):Int):=by rw[i64in (by omega) (by omega)];rfl
  have hg:=mi_at ms k hk;rw[List.drop_eq_getElem_cons hk,fd_cons];by_cases hb:ms[k].id=i
  ·rw[if_pos hb,if_neg (by omega)]
   refine lastE U71_ok noL [(decide ((↑k:Int)<(↑ms.length:Int)),true),(decide ((↑k:Int)<(↑(List.map encM ms).length:Int)),true),(((List.map encM ms).getD k V.undef).cells.length==6&&fitP [.int .i64,.int .i64,.int .i64,.int .i64,.int .i64,TK.slice 3] 0 ((List.map encM ms).getD k V.undef),true),(Fd.mi ms k==i,true)] [2,0,3,4,5] (Ex.ret,{env:=[(4,.int .i64 (↑k:Int))],heap:=[B.cells [.int .i64 i]]}) (by kernel_rfl) (by simp) ?_ rfl
   refine⟨?_,?_,?_,?_,trivial⟩
   all_goals first|exact fitM _ _ (by omega)|(simp only[hg];simp[hb];done)|(simp;done)|(simp;omega)|done
  ·rw[if_neg hb]
   refine nextE U71_ok noL [(decide ((↑k:Int)<(↑ms.length:Int)),true),(decide ((↑k:Int)<(↑(List.map encM ms).length:Int)),true),(((List.map encM ms).getD k V.undef).cells.length==6&&fitP [.int .i64,.int .i64,.int .i64,.int .i64,.int .i64,TK.slice 3] 0 ((List.map encM ms).getD k V.undef),true),(Fd.mi ms k==i,false)] [2,0,3,4,5] {env:=[(0,V.sl z (List.map encM ms)),(1,V.clo (Fn.func 71) [] [V.ptr 0 0]),(7,.int .i64 (↑ms.length:Int)),(8,.int .i64 (IntKind.i64.wrap ((↑k:Int)+1)))],heap:=[B.cells [.int .i64 i]]} (by kernel_rfl) ?_ (by rw[hwi];rfl) (fd_loop z ms i hl d (k+1) (by omega))
   refine⟨?_,?_,?_,?_,trivial⟩
   all_goals first|exact fitM _ _ (by omega)|(simp only[hg];simp[hb];done)|(simp;done)|(simp;omega)|done
noncomputable def isMs (xs:List V):Bool:=eqB xs ((P.decMs xs).map encM)
theorem isMs_enc (ms:List Mem):isMs (ms.map encM)=true:=by unfold isMs;rw[decMs_enc];exact eqB_self _
theorem isMs_of {xs:List V} (h:isMs xs=true):∃ ms:List Mem,xs=ms.map encM:=⟨_,of_eqB h⟩
noncomputable def ixS:List V→Heap→Tr (V×Heap):=fun a H=>match a,H with
 | [.sl _ xs,.clo (.func 71) [] [.ptr 0 0]],[.cells [.int .i64 i]]=>.must (isMs xs) (.must (decide (xs.length<2 ^ 40)) (.ret (.int .i64 (P.fd (P.decMs xs) i 0),[.cells [.int .i64 i]])))
 | _,_=>.fail
theorem ixS_ok:∀ a H r,(ixS a H).run=some r→Runs T F 70 a H r:=by
 intro a H r h;unfold ixS at h;split at h
 ·rename_i z xs i
  obtain⟨h1,h⟩:=Tr.must_some h;obtain⟨h2,h⟩:=Tr.must_some h;have hr:=ret_some h;clear h;subst hr;obtain⟨ms,rfl⟩:=isMs_of h1;rw[decMs_enc];have hl:ms.length<2 ^ 40:=by simpa using h2
  have hq:=fd_loop z ms i hl ms.length 0 (by omega)
  rw[List.drop_zero,Int.natCast_zero] at hq;by_cases hk:P.fd ms i 0<0
  ·rw[if_pos hk] at hq
   rw[show P.fd ms i 0=-1 by have:=fd_range ms i 0 (by omega);omega]
   refine wayE U71_ok (fi:=fi70) (by kernel_rfl) (LGood.one (b:=lb fi70 0) (k:=2) (σ0:=fdS z ms i 0) (by kernel_rfl) (by exact hq)) [(is {env:=[(0,V.sl z (List.map encM ms)),(1,V.clo (Fn.func 71) [] [V.ptr 0 0]),(7,.int .i64 (↑(List.map encM ms).length:Int)),(8,.int .i64 0)],heap:=[B.cells [.int .i64 i]]} {env:=[(0,V.sl z (List.map encM ms)),(1,V.clo (Fn.func 71) [] [V.ptr 0 0]),(7,.int .i64 (↑ms.length:Int)),(8,.int .i64 0)],heap:=[B.cells [.int .i64 i]]},true)] [2] (V.int IntKind.i64 (-1),[B.cells [.int .i64 i]]) (by kernel_rfl) ?_ rfl
   exact⟨is_eq (by simp[fdS]),trivial⟩
  ·rw[if_neg hk] at hq
   generalize P.fd ms i 0=k at *;refine wayE U71_ok (fi:=fi70) (by kernel_rfl) (LGood.one (b:=lb fi70 0) (k:=2) (σ0:=fdS z ms i 0) (by kernel_rfl) (by exact hq)) [(is {env:=[(0,V.sl z (List.map encM ms)),(1,V.clo (Fn.func 71) [] [V.ptr 0 0]),(7,.int .i64 (↑(List.map encM ms).length:Int)),(8,.int .i64 0)],heap:=[B.cells [.int .i64 i]]} {env:=[(0,V.sl z (List.map encM ms)),(1,V.clo (Fn.func 71) [] [V.ptr 0 0]),(7,.int .i64 (↑ms.length:Int)),(8,.int .i64 0)],heap:=[B.cells [.int .i64 i]]},true)] [2] (V.int IntKind.i64 k,[B.cells [.int .i64 i]]) (by kernel_rfl) ?_ rfl
   exact⟨is_eq (by simp[fdS]),trivial⟩
 ·cases h
noncomputable def U70:Vm.Spec:=U71.add 70 ixS
theorem U70_ok:Vm.Good (vlim T F) U70:=U71_ok.add ixS_ok
def isPtr (k:Nat):V→Bool
 | .ptr a b=>Nat.beq a k&&Nat.beq b 0
 | _=>false
theorem of_isPtr {k:Nat} {v:V} (h:isPtr k v=true):v=.ptr k 0:=by
 cases v<;>simp only[isPtr] at h<;>first | (cases h;done) | skip
 rw[Bool.and_eq_true] at h;rw[Nat.eq_of_beq_eq_true h.1,Nat.eq_of_beq_eq_true h.2]
def onC {α:Type} (H:Heap) (f:List V→V→V→Tr α):Tr α:=match H with
 | [.cells sc,.cells [q,mc,pc]]=>match isPtr 0 q with
  | true=>f sc mc pc
  | false=>.fail
 | _=>.fail
theorem onC_run {α:Type} {H:Heap} {f:List V→V→V→Tr α} {r:α} (h:(onC H f).run=some r):∃ sc mc pc,H=[.cells sc,.cells [.ptr 0 0,mc,pc]]∧(f sc mc pc).run=some r:=by
 unfold onC at h;split at h
 ·rename_i sc q mc pc
  split at h
  ·rename_i hq
   exact⟨sc,mc,pc,by rw[of_isPtr hq],h⟩
  ·cases h
 ·cases h
def onM {α:Type} (mc:V) (f:Bool→List V→Tr α) (g:Tr α):Tr α:=match mc with
 | .ex sz z xs=>match Nat.beq sz 6 with
  | true=>f z xs
  | false=>.fail
 | .sl z xs=>match z,xs with
  | true,[]=>g
  | _,_=>.fail
 | _=>.fail
theorem onM_run {α:Type} {mc:V} {f:Bool→List V→Tr α} {g:Tr α} {r:α} (h:(onM mc f g).run=some r):(∃ z xs,mc=.ex 6 z xs∧(f z xs).run=some r)∨(mc=.sl true []∧g.run=some r):=by
 unfold onM at h;split at h
 ·rename_i sz z xs
  split at h
  ·rename_i hs
   rw[Nat.eq_of_beq_eq_true hs];exact .inl ⟨z,xs,rfl,h⟩
  ·cases h
 ·rename_i z xs
  split at h
  ·exact .inr ⟨rfl,h⟩
  ·cases h
 ·cases h
noncomputable def findS:List V→Heap→Tr (V×Heap):=fun a H=>match a with
 | [p,.int .i64 i]=>match isPtr 1 p with
  | true=>onC H fun sc mc pc=>match sc with
   | [_,_,_,_]=>.must (dataB sc) (onM mc (fun _ xs=>.must (isMs xs) (.must (decide (xs.length<2 ^ 40)) (.ret (.int .i64 (P.fd (P.decMs xs) i 0),H)))) (.ret (.int .i64 (-1),H)))
   | _=>.fail
  | false=>.fail
 | _=>.fail
theorem findS_ok:∀ a H r,(findS a H).run=some r→Runs T F 52 a H r:=by
 intro a H r h;unfold findS at h;split at h
 ·rename_i p i
  split at h
  ·rename_i hp
   rw[of_isPtr hp];obtain⟨sc,mc,pc,rfl,h'⟩:=onC_run h;clear h;have h:=h';clear h';split at h
   ·rename_i c0 c1 c2 c3
    obtain⟨hd,h⟩:=Tr.must_some h;rcases onM_run h with ⟨z,xs,rfl,h⟩ | ⟨rfl,h⟩
    ·obtain⟨h1,h⟩:=Tr.must_some h
     obtain⟨h2,h⟩:=Tr.must_some h;have hr:=ret_some h;clear h;subst hr;obtain⟨ms,rfl⟩:=isMs_of h1;refine wayE U70_ok (fi:=fi52) (by kernel_rfl) noL [(eqB (List.map encM ms) (List.map encM (P.decMs (List.map encM ms))),true),(decide ((List.map encM ms).length<1099511627776),true)] [0,2,3,0,0] (V.int IntKind.i64 (P.fd (P.decMs (List.map encM ms)) i 0),[B.cells [c0,c1,c2,c3],B.cells [V.ptr 0 0,V.ex 6 z (List.map encM ms),pc]]) (by kernel_rfl) ?_ rfl
     exact⟨h1,h2,trivial⟩
    ·have hr:=ret_some h;clear h;subst hr
     refine wayE U70_ok (fi:=fi52) (by kernel_rfl) noL [(eqB [] (List.map encM (P.decMs [])),true)] [0,2,0,0] (V.int IntKind.i64 (P.fd (P.decMs []) i 0),[B.cells [c0,c1,c2,c3],B.cells [V.ptr 0 0,V.sl true [],pc]]) (by kernel_rfl) ?_ rfl
     exact⟨eqB_eq rfl,trivial⟩
   ·cases h
  ·cases h
 ·cases h
noncomputable def U50:Vm.Spec:=U70.add 50 (inl T Sh U70 0 0 fi50)
theorem U50_ok:Vm.Good (vlim T F) U50:=U70_ok.inl (by kernel_rfl) 0 0 (by kernel_rfl)
noncomputable def U52:Vm.Spec:=U50.add 52 findS
theorem U52_ok:Vm.Good (vlim T F) U52:=U50_ok.add findS_ok
noncomputable def U54:Vm.Spec:=U52.add 54 (inl T Sh U52 0 0 fi54)
theorem U54_ok:Vm.Good (vlim T F) U54:=U52_ok.inl (by kernel_rfl) 0 0 (by kernel_rfl)
noncomputable def U47:Vm.Spec:=U54.add 47 (inl T Sh U54 0 0 fi47)
theorem U47_ok:Vm.Good (vlim T F) U47:=U54_ok.inl (by kernel_rfl) 0 0 (by kernel_rfl)
noncomputable def U48:Vm.Spec:=U47.add 48 (inl T Sh U47 0 0 fi48)
theorem U48_ok:Vm.Good (vlim T F) U48:=U47_ok.inl (by kernel_rfl) 0 0 (by kernel_rfl)
end Go.Proofs.Ytnijkhcmjpfjeaa
