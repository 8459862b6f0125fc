/- D3: readings. -/
import Derived.Test.YtnijkhcmjpfjeaaD2
namespace Go.Proofs.Ytnijkhcmjpfjeaa
open Go Go.Vm
structure Rd where
 id:Int
 df:Int
def encD (r:Rd):V:=.agg [.int .i64 r.id,.int .i64 r.df]
structure Prs where
 at_:Int
 est:Int
def encE (p:Prs):V:=.agg [.int .i64 p.at_,.int .i64 p.est]
def rdS (s:Set4) (x:Bool) (ms:List Mem) (ps:List Pnt) (l:List Rd) (ks vs:List Int) (k:Int):St:=⟨[(0,V.ptr 1 0),(1,V.sl x (l.map encD)),(6,V.ref RK.map 2),(26,V.sl x (l.map encD)),(27,.int .i64 (↑l.length:Int)),(28,.int .i64 k)],[bS s,bD ms ps,.cells [.mp (ks.map encI) (vs.map encI)]]⟩
def rmS (s:Set4) (z:Bool) (ms:List Mem) (ps:List Pnt) (ks vs:List Int) (acc:List Prs) (k:Int):St:=⟨[(6,V.ref RK.map 2),(11,V.ex 2 z (acc.map encE)),(64,V.lent (Place.cell 1 1)),(65,.int .i64 ms.length),(66,.int .i64 k)],[bS s,bD ms ps,.cells [.mp (ks.map encI) (vs.map encI)]]⟩
def Fd.rd (l:List Rd) (k j:Nat):Int:=intOf (fld j ((List.map encD l).getD k V.undef))
def Fd.mj (ms:List Mem) (k j:Nat):Int:=intOf (fld j ((List.map encM ms).getD k V.undef))
namespace P
def rdL (ms:List Mem):List Int→List Rd→Int
 | _,[]=>0
 | ks,r::l=>if fd ms r.id 0<0 then 41 else if r.id∈ks then 10 else if -1000000000000≤r.df∧r.df≤1000000000000 then rdL ms (ks++[r.id]) l else 6
def dfo:List Rd→Int→Option Int
 | [],_=>none
 | r::l,i=>if r.id=i then some r.df else dfo l i
def rdM (l:List Rd):List Mem→Int→Option (List Prs)
 | [],_=>some []
 | m::ms,k=>match dfo l m.id with
  | some d=>if -2000000000000≤m.h+m.rate-d∧m.h+m.rate-d≤2000000000000 then (rdM l ms (k+1)).map (⟨k,m.h+m.rate-d⟩::·) else none
  | none=>if -3000000000000≤m.h+m.rate∧m.h+m.rate≤3000000000000 then rdM l ms (k+1) else none
end P
theorem d_at (l:List Rd) (k:Nat) (h:k<l.length):(l.map encD).getD k V.undef=encD l[k]:=by simp[h]
theorem rd0 (l:List Rd) (k:Nat) (h:k<l.length):Fd.rd l k 0=l[k].id:=by rw[Fd.rd,d_at l k h];rfl
theorem rd1 (l:List Rd) (k:Nat) (h:k<l.length):Fd.rd l k 1=l[k].df:=by rw[Fd.rd,d_at l k h];rfl
theorem fitD (l:List Rd) (k:Nat) (h:k<l.length):(((l.map encD).getD k V.undef).cells.length==2&&fitP [.int .i64,.int .i64] 0 ((l.map encD).getD k V.undef))=true:=by
 rw[d_at l k h];rfl
theorem mj1 (ms:List Mem) (k:Nat) (h:k<ms.length):Fd.mj ms k 1=ms[k].h:=by rw[Fd.mj,m_at ms k h];rfl
theorem mj2 (ms:List Mem) (k:Nat) (h:k<ms.length):Fd.mj ms k 2=ms[k].rate:=by rw[Fd.mj,m_at ms k h];rfl
theorem findK_I (i:Int):∀ ks:List Int,(findK (V.int IntKind.i64 i) (ks.map encI)).isSome=decide (i∈ks)
 | []=>rfl
 | k::ks=>by
  have ih:=findK_I i ks;have hc:cellsEqv (V.int IntKind.i64 i).cells (encI k).cells=decide (i=k):=by simp[cellsEqv,cellEqv,V.cells,encI];rfl
  simp only[List.map_cons,findK,hc];by_cases h:i=k
  ·simp[h]
  ·simp[h,ih]
theorem findK_D (i:Int):∀ l:List Rd,(∀ d,P.dfo l i=some d→∃ j,findK (V.int IntKind.i64 i) ((l.map Rd.id).map encI)=some j∧∃ h:j<l.length,l[j].df=d)∧(P.dfo l i=none→findK (V.int IntKind.i64 i) ((l.map Rd.id).map encI)=none)
 | []=>by simp[P.dfo,findK]
 | r::l=>by
  obtain⟨ih1,ih2⟩:=findK_D i l;have hc:cellsEqv (V.int IntKind.i64 i).cells (encI r.id).cells=decide (i=r.id):=by simp[cellsEqv,cellEqv,V.cells,encI];rfl
  simp only[List.map_cons,findK,hc,P.dfo];by_cases h:i=r.id
  ·simp[h]
  ·have h2:¬r.id=i:=fun e=>h e.symm
   simp only[h,decide_false,if_neg h2];refine⟨fun d hd=>?_,fun hd=>by rw[ih2 hd];rfl⟩
   obtain⟨j,h1,h3,h4⟩:=ih1 d hd;exact⟨j+1,by rw[h1];rfl,by simpa using h3,by simpa using h4⟩
theorem findK_lt {i:Int} {ks:List Int} (h:(findK (V.int IntKind.i64 i) (ks.map encI)).isSome=true):(findK (V.int IntKind.i64 i) (ks.map encI)).getD 0<ks.length:=by
 induction ks with
 | nil=>simp[findK] at h
 | cons k ks ih =>
  simp only[List.map_cons,findK] at h ⊢;split
  ·simp
  ·rename_i hc
   rw[hc] at h;simp only at h;cases hq:findK (V.int IntKind.i64 i) (ks.map encI) with
   | none=>rw[hq] at h;simp at h
   | some j =>
    rw[hq] at ih;have:=ih rfl
    simpa using this
theorem agg_I {l:List Int} {j:Nat} (h:j<l.length):(isAggV ((l.map encI).getD j V.undef)==false)=true:=by
 rw[show (l.map encI).getD j V.undef=encI l[j] by simp[h]];rfl
theorem keys_fit (ks:List Int):(ks.map encI).all (keyFits {kind:=TK.int IntKind.i64,size:=1,bytes:=8,zero:=V.int IntKind.i64 0})=true:=by
 rw[List.all_eq_true];intro x hx;obtain⟨k,_,rfl⟩:=List.mem_map.1 hx;rfl
theorem dfo_mem {i:Int}:∀ {l:List Rd},i∈l.map Rd.id↔∃ d,P.dfo l i=some d
 | []=>by simp[P.dfo]
 | r::l=>by
  have ih:=dfo_mem (i:=i) (l:=l);simp only[List.map_cons,List.mem_cons,P.dfo,ih];by_cases h:r.id=i
  ·simp[h]
  ·have h2:¬i=r.id:=fun e=>h e.symm
   simp[h,h2]
theorem rr_loop (s:Set4) (x:Bool) (ms:List Mem) (ps:List Pnt) (l:List Rd) (hm:ms.length<2 ^ 40) (hl:l.length<2 ^ 40):∀ (d k:Nat),k+d=l.length →
  (P.rdL ms ((l.take k).map Rd.id) (l.drop k)=0→LRuns (vstep T (vlim T F) lplim fi45.cx 3 (lb fi45 0)) (rdS s x ms ps l ((l.take k).map Rd.id) ((l.take k).map Rd.df) k) (.exit 0,⟨(rdS s x ms ps l (l.map Rd.id) (l.map Rd.df) l.length).env++[(29,.bool false)],(rdS s x ms ps l (l.map Rd.id) (l.map Rd.df) l.length).heap⟩)) ∧
  (P.rdL ms ((l.take k).map Rd.id) (l.drop k)≠0→∃ X,LRuns (vstep T (vlim T F) lplim fi45.cx 3 (lb fi45 0)) (rdS s x ms ps l ((l.take k).map Rd.id) ((l.take k).map Rd.df) k) (.ret,⟨[(4,.ex 2 true []),(5,.int .i64 (P.rdL ms ((l.take k).map Rd.id) (l.drop k)))],bS s::bD ms ps::X⟩))
 | 0,k,hd=>by
  have hk:k=l.length:=by omega
  subst hk;rw[List.take_length,List.drop_length];refine⟨fun _=>?_,fun h=>absurd rfl h⟩
  refine lastE U48_ok noL [(decide ((↑(l.length):Int)<(↑l.length:Int)),false)] [2] (Ex.exit 0,{env:=[(0,V.ptr 1 0),(1,V.sl x (List.map encD l)),(6,V.ref RK.map 2),(26,V.sl x (List.map encD l)),(27,.int .i64 (↑l.length:Int)),(28,.int .i64 (↑(l.length):Int)),(29,V.bool (decide ((↑(l.length):Int)<(↑l.length:Int))))],heap:=[B.cells [.int .i64 s.1,.int .i64 s.2,.int .i64 s.3,.int .i64 s.4],B.cells [V.ptr 0 0,V.ex 6 false (List.map encM ms),V.ex 4 false (List.map encP ps)],B.cells [V.mp (List.map encI (l.map Rd.id)) (List.map encI (l.map Rd.df))]]}) (by kernel_rfl) (by simp) ⟨by simp,trivial⟩ (by simp[rdS,bS,bD])
 | d+1,k,hd=>by
  have hk:k<l.length:=by omega
  have hwi:IntKind.i64.wrap ((k:Int)+1)=((k+1:Nat):Int):=by rw[i64in (by omega) (by omega)];rfl
  have h0:=rd0 l k hk;have h1:=rd1 l k hk;rw[List.drop_eq_getElem_cons hk];simp only[P.rdL];by_cases hf:P.fd ms l[k].id 0<0
  ·rw[if_pos hf]
   refine⟨fun h=>by omega,fun _=>?_⟩
   by_cases hi:l[k].id∈(l.take k).map Rd.id
   ·have hi:=decide_eq_true hi
    have hj:(findK (V.int IntKind.i64 (Fd.rd l k 0)) (((l.take k).map Rd.id).map encI)).getD 0<((l.take k).map Rd.df).length:=by have:=findK_lt (i:=Fd.rd l k 0) (ks:=(l.take k).map Rd.id) (by rw[findK_I,h0,hi]);simpa using this
    refine⟨_,lastE U48_ok noL [(decide ((↑k:Int)<(↑l.length:Int)),true),(decide ((↑k:Int)<(↑(List.map encD l).length:Int)),true),(((List.map encD l).getD k V.undef).cells.length==2&&fitP [.int .i64,.int .i64] 0 ((List.map encD l).getD k V.undef),true),((List.map encI ((l.take k).map Rd.id)).all (keyFits {kind:=TK.int IntKind.i64,size:=1,bytes:=8,zero:=V.int IntKind.i64 0}),true),((findK (V.int IntKind.i64 (Fd.rd l k 0)) (List.map encI ((l.take k).map Rd.id))).isSome,true),(decide ((findK (V.int IntKind.i64 (Fd.rd l k 0)) (List.map encI ((l.take k).map Rd.id))).getD 0<(List.map encI ((l.take k).map Rd.df)).length),true),(((List.map encI ((l.take k).map Rd.df)).getD ((findK (V.int IntKind.i64 (Fd.rd l k 0)) (List.map encI ((l.take k).map Rd.id))).getD 0) V.undef).cells.length==1&&fitP [.int .i64] 0 ((List.map encI ((l.take k).map Rd.df)).getD ((findK (V.int IntKind.i64 (Fd.rd l k 0)) (List.map encI ((l.take k).map Rd.id))).getD 0) V.undef),true),(isAggV ((List.map encI ((l.take k).map Rd.df)).getD ((findK (V.int IntKind.i64 (Fd.rd l k 0)) (List.map encI ((l.take k).map Rd.id))).getD 0) V.undef)==false,true),(eqB (List.map encM ms) (List.map encM (P.decMs (List.map encM ms))),true),(decide ((List.map encM ms).length<1099511627776),true),(decide (P.fd (P.decMs (List.map encM ms)) (Fd.rd l k 0) 0<0),true)] [2,0,3,4,0,5,6,7,8,9,0,1,0,10,11,0,1,12] (Ex.ret,{env:=[(4,V.ex 2 true []),(5,.int .i64 41)],heap:=[B.cells [.int .i64 s.1,.int .i64 s.2,.int .i64 s.3,.int .i64 s.4],B.cells [V.ptr 0 0,V.ex 6 false (List.map encM ms),V.ex 4 false (List.map encP ps)],B.cells [V.mp (List.map encI ((l.take k).map Rd.id)) (List.map encI ((l.take k).map Rd.df))],B.cells [.int .i64 (Fd.rd l k 0),.int .i64 (Fd.rd l k 1)]]}) (by kernel_rfl) (by simp) ?_ rfl⟩
    refine⟨?_,?_,?_,?_,?_,?_,?_,?_,?_,?_,?_,trivial⟩
    all_goals first|exact isMs_enc _|exact eqB_self _|exact keys_fit _|exact fitD _ _ (by omega)|(rw[findK_I,h0,hi];done)|exact decide_eq_true (by rw[List.length_map];exact hj)|exact fitI _ _ hj|exact agg_I hj|(rw[decMs_enc,h0];simp;omega)|(rw[h1];simp;omega)|(simp;done)|(simp;omega)|done
   ·have hi:=decide_eq_false hi
    refine⟨_,lastE U48_ok noL [(decide ((↑k:Int)<(↑l.length:Int)),true),(decide ((↑k:Int)<(↑(List.map encD l).length:Int)),true),(((List.map encD l).getD k V.undef).cells.length==2&&fitP [.int .i64,.int .i64] 0 ((List.map encD l).getD k V.undef),true),((List.map encI ((l.take k).map Rd.id)).all (keyFits {kind:=TK.int IntKind.i64,size:=1,bytes:=8,zero:=V.int IntKind.i64 0}),true),((findK (V.int IntKind.i64 (Fd.rd l k 0)) (List.map encI ((l.take k).map Rd.id))).isSome,false),(eqB (List.map encM ms) (List.map encM (P.decMs (List.map encM ms))),true),(decide ((List.map encM ms).length<1099511627776),true),(decide (P.fd (P.decMs (List.map encM ms)) (Fd.rd l k 0) 0<0),true)] [2,0,3,4,0,5,6,0,1,0,7,8,0,1,9] (Ex.ret,{env:=[(4,V.ex 2 true []),(5,.int .i64 41)],heap:=[B.cells [.int .i64 s.1,.int .i64 s.2,.int .i64 s.3,.int .i64 s.4],B.cells [V.ptr 0 0,V.ex 6 false (List.map encM ms),V.ex 4 false (List.map encP ps)],B.cells [V.mp (List.map encI ((l.take k).map Rd.id)) (List.map encI ((l.take k).map Rd.df))],B.cells [.int .i64 (Fd.rd l k 0),.int .i64 (Fd.rd l k 1)]]}) (by kernel_rfl) (by simp) ?_ rfl⟩
    refine⟨?_,?_,?_,?_,?_,?_,?_,?_,trivial⟩
    all_goals first|exact isMs_enc _|exact eqB_self _|exact keys_fit _|exact fitD _ _ (by omega)|(rw[findK_I,h0,hi];done)|exact decide_eq_true (by rw[List.length_map];exact hj)|exact fitI _ _ hj|exact agg_I hj|(rw[decMs_enc,h0];simp;omega)|(rw[h1];simp;omega)|(simp;done)|(simp;omega)|done
  ·rw[if_neg hf]
   by_cases hi:l[k].id∈(l.take k).map Rd.id
   ·rw[if_pos hi]
    have hi:=decide_eq_true hi;refine⟨fun h=>by omega,fun _=>?_⟩
    have hj:(findK (V.int IntKind.i64 (Fd.rd l k 0)) (((l.take k).map Rd.id).map encI)).getD 0<((l.take k).map Rd.df).length:=by have:=findK_lt (i:=Fd.rd l k 0) (ks:=(l.take k).map Rd.id) (by rw[findK_I,h0,hi]);simpa using this
    refine⟨_,lastE U48_ok noL [(decide ((↑k:Int)<(↑l.length:Int)),true),(decide ((↑k:Int)<(↑(List.map encD l).length:Int)),true),(((List.map encD l).getD k V.undef).cells.length==2&&fitP [.int .i64,.int .i64] 0 ((List.map encD l).getD k V.undef),true),((List.map encI ((l.take k).map Rd.id)).all (keyFits {kind:=TK.int IntKind.i64,size:=1,bytes:=8,zero:=V.int IntKind.i64 0}),true),((findK (V.int IntKind.i64 (Fd.rd l k 0)) (List.map encI ((l.take k).map Rd.id))).isSome,true),(decide ((findK (V.int IntKind.i64 (Fd.rd l k 0)) (List.map encI ((l.take k).map Rd.id))).getD 0<(List.map encI ((l.take k).map Rd.df)).length),true),(((List.map encI ((l.take k).map Rd.df)).getD ((findK (V.int IntKind.i64 (Fd.rd l k 0)) (List.map encI ((l.take k).map Rd.id))).getD 0) V.undef).cells.length==1&&fitP [.int .i64] 0 ((List.map encI ((l.take k).map Rd.df)).getD ((findK (V.int IntKind.i64 (Fd.rd l k 0)) (List.map encI ((l.take k).map Rd.id))).getD 0) V.undef),true),(isAggV ((List.map encI ((l.take k).map Rd.df)).getD ((findK (V.int IntKind.i64 (Fd.rd l k 0)) (List.map encI ((l.take k).map Rd.id))).getD 0) V.undef)==false,true),(eqB (List.map encM ms) (List.map encM (P.decMs (List.map encM ms))),true),(decide ((List.map encM ms).length<1099511627776),true),(decide (P.fd (P.decMs (List.map encM ms)) (Fd.rd l k 0) 0<0),false)] [2,0,3,4,0,5,6,7,8,9,0,1,0,10,11,0,1,12,0] (Ex.ret,{env:=[(4,V.ex 2 true []),(5,.int .i64 10)],heap:=[B.cells [.int .i64 s.1,.int .i64 s.2,.int .i64 s.3,.int .i64 s.4],B.cells [V.ptr 0 0,V.ex 6 false (List.map encM ms),V.ex 4 false (List.map encP ps)],B.cells [V.mp (List.map encI ((l.take k).map Rd.id)) (List.map encI ((l.take k).map Rd.df))],B.cells [.int .i64 (Fd.rd l k 0),.int .i64 (Fd.rd l k 1)]]}) (by kernel_rfl) (by simp) ?_ rfl⟩
    refine⟨?_,?_,?_,?_,?_,?_,?_,?_,?_,?_,?_,trivial⟩
    all_goals first|exact isMs_enc _|exact eqB_self _|exact keys_fit _|exact fitD _ _ (by omega)|(rw[findK_I,h0,hi];done)|exact decide_eq_true (by rw[List.length_map];exact hj)|exact fitI _ _ hj|exact agg_I hj|(rw[decMs_enc,h0];simp;omega)|(rw[h1];simp;omega)|(simp;done)|(simp;omega)|done
   ·rw[if_neg hi]
    have hi:=decide_eq_false hi;by_cases hd1:-1000000000000≤l[k].df
    ·by_cases hd2:l[k].df≤1000000000000
     ·rw[if_pos ⟨hd1,hd2⟩]
      have ih:=rr_loop s x ms ps l hm hl d (k+1) (by omega)
      have et:(l.take (k+1)).map Rd.id=(l.take k).map Rd.id++[l[k].id]:=by rw[List.take_succ_eq_append_getElem hk,List.map_append];rfl
      have ev:(l.take (k+1)).map Rd.df=(l.take k).map Rd.df++[l[k].df]:=by rw[List.take_succ_eq_append_getElem hk,List.map_append];rfl
      rw[et,ev] at ih;have go:∀ r,LRuns (vstep T (vlim T F) lplim fi45.cx 3 (lb fi45 0)) (rdS s x ms ps l ((l.take k).map Rd.id++[l[k].id]) ((l.take k).map Rd.df++[l[k].df]) (k+1:Nat)) r→LRuns (vstep T (vlim T F) lplim fi45.cx 3 (lb fi45 0)) (rdS s x ms ps l ((l.take k).map Rd.id) ((l.take k).map Rd.df) k) r:=fun r hr=>by
       refine nextE U48_ok noL [(decide ((↑k:Int)<(↑l.length:Int)),true),(decide ((↑k:Int)<(↑(List.map encD l).length:Int)),true),(((List.map encD l).getD k V.undef).cells.length==2&&fitP [.int .i64,.int .i64] 0 ((List.map encD l).getD k V.undef),true),((List.map encI ((l.take k).map Rd.id)).all (keyFits {kind:=TK.int IntKind.i64,size:=1,bytes:=8,zero:=V.int IntKind.i64 0}),true),((findK (V.int IntKind.i64 (Fd.rd l k 0)) (List.map encI ((l.take k).map Rd.id))).isSome,false),(eqB (List.map encM ms) (List.map encM (P.decMs (List.map encM ms))),true),(decide ((List.map encM ms).length<1099511627776),true),(decide (P.fd (P.decMs (List.map encM ms)) (Fd.rd l k 0) 0<0),false),(decide (Fd.rd l k 1≥-1000000000000),true),(!decide (Fd.rd l k 1≤1000000000000),false)] [2,0,3,4,0,5,6,0,1,0,7,8,0,1,9,1,10,10,10,10,11,0,5,0,6] {env:=[(0,V.ptr 1 0),(1,V.sl x (List.map encD l)),(6,V.ref RK.map 2),(26,V.sl x (List.map encD l)),(27,.int .i64 (↑l.length:Int)),(28,.int .i64 (IntKind.i64.wrap ((↑k:Int)+1)))],heap:=[B.cells [.int .i64 s.1,.int .i64 s.2,.int .i64 s.3,.int .i64 s.4],B.cells [V.ptr 0 0,V.ex 6 false (List.map encM ms),V.ex 4 false (List.map encP ps)],B.cells [V.mp (List.map encI ((l.take k).map Rd.id)++[.int .i64 (Fd.rd l k 0)]) (List.map encI ((l.take k).map Rd.df)++[.int .i64 (Fd.rd l k 1)])]]} (by kernel_rfl) ?_ (by rw[hwi,h0,h1];simp[rdS,encI,bS,bD]) hr
       refine⟨?_,?_,?_,?_,?_,?_,?_,?_,?_,?_,trivial⟩
       all_goals first|exact isMs_enc _|exact eqB_self _|exact keys_fit _|exact fitD _ _ (by omega)|(rw[findK_I,h0,hi];done)|exact decide_eq_true (by rw[List.length_map];exact hj)|exact fitI _ _ hj|exact agg_I hj|(rw[decMs_enc,h0];simp;omega)|(rw[h1];simp;omega)|(simp;done)|(simp;omega)|done
      exact⟨fun h=>go _ (ih.1 h),fun h=>let ⟨X,hX⟩:=ih.2 h;⟨X,go _ hX⟩⟩
     ·rw[if_neg (by omega)]
      refine⟨fun h=>by omega,fun _=>?_⟩
      refine⟨_,lastE U48_ok noL [(decide ((↑k:Int)<(↑l.length:Int)),true),(decide ((↑k:Int)<(↑(List.map encD l).length:Int)),true),(((List.map encD l).getD k V.undef).cells.length==2&&fitP [.int .i64,.int .i64] 0 ((List.map encD l).getD k V.undef),true),((List.map encI ((l.take k).map Rd.id)).all (keyFits {kind:=TK.int IntKind.i64,size:=1,bytes:=8,zero:=V.int IntKind.i64 0}),true),((findK (V.int IntKind.i64 (Fd.rd l k 0)) (List.map encI ((l.take k).map Rd.id))).isSome,false),(eqB (List.map encM ms) (List.map encM (P.decMs (List.map encM ms))),true),(decide ((List.map encM ms).length<1099511627776),true),(decide (P.fd (P.decMs (List.map encM ms)) (Fd.rd l k 0) 0<0),false),(decide (Fd.rd l k 1≥-1000000000000),true),(!decide (Fd.rd l k 1≤1000000000000),true)] [2,0,3,4,0,5,6,0,1,0,7,8,0,1,9,1,10,10,10,10,11] (Ex.ret,{env:=[(4,V.ex 2 true []),(5,.int .i64 6)],heap:=[B.cells [.int .i64 s.1,.int .i64 s.2,.int .i64 s.3,.int .i64 s.4],B.cells [V.ptr 0 0,V.ex 6 false (List.map encM ms),V.ex 4 false (List.map encP ps)],B.cells [V.mp (List.map encI ((l.take k).map Rd.id)) (List.map encI ((l.take k).map Rd.df))],B.cells [.int .i64 (Fd.rd l k 0),.int .i64 (Fd.rd l k 1)]]}) (by kernel_rfl) (by simp) ?_ rfl⟩
      refine⟨?_,?_,?_,?_,?_,?_,?_,?_,?_,?_,trivial⟩
      all_goals first|exact isMs_enc _|exact eqB_self _|exact keys_fit _|exact fitD _ _ (by omega)|(rw[findK_I,h0,hi];done)|exact decide_eq_true (by rw[List.length_map];exact hj)|exact fitI _ _ hj|exact agg_I hj|(rw[decMs_enc,h0];simp;omega)|(rw[h1];simp;omega)|(simp;done)|(simp;omega)|done
    ·rw[if_neg (by omega)]
     refine⟨fun h=>by omega,fun _=>?_⟩
     refine⟨_,lastE U48_ok noL [(decide ((↑k:Int)<(↑l.length:Int)),true),(decide ((↑k:Int)<(↑(List.map encD l).length:Int)),true),(((List.map encD l).getD k V.undef).cells.length==2&&fitP [.int .i64,.int .i64] 0 ((List.map encD l).getD k V.undef),true),((List.map encI ((l.take k).map Rd.id)).all (keyFits {kind:=TK.int IntKind.i64,size:=1,bytes:=8,zero:=V.int IntKind.i64 0}),true),((findK (V.int IntKind.i64 (Fd.rd l k 0)) (List.map encI ((l.take k).map Rd.id))).isSome,false),(eqB (List.map encM ms) (List.map encM (P.decMs (List.map encM ms))),true),(decide ((List.map encM ms).length<1099511627776),true),(decide (P.fd (P.decMs (List.map encM ms)) (Fd.rd l k 0) 0<0),false),(decide (Fd.rd l k 1≥-1000000000000),false)] [2,0,3,4,0,5,6,0,1,0,7,8,0,1,9,1,10,10,10,10,0] (Ex.ret,{env:=[(4,V.ex 2 true []),(5,.int .i64 6)],heap:=[B.cells [.int .i64 s.1,.int .i64 s.2,.int .i64 s.3,.int .i64 s.4],B.cells [V.ptr 0 0,V.ex 6 false (List.map encM ms),V.ex 4 false (List.map encP ps)],B.cells [V.mp (List.map encI ((l.take k).map Rd.id)) (List.map encI ((l.take k).map Rd.df))],B.cells [.int .i64 (Fd.rd l k 0),.int .i64 (Fd.rd l k 1)]]}) (by kernel_rfl) (by simp) ?_ rfl⟩
     refine⟨?_,?_,?_,?_,?_,?_,?_,?_,?_,trivial⟩
     all_goals first|exact isMs_enc _|exact eqB_self _|exact keys_fit _|exact fitD _ _ (by omega)|(rw[findK_I,h0,hi];done)|exact decide_eq_true (by rw[List.length_map];exact hj)|exact fitI _ _ hj|exact agg_I hj|(rw[decMs_enc,h0];simp;omega)|(rw[h1];simp;omega)|(simp;done)|(simp;omega)|done
theorem rooms_e {acc:List Prs} (h:acc.length<2 ^ 41):rooms ((acc.map encE).length+1) 16=true:=by
 exact decide_eq_true (by rw[List.length_map];unfold maxRoom;omega)
def rmEnd (s:Set4) (ms:List Mem) (ps:List Pnt) (l:List Rd) (acc:List Prs) (o:Option (List Prs)) (r:Ex×St):Prop:=match o with
 | some q=>r=(.exit 3,⟨(rmS s (acc++q).isEmpty ms ps (l.map Rd.id) (l.map Rd.df) (acc++q) ms.length).env++[(67,.bool false)],(rmS s false ms ps (l.map Rd.id) (l.map Rd.df) acc 0).heap⟩)
 | none=>∃ X,r=(.ret,⟨[(4,.ex 2 true []),(5,.int .i64 6)],bS s::bD ms ps::X⟩)
theorem rm_loop (s:Set4) (ms:List Mem) (ps:List Pnt) (l:List Rd) (hm:ms.length<2 ^ 40) (ho:okMs ms=true) (hb:∀ r∈l,-1000000000000≤r.df∧r.df≤1000000000000):∀ (d k:Nat) (acc:List Prs),k+d=ms.length→acc.length≤k →
  ∃ r,rmEnd s ms ps l acc (P.rdM l (ms.drop k) k) r∧LRuns (vstep T (vlim T F) lplim fi45.cx 3 (lb fi45 1)) (rmS s acc.isEmpty ms ps (l.map Rd.id) (l.map Rd.df) acc k) r
 | 0,k,acc,hd,ha=>by
  have hk:k=ms.length:=by omega
  subst hk;rw[List.drop_length];refine⟨_,rfl,?_⟩;refine lastE U48_ok noL [(decide ((↑(ms.length):Int)<(↑ms.length:Int)),false)] [2] (Ex.exit 3,{env:=[(6,V.ref RK.map 2),(11,V.ex 2 (acc.isEmpty) (List.map encE acc)),(64,V.lent (Place.cell 1 1)),(65,.int .i64 (↑ms.length:Int)),(66,.int .i64 (↑(ms.length):Int)),(67,V.bool (decide ((↑(ms.length):Int)<(↑ms.length:Int))))],heap:=[B.cells [.int .i64 s.1,.int .i64 s.2,.int .i64 s.3,.int .i64 s.4],B.cells [V.ptr 0 0,V.ex 6 false (List.map encM ms),V.ex 4 false (List.map encP ps)],B.cells [V.mp (List.map encI (l.map Rd.id)) (List.map encI (l.map Rd.df))]]}) (by kernel_rfl) (by simp) ⟨by simp,trivial⟩ (by simp[rmS,bS,bD])
 | d+1,k,acc,hd,ha=>by
  have hk:k<ms.length:=by omega
  have hwi:IntKind.i64.wrap ((k:Int)+1)=((k+1:Nat):Int):=by rw[i64in (by omega) (by omega)];rfl
  have hg:=mi_at ms k hk;have hac:acc.length<2 ^ 41:=by omega
  have hbd:=List.all_eq_true.1 ho ms[k] (List.getElem_mem hk);simp only[decide_eq_true_eq] at hbd;have hx:IntKind.i64.wrap (Fd.mj ms k 1+Fd.mj ms k 2)=ms[k].h+ms[k].rate:=by rw[mj1 ms k hk,mj2 ms k hk,i64in (by omega) (by omega)]
  rw[List.drop_eq_getElem_cons hk];simp only[P.rdM];cases hq:P.dfo l ms[k].id with
  | some df =>
   simp only;have hi:decide (ms[k].id∈l.map Rd.id)=true:=decide_eq_true (dfo_mem.2 ⟨df,hq⟩);obtain⟨j,h1,h2,h3⟩:=(findK_D ms[k].id l).1 df hq;have hj:(findK (V.int IntKind.i64 (Fd.mi ms k)) ((l.map Rd.id).map encI)).getD 0<(l.map Rd.df).length:=by rw[hg,h1];simpa using h2
   have hdf:=hb l[j] (List.getElem_mem h2);have he:IntKind.i64.wrap (IntKind.i64.wrap (Fd.mj ms k 1+Fd.mj ms k 2)-Fd.it (l.map Rd.df) ((findK (V.int IntKind.i64 (Fd.mi ms k)) ((l.map Rd.id).map encI)).getD 0))=ms[k].h+ms[k].rate-df:=by
    rw[hx,hg,h1,it_at _ _ (by simpa using h2)]
    simp only[Option.getD_some,List.getElem_map,h3];rw[i64in (by omega) (by omega)]
   by_cases hd1:-2000000000000≤ms[k].h+ms[k].rate-df
   ·by_cases hd2:ms[k].h+ms[k].rate-df≤2000000000000
    ·rw[if_pos ⟨hd1,hd2⟩]
     obtain⟨r,hr,ih⟩:=rm_loop s ms ps l hm ho hb d (k+1) (acc++[⟨k,ms[k].h+ms[k].rate-df⟩]) (by omega) (by simp;omega)
     refine⟨r,?_,?_⟩
     ·rw[show ((k:Int)+1)=((k+1:Nat):Int) from rfl]
      cases hz:P.rdM l (ms.drop (k+1)) (k+1:Nat) with
      | none=>rw[hz] at hr;exact hr
      | some q =>
       rw[hz] at hr;simp only[rmEnd,Option.map_some] at hr ⊢;rw[hr,List.append_assoc];rfl
     ·refine nextE U48_ok noL [(decide ((↑k:Int)<(↑ms.length:Int)),true),(decide ((↑k:Int)<(↑(List.map encM ms).length:Int)),true),(decide (k<(List.map encM ms).length),true),(fitP [.int .i64,.int .i64,.int .i64,.int .i64,.int .i64,TK.slice 3] 0 ((List.map encM ms).getD k V.undef),true),((List.map encI (l.map Rd.id)).all (keyFits {kind:=TK.int IntKind.i64,size:=1,bytes:=8,zero:=V.int IntKind.i64 0}),true),((findK (V.int IntKind.i64 (Fd.mi ms k)) (List.map encI (l.map Rd.id))).isSome,true),(decide ((findK (V.int IntKind.i64 (Fd.mi ms k)) (List.map encI (l.map Rd.id))).getD 0<(List.map encI (l.map Rd.df)).length),true),(((List.map encI (l.map Rd.df)).getD ((findK (V.int IntKind.i64 (Fd.mi ms k)) (List.map encI (l.map Rd.id))).getD 0) V.undef).cells.length==1&&fitP [.int .i64] 0 ((List.map encI (l.map Rd.df)).getD ((findK (V.int IntKind.i64 (Fd.mi ms k)) (List.map encI (l.map Rd.id))).getD 0) V.undef),true),(isAggV ((List.map encI (l.map Rd.df)).getD ((findK (V.int IntKind.i64 (Fd.mi ms k)) (List.map encI (l.map Rd.id))).getD 0) V.undef)==false,true),(decide (IntKind.i64.wrap (IntKind.i64.wrap (Fd.mj ms k 1+Fd.mj ms k 2)-Fd.it (l.map Rd.df) ((findK (V.int IntKind.i64 (Fd.mi ms k)) (List.map encI (l.map Rd.id))).getD 0))≥-2000000000000),true),(decide (IntKind.i64.wrap (IntKind.i64.wrap (Fd.mj ms k 1+Fd.mj ms k 2)-Fd.it (l.map Rd.df) ((findK (V.int IntKind.i64 (Fd.mi ms k)) (List.map encI (l.map Rd.id))).getD 0))≤2000000000000),true),(rooms ((List.map encE acc).length+1) 16,true),(decide ((List.map encE acc).length+1<4611686018427387904),true)] [2,0,3,4,5,0,6,7,8,9,10,0,0,0,0,11,11,11,11,0,12,13,14,0] {env:=[(6,V.ref RK.map 2),(11,V.ex 2 ((acc.isEmpty)&&false) (List.map encE acc++[V.agg [.int .i64 (↑k:Int),.int .i64 (IntKind.i64.wrap (IntKind.i64.wrap (Fd.mj ms k 1+Fd.mj ms k 2)-Fd.it (l.map Rd.df) ((findK (V.int IntKind.i64 (Fd.mi ms k)) (List.map encI (l.map Rd.id))).getD 0)))]])),(64,V.lent (Place.cell 1 1)),(65,.int .i64 (↑ms.length:Int)),(66,.int .i64 (IntKind.i64.wrap ((↑k:Int)+1)))],heap:=[B.cells [.int .i64 s.1,.int .i64 s.2,.int .i64 s.3,.int .i64 s.4],B.cells [V.ptr 0 0,V.ex 6 false (List.map encM ms),V.ex 4 false (List.map encP ps)],B.cells [V.mp (List.map encI (l.map Rd.id)) (List.map encI (l.map Rd.df))]]} (by kernel_rfl) ?_ (by rw[hwi,he];simp[rmS,encE,bS,bD]) ih
      refine⟨?_,?_,?_,?_,?_,?_,?_,?_,?_,?_,?_,?_,?_,trivial⟩
      all_goals first|exact keys_fit _|exact fitM' _ _ (by omega)|(rw[hg,findK_I,hi];done)|exact decide_eq_true (by rw[List.length_map];exact hj)|exact fitI _ _ hj|exact agg_I hj|(rw[he];simp;omega)|(rw[hx];simp;omega)|exact rooms_e hac|(simp;done)|(simp;omega)|(exact decide_eq_true (by rw[List.length_map];omega))|done
    ·rw[if_neg (by omega)]
     refine⟨_,⟨_,rfl⟩,lastE U48_ok noL [(decide ((↑k:Int)<(↑ms.length:Int)),true),(decide ((↑k:Int)<(↑(List.map encM ms).length:Int)),true),(decide (k<(List.map encM ms).length),true),(fitP [.int .i64,.int .i64,.int .i64,.int .i64,.int .i64,TK.slice 3] 0 ((List.map encM ms).getD k V.undef),true),((List.map encI (l.map Rd.id)).all (keyFits {kind:=TK.int IntKind.i64,size:=1,bytes:=8,zero:=V.int IntKind.i64 0}),true),((findK (V.int IntKind.i64 (Fd.mi ms k)) (List.map encI (l.map Rd.id))).isSome,true),(decide ((findK (V.int IntKind.i64 (Fd.mi ms k)) (List.map encI (l.map Rd.id))).getD 0<(List.map encI (l.map Rd.df)).length),true),(((List.map encI (l.map Rd.df)).getD ((findK (V.int IntKind.i64 (Fd.mi ms k)) (List.map encI (l.map Rd.id))).getD 0) V.undef).cells.length==1&&fitP [.int .i64] 0 ((List.map encI (l.map Rd.df)).getD ((findK (V.int IntKind.i64 (Fd.mi ms k)) (List.map encI (l.map Rd.id))).getD 0) V.undef),true),(isAggV ((List.map encI (l.map Rd.df)).getD ((findK (V.int IntKind.i64 (Fd.mi ms k)) (List.map encI (l.map Rd.id))).getD 0) V.undef)==false,true),(decide (IntKind.i64.wrap (IntKind.i64.wrap (Fd.mj ms k 1+Fd.mj ms k 2)-Fd.it (l.map Rd.df) ((findK (V.int IntKind.i64 (Fd.mi ms k)) (List.map encI (l.map Rd.id))).getD 0))≥-2000000000000),true),(decide (IntKind.i64.wrap (IntKind.i64.wrap (Fd.mj ms k 1+Fd.mj ms k 2)-Fd.it (l.map Rd.df) ((findK (V.int IntKind.i64 (Fd.mi ms k)) (List.map encI (l.map Rd.id))).getD 0))≤2000000000000),false)] [2,0,3,4,5,0,6,7,8,9,10,0,0,0,0,11,11,11,11,0,12,0,0,0,0,0] (Ex.ret,{env:=[(4,V.ex 2 true []),(5,.int .i64 6)],heap:=[B.cells [.int .i64 s.1,.int .i64 s.2,.int .i64 s.3,.int .i64 s.4],B.cells [V.ptr 0 0,V.ex 6 false (List.map encM ms),V.ex 4 false (List.map encP ps)],B.cells [V.mp (List.map encI (l.map Rd.id)) (List.map encI (l.map Rd.df))],B.cells [.int .i64 (Fd.mi ms k),.int .i64 (Fd.mj ms k 1),.int .i64 (Fd.mj ms k 2),.int .i64 (Fd.mj ms k 3),.int .i64 (Fd.mj ms k 4),V.sl (nilOf (fld 5 ((List.map encM ms).getD k V.undef))) (listOf (fld 5 ((List.map encM ms).getD k V.undef)))]]}) (by kernel_rfl) (by simp) ?_ rfl⟩
     refine⟨?_,?_,?_,?_,?_,?_,?_,?_,?_,?_,?_,trivial⟩
     all_goals first|exact keys_fit _|exact fitM' _ _ (by omega)|(rw[hg,findK_I,hi];done)|exact decide_eq_true (by rw[List.length_map];exact hj)|exact fitI _ _ hj|exact agg_I hj|(rw[he];simp;omega)|(rw[hx];simp;omega)|exact rooms_e hac|(simp;done)|(simp;omega)|(exact decide_eq_true (by rw[List.length_map];omega))|done
   ·rw[if_neg (by omega)]
    refine⟨_,⟨_,rfl⟩,lastE U48_ok noL [(decide ((↑k:Int)<(↑ms.length:Int)),true),(decide ((↑k:Int)<(↑(List.map encM ms).length:Int)),true),(decide (k<(List.map encM ms).length),true),(fitP [.int .i64,.int .i64,.int .i64,.int .i64,.int .i64,TK.slice 3] 0 ((List.map encM ms).getD k V.undef),true),((List.map encI (l.map Rd.id)).all (keyFits {kind:=TK.int IntKind.i64,size:=1,bytes:=8,zero:=V.int IntKind.i64 0}),true),((findK (V.int IntKind.i64 (Fd.mi ms k)) (List.map encI (l.map Rd.id))).isSome,true),(decide ((findK (V.int IntKind.i64 (Fd.mi ms k)) (List.map encI (l.map Rd.id))).getD 0<(List.map encI (l.map Rd.df)).length),true),(((List.map encI (l.map Rd.df)).getD ((findK (V.int IntKind.i64 (Fd.mi ms k)) (List.map encI (l.map Rd.id))).getD 0) V.undef).cells.length==1&&fitP [.int .i64] 0 ((List.map encI (l.map Rd.df)).getD ((findK (V.int IntKind.i64 (Fd.mi ms k)) (List.map encI (l.map Rd.id))).getD 0) V.undef),true),(isAggV ((List.map encI (l.map Rd.df)).getD ((findK (V.int IntKind.i64 (Fd.mi ms k)) (List.map encI (l.map Rd.id))).getD 0) V.undef)==false,true),(decide (IntKind.i64.wrap (IntKind.i64.wrap (Fd.mj ms k 1+Fd.mj ms k 2)-Fd.it (l.map Rd.df) ((findK (V.int IntKind.i64 (Fd.mi ms k)) (List.map encI (l.map Rd.id))).getD 0))≥-2000000000000),false)] [2,0,3,4,5,0,6,7,8,9,10,0,0,0,0,11,11,11,11,0,1,0,0,0,0,0] (Ex.ret,{env:=[(4,V.ex 2 true []),(5,.int .i64 6)],heap:=[B.cells [.int .i64 s.1,.int .i64 s.2,.int .i64 s.3,.int .i64 s.4],B.cells [V.ptr 0 0,V.ex 6 false (List.map encM ms),V.ex 4 false (List.map encP ps)],B.cells [V.mp (List.map encI (l.map Rd.id)) (List.map encI (l.map Rd.df))],B.cells [.int .i64 (Fd.mi ms k),.int .i64 (Fd.mj ms k 1),.int .i64 (Fd.mj ms k 2),.int .i64 (Fd.mj ms k 3),.int .i64 (Fd.mj ms k 4),V.sl (nilOf (fld 5 ((List.map encM ms).getD k V.undef))) (listOf (fld 5 ((List.map encM ms).getD k V.undef)))]]}) (by kernel_rfl) (by simp) ?_ rfl⟩
    refine⟨?_,?_,?_,?_,?_,?_,?_,?_,?_,?_,trivial⟩
    all_goals first|exact keys_fit _|exact fitM' _ _ (by omega)|(rw[hg,findK_I,hi];done)|exact decide_eq_true (by rw[List.length_map];exact hj)|exact fitI _ _ hj|exact agg_I hj|(rw[he];simp;omega)|(rw[hx];simp;omega)|exact rooms_e hac|(simp;done)|(simp;omega)|(exact decide_eq_true (by rw[List.length_map];omega))|done
  | none =>
   simp only;have hi:decide (ms[k].id∈l.map Rd.id)=false:=decide_eq_false (fun h=>by obtain⟨d,h⟩:=dfo_mem.1 h;rw[hq] at h;cases h)
   by_cases hd1:-3000000000000≤ms[k].h+ms[k].rate
   ·by_cases hd2:ms[k].h+ms[k].rate≤3000000000000
    ·rw[if_pos ⟨hd1,hd2⟩]
     obtain⟨r,hr,ih⟩:=rm_loop s ms ps l hm ho hb d (k+1) acc (by omega) (by omega)
     refine⟨r,hr,?_⟩;refine nextE U48_ok noL [(decide ((↑k:Int)<(↑ms.length:Int)),true),(decide ((↑k:Int)<(↑(List.map encM ms).length:Int)),true),(decide (k<(List.map encM ms).length),true),(fitP [.int .i64,.int .i64,.int .i64,.int .i64,.int .i64,TK.slice 3] 0 ((List.map encM ms).getD k V.undef),true),((List.map encI (l.map Rd.id)).all (keyFits {kind:=TK.int IntKind.i64,size:=1,bytes:=8,zero:=V.int IntKind.i64 0}),true),((findK (V.int IntKind.i64 (Fd.mi ms k)) (List.map encI (l.map Rd.id))).isSome,false),(decide (IntKind.i64.wrap (Fd.mj ms k 1+Fd.mj ms k 2)≥-3000000000000),true),(!decide (IntKind.i64.wrap (Fd.mj ms k 1+Fd.mj ms k 2)≤3000000000000),false)] [2,0,3,4,5,0,6,7,1,1,1,1,1,1,1,1,8,8,8,8,1,1,9] {env:=[(6,V.ref RK.map 2),(11,V.ex 2 (acc.isEmpty) (List.map encE acc)),(64,V.lent (Place.cell 1 1)),(65,.int .i64 (↑ms.length:Int)),(66,.int .i64 (IntKind.i64.wrap ((↑k:Int)+1)))],heap:=[B.cells [.int .i64 s.1,.int .i64 s.2,.int .i64 s.3,.int .i64 s.4],B.cells [V.ptr 0 0,V.ex 6 false (List.map encM ms),V.ex 4 false (List.map encP ps)],B.cells [V.mp (List.map encI (l.map Rd.id)) (List.map encI (l.map Rd.df))]]} (by kernel_rfl) ?_ (by rw[hwi];rfl) ih
     refine⟨?_,?_,?_,?_,?_,?_,?_,?_,trivial⟩
     all_goals first|exact keys_fit _|exact fitM' _ _ (by omega)|(rw[hg,findK_I,hi];done)|exact decide_eq_true (by rw[List.length_map];exact hj)|exact fitI _ _ hj|exact agg_I hj|(rw[he];simp;omega)|(rw[hx];simp;omega)|exact rooms_e hac|(simp;done)|(simp;omega)|(exact decide_eq_true (by rw[List.length_map];omega))|done
    ·rw[if_neg (by omega)]
     refine⟨_,⟨_,rfl⟩,lastE U48_ok noL [(decide ((↑k:Int)<(↑ms.length:Int)),true),(decide ((↑k:Int)<(↑(List.map encM ms).length:Int)),true),(decide (k<(List.map encM ms).length),true),(fitP [.int .i64,.int .i64,.int .i64,.int .i64,.int .i64,TK.slice 3] 0 ((List.map encM ms).getD k V.undef),true),((List.map encI (l.map Rd.id)).all (keyFits {kind:=TK.int IntKind.i64,size:=1,bytes:=8,zero:=V.int IntKind.i64 0}),true),((findK (V.int IntKind.i64 (Fd.mi ms k)) (List.map encI (l.map Rd.id))).isSome,false),(decide (IntKind.i64.wrap (Fd.mj ms k 1+Fd.mj ms k 2)≥-3000000000000),true),(!decide (IntKind.i64.wrap (Fd.mj ms k 1+Fd.mj ms k 2)≤3000000000000),true)] [2,0,3,4,5,0,6,7,1,1,1,1,1,1,1,1,8,8,8,8,1,1,9] (Ex.ret,{env:=[(4,V.ex 2 true []),(5,.int .i64 6)],heap:=[B.cells [.int .i64 s.1,.int .i64 s.2,.int .i64 s.3,.int .i64 s.4],B.cells [V.ptr 0 0,V.ex 6 false (List.map encM ms),V.ex 4 false (List.map encP ps)],B.cells [V.mp (List.map encI (l.map Rd.id)) (List.map encI (l.map Rd.df))],B.cells [.int .i64 (Fd.mi ms k),.int .i64 (Fd.mj ms k 1),.int .i64 (Fd.mj ms k 2),.int .i64 (Fd.mj ms k 3),.int .i64 (Fd.mj ms k 4),V.sl (nilOf (fld 5 ((List.map encM ms).getD k V.undef))) (listOf (fld 5 ((List.map encM ms).getD k V.undef)))]]}) (by kernel_rfl) (by simp) ?_ rfl⟩
     refine⟨?_,?_,?_,?_,?_,?_,?_,?_,trivial⟩
     all_goals first|exact keys_fit _|exact fitM' _ _ (by omega)|(rw[hg,findK_I,hi];done)|exact decide_eq_true (by rw[List.length_map];exact hj)|exact fitI _ _ hj|exact agg_I hj|(rw[he];simp;omega)|(rw[hx];simp;omega)|exact rooms_e hac|(simp;done)|(simp;omega)|(exact decide_eq_true (by rw[List.length_map];omega))|done
   ·rw[if_neg (by omega)]
    refine⟨_,⟨_,rfl⟩,lastE U48_ok noL [(decide ((↑k:Int)<(↑ms.length:Int)),true),(decide ((↑k:Int)<(↑(List.map encM ms).length:Int)),true),(decide (k<(List.map encM ms).length),true),(fitP [.int .i64,.int .i64,.int .i64,.int .i64,.int .i64,TK.slice 3] 0 ((List.map encM ms).getD k V.undef),true),((List.map encI (l.map Rd.id)).all (keyFits {kind:=TK.int IntKind.i64,size:=1,bytes:=8,zero:=V.int IntKind.i64 0}),true),((findK (V.int IntKind.i64 (Fd.mi ms k)) (List.map encI (l.map Rd.id))).isSome,false),(decide (IntKind.i64.wrap (Fd.mj ms k 1+Fd.mj ms k 2)≥-3000000000000),false)] [2,0,3,4,5,0,6,7,1,1,1,1,1,1,1,1,8,8,8,8,1,1,0] (Ex.ret,{env:=[(4,V.ex 2 true []),(5,.int .i64 6)],heap:=[B.cells [.int .i64 s.1,.int .i64 s.2,.int .i64 s.3,.int .i64 s.4],B.cells [V.ptr 0 0,V.ex 6 false (List.map encM ms),V.ex 4 false (List.map encP ps)],B.cells [V.mp (List.map encI (l.map Rd.id)) (List.map encI (l.map Rd.df))],B.cells [.int .i64 (Fd.mi ms k),.int .i64 (Fd.mj ms k 1),.int .i64 (Fd.mj ms k 2),.int .i64 (Fd.mj ms k 3),.int .i64 (Fd.mj ms k 4),V.sl (nilOf (fld 5 ((List.map encM ms).getD k V.undef))) (listOf (fld 5 ((List.map encM ms).getD k V.undef)))]]}) (by kernel_rfl) (by simp) ?_ rfl⟩
    refine⟨?_,?_,?_,?_,?_,?_,?_,trivial⟩
    all_goals first|exact keys_fit _|exact fitM' _ _ (by omega)|(rw[hg,findK_I,hi];done)|exact decide_eq_true (by rw[List.length_map];exact hj)|exact fitI _ _ hj|exact agg_I hj|(rw[he];simp;omega)|(rw[hx];simp;omega)|exact rooms_e hac|(simp;done)|(simp;omega)|(exact decide_eq_true (by rw[List.length_map];omega))|done
theorem lg_fst {cx:Cx} {c b0 b1:Code} {k0:Nat} {σ0:St} {r0:Ex×St} (h:loopsOf c=[b0,b1]) (e:Nat.beq (firstRegion b1) k0=false) (h0:LRuns (vstep T (vlim T F) lplim cx σ0.heap.length b0) σ0 r0):LGood T (vlim T F) lplim cx (loopsIs [(k0,σ0,r0)]) c:=by
 refine LGood.is fun b hb x hx hf=>?_
 rw[h] at hb;simp only[List.mem_cons,List.not_mem_nil,or_false] at hb hx;subst hx;rcases hb with rfl | rfl
 ·exact h0
 ·simp only at hf;rw[hf] at e;simp at e
namespace P
def rdE (ms:List Mem) (ps:List Pnt) (l:List Rd):Int:=if 10000<ps.length then 2 else if rdL ms [] l=0 then (if l.length=0 then 4 else match rdM l ms 0 with | some _=>0 | none=>6) else rdL ms [] l
def rdV (ms:List Mem) (ps:List Pnt) (l:List Rd):List Prs:=if rdE ms ps l=0 then (rdM l ms 0).getD [] else []
def rd0 (ps:List Pnt) (l:List Rd):Int:=if 10000<ps.length then 2 else if l.length=0 then 4 else 41
end P
theorem rdL_ok {ms:List Mem}:∀ {l:List Rd} {ks:List Int},P.rdL ms ks l=0→∀ r∈l,-1000000000000≤r.df∧r.df≤1000000000000
 | [],ks,_,r,hr=>by simp at hr
 | x::l,ks,h,r,hr=>by
  simp only[P.rdL] at h;split at h
  ·omega
  ·split at h
   ·omega
   ·split at h
    ·rename_i hd
     rcases List.mem_cons.1 hr with rfl | hr
     ·exact hd
     ·exact rdL_ok h r hr
    ·omega
def re0 (s:Set4) (x:Bool) (ps:List Pnt) (l:List Rd) (k:Int):St:=⟨[(0,V.ptr 1 0),(1,V.sl x (l.map encD)),(6,V.ref RK.map 2),(26,V.sl x (l.map encD)),(27,.int .i64 (↑l.length:Int)),(28,.int .i64 k)],[bS s,bE ps,.cells [.mp [] []]]⟩
theorem read_runs (s:Set4) (x:Bool) (ms:List Mem) (ps:List Pnt) (l:List Rd) (hm:ms.length<2 ^ 40) (hl:l.length<2 ^ 40) (ho:okMs ms=true) :
  Runs T F 45 [.ptr 1 0,.sl x (l.map encD)] [bS s,bD ms ps] (.tup [.ex 2 (P.rdV ms ps l).isEmpty ((P.rdV ms ps l).map encE),.int .i64 (P.rdE ms ps l)],[bS s,bD ms ps]):=by
 have h2:loopsOf fi45.body=[lb fi45 0,lb fi45 1]:=by kernel_rfl
 have hr:=rr_loop s x ms ps l hm hl l.length 0 (by omega)
 simp only[List.take_zero,List.map_nil,List.drop_zero,Int.natCast_zero] at hr;by_cases hp:10000<ps.length
 ·have hE:P.rdE ms ps l=2:=by unfold P.rdE;rw[if_pos hp]
  rw[show P.rdV ms ps l=[] by unfold P.rdV;rw[if_neg (by omega)],hE]
  refine wayE U48_ok (fi:=fi45) (by kernel_rfl) noL [(decide ((↑(List.map encP ps).length:Int)>10000),true)] [1,1,1,1,1,1,1,2] (V.tup [V.ex 2 true [],.int .i64 2],[B.cells [.int .i64 s.1,.int .i64 s.2,.int .i64 s.3,.int .i64 s.4],B.cells [V.ptr 0 0,V.ex 6 false (List.map encM ms),V.ex 4 false (List.map encP ps)]]) (by kernel_rfl) ?_ rfl
  refine⟨?_,trivial⟩
  all_goals first|exact is_eq rfl|(simp;done)|(simp;omega)|(refine is_eq ?_;simp[rmS,rdS,bS,bD];done)|(rw[List.length_map];exact decide_eq_false (by omega))|(rw[List.length_map];exact decide_eq_true (by omega))|(exact decide_eq_false (by rw[List.length_map];omega))|done
 ·by_cases h0:P.rdL ms [] l=0
  ·have hq:=hr.1 h0
   by_cases hl0:l.length=0
   ·have hE:P.rdE ms ps l=4:=by unfold P.rdE;rw[if_neg hp,if_pos h0,if_pos hl0]
    rw[show P.rdV ms ps l=[] by unfold P.rdV;rw[if_neg (by omega)],hE]
    refine wayE U48_ok (fi:=fi45) (by kernel_rfl) (lg_fst (k0:=7) (σ0:=rdS s x ms ps l [] [] 0) h2 (by kernel_rfl) (by exact hq)) [(decide ((↑(List.map encP ps).length:Int)>10000),false),(is {env:=[(0,V.ptr 1 0),(1,V.sl x (List.map encD l)),(6,V.ref RK.map 2),(26,V.sl x (List.map encD l)),(27,.int .i64 (↑(List.map encD l).length:Int)),(28,.int .i64 0)],heap:=[B.cells [.int .i64 s.1,.int .i64 s.2,.int .i64 s.3,.int .i64 s.4],B.cells [V.ptr 0 0,V.ex 6 false (List.map encM ms),V.ex 4 false (List.map encP ps)],B.cells [V.mp [] []]]} {env:=[(0,V.ptr 1 0),(1,V.sl x (List.map encD l)),(6,V.ref RK.map 2),(26,V.sl x (List.map encD l)),(27,.int .i64 (↑l.length:Int)),(28,.int .i64 0)],heap:=[B.cells [.int .i64 s.1,.int .i64 s.2,.int .i64 s.3,.int .i64 s.4],B.cells [V.ptr 0 0,V.ex 6 false (List.map encM ms),V.ex 4 false (List.map encP ps)],B.cells [V.mp [] []]]},true),((↑(List.map encD l).length:Int)==0,true)] [1,1,1,1,1,1,1,2,3,4] (V.tup [V.ex 2 true [],.int .i64 4],[B.cells [.int .i64 s.1,.int .i64 s.2,.int .i64 s.3,.int .i64 s.4],B.cells [V.ptr 0 0,V.ex 6 false (List.map encM ms),V.ex 4 false (List.map encP ps)]]) (by kernel_rfl) ?_ rfl
    refine⟨?_,?_,?_,trivial⟩
    all_goals first|exact is_eq rfl|(simp;done)|(simp;omega)|(refine is_eq ?_;simp[rmS,rdS,bS,bD];done)|(rw[List.length_map];exact decide_eq_false (by omega))|(rw[List.length_map];exact decide_eq_true (by omega))|(exact decide_eq_false (by rw[List.length_map];omega))|done
   ·obtain⟨r,hre,hrm⟩:=rm_loop s ms ps l hm ho (rdL_ok h0) ms.length 0 [] (by omega) (by simp)
    rw[List.drop_zero] at hre;cases hz:P.rdM l ms 0 with
    | none =>
     rw[show ((0:Nat):Int)=0 from rfl,hz] at hre;obtain⟨X,rfl⟩:=hre;have hE:P.rdE ms ps l=6:=by unfold P.rdE;rw[if_neg hp,if_pos h0,if_neg hl0,hz]
     rw[show P.rdV ms ps l=[] by unfold P.rdV;rw[if_neg (by omega)],hE]
     refine wayE U48_ok (fi:=fi45) (by kernel_rfl) (LGood.two (k0:=7) (k1:=22) (σ0:=rdS s x ms ps l [] [] 0) (σ1:=rmS s true ms ps (l.map Rd.id) (l.map Rd.df) [] 0) h2 (by kernel_rfl) (by kernel_rfl) (by exact hq) (by exact hrm)) [(decide ((↑(List.map encP ps).length:Int)>10000),false),(is {env:=[(0,V.ptr 1 0),(1,V.sl x (List.map encD l)),(6,V.ref RK.map 2),(26,V.sl x (List.map encD l)),(27,.int .i64 (↑(List.map encD l).length:Int)),(28,.int .i64 0)],heap:=[B.cells [.int .i64 s.1,.int .i64 s.2,.int .i64 s.3,.int .i64 s.4],B.cells [V.ptr 0 0,V.ex 6 false (List.map encM ms),V.ex 4 false (List.map encP ps)],B.cells [V.mp [] []]]} {env:=[(0,V.ptr 1 0),(1,V.sl x (List.map encD l)),(6,V.ref RK.map 2),(26,V.sl x (List.map encD l)),(27,.int .i64 (↑l.length:Int)),(28,.int .i64 0)],heap:=[B.cells [.int .i64 s.1,.int .i64 s.2,.int .i64 s.3,.int .i64 s.4],B.cells [V.ptr 0 0,V.ex 6 false (List.map encM ms),V.ex 4 false (List.map encP ps)],B.cells [V.mp [] []]]},true),((↑(List.map encD l).length:Int)==0,false),(is {env:=[(6,V.ref RK.map 2),(11,V.ex 2 true []),(64,V.lent (Place.cell 1 1)),(65,.int .i64 (↑(List.map encM ms).length:Int)),(66,.int .i64 0)],heap:=[B.cells [.int .i64 s.1,.int .i64 s.2,.int .i64 s.3,.int .i64 s.4],B.cells [V.ptr 0 0,V.ex 6 false (List.map encM ms),V.ex 4 false (List.map encP ps)],B.cells [V.mp (List.map encI (List.map Rd.id l)) (List.map encI (List.map Rd.df l))]]} {env:=[(6,V.ref RK.map 2),(11,V.ex 2 true []),(64,V.lent (Place.cell 1 1)),(65,.int .i64 (↑ms.length:Int)),(66,.int .i64 0)],heap:=[B.cells [.int .i64 s.1,.int .i64 s.2,.int .i64 s.3,.int .i64 s.4],B.cells [V.ptr 0 0,V.ex 6 false (List.map encM ms),V.ex 4 false (List.map encP ps)],B.cells [V.mp (List.map encI (List.map Rd.id l)) (List.map encI (List.map Rd.df l))]]},true)] [1,1,1,1,1,1,1,2,3,4,5] (V.tup [V.ex 2 true [],.int .i64 6],[B.cells [.int .i64 s.1,.int .i64 s.2,.int .i64 s.3,.int .i64 s.4],B.cells [V.ptr 0 0,V.ex 6 false (List.map encM ms),V.ex 4 false (List.map encP ps)]]) (by kernel_rfl) ?_ rfl
     refine⟨?_,?_,?_,?_,trivial⟩
     all_goals first|exact is_eq rfl|(simp;done)|(simp;omega)|(refine is_eq ?_;simp[rmS,rdS,bS,bD];done)|(rw[List.length_map];exact decide_eq_false (by omega))|(rw[List.length_map];exact decide_eq_true (by omega))|(exact decide_eq_false (by rw[List.length_map];omega))|done
    | some q =>
     rw[show ((0:Nat):Int)=0 from rfl,hz] at hre;simp only[rmEnd,List.nil_append] at hre;subst hre;have hE:P.rdE ms ps l=0:=by unfold P.rdE;rw[if_neg hp,if_pos h0,if_neg hl0,hz]
     rw[show P.rdV ms ps l=q by unfold P.rdV;rw[if_pos hE,hz];rfl,hE]
     refine wayE U48_ok (fi:=fi45) (by kernel_rfl) (LGood.two (k0:=7) (k1:=22) (σ0:=rdS s x ms ps l [] [] 0) (σ1:=rmS s true ms ps (l.map Rd.id) (l.map Rd.df) [] 0) h2 (by kernel_rfl) (by kernel_rfl) (by exact hq) (by exact hrm)) [(decide ((↑(List.map encP ps).length:Int)>10000),false),(is {env:=[(0,V.ptr 1 0),(1,V.sl x (List.map encD l)),(6,V.ref RK.map 2),(26,V.sl x (List.map encD l)),(27,.int .i64 (↑(List.map encD l).length:Int)),(28,.int .i64 0)],heap:=[B.cells [.int .i64 s.1,.int .i64 s.2,.int .i64 s.3,.int .i64 s.4],B.cells [V.ptr 0 0,V.ex 6 false (List.map encM ms),V.ex 4 false (List.map encP ps)],B.cells [V.mp [] []]]} {env:=[(0,V.ptr 1 0),(1,V.sl x (List.map encD l)),(6,V.ref RK.map 2),(26,V.sl x (List.map encD l)),(27,.int .i64 (↑l.length:Int)),(28,.int .i64 0)],heap:=[B.cells [.int .i64 s.1,.int .i64 s.2,.int .i64 s.3,.int .i64 s.4],B.cells [V.ptr 0 0,V.ex 6 false (List.map encM ms),V.ex 4 false (List.map encP ps)],B.cells [V.mp [] []]]},true),((↑(List.map encD l).length:Int)==0,false),(is {env:=[(6,V.ref RK.map 2),(11,V.ex 2 true []),(64,V.lent (Place.cell 1 1)),(65,.int .i64 (↑(List.map encM ms).length:Int)),(66,.int .i64 0)],heap:=[B.cells [.int .i64 s.1,.int .i64 s.2,.int .i64 s.3,.int .i64 s.4],B.cells [V.ptr 0 0,V.ex 6 false (List.map encM ms),V.ex 4 false (List.map encP ps)],B.cells [V.mp (List.map encI (List.map Rd.id l)) (List.map encI (List.map Rd.df l))]]} {env:=[(6,V.ref RK.map 2),(11,V.ex 2 true []),(64,V.lent (Place.cell 1 1)),(65,.int .i64 (↑ms.length:Int)),(66,.int .i64 0)],heap:=[B.cells [.int .i64 s.1,.int .i64 s.2,.int .i64 s.3,.int .i64 s.4],B.cells [V.ptr 0 0,V.ex 6 false (List.map encM ms),V.ex 4 false (List.map encP ps)],B.cells [V.mp (List.map encI (List.map Rd.id l)) (List.map encI (List.map Rd.df l))]]},true)] [1,1,1,1,1,1,1,2,3,4,5] (V.tup [V.ex 2 q.isEmpty (List.map encE q),.int .i64 0],[B.cells [.int .i64 s.1,.int .i64 s.2,.int .i64 s.3,.int .i64 s.4],B.cells [V.ptr 0 0,V.ex 6 false (List.map encM ms),V.ex 4 false (List.map encP ps)]]) (by kernel_rfl) ?_ rfl
     refine⟨?_,?_,?_,?_,trivial⟩
     all_goals first|exact is_eq rfl|(simp;done)|(simp;omega)|(refine is_eq ?_;simp[rmS,rdS,bS,bD];done)|(rw[List.length_map];exact decide_eq_false (by omega))|(rw[List.length_map];exact decide_eq_true (by omega))|(exact decide_eq_false (by rw[List.length_map];omega))|done
  ·obtain⟨X,hq⟩:=hr.2 h0
   have hE:P.rdE ms ps l=P.rdL ms [] l:=by unfold P.rdE;rw[if_neg hp,if_neg h0]
   rw[show P.rdV ms ps l=[] by unfold P.rdV;rw[if_neg (by omega)],hE]
   generalize P.rdL ms [] l=e at *;refine wayE U48_ok (fi:=fi45) (by kernel_rfl) (lg_fst (k0:=7) (σ0:=rdS s x ms ps l [] [] 0) h2 (by kernel_rfl) (by exact hq)) [(decide ((↑(List.map encP ps).length:Int)>10000),false),(is {env:=[(0,V.ptr 1 0),(1,V.sl x (List.map encD l)),(6,V.ref RK.map 2),(26,V.sl x (List.map encD l)),(27,.int .i64 (↑(List.map encD l).length:Int)),(28,.int .i64 0)],heap:=[B.cells [.int .i64 s.1,.int .i64 s.2,.int .i64 s.3,.int .i64 s.4],B.cells [V.ptr 0 0,V.ex 6 false (List.map encM ms),V.ex 4 false (List.map encP ps)],B.cells [V.mp [] []]]} {env:=[(0,V.ptr 1 0),(1,V.sl x (List.map encD l)),(6,V.ref RK.map 2),(26,V.sl x (List.map encD l)),(27,.int .i64 (↑l.length:Int)),(28,.int .i64 0)],heap:=[B.cells [.int .i64 s.1,.int .i64 s.2,.int .i64 s.3,.int .i64 s.4],B.cells [V.ptr 0 0,V.ex 6 false (List.map encM ms),V.ex 4 false (List.map encP ps)],B.cells [V.mp [] []]]},true)] [1,1,1,1,1,1,1,2,3] (V.tup [V.ex 2 true [],.int .i64 e],[B.cells [.int .i64 s.1,.int .i64 s.2,.int .i64 s.3,.int .i64 s.4],B.cells [V.ptr 0 0,V.ex 6 false (List.map encM ms),V.ex 4 false (List.map encP ps)]]) (by kernel_rfl) ?_ rfl
   refine⟨?_,?_,trivial⟩
   all_goals first|exact is_eq rfl|(simp;done)|(simp;omega)|(refine is_eq ?_;simp[rmS,rdS,bS,bD];done)|(rw[List.length_map];exact decide_eq_false (by omega))|(rw[List.length_map];exact decide_eq_true (by omega))|(exact decide_eq_false (by rw[List.length_map];omega))|done
theorem read0_runs (s:Set4) (x:Bool) (ps:List Pnt) (l:List Rd) (hl:l.length<2 ^ 40) :
  Runs T F 45 [.ptr 1 0,.sl x (l.map encD)] [bS s,bE ps] (.tup [.ex 2 true [],.int .i64 (P.rd0 ps l)],[bS s,bE ps]):=by
 have h2:loopsOf fi45.body=[lb fi45 0,lb fi45 1]:=by kernel_rfl
 by_cases hp:10000<ps.length
 ·rw[show P.rd0 ps l=2 by unfold P.rd0;rw[if_pos hp]]
  refine wayE U48_ok (fi:=fi45) (by kernel_rfl) noL [(decide ((↑(List.map encP ps).length:Int)>10000),true)] [1,1,1,1,1,1,1,2] (V.tup [V.ex 2 true [],.int .i64 2],[B.cells [.int .i64 s.1,.int .i64 s.2,.int .i64 s.3,.int .i64 s.4],B.cells [V.ptr 0 0,V.sl true [],V.ex 4 false (List.map encP ps)]]) (by kernel_rfl) ?_ rfl
  refine⟨?_,trivial⟩
  all_goals first|exact is_eq rfl|(simp;done)|(simp;omega)|(refine is_eq ?_;simp[rmS,rdS,bS,bD];done)|(rw[List.length_map];exact decide_eq_false (by omega))|(rw[List.length_map];exact decide_eq_true (by omega))|(exact decide_eq_false (by rw[List.length_map];omega))|done
 ·by_cases hl0:l.length=0
  ·rw[show P.rd0 ps l=4 by unfold P.rd0;rw[if_neg hp,if_pos hl0]]
   obtain rfl:=List.length_eq_zero_iff.1 hl0
   have hq:LRuns (vstep T (vlim T F) lplim fi45.cx 3 (lb fi45 0)) (re0 s x ps [] 0) (.exit 0,⟨(re0 s x ps [] 0).env++[(29,.bool false)],(re0 s x ps [] 0).heap⟩):=by
    refine lastE U48_ok noL [(decide ((↑(0):Int)<(↑(([]:List Rd)).length:Int)),false)] [2] (Ex.exit 0,{env:=[(0,V.ptr 1 0),(1,V.sl x (List.map encD (([]:List Rd)))),(6,V.ref RK.map 2),(26,V.sl x (List.map encD (([]:List Rd)))),(27,.int .i64 (↑(([]:List Rd)).length:Int)),(28,.int .i64 (↑(0):Int)),(29,V.bool (decide ((↑(0):Int)<(↑(([]:List Rd)).length:Int))))],heap:=[B.cells [.int .i64 s.1,.int .i64 s.2,.int .i64 s.3,.int .i64 s.4],B.cells [V.ptr 0 0,V.sl true [],V.ex 4 false (List.map encP ps)],B.cells [V.mp [] []]]}) (by kernel_rfl) (by simp) ⟨by simp,trivial⟩ (by simp[re0,bS,bE])
   refine wayE U48_ok (fi:=fi45) (by kernel_rfl) (lg_fst (k0:=7) (σ0:=re0 s x ps [] 0) h2 (by kernel_rfl) (by exact hq)) [(decide ((↑(List.map encP ps).length:Int)>10000),false),(is {env:=[(0,V.ptr 1 0),(1,V.sl x (List.map encD (([]:List Rd)))),(6,V.ref RK.map 2),(26,V.sl x (List.map encD (([]:List Rd)))),(27,.int .i64 (↑(List.map encD (([]:List Rd))).length:Int)),(28,.int .i64 0)],heap:=[B.cells [.int .i64 s.1,.int .i64 s.2,.int .i64 s.3,.int .i64 s.4],B.cells [V.ptr 0 0,V.sl true [],V.ex 4 false (List.map encP ps)],B.cells [V.mp [] []]]} {env:=[(0,V.ptr 1 0),(1,V.sl x (List.map encD (([]:List Rd)))),(6,V.ref RK.map 2),(26,V.sl x (List.map encD (([]:List Rd)))),(27,.int .i64 (↑(([]:List Rd)).length:Int)),(28,.int .i64 0)],heap:=[B.cells [.int .i64 s.1,.int .i64 s.2,.int .i64 s.3,.int .i64 s.4],B.cells [V.ptr 0 0,V.sl true [],V.ex 4 false (List.map encP ps)],B.cells [V.mp [] []]]},true),((↑(List.map encD (([]:List Rd))).length:Int)==0,true)] [1,1,1,1,1,1,1,2,3,4] (V.tup [V.ex 2 true [],.int .i64 4],[B.cells [.int .i64 s.1,.int .i64 s.2,.int .i64 s.3,.int .i64 s.4],B.cells [V.ptr 0 0,V.sl true [],V.ex 4 false (List.map encP ps)]]) (by kernel_rfl) ?_ rfl
   refine⟨?_,?_,?_,trivial⟩
   all_goals first|exact is_eq rfl|(simp;done)|(simp;omega)|(refine is_eq ?_;simp[rmS,rdS,bS,bD];done)|(rw[List.length_map];exact decide_eq_false (by omega))|(rw[List.length_map];exact decide_eq_true (by omega))|(exact decide_eq_false (by rw[List.length_map];omega))|done
  ·rw[show P.rd0 ps l=41 by unfold P.rd0;rw[if_neg hp,if_neg hl0]]
   have hk:0<l.length:=by omega
   have hq:∃ X,LRuns (vstep T (vlim T F) lplim fi45.cx 3 (lb fi45 0)) (re0 s x ps l 0) (.ret,⟨[(4,.ex 2 true []),(5,.int .i64 41)],bS s::bE ps::X⟩):=by
    refine⟨_,lastE U48_ok noL [(decide ((↑(0):Int)<(↑l.length:Int)),true),(decide ((↑(0):Int)<(↑(List.map encD l).length:Int)),true),(((List.map encD l).getD (0) V.undef).cells.length==2&&fitP [.int .i64,.int .i64] 0 ((List.map encD l).getD (0) V.undef),true)] [2,0,3,4,0,0,1,0,1,0,0,1,0] (Ex.ret,{env:=[(4,V.ex 2 true []),(5,.int .i64 41)],heap:=[B.cells [.int .i64 s.1,.int .i64 s.2,.int .i64 s.3,.int .i64 s.4],B.cells [V.ptr 0 0,V.sl true [],V.ex 4 false (List.map encP ps)],B.cells [V.mp [] []],B.cells [.int .i64 (Fd.rd l (0) 0),.int .i64 (Fd.rd l (0) 1)]]}) (by kernel_rfl) (by simp) ?_ rfl⟩
    refine⟨?_,?_,?_,trivial⟩
    all_goals first
     | exact fitD _ _ hk
     | (simp;omega)
   obtain⟨X,hq⟩:=hq;refine wayE U48_ok (fi:=fi45) (by kernel_rfl) (lg_fst (k0:=7) (σ0:=re0 s x ps l 0) h2 (by kernel_rfl) (by exact hq)) [(decide ((↑(List.map encP ps).length:Int)>10000),false),(is {env:=[(0,V.ptr 1 0),(1,V.sl x (List.map encD l)),(6,V.ref RK.map 2),(26,V.sl x (List.map encD l)),(27,.int .i64 (↑(List.map encD l).length:Int)),(28,.int .i64 0)],heap:=[B.cells [.int .i64 s.1,.int .i64 s.2,.int .i64 s.3,.int .i64 s.4],B.cells [V.ptr 0 0,V.sl true [],V.ex 4 false (List.map encP ps)],B.cells [V.mp [] []]]} {env:=[(0,V.ptr 1 0),(1,V.sl x (List.map encD l)),(6,V.ref RK.map 2),(26,V.sl x (List.map encD l)),(27,.int .i64 (↑l.length:Int)),(28,.int .i64 0)],heap:=[B.cells [.int .i64 s.1,.int .i64 s.2,.int .i64 s.3,.int .i64 s.4],B.cells [V.ptr 0 0,V.sl true [],V.ex 4 false (List.map encP ps)],B.cells [V.mp [] []]]},true)] [1,1,1,1,1,1,1,2,3] (V.tup [V.ex 2 true [],.int .i64 (41)],[B.cells [.int .i64 s.1,.int .i64 s.2,.int .i64 s.3,.int .i64 s.4],B.cells [V.ptr 0 0,V.sl true [],V.ex 4 false (List.map encP ps)]]) (by kernel_rfl) ?_ rfl
   refine⟨?_,?_,trivial⟩
   all_goals first|exact is_eq rfl|(simp;done)|(simp;omega)|(refine is_eq ?_;simp[rmS,rdS,bS,bD];done)|(rw[List.length_map];exact decide_eq_false (by omega))|(rw[List.length_map];exact decide_eq_true (by omega))|(exact decide_eq_false (by rw[List.length_map];omega))|done
def decD (v:V):Rd:=match v with
 | .agg [a,b]=>⟨intOf a,intOf b⟩
 | _=>⟨0,0⟩
namespace P
def decDs (xs:List V):List Rd:=xs.map decD
end P
theorem decDs_enc (l:List Rd):P.decDs (l.map encD)=l:=by
 induction l with
 | nil=>rfl
 | cons m ms ih=>simp only[P.decDs,List.map_cons,List.cons.injEq] at ih ⊢;exact⟨rfl,ih⟩
noncomputable def isDs (xs:List V):Bool:=eqB xs ((P.decDs xs).map encD)
theorem isDs_enc (l:List Rd):isDs (l.map encD)=true:=by unfold isDs;rw[decDs_enc];exact eqB_self _
theorem isDs_of {xs:List V} (h:isDs xs=true):∃ l:List Rd,xs=l.map encD:=⟨_,of_eqB h⟩
noncomputable def readS:List V→Heap→Tr (V×Heap):=fun a H=>match a with
 | [p,.sl _ ys]=>match isPtr 1 p with
  | true=>.must (isDs ys) (.must (decide (ys.length<2 ^ 40)) (onSc H (fun s ms ps=>.must (okMs ms) (.ret (.tup [.ex 2 (P.rdV ms ps (P.decDs ys)).isEmpty ((P.rdV ms ps (P.decDs ys)).map encE),.int .i64 (P.rdE ms ps (P.decDs ys))],H)))
    (fun s ps=>.ret (.tup [.ex 2 true [],.int .i64 (P.rd0 ps (P.decDs ys))],H))))
  | false=>.fail
 | _=>.fail
theorem readS_ok:∀ a H r,(readS a H).run=some r→Runs T F 45 a H r:=by
 intro a H x h;unfold readS at h;split at h
 ·rename_i p x ys
  split at h
  ·rename_i hp
   rw[of_isPtr hp];obtain⟨g1,g⟩:=Tr.must_some h;obtain⟨g2,g'⟩:=Tr.must_some g;clear h g;obtain⟨l,rfl⟩:=isDs_of g1;rw[decDs_enc] at g';simp only[List.length_map,decide_eq_true_eq] at g2;rcases onSc_run g' with ⟨s,ms,ps,rfl,h1,h2,h3,h⟩ | ⟨s,ps,rfl,h1,h2,h⟩
   ·obtain⟨h4,h⟩:=Tr.must_some h
    have hr:=ret_some h;clear h;subst hr;exact read_runs s x ms ps l h3 g2 h4
   ·have hr:=ret_some h;clear h;subst hr
    exact read0_runs s x ps l g2
  ·cases h
 ·cases h
end Go.Proofs.Ytnijkhcmjpfjeaa
