/- D7: those who are candidates. -/
import Derived.Test.YtnijkhcmjpfjeaaD6
namespace Go.Proofs.Ytnijkhcmjpfjeaa
open Go Go.Vm
def rgOf:Code→List (Array Tmp×Code×Code)
 | .seq a b=>rgOf a++rgOf b
 | .cond _ a b=>rgOf a++rgOf b
 | .block _ a=>rgOf a
 | .loop a=>rgOf a
 | .scope a=>rgOf a
 | .rangeFunc _ ps a b=>[(ps,a,b)]
 | _=>[]
noncomputable def Fd.lp46:V:=match rgOf fi46.body with
 | (ps,a,b)::_=>.lp [5] [.ptr 2 0] ps.toList a b fi46.cx .ready
 | _=>.undef
theorem F_yB (id:Nat):F (yB+id)=none:=by
 cases hq:F (yB+id) with
 | none=>rfl
 | some fi=>exact absurd (F_ok _ _ hq).1 (Nat.not_lt.2 (Nat.le_add_right _ _))
noncomputable def U64:Vm.Spec:=U68.add 64 (inl T Sh U68 0 0 fi64)
theorem U64_ok:Vm.Good (vlim T F) U64:=U68_ok.inl (by kernel_rfl) 0 0 (by kernel_rfl)
noncomputable def U63:Vm.Spec:=U64.add 63 (inl T Sh U64 0 0 fi63)
theorem U63_ok:Vm.Good (vlim T F) U63:=U64_ok.inl (by kernel_rfl) 0 0 (by kernel_rfl)
noncomputable def U0:Vm.Spec:=U63.yields (yldT T Sh U63 noLoop F)
theorem U0_ok:Vm.Good (vlim T F) U0:=U63_ok.yields F_yB
noncomputable def caH (s:Set4) (ms:List Mem) (ps:List Pnt) (l:List Prs) (lb:V):Heap:=[bS s,bD ms ps,.cells [lb],.cells [.ptr 1 0],.cells [.sl false (l.map encE)],.cells [Fd.lp46]]
noncomputable def caS (s:Set4) (ms:List Mem) (ps:List Pnt) (l:List Prs) (lb:V) (k:Int):St:=⟨[(0,V.ref RK.yld 5),(2,V.ptr 3 0),(6,V.sl false (List.map encE l)),(7,.int .i64 l.length),(8,.int .i64 k)],caH s ms ps l lb⟩
def Fd.ee (l:List Prs) (k j:Nat):Int:=intOf (fld j ((List.map encE l).getD k V.undef))
namespace P
def isC (w ep:Int) (ms:List Mem) (e:Prs):Bool:=match ms[e.at_.toNat]? with
 | some m=>decide (m.since≤ep+1-w)
 | none=>false
def cand (w ep:Int) (ms:List Mem) (l:List Prs):List Prs:=l.filter (isC w ep ms)
end P
theorem cand_y {w ep:Int} {ms:List Mem} {e:Prs} {r:List Prs} (h:P.isC w ep ms e=true):P.cand w ep ms (e::r)=e::P.cand w ep ms r:=by simp[P.cand,h]
theorem cand_n {w ep:Int} {ms:List Mem} {e:Prs} {r:List Prs} (h:P.isC w ep ms e=false):P.cand w ep ms (e::r)=P.cand w ep ms r:=by simp[P.cand,h]
def lbOf (acc:List Prs):V:=match acc with
 | []=>.sl true []
 | a::r=>.ex 2 false ((a::r).map encE)
theorem e_at (l:List Prs) (k:Nat) (h:k<l.length):(l.map encE).getD k V.undef=encE l[k]:=by simp[h]
theorem ee0 (l:List Prs) (k:Nat) (h:k<l.length):Fd.ee l k 0=l[k].at_:=by rw[Fd.ee,e_at l k h];rfl
theorem ee1 (l:List Prs) (k:Nat) (h:k<l.length):Fd.ee l k 1=l[k].est:=by rw[Fd.ee,e_at l k h];rfl
theorem fitE (l:List Prs) (k:Nat) (h:k<l.length):(((l.map encE).getD k V.undef).cells.length==2&&fitP [.int .i64,.int .i64] 0 ((l.map encE).getD k V.undef))=true:=by
 rw[e_at l k h];rfl
theorem ca_loop (s:Set4) (ms:List Mem) (ps:List Pnt) (l:List Prs) (hl:l.length<2 ^ 30) (hP:okPb ms l=true) (hp0:0<ps.length) (hp1:ps.length<2 ^ 40) (hep:0≤(lst ps).ep∧(lst ps).ep≤1000000000000) (hw:0≤s.wait∧s.wait≤100) :
  ∀ (d k:Nat) (acc:List Prs),k+d=l.length→acc.length≤k →
  LRuns (vstep T (vlim T F) lplim fi76.cx 6 (lb fi76 0)) (caS s ms ps l (lbOf acc) k) (.exit 0,⟨(caS s ms ps l (lbOf acc) l.length).env++[(9,.bool false)],caH s ms ps l (lbOf (acc++P.cand s.wait (lst ps).ep ms (l.drop k)))⟩)
 | 0,k,acc,hd,ha=>by
  have hk:k=l.length:=by omega
  subst hk;rw[List.drop_length];simp only[P.cand,List.filter_nil,List.append_nil];cases acc with
  | nil=>refine lastE U0_ok noL [(decide ((↑(l.length):Int)<(↑l.length:Int)),false)] [2] (Ex.exit 0,{env:=[(0,V.ref RK.yld 5),(2,V.ptr 3 0),(6,V.sl false (List.map encE l)),(7,.int .i64 (↑l.length:Int)),(8,.int .i64 (↑(l.length):Int)),(9,V.bool (decide ((↑(l.length):Int)<(↑l.length:Int))))],heap:=[bS s,bD ms ps,B.cells [V.sl true []],B.cells [V.ptr 1 0],B.cells [V.sl false (List.map encE l)],B.cells [Fd.lp46]]}) (by kernel_rfl) (by simp) ⟨by simp,trivial⟩ (by simp[caS,caH,lbOf,bS,bD])
  | cons a r=>refine lastE U0_ok noL [(decide ((↑(l.length):Int)<(↑l.length:Int)),false)] [2] (Ex.exit 0,{env:=[(0,V.ref RK.yld 5),(2,V.ptr 3 0),(6,V.sl false (List.map encE l)),(7,.int .i64 (↑l.length:Int)),(8,.int .i64 (↑(l.length):Int)),(9,V.bool (decide ((↑(l.length):Int)<(↑l.length:Int))))],heap:=[bS s,bD ms ps,B.cells [V.ex 2 false (List.map encE (a::r))],B.cells [V.ptr 1 0],B.cells [V.sl false (List.map encE l)],B.cells [Fd.lp46]]}) (by kernel_rfl) (by simp) ⟨by simp,trivial⟩ (by simp[caS,caH,lbOf,bS,bD])
 | d+1,k,acc,hd,ha=>by
  have hk:k<l.length:=by omega
  have hwi:IntKind.i64.wrap ((k:Int)+1)=((k+1:Nat):Int):=by rw[i64in (by omega) (by omega)];rfl
  have hwl:IntKind.i64.wrap ((ps.length:Int)-1)=ps.length-1:=i64in (by omega) (by omega)
  have h0:=ee0 l k hk;have h1:=ee1 l k hk;obtain⟨b1,b2,b3,b4⟩:=okPb_at hP k hk;have hj:l[k].at_.toNat<ms.length:=by omega
  have hac:acc.length<2 ^ 41:=by omega
  have hmm:Fd.mm ms (Fd.ee l k 0)=encM ms[l[k].at_.toNat]:=by rw[h0];exact m_at ms _ hj
  have hfm:fitP [.int .i64] 4 (Fd.mm ms (Fd.ee l k 0))=true:=by rw[hmm];rfl
  have hce:decide (intOf (fld 4 (Fd.mm ms (Fd.ee l k 0)))≤IntKind.i64.wrap (IntKind.i64.wrap (intOf (fld 0 (Fd.lp ps))+1)-s.wait))=P.isC s.wait (lst ps).ep ms l[k]:=by
   unfold P.isC;rw[List.getElem?_eq_getElem hj,hmm,lp_at hp0 hp1];simp only[encM,encP,fld,V.cells,List.getD_cons_zero,List.getD_cons_succ,intOf];rw[i64in (n:=(lst ps).ep+1) (by omega) (by omega),i64in (by omega) (by omega)]
  rw[List.drop_eq_getElem_cons hk];have he:encE l[k]=V.agg [.int .i64 (Fd.ee l k 0),.int .i64 (Fd.ee l k 1)]:=by rw[h0,h1];rfl
  cases hc:P.isC s.wait (lst ps).ep ms l[k] with
  | true =>
   rw[show P.cand s.wait (lst ps).ep ms (l[k]::l.drop (k+1))=l[k]::P.cand s.wait (lst ps).ep ms (l.drop (k+1)) from cand_y hc];have ih:=ca_loop s ms ps l hl hP hp0 hp1 hep hw d (k+1) (acc++[l[k]]) (by omega) (by simp;omega)
   rw[List.append_assoc,List.singleton_append] at ih;rw[hc] at hce;have hc:=hce;cases acc with
   | nil =>
    refine nextE U0_ok noL [(decide ((↑k:Int)<(↑l.length:Int)),true),(decide ((↑k:Int)<(↑(List.map encE l).length:Int)),true),(((List.map encE l).getD k V.undef).cells.length==2&&fitP [.int .i64,.int .i64] 0 ((List.map encE l).getD k V.undef),true),(decide (0≤Fd.ee l k 0),true),(decide (Fd.ee l k 0<(↑(List.map encM ms).length:Int)),true),(decide ((Fd.ee l k 0).toNat<(List.map encM ms).length),true),(fitP [.int .i64] 4 (Fd.mm ms (Fd.ee l k 0)),true),(decide (0≤IntKind.i64.wrap ((↑(List.map encP ps).length:Int)-1)),true),(decide (IntKind.i64.wrap ((↑(List.map encP ps).length:Int)-1)<(↑(List.map encP ps).length:Int)),true),((Fd.lp ps).cells.length==4&&fitP [.int .i64,.int .i64,TK.slice 3,TK.slice 3] 0 (Fd.lp ps),true),(decide (intOf (fld 4 (Fd.mm ms (Fd.ee l k 0)))≤IntKind.i64.wrap (IntKind.i64.wrap (intOf (fld 0 (Fd.lp ps))+1)-s.3)),true)] [2,0,3,4,5,6,7,8,9,10,11,12,12,12,0,1,0,0,0,0,1,12,12,1] {env:=[(0,V.ref RK.yld 5),(2,V.ptr 3 0),(6,V.sl false (List.map encE l)),(7,.int .i64 (↑l.length:Int)),(8,.int .i64 (IntKind.i64.wrap ((↑k:Int)+1)))],heap:=[bS s,bD ms ps,B.cells [V.ex 2 false [V.agg [.int .i64 (Fd.ee l k 0),.int .i64 (Fd.ee l k 1)]]],B.cells [V.ptr 1 0],B.cells [V.sl false (List.map encE l)],B.cells [Fd.lp46]]} (by kernel_rfl) ?_ (by rw[hwi];simp[caS,caH,lbOf,bS,bD,he]) ih
    refine⟨?_,?_,?_,?_,?_,?_,?_,?_,?_,?_,?_,trivial⟩
    all_goals first|exact fitE _ _ hk|exact fitPt' hp0 hp1|exact hfm|exact hc|exact rooms_e hac|(rw[h0];simp;omega)|(rw[List.length_map,hwl];simp;omega)|(rw[List.length_map];exact decide_eq_true (by omega))|(simp;done)|(simp;omega)|done
   | cons a r =>
    refine nextE U0_ok noL [(decide ((↑k:Int)<(↑l.length:Int)),true),(decide ((↑k:Int)<(↑(List.map encE l).length:Int)),true),(((List.map encE l).getD k V.undef).cells.length==2&&fitP [.int .i64,.int .i64] 0 ((List.map encE l).getD k V.undef),true),(decide (0≤Fd.ee l k 0),true),(decide (Fd.ee l k 0<(↑(List.map encM ms).length:Int)),true),(decide ((Fd.ee l k 0).toNat<(List.map encM ms).length),true),(fitP [.int .i64] 4 (Fd.mm ms (Fd.ee l k 0)),true),(decide (0≤IntKind.i64.wrap ((↑(List.map encP ps).length:Int)-1)),true),(decide (IntKind.i64.wrap ((↑(List.map encP ps).length:Int)-1)<(↑(List.map encP ps).length:Int)),true),((Fd.lp ps).cells.length==4&&fitP [.int .i64,.int .i64,TK.slice 3,TK.slice 3] 0 (Fd.lp ps),true),(decide (intOf (fld 4 (Fd.mm ms (Fd.ee l k 0)))≤IntKind.i64.wrap (IntKind.i64.wrap (intOf (fld 0 (Fd.lp ps))+1)-s.3)),true),(rooms ((List.map encE (a::r)).length+1) 16,true),(decide ((List.map encE (a::r)).length+1<4611686018427387904),true)] [2,0,3,4,5,6,7,8,9,10,11,12,12,12,0,1,13,14,0,0,1,12,12,1] {env:=[(0,V.ref RK.yld 5),(2,V.ptr 3 0),(6,V.sl false (List.map encE l)),(7,.int .i64 (↑l.length:Int)),(8,.int .i64 (IntKind.i64.wrap ((↑k:Int)+1)))],heap:=[bS s,bD ms ps,B.cells [V.ex 2 false (List.map encE (a::r)++[V.agg [.int .i64 (Fd.ee l k 0),.int .i64 (Fd.ee l k 1)]])],B.cells [V.ptr 1 0],B.cells [V.sl false (List.map encE l)],B.cells [Fd.lp46]]} (by kernel_rfl) ?_ (by rw[hwi];simp[caS,caH,lbOf,bS,bD,he]) ih
    refine⟨?_,?_,?_,?_,?_,?_,?_,?_,?_,?_,?_,?_,?_,trivial⟩
    all_goals first|exact fitE _ _ hk|exact fitPt' hp0 hp1|exact hfm|exact hc|exact rooms_e hac|(rw[h0];simp;omega)|(rw[List.length_map,hwl];simp;omega)|(rw[List.length_map];exact decide_eq_true (by omega))|(simp;done)|(simp;omega)|done
  | false =>
   rw[show P.cand s.wait (lst ps).ep ms (l[k]::l.drop (k+1))=P.cand s.wait (lst ps).ep ms (l.drop (k+1)) from cand_n hc];have ih:=ca_loop s ms ps l hl hP hp0 hp1 hep hw d (k+1) acc (by omega) (by omega)
   rw[hc] at hce;have hc:=hce;cases acc with
   | nil =>
    refine nextE U0_ok noL [(decide ((↑k:Int)<(↑l.length:Int)),true),(decide ((↑k:Int)<(↑(List.map encE l).length:Int)),true),(((List.map encE l).getD k V.undef).cells.length==2&&fitP [.int .i64,.int .i64] 0 ((List.map encE l).getD k V.undef),true),(decide (0≤Fd.ee l k 0),true),(decide (Fd.ee l k 0<(↑(List.map encM ms).length:Int)),true),(decide ((Fd.ee l k 0).toNat<(List.map encM ms).length),true),(fitP [.int .i64] 4 (Fd.mm ms (Fd.ee l k 0)),true),(decide (0≤IntKind.i64.wrap ((↑(List.map encP ps).length:Int)-1)),true),(decide (IntKind.i64.wrap ((↑(List.map encP ps).length:Int)-1)<(↑(List.map encP ps).length:Int)),true),((Fd.lp ps).cells.length==4&&fitP [.int .i64,.int .i64,TK.slice 3,TK.slice 3] 0 (Fd.lp ps),true),(decide (intOf (fld 4 (Fd.mm ms (Fd.ee l k 0)))≤IntKind.i64.wrap (IntKind.i64.wrap (intOf (fld 0 (Fd.lp ps))+1)-s.3)),false)] [2,0,3,4,5,6,7,8,9,10,11,12,12,12,12,12,1] {env:=[(0,V.ref RK.yld 5),(2,V.ptr 3 0),(6,V.sl false (List.map encE l)),(7,.int .i64 (↑l.length:Int)),(8,.int .i64 (IntKind.i64.wrap ((↑k:Int)+1)))],heap:=[bS s,bD ms ps,B.cells [V.sl true []],B.cells [V.ptr 1 0],B.cells [V.sl false (List.map encE l)],B.cells [Fd.lp46]]} (by kernel_rfl) ?_ (by rw[hwi];rfl) ih
    refine⟨?_,?_,?_,?_,?_,?_,?_,?_,?_,?_,?_,trivial⟩
    all_goals first|exact fitE _ _ hk|exact fitPt' hp0 hp1|exact hfm|exact hc|exact rooms_e hac|(rw[h0];simp;omega)|(rw[List.length_map,hwl];simp;omega)|(rw[List.length_map];exact decide_eq_true (by omega))|(simp;done)|(simp;omega)|done
   | cons a r =>
    refine nextE U0_ok noL [(decide ((↑k:Int)<(↑l.length:Int)),true),(decide ((↑k:Int)<(↑(List.map encE l).length:Int)),true),(((List.map encE l).getD k V.undef).cells.length==2&&fitP [.int .i64,.int .i64] 0 ((List.map encE l).getD k V.undef),true),(decide (0≤Fd.ee l k 0),true),(decide (Fd.ee l k 0<(↑(List.map encM ms).length:Int)),true),(decide ((Fd.ee l k 0).toNat<(List.map encM ms).length),true),(fitP [.int .i64] 4 (Fd.mm ms (Fd.ee l k 0)),true),(decide (0≤IntKind.i64.wrap ((↑(List.map encP ps).length:Int)-1)),true),(decide (IntKind.i64.wrap ((↑(List.map encP ps).length:Int)-1)<(↑(List.map encP ps).length:Int)),true),((Fd.lp ps).cells.length==4&&fitP [.int .i64,.int .i64,TK.slice 3,TK.slice 3] 0 (Fd.lp ps),true),(decide (intOf (fld 4 (Fd.mm ms (Fd.ee l k 0)))≤IntKind.i64.wrap (IntKind.i64.wrap (intOf (fld 0 (Fd.lp ps))+1)-s.3)),false)] [2,0,3,4,5,6,7,8,9,10,11,12,12,12,12,12,1] {env:=[(0,V.ref RK.yld 5),(2,V.ptr 3 0),(6,V.sl false (List.map encE l)),(7,.int .i64 (↑l.length:Int)),(8,.int .i64 (IntKind.i64.wrap ((↑k:Int)+1)))],heap:=[bS s,bD ms ps,B.cells [V.ex 2 false (List.map encE (a::r))],B.cells [V.ptr 1 0],B.cells [V.sl false (List.map encE l)],B.cells [Fd.lp46]]} (by kernel_rfl) ?_ (by rw[hwi];rfl) ih
    refine⟨?_,?_,?_,?_,?_,?_,?_,?_,?_,?_,?_,trivial⟩
    all_goals first|exact fitE _ _ hk|exact fitPt' hp0 hp1|exact hfm|exact hc|exact rooms_e hac|(rw[h0];simp;omega)|(rw[List.length_map,hwl];simp;omega)|(rw[List.length_map];exact decide_eq_true (by omega))|(simp;done)|(simp;omega)|done
def decE1 (v:V):Prs:=match v with
 | .agg [a,b]=>⟨intOf a,intOf b⟩
 | _=>⟨0,0⟩
namespace P
def decEs (xs:List V):List Prs:=xs.map decE1
end P
theorem decEs_enc (l:List Prs):P.decEs (l.map encE)=l:=by
 induction l with
 | nil=>rfl
 | cons m ms ih=>simp only[P.decEs,List.map_cons,List.cons.injEq] at ih ⊢;exact⟨rfl,ih⟩
noncomputable def isEs (xs:List V):Bool:=eqB xs ((P.decEs xs).map encE)
theorem isEs_enc (l:List Prs):isEs (l.map encE)=true:=by unfold isEs;rw[decEs_enc];exact eqB_self _
theorem isEs_of {xs:List V} (h:isEs xs=true):∃ l:List Prs,xs=l.map encE:=⟨_,of_eqB h⟩
def okEp (s:Set4) (ps:List Pnt):Bool:=decide (0≤(lst ps).ep∧(lst ps).ep≤1000000000000∧0≤s.wait∧s.wait≤100)
noncomputable def candS:List V→Heap→Tr (V×Heap):=fun a H=>.must (eqB a [.ref .yld 5,.ptr 4 0,.ptr 3 0]) (match H with
 | [b0,b1,_,b3,.cells [.sl z ys],b5]=>.must (isEs ys) (.must (decide (ys.length<2 ^ 30)) (onSc [b0,b1] (fun s ms ps=>.must (eqB H (caH s ms ps (P.decEs ys) (.sl true []))) (.must (okPb ms (P.decEs ys)) (.must (okEp s ps)
   (.ask (P.cand s.wait (lst ps).ep ms (P.decEs ys)).isEmpty (.ret (.tup [],H)) (.ret (.tup [],[b0,b1,.cells [.ex 2 false ((P.cand s.wait (lst ps).ep ms (P.decEs ys)).map encE)],b3,.cells [.sl z ys],b5])))))) (fun _ _=>.fail)))
 | _=>.fail)
theorem candS_ok:∀ a H r,(candS a H).run=some r→Runs T F 76 a H r:=by
 intro a H r h;unfold candS at h;obtain⟨h1,g⟩:=Tr.must_some h;clear h;have h1:=of_eqB h1;subst h1;split at g
 ·rename_i b0 b1 b2 b3 z ys b5
  obtain⟨h2,g1⟩:=Tr.must_some g;obtain⟨h3,g2⟩:=Tr.must_some g1;clear g g1;obtain⟨l,rfl⟩:=isEs_of h2;rw[decEs_enc] at g2;simp only[List.length_map,decide_eq_true_eq] at h3;rcases onSc_run g2 with ⟨s,ms,ps,he,h4,h5,h6,g⟩ | ⟨s,ps,he,_,_,g⟩
  ·obtain⟨h7,g3⟩:=Tr.must_some g
   obtain⟨h8,g4⟩:=Tr.must_some g3;obtain⟨h9,g5⟩:=Tr.must_some g4;clear g g2 g3 g4;have h7:=of_eqB h7;simp only[caH,List.cons.injEq,B.cells.injEq,V.sl.injEq,and_true] at h7;obtain⟨rfl,rfl,rfl,rfl,rfl,rfl⟩:=h7;simp only[okEp,decide_eq_true_eq] at h9;have hq:=ca_loop s ms ps l h3 h8 h4 h5 ⟨h9.1,h9.2.1⟩ h9.2.2 l.length 0 [] (by omega) (by simp)
   simp only[List.nil_append,List.drop_zero] at hq;cases hc:P.cand s.wait (lst ps).ep ms l with
   | nil =>
    rw[hc] at g5 hq;have hr:=ret_some (show (Tr.ret _).run=some r from g5);subst hr;refine wayE U0_ok (fi:=fi76) (by kernel_rfl) (LGood.one (b:=lb fi76 0) (k:=1) (σ0:=caS s ms ps l (.sl true []) 0) (by kernel_rfl) (by exact hq)) [(is {env:=[(0,V.ref RK.yld 5),(2,V.ptr 3 0),(6,V.sl false (List.map encE l)),(7,.int .i64 (↑(List.map encE l).length:Int)),(8,.int .i64 0)],heap:=[bS s,bD ms ps,B.cells [V.sl true []],B.cells [V.ptr 1 0],B.cells [V.sl false (List.map encE l)],B.cells [Fd.lp46]]} {env:=[(0,V.ref RK.yld 5),(2,V.ptr 3 0),(6,V.sl false (List.map encE l)),(7,.int .i64 (↑l.length:Int)),(8,.int .i64 0)],heap:=[bS s,bD ms ps,B.cells [V.sl true []],B.cells [V.ptr 1 0],B.cells [V.sl false (List.map encE l)],B.cells [Fd.lp46]]},true)] [2] (V.tup [],[bS s,bD ms ps,B.cells [V.sl true []],B.cells [V.ptr 1 0],B.cells [V.sl false (List.map encE l)],B.cells [Fd.lp46]]) (by kernel_rfl) ?_ rfl
    exact⟨is_eq (by simp[caS,caH,bS,bD]),trivial⟩
   | cons e q =>
    rw[hc] at g5 hq;have hr:=ret_some (show (Tr.ret _).run=some r from g5);subst hr;refine wayE U0_ok (fi:=fi76) (by kernel_rfl) (LGood.one (b:=lb fi76 0) (k:=1) (σ0:=caS s ms ps l (.sl true []) 0) (by kernel_rfl) (by exact hq)) [(is {env:=[(0,V.ref RK.yld 5),(2,V.ptr 3 0),(6,V.sl false (List.map encE l)),(7,.int .i64 (↑(List.map encE l).length:Int)),(8,.int .i64 0)],heap:=[bS s,bD ms ps,B.cells [V.sl true []],B.cells [V.ptr 1 0],B.cells [V.sl false (List.map encE l)],B.cells [Fd.lp46]]} {env:=[(0,V.ref RK.yld 5),(2,V.ptr 3 0),(6,V.sl false (List.map encE l)),(7,.int .i64 (↑l.length:Int)),(8,.int .i64 0)],heap:=[bS s,bD ms ps,B.cells [V.sl true []],B.cells [V.ptr 1 0],B.cells [V.sl false (List.map encE l)],B.cells [Fd.lp46]]},true)] [2] (V.tup [],[bS s,bD ms ps,B.cells [V.ex 2 false (List.map encE (e::q))],B.cells [V.ptr 1 0],B.cells [V.sl false (List.map encE l)],B.cells [Fd.lp46]]) (by kernel_rfl) ?_ rfl
    exact⟨is_eq (by simp[caS,caH,bS,bD]),trivial⟩
  ·cases g
 ·cases g
noncomputable def U76:Vm.Spec:=U63.add 76 candS
theorem U76_ok:Vm.Good (vlim T F) U76:=U63_ok.add candS_ok
end Go.Proofs.Ytnijkhcmjpfjeaa
