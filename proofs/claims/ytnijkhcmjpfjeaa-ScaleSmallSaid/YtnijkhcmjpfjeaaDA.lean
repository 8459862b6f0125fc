/- DA: what is expected;what is taken. -/
import Derived.Test.YtnijkhcmjpfjeaaD9
namespace Go.Proofs.Ytnijkhcmjpfjeaa
open Go Go.Vm
noncomputable def pointS:List V→Heap→Tr (V×Heap):=fun a H=>match a with
 | [p,.sl z ys]=>match isPtr 1 p with
  | true=>.must (eqB z false) (.must (isEs ys) (.must (decide (0<ys.length∧ys.length≤16)) (onSc H (fun s ms ps=>.must (okMb ms) (.must (okPb ms (P.decEs ys)) (.must (okEp s ps) (.ret (encP (ptO s ms ps (P.decEs ys)),H))))) (fun _ _=>.fail))))
  | false=>.fail
 | _=>.fail
theorem pointS_ok:∀ a H r,(pointS a H).run=some r→Runs T F 46 a H r:=by
 intro a H r h;unfold pointS at h;split at h
 ·rename_i p z ys
  split at h
  ·rename_i hp
   rw[of_isPtr hp];obtain⟨h1,g1⟩:=Tr.must_some h;obtain⟨h2,g2⟩:=Tr.must_some g1;obtain⟨h3,g3⟩:=Tr.must_some g2;clear h g1 g2;have h1:=of_eqB h1;subst h1;obtain⟨l,rfl⟩:=isEs_of h2;rw[decEs_enc] at g3;simp only[List.length_map,decide_eq_true_eq] at h3;rcases onSc_run g3 with ⟨s,ms,ps,rfl,h4,h5,h6,g⟩ | ⟨s,ps,rfl,_,_,g⟩
   ·obtain⟨h7,g4⟩:=Tr.must_some g
    obtain⟨h8,g5⟩:=Tr.must_some g4;obtain⟨h9,g6⟩:=Tr.must_some g5;have hr:=ret_some g6;subst hr;exact pt_runs s ms ps l h6 h4 h5 h3.1 h3.2 h7 h8 h9
   ·cases g
  ·cases h
 ·cases h
noncomputable def U45:Vm.Spec:=U76.add 45 readS
theorem U45_ok:Vm.Good (vlim T F) U45:=U76_ok.add readS_ok
noncomputable def U46:Vm.Spec:=U45.add 46 pointS
theorem U46_ok:Vm.Good (vlim T F) U46:=U45_ok.add pointS_ok
noncomputable def U49:Vm.Spec:=U46.add 49 (inl T Sh U46 0 0 fi49)
theorem U49_ok:Vm.Good (vlim T F) U49:=U46_ok.inl (by kernel_rfl) 0 0 (by kernel_rfl)
theorem fd_some {ms:List Mem} {i:Int}:∀ {k:Int},0≤k→¬P.fd ms i k<0→∃ m∈ms,m.id=i:=by
 induction ms with
 | nil=>intro k hk h;simp[P.fd] at h
 | cons m ms ih =>
  intro k hk h;rw[fd_cons] at h;split at h
  ·rename_i hm;exact⟨m,by simp,hm⟩
  ·obtain⟨m',h1,h2⟩:=ih (by omega) h
   exact⟨m',by simp[h1],h2⟩
theorem rdM_ok {l:List Rd}:∀ {ms:List Mem} {k:Int} {q:List Prs},P.rdM l ms k=some q→(∀ e∈q,k≤e.at_∧e.at_<k+ms.length∧-2000000000000≤e.est∧e.est≤2000000000000)∧q.length≤ms.length∧((∃ m∈ms,P.dfo l m.id≠none)→q≠[])
 | [],k,q,h=>by
  simp only[P.rdM,Option.some.injEq] at h;subst h;exact⟨by simp,by simp,by rintro ⟨m,hm,_⟩;simp at hm⟩
 | m::ms,k,q,h=>by
  simp only[P.rdM] at h;cases hd:P.dfo l m.id with
  | some d =>
   rw[hd] at h;simp only at h;split at h
   ·rename_i hb
    rw[Option.map_eq_some_iff] at h;obtain⟨q',h1,rfl⟩:=h;obtain⟨g1,g2,g3⟩:=rdM_ok h1;refine⟨fun e he=>?_,by simp;omega,fun _=>by simp⟩
    rcases List.mem_cons.1 he with rfl | he
    ·simp only[List.length_cons];omega
    ·have:=g1 e he;simp only[List.length_cons];omega
   ·cases h
  | none =>
   rw[hd] at h;simp only at h;split at h
   ·obtain⟨g1,g2,g3⟩:=rdM_ok h
    refine⟨fun e he=>?_,by simp;omega,?_⟩
    ·have:=g1 e he;simp only[List.length_cons];omega
    ·rintro ⟨m',hm,hn⟩
     rcases List.mem_cons.1 hm with rfl | hm
     ·exact absurd hd hn
     ·exact g3 ⟨m',hm,hn⟩
   ·cases h
theorem rdV_ok {ms:List Mem} {ps:List Pnt} {l:List Rd} (h:P.rdE ms ps l=0):0<(P.rdV ms ps l).length∧(P.rdV ms ps l).length≤ms.length∧okPb ms (P.rdV ms ps l)=true:=by
 have h':=h;unfold P.rdE at h;unfold P.rdV;rw[if_pos h'];by_cases hp:10000<ps.length
 ·rw[if_pos hp] at h;omega
 ·rw[if_neg hp] at h
  by_cases h0:P.rdL ms [] l=0
  ·rw[if_pos h0] at h
   by_cases hl:l.length=0
   ·rw[if_pos hl] at h;omega
   ·rw[if_neg hl] at h
    cases hz:P.rdM l ms 0 with
    | none=>rw[hz] at h;simp at h
    | some q =>
     obtain⟨g1,g2,g3⟩:=rdM_ok hz;simp only[Option.getD_some];have hex:∃ m∈ms,P.dfo l m.id≠none:=by
      cases l with
      | nil=>simp at hl
      | cons r l =>
       simp only[P.rdL] at h0;split at h0
       ·omega
       ·rename_i hf
        obtain⟨m,hm,hi⟩:=fd_some (k:=0) (by omega) hf
        exact⟨m,hm,by simp[P.dfo,hi]⟩
     have hne:=g3 hex;refine⟨List.length_pos_iff.2 hne,g2,?_⟩;rw[okPb,List.all_eq_true];intro e he;have:=g1 e he
     simp only[decide_eq_true_eq];omega
  ·rw[if_neg h0] at h;exact absurd h h0
def exP (s:Set4) (ms:List Mem) (ps:List Pnt) (l:List Rd):Pnt:=if P.rdE ms ps l=0 then ptO s ms ps (P.rdV ms ps l) else ⟨0,0,true,[],true,[]⟩
theorem ex_runs (s:Set4) (x:Bool) (ms:List Mem) (ps:List Pnt) (l:List Rd) (hm:ms.length≤16) (hp0:0<ps.length) (hp1:ps.length<2 ^ 40) (hl:l.length<2 ^ 40) (ho:okMs ms=true) (hM:okMb ms=true) (hO:okEp s ps=true) :
  Runs T F 26 [.ptr 1 0,.sl x (l.map encD)] [bS s,bD ms ps] (.tup [encP (exP s ms ps l),.int .i64 (P.rdE ms ps l)],[bS s,bD ms ps]):=by
 unfold exP;by_cases h0:P.rdE ms ps l=0
 ·rw[if_pos h0]
  have hv:=rdV_ok h0;have hz:(P.rdV ms ps l).isEmpty=false:=by
   cases hq:P.rdV ms ps l with
   | nil=>rw[hq] at hv;simp at hv
   | cons a b=>rfl
  have he:(P.rdE ms ps l != 0)=false:=by rw[h0];rfl
  refine wayE U49_ok (fi:=fi26) (by kernel_rfl) noL [(eqB (List.map encD l) (List.map encD (P.decDs (List.map encD l))),true),(decide ((List.map encD l).length<1099511627776),true),(eqB (encS4 s) (encS4 s),true),(eqB (List.map encP ps) (List.map encP (P.decPs (List.map encP ps))),true),(decide (0<(List.map encP ps).length),true),(decide ((List.map encP ps).length<1099511627776),true),(eqB (List.map encM ms) (List.map encM (P.decMs (List.map encM ms))),true),(decide ((List.map encM ms).length<1099511627776),true),((P.decMs (List.map encM ms)).all fun m=>decide (-1000000000000000000≤m.2∧m.2≤1000000000000000000∧-1000000000000000000≤m.3∧m.3≤1000000000000000000),true),(P.rdE (P.decMs (List.map encM ms)) (P.decPs (List.map encP ps)) (P.decDs (List.map encD l)) != 0,false),(eqB (P.rdV (P.decMs (List.map encM ms)) (P.decPs (List.map encP ps)) (P.decDs (List.map encD l))).isEmpty false,true),(eqB (List.map encE (P.rdV (P.decMs (List.map encM ms)) (P.decPs (List.map encP ps)) (P.decDs (List.map encD l)))) (List.map encE (P.decEs (List.map encE (P.rdV (P.decMs (List.map encM ms)) (P.decPs (List.map encP ps)) (P.decDs (List.map encD l)))))),true),(decide (0<(List.map encE (P.rdV (P.decMs (List.map encM ms)) (P.decPs (List.map encP ps)) (P.decDs (List.map encD l)))).length∧(List.map encE (P.rdV (P.decMs (List.map encM ms)) (P.decPs (List.map encP ps)) (P.decDs (List.map encD l)))).length≤16),true),((P.decMs (List.map encM ms)).all fun m=>(m.7.all fun x=>decide (-1000000000≤x∧x≤1000000000))&&decide (m.7.length≤1000000),true),((P.decEs (List.map encE (P.rdV (P.decMs (List.map encM ms)) (P.decPs (List.map encP ps)) (P.decDs (List.map encD l))))).all fun e=>decide (0≤e.1∧e.1<(↑(P.decMs (List.map encM ms)).length:Int)∧-2000000000000≤e.2∧e.2≤2000000000000),true),(decide (0≤(lst (P.decPs (List.map encP ps))).1∧(lst (P.decPs (List.map encP ps))).1≤1000000000000∧0≤s.3∧s.3≤100),true)] [0,1,2,3,4,5,6,7,8,9,10,0,1,11,0,1,12,13,14,4,5,6,7,8,9,15,16,17,0,1] (V.tup [V.agg [.int .i64 ((lst (P.decPs (List.map encP ps))).1+1),.int .i64 (P.avU s.1 (P.decMs (List.map encM ms)) (P.pq {cap:=s.1,gate:=s.2,wait:=s.3,keep:=s.4} (P.decMs (List.map encM ms)) (P.decPs (List.map encP ps)) (P.decEs (List.map encE (P.rdV (P.decMs (List.map encM ms)) (P.decPs (List.map encP ps)) (P.decDs (List.map encD l))))))),V.sl false (List.map encI (P.idsOf (P.decMs (List.map encM ms)) (P.pq {cap:=s.1,gate:=s.2,wait:=s.3,keep:=s.4} (P.decMs (List.map encM ms)) (P.decPs (List.map encP ps)) (P.decEs (List.map encE (P.rdV (P.decMs (List.map encM ms)) (P.decPs (List.map encP ps)) (P.decDs (List.map encD l)))))))),V.sl false (List.map encI (P.avW s.1 (P.decMs (List.map encM ms)) (P.pq {cap:=s.1,gate:=s.2,wait:=s.3,keep:=s.4} (P.decMs (List.map encM ms)) (P.decPs (List.map encP ps)) (P.decEs (List.map encE (P.rdV (P.decMs (List.map encM ms)) (P.decPs (List.map encP ps)) (P.decDs (List.map encD l))))))))],.int .i64 0],[bS s,bD ms ps]) (by kernel_rfl) ?_ (by rw[decMs_enc,decPs_enc,decDs_enc,decEs_enc,h0];rfl)
  refine⟨?_,?_,?_,?_,?_,?_,?_,?_,?_,?_,?_,?_,?_,?_,?_,?_,trivial⟩
  all_goals first|exact eqB_self _|exact isDs_enc _|exact isPs_enc _|exact isMs_enc _|exact isEs_enc _|(rw[List.length_map];exact decide_eq_true (by omega))|(rw[decMs_enc];exact ho)|(rw[decMs_enc];exact hM)|(rw[decMs_enc,decPs_enc,decDs_enc];exact he)|(rw[decMs_enc,decPs_enc,decDs_enc];exact eqB_eq hz)|(rw[decMs_enc,decPs_enc,decDs_enc,List.length_map];exact decide_eq_true ⟨hv.1,by omega⟩)|(rw[decMs_enc,decPs_enc,decDs_enc,decEs_enc];exact hv.2.2)|(rw[decPs_enc];exact hO)|done
 ·rw[if_neg h0]
  have he:(P.rdE ms ps l != 0)=true:=by simpa using h0
  refine wayE U49_ok (fi:=fi26) (by kernel_rfl) noL [(eqB (List.map encD l) (List.map encD (P.decDs (List.map encD l))),true),(decide ((List.map encD l).length<1099511627776),true),(eqB (encS4 s) (encS4 s),true),(eqB (List.map encP ps) (List.map encP (P.decPs (List.map encP ps))),true),(decide (0<(List.map encP ps).length),true),(decide ((List.map encP ps).length<1099511627776),true),(eqB (List.map encM ms) (List.map encM (P.decMs (List.map encM ms))),true),(decide ((List.map encM ms).length<1099511627776),true),((P.decMs (List.map encM ms)).all fun m=>decide (-1000000000000000000≤m.2∧m.2≤1000000000000000000∧-1000000000000000000≤m.3∧m.3≤1000000000000000000),true),(P.rdE (P.decMs (List.map encM ms)) (P.decPs (List.map encP ps)) (P.decDs (List.map encD l)) != 0,true)] [0,1,2,3,4,5,6,7,8,9,10,0,1,11] (V.tup [V.agg [.int .i64 0,.int .i64 0,V.sl true [],V.sl true []],.int .i64 (P.rdE (P.decMs (List.map encM ms)) (P.decPs (List.map encP ps)) (P.decDs (List.map encD l)))],[bS s,bD ms ps]) (by kernel_rfl) ?_ (by rw[decMs_enc,decPs_enc,decDs_enc];rfl)
  refine⟨?_,?_,?_,?_,?_,?_,?_,?_,?_,?_,trivial⟩
  all_goals first|exact eqB_self _|exact isDs_enc _|exact isPs_enc _|exact isMs_enc _|exact isEs_enc _|(rw[List.length_map];exact decide_eq_true (by omega))|(rw[decMs_enc];exact ho)|(rw[decMs_enc];exact hM)|(rw[decMs_enc,decPs_enc,decDs_enc];exact he)|(rw[decMs_enc,decPs_enc,decDs_enc];exact eqB_eq hz)|(rw[decMs_enc,decPs_enc,decDs_enc,List.length_map];exact decide_eq_true ⟨hv.1,by omega⟩)|(rw[decMs_enc,decPs_enc,decDs_enc,decEs_enc];exact hv.2.2)|(rw[decPs_enc];exact hO)|done
theorem ex0_runs (s:Set4) (x:Bool) (ps:List Pnt) (l:List Rd) (hp0:0<ps.length) (hp1:ps.length<2 ^ 40) (hl:l.length<2 ^ 40) :
  Runs T F 26 [.ptr 1 0,.sl x (l.map encD)] [bS s,bE ps] (.tup [encP ⟨0,0,true,[],true,[]⟩,.int .i64 (P.rd0 ps l)],[bS s,bE ps]):=by
 have he:(P.rd0 ps l != 0)=true:=by
  unfold P.rd0;split
  ·rfl
  ·split<;>rfl
 refine wayE U49_ok (fi:=fi26) (by kernel_rfl) noL [(eqB (List.map encD l) (List.map encD (P.decDs (List.map encD l))),true),(decide ((List.map encD l).length<1099511627776),true),(eqB (encS4 s) (encS4 s),true),(eqB (List.map encP ps) (List.map encP (P.decPs (List.map encP ps))),true),(decide (0<(List.map encP ps).length),true),(decide ((List.map encP ps).length<1099511627776),true),(P.rd0 (P.decPs (List.map encP ps)) (P.decDs (List.map encD l)) != 0,true)] [0,1,2,3,4,5,6,7,0,1,8] (V.tup [V.agg [.int .i64 0,.int .i64 0,V.sl true [],V.sl true []],.int .i64 (P.rd0 (P.decPs (List.map encP ps)) (P.decDs (List.map encD l)))],[bS s,bE ps]) (by kernel_rfl) ?_ (by rw[decPs_enc,decDs_enc];rfl)
 refine⟨?_,?_,?_,?_,?_,?_,?_,trivial⟩
 all_goals first
  | exact eqB_self _
  | exact isDs_enc _
  | exact isPs_enc _
  | (rw[decPs_enc,decDs_enc];exact he)
  | (rw[List.length_map];exact decide_eq_true (by omega))
  | done
end Go.Proofs.Ytnijkhcmjpfjeaa
