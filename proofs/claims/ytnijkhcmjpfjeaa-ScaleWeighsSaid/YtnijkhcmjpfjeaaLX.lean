/- LX: the law ScaleWeighs over V: the weights of a point are together a million;none is too great;u lies between the estimates,and is not too far from any. -/
import Derived.Test.YtnijkhcmjpfjeaaLW
import Derived.Test.YtnijkhcmjpfjeaaH4
namespace Go.Proofs.Ytnijkhcmjpfjeaa
open Go Go.Vm
def lwE (s:Set4) (ms:List Mem) (ps:List Pnt) (zr:Bool) (r:List Rd) (ep u:Int) (ids ws:List Int) (a b:Int):Ex×St:=(.exit 0,⟨(lwS s ms ps zr r ep u ids ws a b 1000000 ids.length).env++[(64,.bool false)],lwH s ms ps ep u ids ws⟩)
theorem kn_of {s:Set4} {ms:List Mem} {ps:List Pnt} {r:List Rd} {n:Nat} (hI:Inv s ms ps n) (he:P.rdE ms ps r=0) :
  Kn s ms r (P.pto s ms ps r).u (P.pto s ms ps r).ids (P.pto s ms ps r).ws ((P.pq s ms ps (P.rdV ms ps r)).map Prs.est)∧0 < (P.pto s ms ps r).ids.length∧(∀ a b,(∀ e∈(P.pq s ms ps (P.rdV ms ps r)).map Prs.est,a≤e∧e≤b)→a≤(P.pto s ms ps r).u∧(P.pto s ms ps r).u≤b):=by
 have hv:=rdV_ok he
 have hl:=hI.len
 have hsub:=pq_sub s ms ps (P.rdV ms ps r)
 obtain⟨q0,q1,q2,q3⟩:=pq_ok (s:=s) (ps:=ps) hv.1 (by omega) hv.2.2
 have hU:=avU_b (cap:=s.cap) hI.okMb q2 q0 q1
 obtain⟨w1,w2,w3⟩:=avW_ok (cap:=s.cap) hI.okMb q2 q0 q1
 have hcap:=hI.set.cap
 have hC:=avW_cap (cap:=s.cap) hI.okMb q2 q1 ⟨by omega,by omega⟩
 have hge:∀ a,(∀ e∈P.pq s ms ps (P.rdV ms ps r),a≤e.est)→a≤P.avU s.cap ms (P.pq s ms ps (P.rdV ms ps r)):=fun a h=>avU_ge hI.okMb q2 q0 q1 h
 have hle:∀ a,(∀ e∈P.pq s ms ps (P.rdV ms ps r),e.est≤a)→P.avU s.cap ms (P.pq s ms ps (P.rdV ms ps r))≤a:=fun a h=>avU_le hI.okMb q2 q0 q1 h
 unfold P.pto ptO
 simp only
 have hes:∀ e∈P.pq s ms ps (P.rdV ms ps r),∃ d,r.filter (fun x=>decide (x.id=P.idAt ms e.at_))=[⟨P.idAt ms e.at_,d⟩]∧P.hoE ms (P.idAt ms e.at_) d=0∧P.hoV ms (P.idAt ms e.at_) d=e.est:=fun e h=>hold_est hI.nod he (hsub.subset h)
 generalize P.pq s ms ps (P.rdV ms ps r)=q at *
 have hil:(P.idsOf ms q).length=q.length:=by simp[P.idsOf]
 refine⟨⟨by omega,by omega,by simp[hil],w2,w1,by rw[hil];exact hC,by omega,?_,?_,?_⟩,by omega,fun a b h=>⟨hge a fun e he=>(h e.est (List.mem_map.2 ⟨e,he,rfl⟩)).1,hle b fun e he=>(h e.est (List.mem_map.2 ⟨e,he,rfl⟩)).2⟩⟩
 ·intro e he
  obtain⟨x,hx,rfl⟩:=List.mem_map.1 he
  have:=List.all_eq_true.1 q2 x hx
  simp only[decide_eq_true_eq] at this
  exact this.2.2
 ·rcases q3 with q3 | q3
  ·exact .inl (by omega)
  ·refine .inr fun e he=>?_
   obtain⟨x,hx,rfl⟩:=List.mem_map.1 he
   have:=q3 x hx
   unfold P.far at this
   split at this <;> omega
 ·intro i h
  have hi:i < q.length:=by omega
  have hid:(P.idsOf ms q)[i]=P.idAt ms q[i].at_:=by simp[P.idsOf]
  obtain⟨d,h1,h2,h3⟩:=hes q[i] (List.getElem_mem hi)
  rw[hid]
  exact⟨d,h1,h2,by simpa using hi,by rw[h3];simp⟩
theorem long_small {l:List Dd} (h:P.long l=false):P.small l=true:=by
 unfold P.long at h
 unfold P.small
 simp only[Bool.or_eq_false_iff,decide_eq_false_iff_not,List.any_eq_false,decide_eq_true_eq] at h
 simp only[Bool.and_eq_true,decide_eq_true_eq,List.all_eq_true]
 exact⟨by omega,fun d hd=>by have:=h.2 d hd;omega⟩
set_option maxHeartbeats 2000000 in
theorem law_runs (s:Set4) (u:Int) (zl zr:Bool) (l:List Dd) (r:List Rd) (hll:l.length≤maxLen):Runs T F 6 [.agg (encS4 s),.int .i64 u,.sl zl (l.map encDd),.sl zr (r.map encD)] [] (.bool true,[]):=by
 cases hlo:P.long l with
 | true =>
  refine wayE U17_ok (fi:=fi6) (by kernel_rfl) noL [(eqB (List.map encDd l) (List.map encDd (P.decDds (List.map encDd l))),true),(P.long (P.decDds (List.map encDd l)),true)] [2,3,3,3,3,0] (V.bool true,[]) (by kernel_rfl) ?_ rfl
  refine⟨?_,?_,trivial⟩
  all_goals first
                   | exact isDds_enc _
                   | exact isDs_enc _
                   | exact isMs_enc _
                   | exact isPs_enc _
                   | exact eqB_self _
                   | (rw[decDds_enc];exact hlo)
                   | (rw[decDds_enc];exact hsm)
                   | (rw[List.length_map];exact decide_eq_true (by omega))
                   | (rw[List.length_map];exact decide_eq_false (by omega))
                   | exact decide_eq_true hn
                   | exact decide_eq_false hn
                   | exact hn'
                   | (rw[decDds_enc];exact hz)
                   | (rw[decDds_enc];exact isPs_enc _)
                   | (rw[decDds_enc];exact isMs_enc _)
                   | (rw[decDds_enc,List.length_map];exact decide_eq_true hp0)
                   | (rw[decDds_enc,List.length_map];exact decide_eq_true hp1)
                   | (rw[decDds_enc,List.length_map];exact decide_eq_true hm1)
                   | (rw[decDds_enc,decMs_enc];exact decide_eq_true hI.len)
                   | (rw[decDds_enc,decMs_enc];exact hI.okMs (by omega))
                   | (rw[decDds_enc,decMs_enc];exact hI.okMb)
                   | (rw[decDds_enc,decPs_enc];exact hI.okEp (by omega))
                   | (rw[decDds_enc,decPs_enc,decDs_enc];exact hr0)
                   | (rw[decDds_enc,decMs_enc,decPs_enc,decDs_enc];exact he)
                   | (rw[decDds_enc,decMs_enc,decPs_enc,decDs_enc];exact he')
                   | (refine is_eq ?_;rw[decDds_enc,decMs_enc,decPs_enc,decDs_enc];done)
                   | (rw[List.length_map];exact decide_eq_true (by omega))
                   | (rw[List.length_map,List.length_map,K.wl];simp;done)
                   | exact decide_eq_true hab.1
                   | exact decide_eq_true hab.2
                   | done
 | false =>
  have hsm:=long_small hlo
  by_cases hr:40 < r.length
  ·refine wayE U17_ok (fi:=fi6) (by kernel_rfl) noL [(eqB (List.map encDd l) (List.map encDd (P.decDds (List.map encDd l))),true),(P.long (P.decDds (List.map encDd l)),false),(decide ((↑(List.map encD r).length:Int) > 40),true)] [2,3,3,3,3,4] (V.bool true,[]) (by kernel_rfl) ?_ rfl
   refine⟨?_,?_,?_,trivial⟩
   all_goals first
                   | exact isDds_enc _
                   | exact isDs_enc _
                   | exact isMs_enc _
                   | exact isPs_enc _
                   | exact eqB_self _
                   | (rw[decDds_enc];exact hlo)
                   | (rw[decDds_enc];exact hsm)
                   | (rw[List.length_map];exact decide_eq_true (by omega))
                   | (rw[List.length_map];exact decide_eq_false (by omega))
                   | exact decide_eq_true hn
                   | exact decide_eq_false hn
                   | exact hn'
                   | (rw[decDds_enc];exact hz)
                   | (rw[decDds_enc];exact isPs_enc _)
                   | (rw[decDds_enc];exact isMs_enc _)
                   | (rw[decDds_enc,List.length_map];exact decide_eq_true hp0)
                   | (rw[decDds_enc,List.length_map];exact decide_eq_true hp1)
                   | (rw[decDds_enc,List.length_map];exact decide_eq_true hm1)
                   | (rw[decDds_enc,decMs_enc];exact decide_eq_true hI.len)
                   | (rw[decDds_enc,decMs_enc];exact hI.okMs (by omega))
                   | (rw[decDds_enc,decMs_enc];exact hI.okMb)
                   | (rw[decDds_enc,decPs_enc];exact hI.okEp (by omega))
                   | (rw[decDds_enc,decPs_enc,decDs_enc];exact hr0)
                   | (rw[decDds_enc,decMs_enc,decPs_enc,decDs_enc];exact he)
                   | (rw[decDds_enc,decMs_enc,decPs_enc,decDs_enc];exact he')
                   | (refine is_eq ?_;rw[decDds_enc,decMs_enc,decPs_enc,decDs_enc];done)
                   | (rw[List.length_map];exact decide_eq_true (by omega))
                   | (rw[List.length_map,List.length_map,K.wl];simp;done)
                   | exact decide_eq_true hab.1
                   | exact decide_eq_true hab.2
                   | done
  ·by_cases hn:P.nwE s.cap s.gate s.wait s.keep u=0
   ·have hX:=mkd_inv hn hsm
    have hI:=hX.inv
    have hp0:=hI.p0
    have hp1:(P.mkd s u l).ps.length < 1099511627776:=by have:=hI.p1;omega
    have hm1:(P.mkd s u l).ms.length < 1099511627776:=by have:=hI.len;omega
    cases hz:(P.mkd s u l).z with
    | true =>
     have hr0:(P.rd0 (P.mkd s u l).ps r != 0)=true:=by have:=rd0_ne (P.mkd s u l).ps r;simpa using this
     refine wayE U17_ok (fi:=fi6) (by kernel_rfl) noL [(eqB (List.map encDd l) (List.map encDd (P.decDds (List.map encDd l))),true),(P.long (P.decDds (List.map encDd l)),false),(decide ((↑(List.map encD r).length:Int) > 40),false),(eqB [V.int IntKind.i64 s.1,.int .i64 s.2,.int .i64 s.3,.int .i64 s.4] [.int .i64 s.1,.int .i64 s.2,.int .i64 s.3,.int .i64 s.4],true),(P.small (P.decDds (List.map encDd l)),true),(decide (P.nwE s.1 s.2 s.3 s.4 u=0),true),((P.mkd { cap:=s.1,gate:=s.2,wait:=s.3,keep:=s.4 } u (P.decDds (List.map encDd l))).1,true),(eqB (List.map encD r) (List.map encD (P.decDs (List.map encD r))),true),(decide ((List.map encD r).length < 1099511627776),true),(eqB (List.map encP (P.mkd { cap:=s.1,gate:=s.2,wait:=s.3,keep:=s.4 } u (P.decDds (List.map encDd l))).3) (List.map encP (P.decPs (List.map encP (P.mkd { cap:=s.1,gate:=s.2,wait:=s.3,keep:=s.4 } u (P.decDds (List.map encDd l))).3))),true),(decide (0 < (List.map encP (P.mkd { cap:=s.1,gate:=s.2,wait:=s.3,keep:=s.4 } u (P.decDds (List.map encDd l))).3).length),true),(decide ((List.map encP (P.mkd { cap:=s.1,gate:=s.2,wait:=s.3,keep:=s.4 } u (P.decDds (List.map encDd l))).3).length < 1099511627776),true),(P.rd0 (P.decPs (List.map encP (P.mkd { cap:=s.1,gate:=s.2,wait:=s.3,keep:=s.4 } u (P.decDds (List.map encDd l))).3)) (P.decDs (List.map encD r)) != 0,true)] [2,3,3,3,3,4,5,2,6,7,8,1,9,10,0,1,9,10,5,11,12,13,14,0,1,14,0,0] (V.bool true,[]) (by kernel_rfl) ?_ rfl
     refine⟨?_,?_,?_,?_,?_,?_,?_,?_,?_,?_,?_,?_,?_,trivial⟩
     all_goals first
                   | exact isDds_enc _
                   | exact isDs_enc _
                   | exact isMs_enc _
                   | exact isPs_enc _
                   | exact eqB_self _
                   | (rw[decDds_enc];exact hlo)
                   | (rw[decDds_enc];exact hsm)
                   | (rw[List.length_map];exact decide_eq_true (by omega))
                   | (rw[List.length_map];exact decide_eq_false (by omega))
                   | exact decide_eq_true hn
                   | exact decide_eq_false hn
                   | exact hn'
                   | (rw[decDds_enc];exact hz)
                   | (rw[decDds_enc];exact isPs_enc _)
                   | (rw[decDds_enc];exact isMs_enc _)
                   | (rw[decDds_enc,List.length_map];exact decide_eq_true hp0)
                   | (rw[decDds_enc,List.length_map];exact decide_eq_true hp1)
                   | (rw[decDds_enc,List.length_map];exact decide_eq_true hm1)
                   | (rw[decDds_enc,decMs_enc];exact decide_eq_true hI.len)
                   | (rw[decDds_enc,decMs_enc];exact hI.okMs (by omega))
                   | (rw[decDds_enc,decMs_enc];exact hI.okMb)
                   | (rw[decDds_enc,decPs_enc];exact hI.okEp (by omega))
                   | (rw[decDds_enc,decPs_enc,decDs_enc];exact hr0)
                   | (rw[decDds_enc,decMs_enc,decPs_enc,decDs_enc];exact he)
                   | (rw[decDds_enc,decMs_enc,decPs_enc,decDs_enc];exact he')
                   | (refine is_eq ?_;rw[decDds_enc,decMs_enc,decPs_enc,decDs_enc];done)
                   | (rw[List.length_map];exact decide_eq_true (by omega))
                   | (rw[List.length_map,List.length_map,K.wl];simp;done)
                   | exact decide_eq_true hab.1
                   | exact decide_eq_true hab.2
                   | done
    | false =>
     by_cases he0:P.rdE (P.mkd s u l).ms (P.mkd s u l).ps r=0
     ·have he:=decide_eq_true he0
      obtain⟨K,hk0,hkb⟩:=kn_of hI he0
      obtain⟨a,b,hab,hL⟩:=lw_loop s (P.mkd s u l).ms (P.mkd s u l).ps zr r (P.pto s (P.mkd s u l).ms (P.mkd s u l).ps r).ep (P.pto s (P.mkd s u l).ms (P.mkd s u l).ps r).u (P.pto s (P.mkd s u l).ms (P.mkd s u l).ps r).ids (P.pto s (P.mkd s u l).ms (P.mkd s u l).ps r).ws _ hI (by omega) (by omega) K _ 0 0 0 (Nat.zero_add _) (fun j _ h=>by omega)
      have hab:=hkb a b hab
      simp only[List.take_zero] at hL
      have hG:LGood T (vlim T F) lplim fi6.cx (loopsIs [(13,lwS s (P.mkd s u l).ms (P.mkd s u l).ps zr r (P.pto s (P.mkd s u l).ms (P.mkd s u l).ps r).ep (P.pto s (P.mkd s u l).ms (P.mkd s u l).ps r).u (P.pto s (P.mkd s u l).ms (P.mkd s u l).ps r).ids (P.pto s (P.mkd s u l).ms (P.mkd s u l).ps r).ws 0 0 0 0,
        lwE s (P.mkd s u l).ms (P.mkd s u l).ps zr r (P.pto s (P.mkd s u l).ms (P.mkd s u l).ps r).ep (P.pto s (P.mkd s u l).ms (P.mkd s u l).ps r).u (P.pto s (P.mkd s u l).ms (P.mkd s u l).ps r).ids (P.pto s (P.mkd s u l).ms (P.mkd s u l).ps r).ws a b)]) fi6.body :=
       lg_fst (b0:=lb fi6 0) (b1:=lb fi6 1) (by kernel_rfl) (by kernel_rfl) (by exact hL)
      refine wayE U17_ok (fi:=fi6) (by kernel_rfl) hG [(eqB (List.map encDd l) (List.map encDd (P.decDds (List.map encDd l))),true),(P.long (P.decDds (List.map encDd l)),false),(decide ((↑(List.map encD r).length:Int) > 40),false),(eqB [V.int IntKind.i64 s.1,.int .i64 s.2,.int .i64 s.3,.int .i64 s.4] [.int .i64 s.1,.int .i64 s.2,.int .i64 s.3,.int .i64 s.4],true),(P.small (P.decDds (List.map encDd l)),true),(decide (P.nwE s.1 s.2 s.3 s.4 u=0),true),((P.mkd { cap:=s.1,gate:=s.2,wait:=s.3,keep:=s.4 } u (P.decDds (List.map encDd l))).1,false),(eqB (List.map encD r) (List.map encD (P.decDs (List.map encD r))),true),(decide ((List.map encD r).length < 1099511627776),true),(eqB (List.map encP (P.mkd { cap:=s.1,gate:=s.2,wait:=s.3,keep:=s.4 } u (P.decDds (List.map encDd l))).3) (List.map encP (P.decPs (List.map encP (P.mkd { cap:=s.1,gate:=s.2,wait:=s.3,keep:=s.4 } u (P.decDds (List.map encDd l))).3))),true),(decide (0 < (List.map encP (P.mkd { cap:=s.1,gate:=s.2,wait:=s.3,keep:=s.4 } u (P.decDds (List.map encDd l))).3).length),true),(decide ((List.map encP (P.mkd { cap:=s.1,gate:=s.2,wait:=s.3,keep:=s.4 } u (P.decDds (List.map encDd l))).3).length < 1099511627776),true),(eqB (List.map encM (P.mkd { cap:=s.1,gate:=s.2,wait:=s.3,keep:=s.4 } u (P.decDds (List.map encDd l))).2) (List.map encM (P.decMs (List.map encM (P.mkd { cap:=s.1,gate:=s.2,wait:=s.3,keep:=s.4 } u (P.decDds (List.map encDd l))).2))),true),(decide ((List.map encM (P.mkd { cap:=s.1,gate:=s.2,wait:=s.3,keep:=s.4 } u (P.decDds (List.map encDd l))).2).length < 1099511627776),true),(decide ((P.decMs (List.map encM (P.mkd { cap:=s.1,gate:=s.2,wait:=s.3,keep:=s.4 } u (P.decDds (List.map encDd l))).2)).length≤16),true),((P.decMs (List.map encM (P.mkd { cap:=s.1,gate:=s.2,wait:=s.3,keep:=s.4 } u (P.decDds (List.map encDd l))).2)).all fun m=>decide (-1000000000000000000≤m.2∧m.2≤1000000000000000000∧-1000000000000000000≤m.3∧m.3≤1000000000000000000),true),((P.decMs (List.map encM (P.mkd { cap:=s.1,gate:=s.2,wait:=s.3,keep:=s.4 } u (P.decDds (List.map encDd l))).2)).all fun m=>(m.7.all fun x=>decide (-1000000000≤x∧x≤1000000000))&&decide (m.7.length≤1000000),true),(decide (0≤((P.decPs (List.map encP (P.mkd { cap:=s.1,gate:=s.2,wait:=s.3,keep:=s.4 } u (P.decDds (List.map encDd l))).3)).getD ((P.decPs (List.map encP (P.mkd { cap:=s.1,gate:=s.2,wait:=s.3,keep:=s.4 } u (P.decDds (List.map encDd l))).3)).length - 1) { ep:=0,u:=0,ni:=true,ids:=[],nw:=true,ws:=[] }).1∧((P.decPs (List.map encP (P.mkd { cap:=s.1,gate:=s.2,wait:=s.3,keep:=s.4 } u (P.decDds (List.map encDd l))).3)).getD ((P.decPs (List.map encP (P.mkd { cap:=s.1,gate:=s.2,wait:=s.3,keep:=s.4 } u (P.decDds (List.map encDd l))).3)).length - 1) { ep:=0,u:=0,ni:=true,ids:=[],nw:=true,ws:=[] }).1≤1000000000000∧0≤s.3∧s.3≤100),true),(decide (P.rdE (P.decMs (List.map encM (P.mkd { cap:=s.1,gate:=s.2,wait:=s.3,keep:=s.4 } u (P.decDds (List.map encDd l))).2)) (P.decPs (List.map encP (P.mkd { cap:=s.1,gate:=s.2,wait:=s.3,keep:=s.4 } u (P.decDds (List.map encDd l))).3)) (P.decDs (List.map encD r))=0),true),(is { env:=[(3,V.sl zr (List.map encD r)),(4,V.ptr 0 0),(9,V.ptr 3 0),(10,.int .i64 0),(11,.int .i64 0),(13,V.ptr 4 0),(15,.int .i64 0),(16,.int .i64 0)],heap:=[B.cells [.int .i64 s.1,.int .i64 s.2,.int .i64 s.3,.int .i64 s.4],B.cells [.int .i64 s.1,.int .i64 s.2,.int .i64 s.3,.int .i64 s.4],B.cells [.int .i64 s.1,.int .i64 s.2,.int .i64 s.3,.int .i64 s.4],B.cells [V.ptr 2 0,V.ex 6 false (List.map encM (P.decMs (List.map encM (P.mkd { cap:=s.1,gate:=s.2,wait:=s.3,keep:=s.4 } u (P.decDds (List.map encDd l))).2))),V.ex 4 false (List.map encP (P.decPs (List.map encP (P.mkd { cap:=s.1,gate:=s.2,wait:=s.3,keep:=s.4 } u (P.decDds (List.map encDd l))).3)))],B.cells [.int .i64 (P.pto { cap:=s.1,gate:=s.2,wait:=s.3,keep:=s.4 } (P.decMs (List.map encM (P.mkd { cap:=s.1,gate:=s.2,wait:=s.3,keep:=s.4 } u (P.decDds (List.map encDd l))).2)) (P.decPs (List.map encP (P.mkd { cap:=s.1,gate:=s.2,wait:=s.3,keep:=s.4 } u (P.decDds (List.map encDd l))).3)) (P.decDs (List.map encD r))).1,.int .i64 (P.pto { cap:=s.1,gate:=s.2,wait:=s.3,keep:=s.4 } (P.decMs (List.map encM (P.mkd { cap:=s.1,gate:=s.2,wait:=s.3,keep:=s.4 } u (P.decDds (List.map encDd l))).2)) (P.decPs (List.map encP (P.mkd { cap:=s.1,gate:=s.2,wait:=s.3,keep:=s.4 } u (P.decDds (List.map encDd l))).3)) (P.decDs (List.map encD r))).2,V.sl false (List.map encI (P.pto { cap:=s.1,gate:=s.2,wait:=s.3,keep:=s.4 } (P.decMs (List.map encM (P.mkd { cap:=s.1,gate:=s.2,wait:=s.3,keep:=s.4 } u (P.decDds (List.map encDd l))).2)) (P.decPs (List.map encP (P.mkd { cap:=s.1,gate:=s.2,wait:=s.3,keep:=s.4 } u (P.decDds (List.map encDd l))).3)) (P.decDs (List.map encD r))).4),V.sl false (List.map encI (P.pto { cap:=s.1,gate:=s.2,wait:=s.3,keep:=s.4 } (P.decMs (List.map encM (P.mkd { cap:=s.1,gate:=s.2,wait:=s.3,keep:=s.4 } u (P.decDds (List.map encDd l))).2)) (P.decPs (List.map encP (P.mkd { cap:=s.1,gate:=s.2,wait:=s.3,keep:=s.4 } u (P.decDds (List.map encDd l))).3)) (P.decDs (List.map encD r))).6)]] } { env:=[(3,V.sl zr (List.map encD r)),(4,V.ptr 0 0),(9,V.ptr 3 0),(10,.int .i64 0),(11,.int .i64 0),(13,V.ptr 4 0),(15,.int .i64 0),(16,.int .i64 0)],heap:=[B.cells [.int .i64 s.1,.int .i64 s.2,.int .i64 s.3,.int .i64 s.4],B.cells [.int .i64 s.1,.int .i64 s.2,.int .i64 s.3,.int .i64 s.4],B.cells [.int .i64 s.1,.int .i64 s.2,.int .i64 s.3,.int .i64 s.4],B.cells [V.ptr 2 0,V.ex 6 false (List.map encM (P.mkd s u l).2),V.ex 4 false (List.map encP (P.mkd s u l).3)],B.cells [.int .i64 (P.pto s (P.mkd s u l).2 (P.mkd s u l).3 r).1,.int .i64 (P.pto s (P.mkd s u l).2 (P.mkd s u l).3 r).2,V.sl false (List.map encI (P.pto s (P.mkd s u l).2 (P.mkd s u l).3 r).4),V.sl false (List.map encI (P.pto s (P.mkd s u l).2 (P.mkd s u l).3 r).6)]] },true),(decide ((↑(List.map encI (P.pto s (P.mkd s u l).2 (P.mkd s u l).3 r).4).length:Int) > 0),true),((↑(List.map encI (P.pto s (P.mkd s u l).2 (P.mkd s u l).3 r).4).length:Int)==(↑(List.map encI (P.pto s (P.mkd s u l).2 (P.mkd s u l).3 r).6).length:Int),true),(decide ((P.pto s (P.mkd s u l).2 (P.mkd s u l).3 r).2≥a),true),(decide ((P.pto s (P.mkd s u l).2 (P.mkd s u l).3 r).2≤b),true)] [2,3,3,3,3,4,5,2,6,7,8,1,9,10,0,1,9,10,5,11,12,13,14,15,16,17,18,19,20,0,1,1,21,22,22,22,22,22,22,22,22,23,23,23,0,0,0,0,0,24,24,24,24,24,25,25] (V.bool true,[]) (by kernel_rfl) ?_ rfl
      refine⟨?_,?_,?_,?_,?_,?_,?_,?_,?_,?_,?_,?_,?_,?_,?_,?_,?_,?_,?_,?_,?_,?_,?_,?_,trivial⟩
      all_goals first
                   | exact isDds_enc _
                   | exact isDs_enc _
                   | exact isMs_enc _
                   | exact isPs_enc _
                   | exact eqB_self _
                   | (rw[decDds_enc];exact hlo)
                   | (rw[decDds_enc];exact hsm)
                   | (rw[List.length_map];exact decide_eq_true (by omega))
                   | (rw[List.length_map];exact decide_eq_false (by omega))
                   | exact decide_eq_true hn
                   | exact decide_eq_false hn
                   | exact hn'
                   | (rw[decDds_enc];exact hz)
                   | (rw[decDds_enc];exact isPs_enc _)
                   | (rw[decDds_enc];exact isMs_enc _)
                   | (rw[decDds_enc,List.length_map];exact decide_eq_true hp0)
                   | (rw[decDds_enc,List.length_map];exact decide_eq_true hp1)
                   | (rw[decDds_enc,List.length_map];exact decide_eq_true hm1)
                   | (rw[decDds_enc,decMs_enc];exact decide_eq_true hI.len)
                   | (rw[decDds_enc,decMs_enc];exact hI.okMs (by omega))
                   | (rw[decDds_enc,decMs_enc];exact hI.okMb)
                   | (rw[decDds_enc,decPs_enc];exact hI.okEp (by omega))
                   | (rw[decDds_enc,decPs_enc,decDs_enc];exact hr0)
                   | (rw[decDds_enc,decMs_enc,decPs_enc,decDs_enc];exact he)
                   | (rw[decDds_enc,decMs_enc,decPs_enc,decDs_enc];exact he')
                   | (refine is_eq ?_;rw[decDds_enc,decMs_enc,decPs_enc,decDs_enc];done)
                   | (rw[List.length_map];exact decide_eq_true (by omega))
                   | (rw[List.length_map,List.length_map,K.wl];simp;done)
                   | exact decide_eq_true hab.1
                   | exact decide_eq_true hab.2
                   | done
     ·have he:=decide_eq_false he0
      have he':(P.rdE (P.mkd s u l).ms (P.mkd s u l).ps r != 0)=true:=by simpa using he0
      refine wayE U17_ok (fi:=fi6) (by kernel_rfl) noL [(eqB (List.map encDd l) (List.map encDd (P.decDds (List.map encDd l))),true),(P.long (P.decDds (List.map encDd l)),false),(decide ((↑(List.map encD r).length:Int) > 40),false),(eqB [V.int IntKind.i64 s.1,.int .i64 s.2,.int .i64 s.3,.int .i64 s.4] [.int .i64 s.1,.int .i64 s.2,.int .i64 s.3,.int .i64 s.4],true),(P.small (P.decDds (List.map encDd l)),true),(decide (P.nwE s.1 s.2 s.3 s.4 u=0),true),((P.mkd { cap:=s.1,gate:=s.2,wait:=s.3,keep:=s.4 } u (P.decDds (List.map encDd l))).1,false),(eqB (List.map encD r) (List.map encD (P.decDs (List.map encD r))),true),(decide ((List.map encD r).length < 1099511627776),true),(eqB (List.map encP (P.mkd { cap:=s.1,gate:=s.2,wait:=s.3,keep:=s.4 } u (P.decDds (List.map encDd l))).3) (List.map encP (P.decPs (List.map encP (P.mkd { cap:=s.1,gate:=s.2,wait:=s.3,keep:=s.4 } u (P.decDds (List.map encDd l))).3))),true),(decide (0 < (List.map encP (P.mkd { cap:=s.1,gate:=s.2,wait:=s.3,keep:=s.4 } u (P.decDds (List.map encDd l))).3).length),true),(decide ((List.map encP (P.mkd { cap:=s.1,gate:=s.2,wait:=s.3,keep:=s.4 } u (P.decDds (List.map encDd l))).3).length < 1099511627776),true),(eqB (List.map encM (P.mkd { cap:=s.1,gate:=s.2,wait:=s.3,keep:=s.4 } u (P.decDds (List.map encDd l))).2) (List.map encM (P.decMs (List.map encM (P.mkd { cap:=s.1,gate:=s.2,wait:=s.3,keep:=s.4 } u (P.decDds (List.map encDd l))).2))),true),(decide ((List.map encM (P.mkd { cap:=s.1,gate:=s.2,wait:=s.3,keep:=s.4 } u (P.decDds (List.map encDd l))).2).length < 1099511627776),true),(decide ((P.decMs (List.map encM (P.mkd { cap:=s.1,gate:=s.2,wait:=s.3,keep:=s.4 } u (P.decDds (List.map encDd l))).2)).length≤16),true),((P.decMs (List.map encM (P.mkd { cap:=s.1,gate:=s.2,wait:=s.3,keep:=s.4 } u (P.decDds (List.map encDd l))).2)).all fun m=>decide (-1000000000000000000≤m.2∧m.2≤1000000000000000000∧-1000000000000000000≤m.3∧m.3≤1000000000000000000),true),((P.decMs (List.map encM (P.mkd { cap:=s.1,gate:=s.2,wait:=s.3,keep:=s.4 } u (P.decDds (List.map encDd l))).2)).all fun m=>(m.7.all fun x=>decide (-1000000000≤x∧x≤1000000000))&&decide (m.7.length≤1000000),true),(decide (0≤((P.decPs (List.map encP (P.mkd { cap:=s.1,gate:=s.2,wait:=s.3,keep:=s.4 } u (P.decDds (List.map encDd l))).3)).getD ((P.decPs (List.map encP (P.mkd { cap:=s.1,gate:=s.2,wait:=s.3,keep:=s.4 } u (P.decDds (List.map encDd l))).3)).length - 1) { ep:=0,u:=0,ni:=true,ids:=[],nw:=true,ws:=[] }).1∧((P.decPs (List.map encP (P.mkd { cap:=s.1,gate:=s.2,wait:=s.3,keep:=s.4 } u (P.decDds (List.map encDd l))).3)).getD ((P.decPs (List.map encP (P.mkd { cap:=s.1,gate:=s.2,wait:=s.3,keep:=s.4 } u (P.decDds (List.map encDd l))).3)).length - 1) { ep:=0,u:=0,ni:=true,ids:=[],nw:=true,ws:=[] }).1≤1000000000000∧0≤s.3∧s.3≤100),true),(decide (P.rdE (P.decMs (List.map encM (P.mkd { cap:=s.1,gate:=s.2,wait:=s.3,keep:=s.4 } u (P.decDds (List.map encDd l))).2)) (P.decPs (List.map encP (P.mkd { cap:=s.1,gate:=s.2,wait:=s.3,keep:=s.4 } u (P.decDds (List.map encDd l))).3)) (P.decDs (List.map encD r))=0),false),(P.rdE (P.decMs (List.map encM (P.mkd { cap:=s.1,gate:=s.2,wait:=s.3,keep:=s.4 } u (P.decDds (List.map encDd l))).2)) (P.decPs (List.map encP (P.mkd { cap:=s.1,gate:=s.2,wait:=s.3,keep:=s.4 } u (P.decDds (List.map encDd l))).3)) (P.decDs (List.map encD r)) != 0,true)] [2,3,3,3,3,4,5,2,6,7,8,1,9,10,0,1,9,10,5,11,12,13,14,15,16,17,18,19,20,21,0,1,21,0,0] (V.bool true,[]) (by kernel_rfl) ?_ rfl
      refine⟨?_,?_,?_,?_,?_,?_,?_,?_,?_,?_,?_,?_,?_,?_,?_,?_,?_,?_,?_,?_,trivial⟩
      all_goals first
                   | exact isDds_enc _
                   | exact isDs_enc _
                   | exact isMs_enc _
                   | exact isPs_enc _
                   | exact eqB_self _
                   | (rw[decDds_enc];exact hlo)
                   | (rw[decDds_enc];exact hsm)
                   | (rw[List.length_map];exact decide_eq_true (by omega))
                   | (rw[List.length_map];exact decide_eq_false (by omega))
                   | exact decide_eq_true hn
                   | exact decide_eq_false hn
                   | exact hn'
                   | (rw[decDds_enc];exact hz)
                   | (rw[decDds_enc];exact isPs_enc _)
                   | (rw[decDds_enc];exact isMs_enc _)
                   | (rw[decDds_enc,List.length_map];exact decide_eq_true hp0)
                   | (rw[decDds_enc,List.length_map];exact decide_eq_true hp1)
                   | (rw[decDds_enc,List.length_map];exact decide_eq_true hm1)
                   | (rw[decDds_enc,decMs_enc];exact decide_eq_true hI.len)
                   | (rw[decDds_enc,decMs_enc];exact hI.okMs (by omega))
                   | (rw[decDds_enc,decMs_enc];exact hI.okMb)
                   | (rw[decDds_enc,decPs_enc];exact hI.okEp (by omega))
                   | (rw[decDds_enc,decPs_enc,decDs_enc];exact hr0)
                   | (rw[decDds_enc,decMs_enc,decPs_enc,decDs_enc];exact he)
                   | (rw[decDds_enc,decMs_enc,decPs_enc,decDs_enc];exact he')
                   | (refine is_eq ?_;rw[decDds_enc,decMs_enc,decPs_enc,decDs_enc];done)
                   | (rw[List.length_map];exact decide_eq_true (by omega))
                   | (rw[List.length_map,List.length_map,K.wl];simp;done)
                   | exact decide_eq_true hab.1
                   | exact decide_eq_true hab.2
                   | done
   ·have hn':(P.nwE s.cap s.gate s.wait s.keep u != 0)=true:=by simpa using hn
    refine wayE U17_ok (fi:=fi6) (by kernel_rfl) noL [(eqB (List.map encDd l) (List.map encDd (P.decDds (List.map encDd l))),true),(P.long (P.decDds (List.map encDd l)),false),(decide ((↑(List.map encD r).length:Int) > 40),false),(eqB [V.int IntKind.i64 s.1,.int .i64 s.2,.int .i64 s.3,.int .i64 s.4] [.int .i64 s.1,.int .i64 s.2,.int .i64 s.3,.int .i64 s.4],true),(P.small (P.decDds (List.map encDd l)),true),(decide (P.nwE s.1 s.2 s.3 s.4 u=0),false)] [2,3,3,3,3,4,5,2,6,7,0] (V.bool true,[]) (by kernel_rfl) ?_ rfl
    refine⟨?_,?_,?_,?_,?_,?_,trivial⟩
    all_goals first
                   | exact isDds_enc _
                   | exact isDs_enc _
                   | exact isMs_enc _
                   | exact isPs_enc _
                   | exact eqB_self _
                   | (rw[decDds_enc];exact hlo)
                   | (rw[decDds_enc];exact hsm)
                   | (rw[List.length_map];exact decide_eq_true (by omega))
                   | (rw[List.length_map];exact decide_eq_false (by omega))
                   | exact decide_eq_true hn
                   | exact decide_eq_false hn
                   | exact hn'
                   | (rw[decDds_enc];exact hz)
                   | (rw[decDds_enc];exact isPs_enc _)
                   | (rw[decDds_enc];exact isMs_enc _)
                   | (rw[decDds_enc,List.length_map];exact decide_eq_true hp0)
                   | (rw[decDds_enc,List.length_map];exact decide_eq_true hp1)
                   | (rw[decDds_enc,List.length_map];exact decide_eq_true hm1)
                   | (rw[decDds_enc,decMs_enc];exact decide_eq_true hI.len)
                   | (rw[decDds_enc,decMs_enc];exact hI.okMs (by omega))
                   | (rw[decDds_enc,decMs_enc];exact hI.okMb)
                   | (rw[decDds_enc,decPs_enc];exact hI.okEp (by omega))
                   | (rw[decDds_enc,decPs_enc,decDs_enc];exact hr0)
                   | (rw[decDds_enc,decMs_enc,decPs_enc,decDs_enc];exact he)
                   | (rw[decDds_enc,decMs_enc,decPs_enc,decDs_enc];exact he')
                   | (refine is_eq ?_;rw[decDds_enc,decMs_enc,decPs_enc,decDs_enc];done)
                   | (rw[List.length_map];exact decide_eq_true (by omega))
                   | (rw[List.length_map,List.length_map,K.wl];simp;done)
                   | exact decide_eq_true hab.1
                   | exact decide_eq_true hab.2
                   | done
theorem lawScaleWeighs:∀ xs,AllV T 8 [24,3,35,36] xs→∃ k,vcall T F k 6 xs []=some (.bool true,[]):=by
 intro xs hxs
 obtain⟨v0,xs,rfl,h0,hxs⟩:=allV_cons hxs
 obtain⟨v1,xs,rfl,h1,hxs⟩:=allV_cons hxs
 obtain⟨v2,xs,rfl,h2,hxs⟩:=allV_cons hxs
 obtain⟨v3,xs,rfl,h3,hxs⟩:=allV_cons hxs
 obtain rfl:=allV_nil hxs
 obtain⟨s,rfl⟩:=arg_setup h0
 obtain⟨u,rfl,_⟩:=arg_int h1
 obtain⟨zl,l,rfl,_,hl,_⟩:=arg_dds h2
 obtain⟨zr,r,rfl,_,_,_⟩:=arg_rds h3
 exact law_runs s u zl zr l r hl
end Go.Proofs.Ytnijkhcmjpfjeaa
