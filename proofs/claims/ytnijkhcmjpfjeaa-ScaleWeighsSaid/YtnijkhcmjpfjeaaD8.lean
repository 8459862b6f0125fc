/- D8: the next point. -/
import Derived.Test.YtnijkhcmjpfjeaaD7
namespace Go.Proofs.Ytnijkhcmjpfjeaa
open Go Go.Vm
def ptH (s:Set4) (ms:List Mem) (ps:List Pnt) (l:List Prs) (qv c d:V) (u ep:Int):Heap:=[bS s,bD ms ps,.cells [.int .i64 0,.int .i64 0,.sl true [],.sl true []],.cells [qv],.cells [.ptr 1 0],.cells [.sl false (l.map encE)],.cells [.int .i64 ep,.int .i64 u,c,d]]
def ptS (s:Set4) (ms:List Mem) (ps:List Pnt) (l:List Prs) (qv c d:V) (u:Int):St:=⟨[(0,V.ptr 1 0),(4,V.ptr 2 0),(5,V.ptr 3 0),(7,V.ptr 6 0)],ptH s ms ps l qv c d u 0⟩
namespace P
def gt (cap gate:Int) (ms:List Mem):Nat→List Prs→List Prs
 | 0,q=>q
 | n+1,q=>match q[gst (avU cap ms q) q 0 0 q.length]? with
  | some e=>if q.length < 2∨far e.est (avU cap ms q)≤gate then q else gt cap gate ms n (q.eraseIdx (gst (avU cap ms q) q 0 0 q.length))
  | none=>q
end P
theorem decE_fe (q:List Prs):P.decE (Fd.fe q)=q:=decE_fl2 q
theorem fe_dataB:∀ q:List Prs,dataB (Fd.fe q)=true
 | []=>rfl
 | x::q=>fe_dataB q
theorem fe_dataC:∀ q:List Prs,dataC (Fd.fe q)=true
 | []=>rfl
 | x::q=>fe_dataC q
theorem eqB_fe (q:List Prs):eqB (Fd.fe q) (P.fl2 q)=true:=eqB_self _
theorem okEb_of {ms:List Mem} {q:List Prs} (h:okPb ms q=true):okEb q=true:=by
 rw[okEb,List.all_eq_true]
 intro e he
 have:=List.all_eq_true.1 h e he
 simp only[decide_eq_true_eq] at this ⊢
 exact this.2.2
theorem okPb_erase {ms:List Mem} {q:List Prs} (h:okPb ms q=true) (i:Nat):okPb ms (q.eraseIdx i)=true:=by
 rw[okPb,List.all_eq_true] at h ⊢
 intro e he
 exact h e (List.mem_of_mem_eraseIdx he)
theorem avU_b {cap:Int} {ms:List Mem} {q:List Prs} (hM:okMb ms=true) (hP:okPb ms q=true) (h0:0 < q.length) (h1:q.length≤16):-2000000000002≤P.avU cap ms q∧P.avU cap ms q≤2000000000002:=by
 obtain⟨t1,t2,t3⟩:=avW_ok (cap:=cap) hM hP h0 h1
 have hwb:=wsum_b t2 hP
 rw[t1] at hwb
 unfold P.avU P.fl
 generalize P.wsum (P.avW cap ms q) q=v at *
 have hd:=Int.mul_tdiv_add_tmod (2*v+1000000) 2000000
 have hr1:=Int.tmod_lt_of_pos (2*v+1000000) (show (0:Int) < 2000000 by omega)
 have hr2:=Int.lt_tmod_of_pos (2*v+1000000) (show (0:Int) < 2000000 by omega)
 split <;> omega
theorem gt_loop (s:Set4) (ms:List Mem) (ps:List Pnt) (l:List Prs) (hm:ms.length < 2 ^ 40) (hp0:0 < ps.length) (hp1:ps.length < 2 ^ 40) (hM:okMb ms=true):∀ (n:Nat) (q:List Prs) (b:Bool) (w:List V) (u:Int),q.length≤n→0 < q.length→q.length≤16→okPb ms q=true →
  ∃ (i:Int) (bb:Bool),LRuns (vstep T (vlim T F) lplim fi46.cx 7 (lb fi46 0)) (ptS s ms ps l (.ex 2 false (q.map encE)) (.sl true []) (.sl b w) u) (.exit 2,⟨[(0,V.ptr 1 0),(4,V.ptr 2 0),(5,V.ptr 3 0),(7,V.ptr 6 0),(9,.int .i64 i),(55,.bool bb)],
   ptH s ms ps l (.ex 2 false ((P.gt s.cap s.gate ms n q).map encE)) (.sl true []) (.sl false ((P.avW s.cap ms (P.gt s.cap s.gate ms n q)).map encI)) (P.avU s.cap ms (P.gt s.cap s.gate ms n q)) 0⟩)
 | 0,q,b,w,u,h,h0,_,_=>by omega
 | n+1,q,b,w,u,h,h0,h1,hP=>by
  have hU:=avU_b (cap:=s.cap) hM hP h0 h1
  have hi:=gst_lt (P.avU s.cap ms q) q q.length 0 0 (by omega) h0
  have hne:(List.map encE q).isEmpty=false:=by cases q;simp at h0;rfl
  have hwi:IntKind.i64.wrap (((P.gst (P.avU s.cap ms q) q 0 0 q.length:Nat):Int)+1)=((P.gst (P.avU s.cap ms q) q 0 0 q.length:Nat):Int)+1:=i64in (by omega) (by omega)
  unfold P.gt
  rw[List.getElem?_eq_getElem hi]
  simp only
  have hei:=e_at q _ hi
  have hfr:Fd.fr (Fd.ee q (P.gst (P.avU s.cap ms q) q 0 0 q.length) 1) (P.avU s.cap ms q)=P.far q[P.gst (P.avU s.cap ms q) q 0 0 q.length].est (P.avU s.cap ms q):=by
   rw[ee1 q _ hi,fr_eq (okEb_at (okEb_of hP) _ hi) (by omega)]
  by_cases hl2:q.length < 2
  ·rw[if_pos (.inl hl2)]
   refine⟨_,_,lastE U76_ok noL [((List.map encE q).isEmpty,false),(dataB (Fd.fe q),true),(eqB (Fd.fe q) (P.fl2 (P.decE (Fd.fe q))),true),(eqB (List.map encE q).length (P.decE (Fd.fe q)).length,true),(decide (0 < (List.map encE q).length∧(List.map encE q).length≤16),true),(eqB [V.int IntKind.i64 s.1,.int .i64 s.2,.int .i64 s.3,.int .i64 s.4] [.int .i64 s.1,.int .i64 s.2,.int .i64 s.3,.int .i64 s.4],true),(eqB (List.map encP ps) (List.map encP (P.decPs (List.map encP ps))),true),(decide (0 < (List.map encP ps).length),true),(decide ((List.map encP ps).length < 1099511627776),true),(eqB (List.map encM ms) (List.map encM (P.decMs (List.map encM ms))),true),(decide ((List.map encM ms).length < 1099511627776),true),((P.decE (Fd.fe q)).all fun e=>decide (0≤e.1∧e.1 < (↑(P.decMs (List.map encM ms)).length:Int)∧-2000000000000≤e.2∧e.2≤2000000000000),true),((P.decMs (List.map encM ms)).all fun m=>(m.7.all fun x=>decide (-1000000000≤x∧x≤1000000000))&&decide (m.7.length≤1000000),true),(eqB (Fd.fe q) (Fd.fe q),true),(dataC (Fd.fe q),true),(decide (0 < (List.map encE q).length∧(List.map encE q).length < 1073741824),true),((P.decE (Fd.fe q)).all fun e=>decide (-2000000000000≤e.2∧e.2≤2000000000000),true),(decide (-1000000000000000≤P.avU s.1 (P.decMs (List.map encM ms)) (P.decE (Fd.fe q))∧P.avU s.1 (P.decMs (List.map encM ms)) (P.decE (Fd.fe q))≤1000000000000000),true),(decide ((↑(List.map encE q).length:Int) < 2),true)] [2,0,1,3,4,5,6,7,8,9,10,11,12,13,14,0,1,3,15,16,2,0,3,4,5,17,18,19,0,3,15,16,20,20,20,20,20,20,20,20,20,20,20,20,20,20,20,0] (Ex.exit 2,{ env:=[(0,V.ptr 1 0),(4,V.ptr 2 0),(5,V.ptr 3 0),(7,V.ptr 6 0),(9,.int .i64 (↑(P.gst (P.avU s.1 (P.decMs (List.map encM ms)) (P.decE (Fd.fe q))) (P.decE (Fd.fe q)) 0 0 (List.map encE q).length):Int)),(55,V.bool true)],heap:=[B.cells [.int .i64 s.1,.int .i64 s.2,.int .i64 s.3,.int .i64 s.4],B.cells [V.ptr 0 0,V.ex 6 false (List.map encM ms),V.ex 4 false (List.map encP ps)],B.cells [.int .i64 0,.int .i64 0,V.sl true [],V.sl true []],B.cells [V.ex 2 false (List.map encE q)],B.cells [V.ptr 1 0],B.cells [V.sl false (List.map encE l)],B.cells [.int .i64 0,.int .i64 (P.avU s.1 (P.decMs (List.map encM ms)) (P.decE (Fd.fe q))),V.sl true [],V.sl false (List.map encI (P.avW s.1 (P.decMs (List.map encM ms)) (P.decE (Fd.fe q))))]] }) (by kernel_rfl) (by simp) ?_ (by rw[decE_fe,decMs_enc];rfl)⟩
   refine⟨?_,?_,?_,?_,?_,?_,?_,?_,?_,?_,?_,?_,?_,?_,?_,?_,?_,?_,?_,trivial⟩
   all_goals first
                   | exact eqB_self _
                   | exact fe_dataB _
                   | exact fe_dataC _
                   | exact hne
                   | exact isPs_enc _
                   | exact isMs_enc _
                   | (rw[decE_fe];exact eqB_self _)
                   | (rw[decE_fe,List.length_map];exact eqB_self _)
                   | (rw[decE_fe,decMs_enc];exact hP)
                   | (rw[decMs_enc];exact hM)
                   | (rw[decE_fe];exact okEb_of hP)
                   | (rw[List.length_map];exact decide_eq_true (by omega))
                   | (rw[List.length_map];exact decide_eq_true ⟨by omega,by omega⟩)
                   | (rw[List.length_map];exact decide_eq_false (by omega))
                   | (rw[decE_fe,decMs_enc];exact decide_eq_true ⟨by omega,by omega⟩)
                   | (rw[decE_fe,decMs_enc,List.length_map,Int.toNat_natCast];exact decide_eq_true hi)
                   | (rw[decE_fe,decMs_enc,List.length_map,Int.toNat_natCast,hei];rfl)
                   | (rw[decE_fe,decMs_enc,List.length_map];exact decide_eq_true (by omega))
                   | (rw[decE_fe,decMs_enc,List.length_map,hwi];exact decide_eq_true (by omega))
                   | (rw[decE_fe,decMs_enc,List.length_map,Int.toNat_natCast];exact hg)
                   | done
  ·by_cases hf:P.far q[P.gst (P.avU s.cap ms q) q 0 0 q.length].est (P.avU s.cap ms q)≤s.gate
   ·rw[if_pos (.inr hf)]
    have hg:decide (Fd.fr (Fd.ee q (P.gst (P.avU s.cap ms q) q 0 0 q.length) 1) (P.avU s.cap ms q)≤s.gate)=true:=decide_eq_true (by rw[hfr];exact hf)
    refine⟨_,_,lastE U76_ok noL [((List.map encE q).isEmpty,false),(dataB (Fd.fe q),true),(eqB (Fd.fe q) (P.fl2 (P.decE (Fd.fe q))),true),(eqB (List.map encE q).length (P.decE (Fd.fe q)).length,true),(decide (0 < (List.map encE q).length∧(List.map encE q).length≤16),true),(eqB [V.int IntKind.i64 s.1,.int .i64 s.2,.int .i64 s.3,.int .i64 s.4] [.int .i64 s.1,.int .i64 s.2,.int .i64 s.3,.int .i64 s.4],true),(eqB (List.map encP ps) (List.map encP (P.decPs (List.map encP ps))),true),(decide (0 < (List.map encP ps).length),true),(decide ((List.map encP ps).length < 1099511627776),true),(eqB (List.map encM ms) (List.map encM (P.decMs (List.map encM ms))),true),(decide ((List.map encM ms).length < 1099511627776),true),((P.decE (Fd.fe q)).all fun e=>decide (0≤e.1∧e.1 < (↑(P.decMs (List.map encM ms)).length:Int)∧-2000000000000≤e.2∧e.2≤2000000000000),true),((P.decMs (List.map encM ms)).all fun m=>(m.7.all fun x=>decide (-1000000000≤x∧x≤1000000000))&&decide (m.7.length≤1000000),true),(eqB (Fd.fe q) (Fd.fe q),true),(dataC (Fd.fe q),true),(decide (0 < (List.map encE q).length∧(List.map encE q).length < 1073741824),true),((P.decE (Fd.fe q)).all fun e=>decide (-2000000000000≤e.2∧e.2≤2000000000000),true),(decide (-1000000000000000≤P.avU s.1 (P.decMs (List.map encM ms)) (P.decE (Fd.fe q))∧P.avU s.1 (P.decMs (List.map encM ms)) (P.decE (Fd.fe q))≤1000000000000000),true),(decide ((↑(List.map encE q).length:Int) < 2),false),(decide ((↑(P.gst (P.avU s.1 (P.decMs (List.map encM ms)) (P.decE (Fd.fe q))) (P.decE (Fd.fe q)) 0 0 (List.map encE q).length):Int) < (↑(List.map encE q).length:Int)),true),(decide ((↑(P.gst (P.avU s.1 (P.decMs (List.map encM ms)) (P.decE (Fd.fe q))) (P.decE (Fd.fe q)) 0 0 (List.map encE q).length):Int).toNat < (List.map encE q).length),true),(fitP [.int .i64,.int .i64] 0 ((List.map encE q).getD (↑(P.gst (P.avU s.1 (P.decMs (List.map encM ms)) (P.decE (Fd.fe q))) (P.decE (Fd.fe q)) 0 0 (List.map encE q).length):Int).toNat V.undef),true),(decide ((if if true=true then IntKind.i64.wrap (P.avU s.1 (P.decMs (List.map encM ms)) (P.decE (Fd.fe q)) - Fd.ee q (↑(P.gst (P.avU s.1 (P.decMs (List.map encM ms)) (P.decE (Fd.fe q))) (P.decE (Fd.fe q)) 0 0 (List.map encE q).length):Int).toNat 1) > IntKind.i64.wrap (Fd.ee q (↑(P.gst (P.avU s.1 (P.decMs (List.map encM ms)) (P.decE (Fd.fe q))) (P.decE (Fd.fe q)) 0 0 (List.map encE q).length):Int).toNat 1 - P.avU s.1 (P.decMs (List.map encM ms)) (P.decE (Fd.fe q))) else IntKind.i64.wrap (P.avU s.1 (P.decMs (List.map encM ms)) (P.decE (Fd.fe q)) - Fd.ee q (↑(P.gst (P.avU s.1 (P.decMs (List.map encM ms)) (P.decE (Fd.fe q))) (P.decE (Fd.fe q)) 0 0 (List.map encE q).length):Int).toNat 1) < IntKind.i64.wrap (Fd.ee q (↑(P.gst (P.avU s.1 (P.decMs (List.map encM ms)) (P.decE (Fd.fe q))) (P.decE (Fd.fe q)) 0 0 (List.map encE q).length):Int).toNat 1 - P.avU s.1 (P.decMs (List.map encM ms)) (P.decE (Fd.fe q))) then IntKind.i64.wrap (P.avU s.1 (P.decMs (List.map encM ms)) (P.decE (Fd.fe q)) - Fd.ee q (↑(P.gst (P.avU s.1 (P.decMs (List.map encM ms)) (P.decE (Fd.fe q))) (P.decE (Fd.fe q)) 0 0 (List.map encE q).length):Int).toNat 1) else IntKind.i64.wrap (Fd.ee q (↑(P.gst (P.avU s.1 (P.decMs (List.map encM ms)) (P.decE (Fd.fe q))) (P.decE (Fd.fe q)) 0 0 (List.map encE q).length):Int).toNat 1 - P.avU s.1 (P.decMs (List.map encM ms)) (P.decE (Fd.fe q))))≤s.2),true)] [2,0,1,3,4,5,6,7,8,9,10,11,12,13,14,0,1,3,15,16,2,0,3,4,5,17,18,19,0,3,15,16,20,20,20,20,0,21,20,22,23,20,0,0,20,20,20,20,20,20,20,20,20,24] (Ex.exit 2,{ env:=[(0,V.ptr 1 0),(4,V.ptr 2 0),(5,V.ptr 3 0),(7,V.ptr 6 0),(9,.int .i64 (↑(P.gst (P.avU s.1 (P.decMs (List.map encM ms)) (P.decE (Fd.fe q))) (P.decE (Fd.fe q)) 0 0 (List.map encE q).length):Int)),(55,V.bool (decide ((if if true=true then IntKind.i64.wrap (P.avU s.1 (P.decMs (List.map encM ms)) (P.decE (Fd.fe q)) - Fd.ee q (↑(P.gst (P.avU s.1 (P.decMs (List.map encM ms)) (P.decE (Fd.fe q))) (P.decE (Fd.fe q)) 0 0 (List.map encE q).length):Int).toNat 1) > IntKind.i64.wrap (Fd.ee q (↑(P.gst (P.avU s.1 (P.decMs (List.map encM ms)) (P.decE (Fd.fe q))) (P.decE (Fd.fe q)) 0 0 (List.map encE q).length):Int).toNat 1 - P.avU s.1 (P.decMs (List.map encM ms)) (P.decE (Fd.fe q))) else IntKind.i64.wrap (P.avU s.1 (P.decMs (List.map encM ms)) (P.decE (Fd.fe q)) - Fd.ee q (↑(P.gst (P.avU s.1 (P.decMs (List.map encM ms)) (P.decE (Fd.fe q))) (P.decE (Fd.fe q)) 0 0 (List.map encE q).length):Int).toNat 1) < IntKind.i64.wrap (Fd.ee q (↑(P.gst (P.avU s.1 (P.decMs (List.map encM ms)) (P.decE (Fd.fe q))) (P.decE (Fd.fe q)) 0 0 (List.map encE q).length):Int).toNat 1 - P.avU s.1 (P.decMs (List.map encM ms)) (P.decE (Fd.fe q))) then IntKind.i64.wrap (P.avU s.1 (P.decMs (List.map encM ms)) (P.decE (Fd.fe q)) - Fd.ee q (↑(P.gst (P.avU s.1 (P.decMs (List.map encM ms)) (P.decE (Fd.fe q))) (P.decE (Fd.fe q)) 0 0 (List.map encE q).length):Int).toNat 1) else IntKind.i64.wrap (Fd.ee q (↑(P.gst (P.avU s.1 (P.decMs (List.map encM ms)) (P.decE (Fd.fe q))) (P.decE (Fd.fe q)) 0 0 (List.map encE q).length):Int).toNat 1 - P.avU s.1 (P.decMs (List.map encM ms)) (P.decE (Fd.fe q))))≤s.2)))],heap:=[B.cells [.int .i64 s.1,.int .i64 s.2,.int .i64 s.3,.int .i64 s.4],B.cells [V.ptr 0 0,V.ex 6 false (List.map encM ms),V.ex 4 false (List.map encP ps)],B.cells [.int .i64 0,.int .i64 0,V.sl true [],V.sl true []],B.cells [V.ex 2 false (List.map encE q)],B.cells [V.ptr 1 0],B.cells [V.sl false (List.map encE l)],B.cells [.int .i64 0,.int .i64 (P.avU s.1 (P.decMs (List.map encM ms)) (P.decE (Fd.fe q))),V.sl true [],V.sl false (List.map encI (P.avW s.1 (P.decMs (List.map encM ms)) (P.decE (Fd.fe q))))]] }) (by kernel_rfl) (by simp) ?_ (by rw[decE_fe,decMs_enc];rfl)⟩
    refine⟨?_,?_,?_,?_,?_,?_,?_,?_,?_,?_,?_,?_,?_,?_,?_,?_,?_,?_,?_,?_,?_,?_,?_,trivial⟩
    all_goals first
                   | exact eqB_self _
                   | exact fe_dataB _
                   | exact fe_dataC _
                   | exact hne
                   | exact isPs_enc _
                   | exact isMs_enc _
                   | (rw[decE_fe];exact eqB_self _)
                   | (rw[decE_fe,List.length_map];exact eqB_self _)
                   | (rw[decE_fe,decMs_enc];exact hP)
                   | (rw[decMs_enc];exact hM)
                   | (rw[decE_fe];exact okEb_of hP)
                   | (rw[List.length_map];exact decide_eq_true (by omega))
                   | (rw[List.length_map];exact decide_eq_true ⟨by omega,by omega⟩)
                   | (rw[List.length_map];exact decide_eq_false (by omega))
                   | (rw[decE_fe,decMs_enc];exact decide_eq_true ⟨by omega,by omega⟩)
                   | (rw[decE_fe,decMs_enc,List.length_map,Int.toNat_natCast];exact decide_eq_true hi)
                   | (rw[decE_fe,decMs_enc,List.length_map,Int.toNat_natCast,hei];rfl)
                   | (rw[decE_fe,decMs_enc,List.length_map];exact decide_eq_true (by omega))
                   | (rw[decE_fe,decMs_enc,List.length_map,hwi];exact decide_eq_true (by omega))
                   | (rw[decE_fe,decMs_enc,List.length_map,Int.toNat_natCast];exact hg)
                   | done
   ·rw[if_neg (by intro hh;rcases hh with hh | hh;exact hl2 hh;exact hf hh)]
    have hg:decide (Fd.fr (Fd.ee q (P.gst (P.avU s.cap ms q) q 0 0 q.length) 1) (P.avU s.cap ms q)≤s.gate)=false:=decide_eq_false (by rw[hfr];exact hf)
    have hel:(q.eraseIdx (P.gst (P.avU s.cap ms q) q 0 0 q.length)).length=q.length - 1:=List.length_eraseIdx_of_lt hi
    obtain⟨i2,bb,ih⟩:=gt_loop s ms ps l hm hp0 hp1 hM n (q.eraseIdx (P.gst (P.avU s.cap ms q) q 0 0 q.length)) false ((P.avW s.cap ms q).map encI) (P.avU s.cap ms q) (by omega) (by omega) (by omega) (okPb_erase hP _)
    refine⟨i2,bb,nextE U76_ok noL [((List.map encE q).isEmpty,false),(dataB (Fd.fe q),true),(eqB (Fd.fe q) (P.fl2 (P.decE (Fd.fe q))),true),(eqB (List.map encE q).length (P.decE (Fd.fe q)).length,true),(decide (0 < (List.map encE q).length∧(List.map encE q).length≤16),true),(eqB [V.int IntKind.i64 s.1,.int .i64 s.2,.int .i64 s.3,.int .i64 s.4] [.int .i64 s.1,.int .i64 s.2,.int .i64 s.3,.int .i64 s.4],true),(eqB (List.map encP ps) (List.map encP (P.decPs (List.map encP ps))),true),(decide (0 < (List.map encP ps).length),true),(decide ((List.map encP ps).length < 1099511627776),true),(eqB (List.map encM ms) (List.map encM (P.decMs (List.map encM ms))),true),(decide ((List.map encM ms).length < 1099511627776),true),((P.decE (Fd.fe q)).all fun e=>decide (0≤e.1∧e.1 < (↑(P.decMs (List.map encM ms)).length:Int)∧-2000000000000≤e.2∧e.2≤2000000000000),true),((P.decMs (List.map encM ms)).all fun m=>(m.7.all fun x=>decide (-1000000000≤x∧x≤1000000000))&&decide (m.7.length≤1000000),true),(eqB (Fd.fe q) (Fd.fe q),true),(dataC (Fd.fe q),true),(decide (0 < (List.map encE q).length∧(List.map encE q).length < 1073741824),true),((P.decE (Fd.fe q)).all fun e=>decide (-2000000000000≤e.2∧e.2≤2000000000000),true),(decide (-1000000000000000≤P.avU s.1 (P.decMs (List.map encM ms)) (P.decE (Fd.fe q))∧P.avU s.1 (P.decMs (List.map encM ms)) (P.decE (Fd.fe q))≤1000000000000000),true),(decide ((↑(List.map encE q).length:Int) < 2),false),(decide ((↑(P.gst (P.avU s.1 (P.decMs (List.map encM ms)) (P.decE (Fd.fe q))) (P.decE (Fd.fe q)) 0 0 (List.map encE q).length):Int) < (↑(List.map encE q).length:Int)),true),(decide ((↑(P.gst (P.avU s.1 (P.decMs (List.map encM ms)) (P.decE (Fd.fe q))) (P.decE (Fd.fe q)) 0 0 (List.map encE q).length):Int).toNat < (List.map encE q).length),true),(fitP [.int .i64,.int .i64] 0 ((List.map encE q).getD (↑(P.gst (P.avU s.1 (P.decMs (List.map encM ms)) (P.decE (Fd.fe q))) (P.decE (Fd.fe q)) 0 0 (List.map encE q).length):Int).toNat V.undef),true),(decide ((if if true=true then IntKind.i64.wrap (P.avU s.1 (P.decMs (List.map encM ms)) (P.decE (Fd.fe q)) - Fd.ee q (↑(P.gst (P.avU s.1 (P.decMs (List.map encM ms)) (P.decE (Fd.fe q))) (P.decE (Fd.fe q)) 0 0 (List.map encE q).length):Int).toNat 1) > IntKind.i64.wrap (Fd.ee q (↑(P.gst (P.avU s.1 (P.decMs (List.map encM ms)) (P.decE (Fd.fe q))) (P.decE (Fd.fe q)) 0 0 (List.map encE q).length):Int).toNat 1 - P.avU s.1 (P.decMs (List.map encM ms)) (P.decE (Fd.fe q))) else IntKind.i64.wrap (P.avU s.1 (P.decMs (List.map encM ms)) (P.decE (Fd.fe q)) - Fd.ee q (↑(P.gst (P.avU s.1 (P.decMs (List.map encM ms)) (P.decE (Fd.fe q))) (P.decE (Fd.fe q)) 0 0 (List.map encE q).length):Int).toNat 1) < IntKind.i64.wrap (Fd.ee q (↑(P.gst (P.avU s.1 (P.decMs (List.map encM ms)) (P.decE (Fd.fe q))) (P.decE (Fd.fe q)) 0 0 (List.map encE q).length):Int).toNat 1 - P.avU s.1 (P.decMs (List.map encM ms)) (P.decE (Fd.fe q))) then IntKind.i64.wrap (P.avU s.1 (P.decMs (List.map encM ms)) (P.decE (Fd.fe q)) - Fd.ee q (↑(P.gst (P.avU s.1 (P.decMs (List.map encM ms)) (P.decE (Fd.fe q))) (P.decE (Fd.fe q)) 0 0 (List.map encE q).length):Int).toNat 1) else IntKind.i64.wrap (Fd.ee q (↑(P.gst (P.avU s.1 (P.decMs (List.map encM ms)) (P.decE (Fd.fe q))) (P.decE (Fd.fe q)) 0 0 (List.map encE q).length):Int).toNat 1 - P.avU s.1 (P.decMs (List.map encM ms)) (P.decE (Fd.fe q))))≤s.2),false),(decide ((↑(P.gst (P.avU s.1 (P.decMs (List.map encM ms)) (P.decE (Fd.fe q))) (P.decE (Fd.fe q)) 0 0 (List.map encE q).length):Int)≤IntKind.i64.wrap ((↑(P.gst (P.avU s.1 (P.decMs (List.map encM ms)) (P.decE (Fd.fe q))) (P.decE (Fd.fe q)) 0 0 (List.map encE q).length):Int)+1)),true),(decide (IntKind.i64.wrap ((↑(P.gst (P.avU s.1 (P.decMs (List.map encM ms)) (P.decE (Fd.fe q))) (P.decE (Fd.fe q)) 0 0 (List.map encE q).length):Int)+1)≤(↑(List.map encE q).length:Int)),true),(decide (0 < (List.map encE q).length),true)] [2,0,1,3,4,5,6,7,8,9,10,11,12,13,14,0,1,3,15,16,2,0,3,4,5,17,18,19,0,3,15,16,20,20,20,20,0,21,20,22,23,20,0,0,20,20,20,20,20,20,20,20,20,24,0,25,26,27] { env:=[(0,V.ptr 1 0),(4,V.ptr 2 0),(5,V.ptr 3 0),(7,V.ptr 6 0)],heap:=[B.cells [.int .i64 s.1,.int .i64 s.2,.int .i64 s.3,.int .i64 s.4],B.cells [V.ptr 0 0,V.ex 6 false (List.map encM ms),V.ex 4 false (List.map encP ps)],B.cells [.int .i64 0,.int .i64 0,V.sl true [],V.sl true []],B.cells [V.ex 2 false (List.take (↑(P.gst (P.avU s.1 (P.decMs (List.map encM ms)) (P.decE (Fd.fe q))) (P.decE (Fd.fe q)) 0 0 (List.map encE q).length):Int).toNat (List.map encE q)++List.drop (IntKind.i64.wrap ((↑(P.gst (P.avU s.1 (P.decMs (List.map encM ms)) (P.decE (Fd.fe q))) (P.decE (Fd.fe q)) 0 0 (List.map encE q).length):Int)+1)).toNat (List.map encE q))],B.cells [V.ptr 1 0],B.cells [V.sl false (List.map encE l)],B.cells [.int .i64 0,.int .i64 (P.avU s.1 (P.decMs (List.map encM ms)) (P.decE (Fd.fe q))),V.sl true [],V.sl false (List.map encI (P.avW s.1 (P.decMs (List.map encM ms)) (P.decE (Fd.fe q))))]] } (by kernel_rfl) ?_ ?_ ih⟩
    ·refine⟨?_,?_,?_,?_,?_,?_,?_,?_,?_,?_,?_,?_,?_,?_,?_,?_,?_,?_,?_,?_,?_,?_,?_,?_,?_,?_,trivial⟩
     all_goals first
                   | exact eqB_self _
                   | exact fe_dataB _
                   | exact fe_dataC _
                   | exact hne
                   | exact isPs_enc _
                   | exact isMs_enc _
                   | (rw[decE_fe];exact eqB_self _)
                   | (rw[decE_fe,List.length_map];exact eqB_self _)
                   | (rw[decE_fe,decMs_enc];exact hP)
                   | (rw[decMs_enc];exact hM)
                   | (rw[decE_fe];exact okEb_of hP)
                   | (rw[List.length_map];exact decide_eq_true (by omega))
                   | (rw[List.length_map];exact decide_eq_true ⟨by omega,by omega⟩)
                   | (rw[List.length_map];exact decide_eq_false (by omega))
                   | (rw[decE_fe,decMs_enc];exact decide_eq_true ⟨by omega,by omega⟩)
                   | (rw[decE_fe,decMs_enc,List.length_map,Int.toNat_natCast];exact decide_eq_true hi)
                   | (rw[decE_fe,decMs_enc,List.length_map,Int.toNat_natCast,hei];rfl)
                   | (rw[decE_fe,decMs_enc,List.length_map];exact decide_eq_true (by omega))
                   | (rw[decE_fe,decMs_enc,List.length_map,hwi];exact decide_eq_true (by omega))
                   | (rw[decE_fe,decMs_enc,List.length_map,Int.toNat_natCast];exact hg)
                   | done
    ·rw[decE_fe,decMs_enc,List.length_map,Int.toNat_natCast,hwi,show (((P.gst (P.avU s.cap ms q) q 0 0 q.length:Nat):Int)+1).toNat=P.gst (P.avU s.cap ms q) q 0 0 q.length+1 by omega]
     rw[List.eraseIdx_eq_take_drop_succ,List.map_append,List.map_take,List.map_drop]
     rfl
end Go.Proofs.Ytnijkhcmjpfjeaa
