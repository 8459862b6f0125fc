/- DE: what is taken. -/
import Derived.Test.YtnijkhcmjpfjeaaDC
import Derived.Test.YtnijkhcmjpfjeaaE2
namespace Go.Proofs.Ytnijkhcmjpfjeaa
open Go Go.Vm
def t1E (s:Set4) (ms:List Mem) (ps:List Pnt) (p:Pnt) (l:List Prs) (b:Bool) (ks vs:List Int):Ex×St:=(.exit 0,⟨(t1S s ms ps p l b ks vs l.length).env++[(33,.bool false)],tkH s ms ps p ks vs⟩)
def t2E (s:Set4) (ms ms2:List Mem) (ps:List Pnt) (p:Pnt) (ks vs:List Int):Ex×St:=(.exit 2,⟨(t2S s ms ps p ks vs ms.length).env++[(48,.bool false)],tkH s ms2 ps p ks vs⟩)
theorem rdM_pair {l:List Rd}:∀ {ms:List Mem} {k:Int} {q:List Prs},P.rdM l ms k=some q→q.Pairwise (fun a b=>a.at_<b.at_)
 | [],k,q,h=>by
  simp only[P.rdM,Option.some.injEq] at h;subst h;exact List.Pairwise.nil
 | m::ms,k,q,h=>by
  simp only[P.rdM] at h;cases hd:P.dfo l m.id with
  | some d =>
   rw[hd] at h;simp only at h;split at h
   ·rw[Option.map_eq_some_iff] at h
    obtain⟨q',h1,rfl⟩:=h;rw[List.pairwise_cons];exact⟨fun e he=>by have:=(rdM_mem h1 e he).1;simp only;omega,rdM_pair h1⟩
   ·cases h
  | none =>
   rw[hd] at h;simp only at h;split at h
   ·exact rdM_pair h
   ·cases h
theorem rdV_pair (ms:List Mem) (ps:List Pnt) (l:List Rd):(P.rdV ms ps l).Pairwise (fun a b=>a.at_<b.at_):=by
 unfold P.rdV;split
 ·cases hz:P.rdM l ms 0 with
  | none=>exact List.Pairwise.nil
  | some q=>exact rdM_pair hz
 ·exact List.Pairwise.nil
theorem t1_loop (s:Set4) (ms:List Mem) (ps:List Pnt) (p:Pnt) (l:List Prs) (hl:l.length<2 ^ 40) (hp:l.Pairwise (fun a b=>a.at_<b.at_)):∀ (d k:Nat),k+d=l.length →
  LRuns (vstep T (vlim T F) lplim fi19.cx 5 (lb fi19 0)) (t1S s ms ps p l false ((l.take k).map Prs.at_) ((l.take k).map Prs.est) k) (t1E s ms ps p l false (l.map Prs.at_) (l.map Prs.est))
 | 0,k,hd=>by
  have hk:k=l.length:=by omega
  subst hk;rw[List.take_length];refine lastE U49_ok noL [(decide ((↑(l.length):Int)<(↑l.length:Int)),false)] [2] (Ex.exit 0,{env:=[(0,V.ptr 1 0),(4,V.ptr 2 0),(8,V.ptr 3 0),(9,V.ref RK.map 4),(30,V.sl (false) (List.map encE l)),(31,.int .i64 (↑l.length:Int)),(32,.int .i64 (↑(l.length):Int)),(33,V.bool (decide ((↑(l.length):Int)<(↑l.length:Int))))],heap:=[bS s,bD ms ps,B.cells [.int .i64 0,.int .i64 0,V.sl true [],V.sl true []],B.cells [.int .i64 p.1,.int .i64 p.2,V.sl false (List.map encI p.4),V.sl false (List.map encI p.6)],B.cells [V.mp (List.map encI (l.map Prs.at_)) (List.map encI (l.map Prs.est))]]}) (by kernel_rfl) (by simp) ⟨by simp,trivial⟩ (by simp[t1S,t1E,tkH,bS,bD])
 | d+1,k,hd=>by
  have hk:k<l.length:=by omega
  have hwi:IntKind.i64.wrap ((k:Int)+1)=((k+1:Nat):Int):=by rw[i64in (by omega) (by omega)];rfl
  have h0:=ee0 l k hk;have h1:=ee1 l k hk;have hni:l[k].at_∉(l.take k).map Prs.at_:=by
   intro hm;obtain⟨e,he,hq⟩:=List.mem_map.1 hm;obtain⟨i,hi,rfl⟩:=List.mem_iff_getElem.1 he;rw[List.length_take] at hi;rw[List.getElem_take] at hq;have:=(List.pairwise_iff_getElem.1 hp) i k (by omega) hk (by omega)
   omega
  have hf:(findK (V.int IntKind.i64 (Fd.ee l k 0)) (List.map encI ((l.take k).map Prs.at_))).isSome=false:=by rw[h0,findK_I,decide_eq_false hni]
  have ih:=t1_loop s ms ps p l hl hp d (k+1) (by omega)
  rw[show (l.take (k+1)).map Prs.at_=(l.take k).map Prs.at_++[l[k].at_] by rw[List.take_succ_eq_append_getElem hk,List.map_append];rfl,show (l.take (k+1)).map Prs.est=(l.take k).map Prs.est++[l[k].est] by rw[List.take_succ_eq_append_getElem hk,List.map_append];rfl] at ih
  refine nextE U49_ok noL [(decide ((↑k:Int)<(↑l.length:Int)),true),(decide ((↑k:Int)<(↑(List.map encE l).length:Int)),true),(((List.map encE l).getD k V.undef).cells.length==2&&fitP [.int .i64,.int .i64] 0 ((List.map encE l).getD k V.undef),true),((List.map encI ((l.take k).map Prs.at_)).all (keyFits {kind:=TK.int IntKind.i64,size:=1,bytes:=8,zero:=V.int IntKind.i64 0}),true),((findK (V.int IntKind.i64 (Fd.ee l k 0)) (List.map encI ((l.take k).map Prs.at_))).isSome,false)] [2,0,3,4,0,5,0,6] {env:=[(0,V.ptr 1 0),(4,V.ptr 2 0),(8,V.ptr 3 0),(9,V.ref RK.map 4),(30,V.sl (false) (List.map encE l)),(31,.int .i64 (↑l.length:Int)),(32,.int .i64 (IntKind.i64.wrap ((↑k:Int)+1)))],heap:=[bS s,bD ms ps,B.cells [.int .i64 0,.int .i64 0,V.sl true [],V.sl true []],B.cells [.int .i64 p.1,.int .i64 p.2,V.sl false (List.map encI p.4),V.sl false (List.map encI p.6)],B.cells [V.mp (List.map encI ((l.take k).map Prs.at_)++[.int .i64 (Fd.ee l k 0)]) (List.map encI ((l.take k).map Prs.est)++[.int .i64 (Fd.ee l k 1)])]]} (by kernel_rfl) ?_ (by rw[hwi,h0,h1];simp[t1S,tkH,encI,bS,bD]) ih
  refine⟨?_,?_,?_,?_,?_,trivial⟩
  all_goals first|exact keys_fit _|exact fitE _ _ hk|exact hf|(simp;done)|(simp;omega)|done
namespace P
def tkM (keep u:Int) (Q:List Rd):Nat→List Mem→List Mem
 | _,[]=>[]
 | k,m::r=>tk1 keep u (dfo Q k) m::tkM keep u Q (k+1) r
def prQ (q:List Prs):List Rd:=q.map fun e=>⟨e.at_,e.est⟩
def takeM (s:Set4) (ms:List Mem) (ps:List Pnt) (l:List Rd):List Mem:=tkM s.keep (avU s.cap ms (pq s ms ps (rdV ms ps l))) (prQ (rdV ms ps l)) 0 ms
end P
theorem prQ_at (q:List Prs):(P.prQ q).map Rd.id=q.map Prs.at_:=by simp[P.prQ]
theorem prQ_est (q:List Prs):(P.prQ q).map Rd.df=q.map Prs.est:=by simp[P.prQ]
theorem t2_loop (s:Set4) (ps:List Pnt) (p:Pnt) (Q:List Rd) (hQ:∀ r∈Q,-2000000000000≤r.df∧r.df≤2000000000000) (hu:-1000000000000000≤p.u∧p.u≤1000000000000000) (hs:1≤s.keep∧s.keep≤30):∀ (rest don:List Mem),(don++rest).length<2 ^ 40→(∀ m∈rest,okM1 m) →
  LRuns (vstep T (vlim T F) lplim fi19.cx 5 (lb fi19 1)) (t2S s (don++rest) ps p (Q.map Rd.id) (Q.map Rd.df) don.length) (t2E s (don++rest) (don++P.tkM s.keep p.u Q don.length rest) ps p (Q.map Rd.id) (Q.map Rd.df))
 | [],don,hl,_=>by
  simp only[List.append_nil,P.tkM];rw[List.append_nil] at hl;refine lastE U49_ok noL [(decide ((↑(don.length):Int)<(↑(don).length:Int)),false)] [2] (Ex.exit 2,{env:=[(0,V.ptr 1 0),(4,V.ptr 2 0),(8,V.ptr 3 0),(9,V.ref RK.map 4),(46,.int .i64 (↑(don).length:Int)),(47,.int .i64 (↑(don.length):Int)),(48,V.bool (decide ((↑(don.length):Int)<(↑(don).length:Int))))],heap:=[bS s,B.cells [V.ptr 0 0,V.ex 6 false (List.map encM (don)),V.ex 4 false (List.map encP ps)],B.cells [.int .i64 0,.int .i64 0,V.sl true [],V.sl true []],B.cells [.int .i64 p.1,.int .i64 p.2,V.sl false (List.map encI p.4),V.sl false (List.map encI p.6)],B.cells [V.mp (List.map encI (Q.map Rd.id)) (List.map encI (Q.map Rd.df))]]}) (by kernel_rfl) (by simp) ⟨by simp,trivial⟩ (by simp[t2S,t2E,tkH,bS,bD])
 | m::rest,don,hl,hm=>by
  have hk:don.length<(don++m::rest).length:=by simp
  have ih:=t2_loop s ps p Q hQ hu hs rest (don++[P.tk1 s.keep p.u (P.dfo Q don.length) m]) (by simpa using hl) (fun x hx=>hm x (by simp[hx]))
  have hg:(don++m::rest)[don.length]=m:=by simp
  have hst:t2E s (don++[P.tk1 s.keep p.u (P.dfo Q don.length) m]++rest) (don++[P.tk1 s.keep p.u (P.dfo Q don.length) m]++P.tkM s.keep p.u Q (don++[P.tk1 s.keep p.u (P.dfo Q don.length) m]).length rest) ps p (Q.map Rd.id) (Q.map Rd.df)=t2E s (don++m::rest) (don++P.tkM s.keep p.u Q don.length (m::rest)) ps p (Q.map Rd.id) (Q.map Rd.df):=by
   simp only[t2E,t2S,List.length_append,List.length_cons,List.length_nil,P.tkM,List.append_assoc,List.singleton_append,Nat.zero_add]
   try rw[show don.length+(1+rest.length)=don.length+(rest.length+1) by omega]
  rw[hst] at ih;refine t2_step s (don++m::rest) ps p Q don.length hk hl (by rw[hg];exact hm m (by simp)) hQ hu hs ?_
  rw[hg,List.set_append_right _ _ (Nat.le_refl _)];simp only[Nat.sub_self,List.set_cons_zero];simpa using ih
def okMt (ms:List Mem):Bool:=ms.all fun m=>decide (1≤m.memory∧m.miss.length≤1000000∧(m.nil=true→m.miss=[]))
theorem okMt_iff {ms:List Mem} (h:okMt ms=true) (h':okMs ms=true):∀ m∈ms,okM1 m:=by
 intro m hm;have h1:=List.all_eq_true.1 h m hm;have h2:=List.all_eq_true.1 h' m hm;simp only[decide_eq_true_eq] at h1 h2;exact⟨⟨h2.1,h2.2.1⟩,h2.2.2,h1.1,h1.2.1,h1.2.2⟩
theorem datI (l:List Int):((l.map encI).all fun y=>y.cells.length==1)=true:=by
 rw[List.all_eq_true];intro x hx;obtain⟨e,_,rfl⟩:=List.mem_map.1 hx;rfl
theorem rooms_le {n:Nat} (h:n≤16):rooms (0+n) 8=true:=decide_eq_true (by unfold maxRoom;omega)
theorem lt_le {n:Nat} (h:n≤16):decide (0+n<4611686018427387904)=true:=decide_eq_true (by omega)
set_option maxHeartbeats 1000000 in
theorem take_runs (s:Set4) (x:Bool) (ms:List Mem) (ps:List Pnt) (l:List Rd) (hm:ms.length≤16) (hp0:0<ps.length) (hp1:ps.length<2 ^ 40) (hl:l.length<2 ^ 40) (ho:okMs ms=true) (hM:okMb ms=true) (hO:okEp s ps=true) (hT:okMt ms=true) (hs:1≤s.keep∧s.keep≤30) :
  Runs T F 19 [.ptr 1 0,.sl x (l.map encD)] [bS s,bD ms ps] (if P.rdE ms ps l=0 then (.tup [encP (ptO s ms ps (P.rdV ms ps l)),.int .i64 0],[bS s,bD (P.takeM s ms ps l) (ps++[ptO s ms ps (P.rdV ms ps l)])]) else (.tup [encP ⟨0,0,true,[],true,[]⟩,.int .i64 (P.rdE ms ps l)],[bS s,bD ms ps])):=by
 by_cases h0:P.rdE ms ps l=0
 ·rw[if_pos h0]
  have hv:=rdV_ok h0;have hz:(P.rdV ms ps l).isEmpty=false:=by
   cases hq:P.rdV ms ps l with
   | nil=>rw[hq] at hv;simp at hv
   | cons a b=>rfl
  have he:(P.rdE ms ps l != 0)=false:=by rw[h0];rfl
  obtain⟨q0,q1,q2,_⟩:=pq_ok (s:=s) (ps:=ps) hv.1 (by omega) hv.2.2
  have hU:=avU_b (cap:=s.cap) hM q2 q0 q1;obtain⟨w1,w2,w3⟩:=avW_ok (cap:=s.cap) hM q2 q0 q1;have hil:(P.idsOf ms (P.pq s ms ps (P.rdV ms ps l))).length≤16:=by simp[P.idsOf];exact q1
  have hL1:=t1_loop s ms ps (ptO s ms ps (P.rdV ms ps l)) (P.rdV ms ps l) (by omega) (rdV_pair ms ps l) (P.rdV ms ps l).length 0 (by omega)
  simp only[List.take_zero,List.map_nil] at hL1;have hL2:=t2_loop s ps (ptO s ms ps (P.rdV ms ps l)) (P.prQ (P.rdV ms ps l)) (fun r hr=>by
   obtain⟨e,he',rfl⟩:=List.mem_map.1 hr;have:=List.all_eq_true.1 hv.2.2 e he'
   simp only[decide_eq_true_eq] at this;exact this.2.2) (by simp only[ptO];omega) hs ms [] (by simp;omega) (okMt_iff hT ho)
  simp only[List.nil_append,prQ_at,prQ_est,List.length_nil] at hL2;have hll:loopsOf fi19.body=[lb fi19 0,lb fi19 1]:=by kernel_rfl
  rw[show P.tkM s.keep (ptO s ms ps (P.rdV ms ps l)).u (P.prQ (P.rdV ms ps l)) 0 ms=P.takeM s ms ps l from rfl] at hL2;have hL:LGood T (vlim T F) lplim fi19.cx (loopsIs [(7,t1S s ms ps (ptO s ms ps (P.rdV ms ps l)) (P.rdV ms ps l) false [] [] 0,t1E s ms ps (ptO s ms ps (P.rdV ms ps l)) (P.rdV ms ps l) false ((P.rdV ms ps l).map Prs.at_) ((P.rdV ms ps l).map Prs.est)),(12,t2S s ms ps (ptO s ms ps (P.rdV ms ps l)) ((P.rdV ms ps l).map Prs.at_) ((P.rdV ms ps l).map Prs.est) 0,t2E s ms (P.takeM s ms ps l) ps (ptO s ms ps (P.rdV ms ps l)) ((P.rdV ms ps l).map Prs.at_) ((P.rdV ms ps l).map Prs.est))]) fi19.body:=LGood.two hll (by kernel_rfl) (by kernel_rfl) (by exact hL1) (by exact hL2)
  clear hL1 hL2;refine wayE U49_ok (fi:=fi19) (by kernel_rfl) hL [(eqB (List.map encD l) (List.map encD (P.decDs (List.map encD l))),true),(decide ((List.map encD l).length<1099511627776),true),(eqB (encS4 s) (encS4 s),true),(eqB (List.map encP ps) (List.map encP (P.decPs (List.map encP ps))),true),(decide (0<(List.map encP ps).length),true),(decide ((List.map encP ps).length<1099511627776),true),(eqB (List.map encM ms) (List.map encM (P.decMs (List.map encM ms))),true),(decide ((List.map encM ms).length<1099511627776),true),((P.decMs (List.map encM ms)).all fun m=>decide (-1000000000000000000≤m.2∧m.2≤1000000000000000000∧-1000000000000000000≤m.3∧m.3≤1000000000000000000),true),(P.rdE (P.decMs (List.map encM ms)) (P.decPs (List.map encP ps)) (P.decDs (List.map encD l)) != 0,false),(eqB (P.rdV (P.decMs (List.map encM ms)) (P.decPs (List.map encP ps)) (P.decDs (List.map encD l))).isEmpty false,true),(eqB (List.map encE (P.rdV (P.decMs (List.map encM ms)) (P.decPs (List.map encP ps)) (P.decDs (List.map encD l)))) (List.map encE (P.decEs (List.map encE (P.rdV (P.decMs (List.map encM ms)) (P.decPs (List.map encP ps)) (P.decDs (List.map encD l)))))),true),(decide (0<(List.map encE (P.rdV (P.decMs (List.map encM ms)) (P.decPs (List.map encP ps)) (P.decDs (List.map encD l)))).length∧(List.map encE (P.rdV (P.decMs (List.map encM ms)) (P.decPs (List.map encP ps)) (P.decDs (List.map encD l)))).length≤16),true),((P.decMs (List.map encM ms)).all fun m=>(m.7.all fun x=>decide (-1000000000≤x∧x≤1000000000))&&decide (m.7.length≤1000000),true),((P.decEs (List.map encE (P.rdV (P.decMs (List.map encM ms)) (P.decPs (List.map encP ps)) (P.decDs (List.map encD l))))).all fun e=>decide (0≤e.1∧e.1<(↑(P.decMs (List.map encM ms)).length:Int)∧-2000000000000≤e.2∧e.2≤2000000000000),true),(decide (0≤(lst (P.decPs (List.map encP ps))).1∧(lst (P.decPs (List.map encP ps))).1≤1000000000000∧0≤s.3∧s.3≤100),true),(is {env:=[(0,V.ptr 1 0),(4,V.ptr 2 0),(8,V.ptr 3 0),(9,V.ref RK.map 4),(30,V.sl (P.rdV (P.decMs (List.map encM ms)) (P.decPs (List.map encP ps)) (P.decDs (List.map encD l))).isEmpty (List.map encE (P.rdV (P.decMs (List.map encM ms)) (P.decPs (List.map encP ps)) (P.decDs (List.map encD l))))),(31,.int .i64 (↑(List.map encE (P.rdV (P.decMs (List.map encM ms)) (P.decPs (List.map encP ps)) (P.decDs (List.map encD l)))).length:Int)),(32,.int .i64 0)],heap:=[bS s,bD ms ps,B.cells [.int .i64 0,.int .i64 0,V.sl true [],V.sl true []],B.cells [.int .i64 ((lst (P.decPs (List.map encP ps))).1+1),.int .i64 (P.avU s.1 (P.decMs (List.map encM ms)) (P.pq {cap:=s.1,gate:=s.2,wait:=s.3,keep:=s.4} (P.decMs (List.map encM ms)) (P.decPs (List.map encP ps)) (P.decEs (List.map encE (P.rdV (P.decMs (List.map encM ms)) (P.decPs (List.map encP ps)) (P.decDs (List.map encD l))))))),V.sl false (List.map encI (P.idsOf (P.decMs (List.map encM ms)) (P.pq {cap:=s.1,gate:=s.2,wait:=s.3,keep:=s.4} (P.decMs (List.map encM ms)) (P.decPs (List.map encP ps)) (P.decEs (List.map encE (P.rdV (P.decMs (List.map encM ms)) (P.decPs (List.map encP ps)) (P.decDs (List.map encD l)))))))),V.sl false (List.map encI (P.avW s.1 (P.decMs (List.map encM ms)) (P.pq {cap:=s.1,gate:=s.2,wait:=s.3,keep:=s.4} (P.decMs (List.map encM ms)) (P.decPs (List.map encP ps)) (P.decEs (List.map encE (P.rdV (P.decMs (List.map encM ms)) (P.decPs (List.map encP ps)) (P.decDs (List.map encD l))))))))],B.cells [V.mp [] []]]} {env:=[(0,V.ptr 1 0),(4,V.ptr 2 0),(8,V.ptr 3 0),(9,V.ref RK.map 4),(30,V.sl false (List.map encE (P.rdV ms ps l))),(31,.int .i64 (↑(P.rdV ms ps l).length:Int)),(32,.int .i64 0)],heap:=[bS s,bD ms ps,B.cells [.int .i64 0,.int .i64 0,V.sl true [],V.sl true []],B.cells [.int .i64 ((lst ps).1+1),.int .i64 (P.avU s.1 ms (P.pq s ms ps (P.rdV ms ps l))),V.sl false (List.map encI (P.idsOf ms (P.pq s ms ps (P.rdV ms ps l)))),V.sl false (List.map encI (P.avW s.1 ms (P.pq s ms ps (P.rdV ms ps l))))],B.cells [V.mp [] []]]},true),(is {env:=[(0,V.ptr 1 0),(4,V.ptr 2 0),(8,V.ptr 3 0),(9,V.ref RK.map 4),(46,.int .i64 (↑(List.map encM ms).length:Int)),(47,.int .i64 0)],heap:=[bS s,bD ms ps,B.cells [.int .i64 0,.int .i64 0,V.sl true [],V.sl true []],B.cells [.int .i64 ((lst ps).1+1),.int .i64 (P.avU s.1 ms (P.pq s ms ps (P.rdV ms ps l))),V.sl false (List.map encI (P.idsOf ms (P.pq s ms ps (P.rdV ms ps l)))),V.sl false (List.map encI (P.avW s.1 ms (P.pq s ms ps (P.rdV ms ps l))))],B.cells [V.mp (List.map encI (List.map Prs.at_ (P.rdV ms ps l))) (List.map encI (List.map Prs.est (P.rdV ms ps l)))]]} {env:=[(0,V.ptr 1 0),(4,V.ptr 2 0),(8,V.ptr 3 0),(9,V.ref RK.map 4),(46,.int .i64 (↑ms.length:Int)),(47,.int .i64 0)],heap:=[bS s,bD ms ps,B.cells [.int .i64 0,.int .i64 0,V.sl true [],V.sl true []],B.cells [.int .i64 ((lst ps).1+1),.int .i64 (P.avU s.1 ms (P.pq s ms ps (P.rdV ms ps l))),V.sl false (List.map encI (P.idsOf ms (P.pq s ms ps (P.rdV ms ps l)))),V.sl false (List.map encI (P.avW s.1 ms (P.pq s ms ps (P.rdV ms ps l))))],B.cells [V.mp (List.map encI (List.map Prs.at_ (P.rdV ms ps l))) (List.map encI (List.map Prs.est (P.rdV ms ps l)))]]},true),(rooms ((List.map encP ps).length+1) 64,true),(decide ((List.map encP ps).length+1<4611686018427387904),true),(rooms (0+(List.map encI (P.idsOf ms (P.pq s ms ps (P.rdV ms ps l)))).length) 8,true),(decide (0+(List.map encI (P.idsOf ms (P.pq s ms ps (P.rdV ms ps l)))).length<4611686018427387904),true),((List.map encI (P.idsOf ms (P.pq s ms ps (P.rdV ms ps l)))).all fun y=>y.cells.length==1,true),(rooms (0+(List.map encI (P.avW s.1 ms (P.pq s ms ps (P.rdV ms ps l)))).length) 8,true),(decide (0+(List.map encI (P.avW s.1 ms (P.pq s ms ps (P.rdV ms ps l)))).length<4611686018427387904),true),((List.map encI (P.avW s.1 ms (P.pq s ms ps (P.rdV ms ps l)))).all fun y=>y.cells.length==1,true)] [0,1,2,3,4,5,6,7,8,9,10,0,1,11,0,1,12,13,14,4,5,6,7,8,9,15,16,17,0,1,18,19,20,21,0,1,22,23,24,1,25,26,27] (V.tup [V.agg [.int .i64 ((lst ps).1+1),.int .i64 (P.avU s.1 ms (P.pq s ms ps (P.rdV ms ps l))),V.sl false ([]++List.map encI (P.idsOf ms (P.pq s ms ps (P.rdV ms ps l)))),V.sl false ([]++List.map encI (P.avW s.1 ms (P.pq s ms ps (P.rdV ms ps l))))],.int .i64 0],[bS s,B.cells [V.ptr 0 0,V.ex 6 false (List.map encM (P.takeM s ms ps l)),V.ex 4 false (List.map encP ps++[V.agg [.int .i64 ((lst ps).1+1),.int .i64 (P.avU s.1 ms (P.pq s ms ps (P.rdV ms ps l))),V.sl false (List.map encI (P.idsOf ms (P.pq s ms ps (P.rdV ms ps l)))),V.sl false (List.map encI (P.avW s.1 ms (P.pq s ms ps (P.rdV ms ps l))))]])]]) (by kernel_rfl) ?_ (by simp only[List.nil_append,bD,bS,List.map_append];rfl)
  have hil':(List.map encI (P.idsOf ms (P.pq s ms ps (P.rdV ms ps l)))).length≤16:=by rw[List.length_map];exact hil
  have hwl':(List.map encI (P.avW s.cap ms (P.pq s ms ps (P.rdV ms ps l)))).length≤16:=by rw[List.length_map];omega
  refine⟨isDs_enc _,by rw[List.length_map];exact decide_eq_true (by omega),eqB_self _,isPs_enc _,by rw[List.length_map];exact decide_eq_true (by omega),by rw[List.length_map];exact decide_eq_true (by omega),isMs_enc _,by rw[List.length_map];exact decide_eq_true (by omega),
   by (rw[decMs_enc];exact ho),by (rw[decMs_enc,decPs_enc,decDs_enc];exact he),by (rw[decMs_enc,decPs_enc,decDs_enc];exact eqB_eq hz),isEs_enc _,by (rw[decMs_enc,decPs_enc,decDs_enc,List.length_map];exact decide_eq_true ⟨hv.1,by omega⟩),by (rw[decMs_enc];exact hM),
   by (rw[decMs_enc,decPs_enc,decDs_enc,decEs_enc];exact hv.2.2),by (rw[decPs_enc];exact hO),is_eq (by rw[decMs_enc,decPs_enc,decDs_enc,decEs_enc,hz,List.length_map]),is_eq (by rw[List.length_map]),
   decide_eq_true (by rw[List.length_map];unfold maxRoom;omega),decide_eq_true (by rw[List.length_map];omega),rooms_le hil',lt_le hil',datI _,rooms_le hwl',lt_le hwl',datI _,trivial⟩
 ·rw[if_neg h0]
  have he:(P.rdE ms ps l != 0)=true:=by simpa using h0
  refine wayE U49_ok (fi:=fi19) (by kernel_rfl) noL [(eqB (List.map encD l) (List.map encD (P.decDs (List.map encD l))),true),(decide ((List.map encD l).length<1099511627776),true),(eqB (encS4 s) (encS4 s),true),(eqB (List.map encP ps) (List.map encP (P.decPs (List.map encP ps))),true),(decide (0<(List.map encP ps).length),true),(decide ((List.map encP ps).length<1099511627776),true),(eqB (List.map encM ms) (List.map encM (P.decMs (List.map encM ms))),true),(decide ((List.map encM ms).length<1099511627776),true),((P.decMs (List.map encM ms)).all fun m=>decide (-1000000000000000000≤m.2∧m.2≤1000000000000000000∧-1000000000000000000≤m.3∧m.3≤1000000000000000000),true),(P.rdE (P.decMs (List.map encM ms)) (P.decPs (List.map encP ps)) (P.decDs (List.map encD l)) != 0,true)] [0,1,2,3,4,5,6,7,8,9,10,0,1,11] (V.tup [V.agg [.int .i64 0,.int .i64 0,V.sl true [],V.sl true []],.int .i64 (P.rdE (P.decMs (List.map encM ms)) (P.decPs (List.map encP ps)) (P.decDs (List.map encD l)))],[bS s,bD ms ps]) (by kernel_rfl) ?_ (by rw[decMs_enc,decPs_enc,decDs_enc];rfl)
  refine⟨?_,?_,?_,?_,?_,?_,?_,?_,?_,?_,trivial⟩
  all_goals first|exact eqB_self _|exact isDs_enc _|exact isPs_enc _|exact isMs_enc _|(rw[List.length_map];exact decide_eq_true (by omega))|(rw[decMs_enc];exact ho)|(rw[decMs_enc,decPs_enc,decDs_enc];exact he)|done
theorem take0_runs (s:Set4) (x:Bool) (ps:List Pnt) (l:List Rd) (hp0:0<ps.length) (hp1:ps.length<2 ^ 40) (hl:l.length<2 ^ 40) :
  Runs T F 19 [.ptr 1 0,.sl x (l.map encD)] [bS s,bE ps] (.tup [encP ⟨0,0,true,[],true,[]⟩,.int .i64 (P.rd0 ps l)],[bS s,bE ps]):=by
 have he:(P.rd0 ps l != 0)=true:=by
  unfold P.rd0;split
  ·rfl
  ·split<;>rfl
 refine wayE U49_ok (fi:=fi19) (by kernel_rfl) noL [(eqB (List.map encD l) (List.map encD (P.decDs (List.map encD l))),true),(decide ((List.map encD l).length<1099511627776),true),(eqB (encS4 s) (encS4 s),true),(eqB (List.map encP ps) (List.map encP (P.decPs (List.map encP ps))),true),(decide (0<(List.map encP ps).length),true),(decide ((List.map encP ps).length<1099511627776),true),(P.rd0 (P.decPs (List.map encP ps)) (P.decDs (List.map encD l)) != 0,true)] [0,1,2,3,4,5,6,7,0,1,8] (V.tup [V.agg [.int .i64 0,.int .i64 0,V.sl true [],V.sl true []],.int .i64 (P.rd0 (P.decPs (List.map encP ps)) (P.decDs (List.map encD l)))],[bS s,bE ps]) (by kernel_rfl) ?_ (by rw[decPs_enc,decDs_enc];rfl)
 refine⟨?_,?_,?_,?_,?_,?_,?_,trivial⟩
 all_goals first
  | exact eqB_self _
  | exact isDs_enc _
  | exact isPs_enc _
  | (rw[decPs_enc,decDs_enc];exact he)
  | (rw[List.length_map];exact decide_eq_true (by omega))
  | done
noncomputable def takeS:List V→Heap→Tr (V×Heap):=fun a H=>match a with
 | [p,.sl _ ys]=>match isPtr 1 p with
  | true=>.must (isDs ys) (.must (decide (ys.length<2 ^ 40)) (onSc H (fun s ms ps=>.must (decide (ms.length≤16)) (.must (okMs ms) (.must (okMb ms) (.must (okEp s ps) (.must (okMt ms) (.must (decide (1≤s.keep∧s.keep≤30)) (.ask (decide (P.rdE ms ps (P.decDs ys)=0)) (.ret (.tup [encP (ptO s ms ps (P.rdV ms ps (P.decDs ys))),.int .i64 0],[bS s,bD (P.takeM s ms ps (P.decDs ys)) (ps++[ptO s ms ps (P.rdV ms ps (P.decDs ys))])]))
    (.ret (.tup [encP ⟨0,0,true,[],true,[]⟩,.int .i64 (P.rdE ms ps (P.decDs ys))],[bS s,bD ms ps])))))))))
    (fun s ps=>.ret (.tup [encP ⟨0,0,true,[],true,[]⟩,.int .i64 (P.rd0 ps (P.decDs ys))],[bS s,bE ps]))))
  | false=>.fail
 | _=>.fail
theorem takeS_ok:∀ a H r,(takeS a H).run=some r→Runs T F 19 a H r:=by
 intro a H x h;unfold takeS at h;split at h
 ·rename_i p x ys
  split at h
  ·rename_i hp
   rw[of_isPtr hp];obtain⟨g1,g⟩:=Tr.must_some h;obtain⟨g2,g'⟩:=Tr.must_some g;clear h g;obtain⟨l,rfl⟩:=isDs_of g1;rw[decDs_enc] at g';simp only[List.length_map,decide_eq_true_eq] at g2;rcases onSc_run g' with ⟨s,ms,ps,rfl,h1,h2,h3,h⟩ | ⟨s,ps,rfl,h1,h2,h⟩
   ·obtain⟨h4,k1⟩:=Tr.must_some h
    obtain⟨h5,k2⟩:=Tr.must_some k1;obtain⟨h6,k3⟩:=Tr.must_some k2;obtain⟨h7,k4⟩:=Tr.must_some k3;obtain⟨h8,k5⟩:=Tr.must_some k4;obtain⟨h9,k6⟩:=Tr.must_some k5;have hq:=take_runs s x ms ps l (by simpa using h4) h1 h2 g2 h5 h6 h7 h8 (by simpa using h9)
    by_cases he:P.rdE ms ps l=0
    ·rw[if_pos he] at hq
     rw[decide_eq_true he] at k6;have hr:=ret_some k6;subst hr;exact hq
    ·rw[if_neg he] at hq
     rw[decide_eq_false he] at k6;have hr:=ret_some k6;subst hr;exact hq
   ·have hr:=ret_some h;subst hr
    exact take0_runs s x ps l h1 h2 g2
  ·cases h
 ·cases h
noncomputable def U19:Vm.Spec:=U49.add 19 takeS
theorem U19_ok:Vm.Good (vlim T F) U19:=U49_ok.add takeS_ok
end Go.Proofs.Ytnijkhcmjpfjeaa
