/- E3: what stays true of a scale,whatever is done with it (plain). -/
import Derived.Test.YtnijkhcmjpfjeaaDE
namespace Go.Proofs.Ytnijkhcmjpfjeaa
open Go Go.Vm
theorem dfo_prQ {q:List Prs} {k e:Int}:P.dfo (P.prQ q) k=some e→(⟨k,e⟩:Prs)∈q:=by
 induction q with
 | nil=>intro h;simp[P.prQ,P.dfo] at h
 | cons x q ih =>
  intro h;simp only[P.prQ,List.map_cons,P.dfo] at h;split at h
  ·rename_i hx
   injection h with h;cases x;simp only at hx h;subst hx;subst h;simp
  ·exact List.mem_cons_of_mem _ (ih h)
theorem dfo_none {q:List Prs} {k:Int} (h:∀ e∈q,e.at_≠k):P.dfo (P.prQ q) k=none:=by
 cases hq:P.dfo (P.prQ q) k with
 | none=>rfl
 | some e=>exact absurd rfl (h _ (dfo_prQ hq))
theorem tkM_congr {keep u:Int} {Q Q':List Rd}:∀ {ms:List Mem} {k:Nat},(∀ j:Nat,k≤j→P.dfo Q j=P.dfo Q' j)→P.tkM keep u Q k ms=P.tkM keep u Q' k ms
 | [],_,_=>rfl
 | m::ms,k,h=>by
  simp only[P.tkM];rw[h k (Nat.le_refl _),tkM_congr (fun j hj=>h j (by omega))]
namespace P
def tkG (keep u:Int) (l:List Rd) (m:Mem):Mem:=tk1 keep u ((dfo l m.id).map fun d=>m.h+m.rate-d) m
end P
theorem tkM_map {keep u:Int} {l:List Rd}:∀ {ms:List Mem} {k:Nat} {q:List Prs},P.rdM l ms k=some q→P.tkM keep u (P.prQ q) k ms=ms.map (P.tkG keep u l)
 | [],k,q,_=>rfl
 | m::ms,k,q,h=>by
  have h':=h;simp only[P.rdM] at h;simp only[P.tkM,List.map_cons,List.cons.injEq];cases hd:P.dfo l m.id with
  | some d =>
   rw[hd] at h;simp only at h;split at h
   ·rw[Option.map_eq_some_iff] at h
    obtain⟨q',h1,rfl⟩:=h;have hn:=rdM_mem h1;constructor
    ·simp only[P.prQ,List.map_cons,P.dfo,if_true,P.tkG,hd,Option.map_some]
    ·rw[←tkM_map (k:=k+1) h1]
     refine tkM_congr fun j hj=>?_
     simp only[P.prQ,List.map_cons,P.dfo];rw[if_neg (by omega)]
   ·cases h
  | none =>
   rw[hd] at h;simp only at h;split at h
   ·have hn:=rdM_mem h
    constructor
    ·rw[dfo_none (fun e he=>by have:=(hn e he).1;omega)]
     simp only[P.tkG,hd,Option.map_none]
    ·exact tkM_map (k:=k+1) h
   ·cases h
theorem takeM_map {s:Set4} {ms:List Mem} {ps:List Pnt} {l:List Rd} (h:P.rdE ms ps l=0):P.takeM s ms ps l=ms.map (P.tkG s.keep (P.avU s.cap ms (P.pq s ms ps (P.rdV ms ps l))) l):=by
 obtain⟨_,_,_,q,hq⟩:=rdE_zero h;have hv:P.rdV ms ps l=q:=by unfold P.rdV;rw[if_pos h,hq];rfl
 unfold P.takeM;rw[hv];exact tkM_map hq
theorem rdM_b {l:List Rd}:∀ {ms:List Mem} {k:Int} {q:List Prs},P.rdM l ms k=some q→∀ m∈ms,(∀ d,P.dfo l m.id=some d→-2000000000000≤m.h+m.rate-d∧m.h+m.rate-d≤2000000000000)∧(P.dfo l m.id=none→-3000000000000≤m.h+m.rate∧m.h+m.rate≤3000000000000)
 | [],k,q,_,m,hm=>by simp at hm
 | x::ms,k,q,h,m,hm=>by
  simp only[P.rdM] at h;cases hd:P.dfo l x.id with
  | some d =>
   rw[hd] at h;simp only at h;split at h
   ·rename_i hb
    rw[Option.map_eq_some_iff] at h;obtain⟨q',h1,rfl⟩:=h;rcases List.mem_cons.1 hm with rfl | hm
    ·exact⟨fun d' e=>by rw[hd] at e;injection e with e;subst e;exact hb,fun e=>(by rw[hd] at e;cases e)⟩
    ·exact rdM_b h1 m hm
   ·cases h
  | none =>
   rw[hd] at h;simp only at h;split at h
   ·rename_i hb
    rcases List.mem_cons.1 hm with rfl | hm
    ·exact⟨fun d' e=>(by rw[hd] at e;cases e),fun _=>hb⟩
    ·exact rdM_b h m hm
   ·cases h
theorem dfo_mem' {l:List Rd} {i d:Int} (h:P.dfo l i=some d):(⟨i,d⟩:Rd)∈l:=by
 induction l with
 | nil=>simp[P.dfo] at h
 | cons x l ih =>
  simp only[P.dfo] at h;split at h
  ·rename_i hx
   injection h with h;cases x;simp only at hx h;subst hx;subst h;simp
  ·exact List.mem_cons_of_mem _ (ih h)
structure okI3 (m:Mem) (n:Nat):Prop where
 h:-4000000000000≤m.h∧m.h≤4000000000000
 rate:-(1000000000+5000000000000*(n:Int))≤m.rate∧m.rate≤1000000000+5000000000000*(n:Int)
 mem:1≤m.memory∧m.memory≤1000
 len:m.miss.length≤30
 miss:∀ x∈m.miss,-1000000000≤x∧x≤1000000000
 nil:m.nil=true→m.miss=[]
structure okS3 (s:Set4):Prop where
 cap:1≤s.cap∧s.cap≤1000000
 gate:1≤s.gate∧s.gate≤100000000000
 wait:0≤s.wait∧s.wait≤100
 keep:1≤s.keep∧s.keep≤30
structure okP3 (p:Pnt):Prop where
 ids:p.ids.length≤16
 ws:p.ws.length≤16
 ni:p.ni=true→p.ids=[]
 nw:p.nw=true→p.ws=[]
structure Inv (s:Set4) (ms:List Mem) (ps:List Pnt) (n:Nat):Prop where
 set:okS3 s
 len:ms.length≤16
 nod:(ms.map Mem.id).Nodup
 mem:∀ m∈ms,okI3 m n
 p0:0<ps.length
 p1:ps.length≤n+1
 ep:(lst ps).ep=ps.length-1
 u:-2000000000002≤(lst ps).u∧(lst ps).u≤2000000000002
 pl:∀ p∈ps,okP3 p
theorem okI3_mono {m:Mem} {n:Nat} (h:okI3 m n):okI3 m (n+1):=⟨h.h,by have:=h.rate;omega,h.mem,h.len,h.miss,h.nil⟩
theorem Inv.more {s:Set4} {ms:List Mem} {ps:List Pnt} {n:Nat} (h:Inv s ms ps n):Inv s ms ps (n+1) :=
 ⟨h.set,h.len,h.nod,fun m hm=>okI3_mono (h.mem m hm),h.p0,by have:=h.p1;omega,h.ep,h.u,h.pl⟩
theorem Inv.okMs {s:Set4} {ms:List Mem} {ps:List Pnt} {n:Nat} (h:Inv s ms ps n) (hn:n≤20000):Go.Proofs.Ytnijkhcmjpfjeaa.okMs ms=true:=by
 rw[Go.Proofs.Ytnijkhcmjpfjeaa.okMs,List.all_eq_true];intro m hm;have:=h.mem m hm
 have h1:=this.h;have h2:=this.rate;exact decide_eq_true (by omega)
theorem Inv.okMb {s:Set4} {ms:List Mem} {ps:List Pnt} {n:Nat} (h:Inv s ms ps n):Go.Proofs.Ytnijkhcmjpfjeaa.okMb ms=true:=by
 rw[Go.Proofs.Ytnijkhcmjpfjeaa.okMb,List.all_eq_true];intro m hm;have:=h.mem m hm
 exact okIb_iff.2 ⟨this.miss,by have:=this.len;omega⟩
theorem Inv.okMt {s:Set4} {ms:List Mem} {ps:List Pnt} {n:Nat} (h:Inv s ms ps n):Go.Proofs.Ytnijkhcmjpfjeaa.okMt ms=true:=by
 rw[Go.Proofs.Ytnijkhcmjpfjeaa.okMt,List.all_eq_true];intro m hm;have:=h.mem m hm
 exact decide_eq_true ⟨this.mem.1,by have:=this.len;omega,this.nil⟩
theorem Inv.okEp {s:Set4} {ms:List Mem} {ps:List Pnt} {n:Nat} (h:Inv s ms ps n) (hn:n≤20000):Go.Proofs.Ytnijkhcmjpfjeaa.okEp s ps=true:=by
 have h1:=h.ep;have h2:=h.p0;have h3:=h.p1;have h4:=h.set.wait;exact decide_eq_true (by omega)
theorem Inv.okU {s:Set4} {ms:List Mem} {ps:List Pnt} {n:Nat} (h:Inv s ms ps n):Go.Proofs.Ytnijkhcmjpfjeaa.okU ps=true:=by
 have h1:=h.u;exact decide_eq_true (by omega)
theorem lst_append (ps:List Pnt) (p:Pnt):lst (ps++[p])=p:=by
 unfold lst;simp
theorem fd_no {i:Int}:∀ {ms:List Mem} {k:Int},0≤k→P.fd ms i k<0→i∉ms.map Mem.id
 | [],k,_,_=>by simp
 | m::ms,k,hk,h=>by
  rw[fd_cons] at h;split at h
  ·omega
  ·rename_i hm
   rw[List.map_cons,List.mem_cons,not_or];exact⟨fun e=>hm e.symm,fd_no (by omega) h⟩
theorem Inv.enter {s:Set4} {ms:List Mem} {ps:List Pnt} {n:Nat} (h:Inv s ms ps n) (i d r m:Int):Inv s (P.enM ms ps i d r m) ps (n+1):=by
 unfold P.enM;split
 ·rename_i he
  unfold P.enE at he;split at he
  ·rename_i hb
   split at he
   ·cases he
   ·rename_i hf
    split at he
    ·cases he
    ·rename_i hl
     refine⟨h.set,by simp;omega,?_,fun x hx=>?_,h.p0,by have:=h.p1;omega,h.ep,h.u,h.pl⟩
     ·rw[List.map_append,List.nodup_append]
      refine⟨h.nod,by simp,fun a ha b hb'=>?_⟩
      simp only[List.map_cons,List.map_nil,List.mem_singleton] at hb';subst hb';exact fun e=>fd_no (Int.le_refl 0) (by omega) (e▸ha)
     ·rcases List.mem_append.1 hx with hx | hx
      ·exact okI3_mono (h.mem x hx)
      ·simp only[List.mem_singleton] at hx
       subst hx;have:=h.u
       exact⟨by simp only;omega,by simp only;omega,by simp only;omega,by simp,by simp,fun _=>rfl⟩
  ·cases he
 ·exact h.more
theorem Inv.leave {s:Set4} {ms:List Mem} {ps:List Pnt} {n:Nat} (h:Inv s ms ps n) (i:Int):Inv s (P.leM ms i) ps n:=by
 unfold P.leM;split
 ·exact h
 ·refine⟨h.set,?_,?_,fun x hx=>h.mem x (List.mem_of_mem_eraseIdx hx),h.p0,h.p1,h.ep,h.u,h.pl⟩
  ·have:=List.length_eraseIdx_le ms (P.fd ms i 0).toNat
   have:=h.len
   omega
  ·exact h.nod.sublist ((List.eraseIdx_sublist ms _).map Mem.id)
theorem clm_b (x:Int):-1000000000≤P.clm x∧P.clm x≤1000000000:=by
 unfold P.clm;split
 ·omega
 ·split<;>omega
theorem Inv.take {s:Set4} {ms:List Mem} {ps:List Pnt} {n:Nat} (h:Inv s ms ps n) {l:List Rd} (he:P.rdE ms ps l=0):Inv s (P.takeM s ms ps l) (ps++[ptO s ms ps (P.rdV ms ps l)]) (n+1):=by
 have hv:=rdV_ok he;have hl:=h.len;obtain⟨q0,q1,q2,_⟩:=pq_ok (s:=s) (ps:=ps) hv.1 (by omega) hv.2.2
 have hU:=avU_b (cap:=s.cap) h.okMb q2 q0 q1;obtain⟨w1,w2,w3⟩:=avW_ok (cap:=s.cap) h.okMb q2 q0 q1;obtain⟨_,hL,_,q,hq⟩:=rdE_zero he;have hk:=h.set.keep;rw[takeM_map he];have hid:∀ m:Mem,(P.tkG s.keep (P.avU s.cap ms (P.pq s ms ps (P.rdV ms ps l))) l m).id=m.id:=by
  intro m;unfold P.tkG P.tk1;split<;>rfl
 have hlst:=lst_append ps (ptO s ms ps (P.rdV ms ps l));refine⟨h.set,by simpa using hl,?_,fun x hx=>?_,by simp,?_,?_,?_,?_⟩
 ·rw[List.map_map,show Mem.id∘P.tkG s.keep (P.avU s.cap ms (P.pq s ms ps (P.rdV ms ps l))) l=Mem.id from funext hid]
  exact h.nod
 ·obtain⟨m,hm,rfl⟩:=List.mem_map.1 hx
  have hb:=rdM_b hq m hm;have ho:=h.mem m hm;have h1:=ho.h;have h2:=ho.rate;have h3:=ho.mem;have h4:=ho.len;unfold P.tkG;cases hd:P.dfo l m.id with
  | none =>
   have:=hb.2 hd
   simp only[Option.map_none,P.tk1,P.hld];exact⟨by simp only;omega,by simp only;omega,h3,h4,ho.miss,ho.nil⟩
  | some d =>
   have hd1:=hb.1 d hd;have hd2:=rdL_ok hL _ (dfo_mem' hd);simp only at hd2;simp only[Option.map_some,P.tk1,P.nxt];generalize P.avU s.cap ms (P.pq s ms ps (P.rdV ms ps l))=u at *;have hdv:=Int.natAbs_tdiv_le_natAbs (u-(m.h+m.rate-d)) m.memory;refine⟨by simp only;omega,by simp only;omega,h3,?_,fun x hx=>?_,fun e=>by cases e⟩
   ·simp only[P.kept,List.length_drop,List.length_append,List.length_singleton];omega
   ·simp only[P.kept] at hx
    rcases List.mem_append.1 (List.mem_of_mem_drop hx) with hx | hx
    ·exact ho.miss x hx
    ·simp only[List.mem_singleton] at hx
     subst hx;exact clm_b _
 ·have:=h.p1;simp;omega
 ·rw[hlst];have:=h.ep;simp only[ptO,List.length_append,List.length_singleton];omega
 ·rw[hlst];simp only[ptO];omega
 ·intro p hp
  rcases List.mem_append.1 hp with hp | hp
  ·exact h.pl p hp
  ·simp only[List.mem_singleton] at hp
   subst hp;exact⟨by simp[ptO,P.idsOf];exact q1,by simp only[ptO];omega,by simp[ptO],by simp[ptO]⟩
theorem Inv.new {a b c d u:Int} (h:P.nwE a b c d u=0):Inv ⟨a,b,c,d⟩ [] [⟨0,u,true,[],true,[]⟩] 0:=by
 unfold P.nwE at h;split at h
 ·rename_i hs
  split at h
  ·rename_i hu
   unfold P.st at hs;split at hs
   ·exact⟨⟨by simp only;omega,by simp only;omega,by simp only;omega,by simp only;omega⟩,by simp,by simp,by simp,by simp,by simp,rfl,by simp only[lst];simp;omega,by simp;exact⟨by simp,by simp,fun _=>rfl,fun _=>rfl⟩⟩
   ·cases hs
  ·cases h
 ·exact absurd h (by assumption)
end Go.Proofs.Ytnijkhcmjpfjeaa
