/- E4: all read what they expect (plain): the next point. -/
import Derived.Test.YtnijkhcmjpfjeaaDI
namespace Go.Proofs.Ytnijkhcmjpfjeaa
open Go Go.Vm
theorem rdL_zero {ms:List Mem}:∀ {l:List Rd} {ks:List Int},(∀ r∈l,¬P.fd ms r.id 0<0∧-1000000000000≤r.df∧r.df≤1000000000000)→(ks++l.map Rd.id).Nodup→P.rdL ms ks l=0
 | [],ks,_,_=>rfl
 | r::l,ks,h,hn=>by
  have h1:=h r (by simp)
  have hn':(ks++[r.id]++l.map Rd.id).Nodup:=by simpa using hn
  have hr:r.id∉ks:=by
   intro hk;have:=(List.nodup_append.1 hn).2.2 r.id hk r.id (by simp)
   exact this rfl
  simp only[P.rdL];rw[if_neg h1.1,if_neg hr,if_pos h1.2];exact rdL_zero (fun x hx=>h x (by simp[hx])) hn'
theorem rdM_all {l:List Rd}:∀ {ms:List Mem} {k:Int},(∀ m∈ms,(∀ d,P.dfo l m.id=some d→-2000000000000≤m.h+m.rate-d∧m.h+m.rate-d≤2000000000000)∧(P.dfo l m.id=none→-3000000000000≤m.h+m.rate∧m.h+m.rate≤3000000000000))→∃ q,P.rdM l ms k=some q
 | [],k,_=>⟨[],rfl⟩
 | m::ms,k,h=>by
  have hm:=h m (by simp)
  obtain⟨q,hq⟩:=rdM_all (ms:=ms) (k:=k+1) (fun x hx=>h x (by simp[hx]))
  simp only[P.rdM];cases hd:P.dfo l m.id with
  | some d =>
   simp only;rw[if_pos (hm.1 d hd),hq];exact⟨_,rfl⟩
  | none =>
   simp only;rw[if_pos (hm.2 hd),hq];exact⟨_,rfl⟩
theorem exp_same {s:Set4} {ms:List Mem} {ps:List Pnt} {n:Nat} (hI:Inv s ms ps n) (hp:ps.length≤10000) {l:List Rd} {v:Int} (hne:l.length≠0) (h1:P.rdL ms [] l=0) (hv:-2000000000000≤v∧v≤2000000000000)
  (h2:∀ m∈ms,(∀ d,P.dfo l m.id=some d→m.h+m.rate-d=v)∧(P.dfo l m.id=none→-3000000000000≤m.h+m.rate∧m.h+m.rate≤3000000000000)):P.rdE ms ps l=0∧(P.pto s ms ps l).u=v:=by
 obtain⟨q,hq⟩:=rdM_all (l:=l) (ms:=ms) (k:=0) (fun m hm=>⟨fun d hd=>by have:=(h2 m hm).1 d hd;omega,(h2 m hm).2⟩)
 have hE:P.rdE ms ps l=0:=by
  unfold P.rdE;rw[if_neg (by omega),if_pos h1,if_neg hne,hq]
 refine⟨hE,?_⟩;have hv':=rdV_ok hE;have hl:=hI.len;obtain⟨q0,q1,q2,_⟩:=pq_ok (s:=s) (ps:=ps) hv'.1 (by omega) hv'.2.2
 have hes:∀ e∈P.pq s ms ps (P.rdV ms ps l),e.est=v:=by
  intro e he;obtain⟨_,m,d,g1,g2,g3⟩:=rdV_mem ((pq_sub s ms ps _).subset he);rw[g3];exact (h2 m (List.mem_of_getElem? g1)).1 d g2
 have a:=avU_ge (cap:=s.cap) (m:=v) hI.okMb q2 q0 q1 (fun e he=>by rw[hes e he];omega)
 have b:=avU_le (cap:=s.cap) (m:=v) hI.okMb q2 q0 q1 (fun e he=>by rw[hes e he];omega)
 unfold P.pto ptO;simp only;omega
namespace P
def alls (ms:List Mem) (u c:Int):List Rd:=ms.map fun m=>⟨m.id,m.h+m.rate-u-c⟩
end P
theorem alls_dfo {u c:Int}:∀ {ms:List Mem} {m:Mem},(ms.map Mem.id).Nodup→m∈ms→P.dfo (P.alls ms u c) m.id=some (m.h+m.rate-u-c)
 | [],m,_,h=>by simp at h
 | x::ms,m,hn,h=>by
  rw[List.map_cons,List.nodup_cons] at hn;simp only[P.alls,List.map_cons,P.dfo];rcases List.mem_cons.1 h with rfl | h
  ·rw[if_pos rfl]
  ·rw[if_neg (fun e=>hn.1 (List.mem_map.2 ⟨m,h,e.symm⟩))]
   exact alls_dfo hn.2 h
theorem fd_has {ms:List Mem} {m:Mem} (hn:(ms.map Mem.id).Nodup) (h:m∈ms):¬P.fd ms m.id 0<0:=by
 obtain⟨j,hj,rfl⟩:=List.mem_iff_getElem.1 h;rw[fd_mem (j:=j) hn (List.getElem?_eq_getElem hj) rfl];omega
structure Nx (ms:List Mem) (u c:Int):Prop where
 uc:-1100000000000≤u+c∧u+c≤1100000000000
 uu:-1000000000000≤u∧u≤1000000000000
 d:∀ m∈ms,-1000000000000≤m.h+m.rate-u-c∧m.h+m.rate-u-c≤1000000000000
theorem next_all {s:Set4} {ms:List Mem} {ps:List Pnt} {n:Nat} {u c:Int} (hI:Inv s ms ps n) (hp:ps.length≤10000) (hx:Nx ms u c) (h0:ms≠[]):P.rdE ms ps (P.alls ms u c)=0∧(P.pto s ms ps (P.alls ms u c)).u=u+c:=by
 have h1:=hx.uc;refine exp_same hI hp (by cases ms;exact absurd rfl h0;simp[P.alls]) ?_ (by omega) (fun m hm=>?_)
 ·refine rdL_zero (fun r hr=>?_) ?_
  ·obtain⟨m,hm,rfl⟩:=List.mem_map.1 hr
   exact⟨fd_has hI.nod hm,hx.d m hm⟩
  ·rw[List.nil_append,show (P.alls ms u c).map Rd.id=ms.map Mem.id by simp[P.alls]]
   exact hI.nod
 ·rw[alls_dfo hI.nod hm]
  exact⟨fun d hd=>by injection hd with hd;omega,fun h=>by cases h⟩
theorem nod_eq {ms:List Mem} (hn:(ms.map Mem.id).Nodup) {a b:Mem} (ha:a∈ms) (hb:b∈ms) (h:a.id=b.id):a=b:=by
 induction ms with
 | nil=>simp at ha
 | cons x ms ih =>
  rw[List.map_cons,List.nodup_cons] at hn;rcases List.mem_cons.1 ha with h1 | h1<;>rcases List.mem_cons.1 hb with h2 | h2
  ·rw[h1,h2]
  ·exact absurd (show x.id∈ms.map Mem.id from List.mem_map.2 ⟨b,h2,by rw[←h,h1]⟩) hn.1
  ·exact absurd (show x.id∈ms.map Mem.id from List.mem_map.2 ⟨a,h1,by rw[h,h2]⟩) hn.1
  ·exact ih hn.2 h1 h2
theorem next_one {s:Set4} {ms:List Mem} {ps:List Pnt} {n:Nat} {u c:Int} {m:Mem} (hI:Inv s ms ps n) (hp:ps.length≤10000) (hx:Nx ms u c) (hm:m∈ms):P.rdE ms ps [⟨m.id,m.h+m.rate-u-c⟩]=0∧(P.pto s ms ps [⟨m.id,m.h+m.rate-u-c⟩]).u=u+c:=by
 have h1:=hx.uc;refine exp_same hI hp (by simp) ?_ (by omega) (fun x hxm=>?_)
 ·refine rdL_zero (fun r hr=>?_) (by simp)
  simp only[List.mem_singleton] at hr;subst hr;exact⟨fd_has hI.nod hm,hx.d m hm⟩
 ·simp only[P.dfo]
  by_cases hi:m.id=x.id
  ·rw[if_pos hi]
   have:=nod_eq hI.nod hm hxm hi
   subst this;exact⟨fun d hd=>by injection hd with hd;omega,fun h=>by cases h⟩
  ·rw[if_neg hi]
   have:=hx.d x hxm
   exact⟨fun d hd=>(by cases hd),fun _=>(by omega)⟩
end Go.Proofs.Ytnijkhcmjpfjeaa
