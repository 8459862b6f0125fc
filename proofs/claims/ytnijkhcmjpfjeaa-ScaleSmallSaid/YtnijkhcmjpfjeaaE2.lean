/- E2: what a point is (plain): the gate,the weights,the average between the least and the greatest estimate;what is read. -/
import Derived.Test.YtnijkhcmjpfjeaaDA
namespace Go.Proofs.Ytnijkhcmjpfjeaa
open Go Go.Vm
theorem gst_max (u:Int) (l:List Prs):∀ (d k b:Nat),k+d=l.length→b<l.length→∀ (g:P.gst u l b k d<l.length) (j:Nat) (hj:j<l.length),(k≤j∨j=b)→P.far l[j].est u≤P.far l[P.gst u l b k d].est u
 | 0,k,b,hd,hb,g,j,hj,h=>by
  have:j=b:=by omega
  subst this;exact Int.le_refl _
 | d+1,k,b,hd,hb,g,j,hj,h=>by
  have hk:k<l.length:=by omega
  by_cases hq:P.far l[k].est u>P.far l[b].est u
  ·have e:P.gst u l b k (d+1)=P.gst u l k (k+1) d:=by
    rw[P.gst,List.getElem?_eq_getElem hk,List.getElem?_eq_getElem hb];simp only[if_pos hq]
   simp only[e] at g ⊢;rcases h with h | h
   ·exact gst_max u l d (k+1) k (by omega) hk g j hj (by omega)
   ·have:=gst_max u l d (k+1) k (by omega) hk g k hk (.inr rfl)
    subst h;omega
  ·have e:P.gst u l b k (d+1)=P.gst u l b (k+1) d:=by
    rw[P.gst,List.getElem?_eq_getElem hk,List.getElem?_eq_getElem hb];simp only[if_neg hq]
   simp only[e] at g ⊢;by_cases hjk:j=k
   ·have:=gst_max u l d (k+1) b (by omega) hb g b hb (.inr rfl)
    subst hjk;omega
   ·exact gst_max u l d (k+1) b (by omega) hb g j hj (by omega)
theorem gt_gate {cap gate:Int} {ms:List Mem}:∀ (n:Nat) {q:List Prs},q.length≤n→0<q.length→(P.gt cap gate ms n q).length<2∨∀ e∈P.gt cap gate ms n q,P.far e.est (P.avU cap ms (P.gt cap gate ms n q))≤gate
 | 0,q,h,h0=>by omega
 | n+1,q,h,h0=>by
  have hi:=gst_lt (P.avU cap ms q) q q.length 0 0 (by omega) h0
  unfold P.gt;rw[List.getElem?_eq_getElem hi];simp only;split
  ·rename_i hc
   rcases hc with hc | hc
   ·exact .inl hc
   ·refine .inr fun e he=>?_
    obtain⟨j,hj,rfl⟩:=List.mem_iff_getElem.1 he;exact Int.le_trans (gst_max _ q q.length 0 0 (by omega) h0 hi j hj (.inl (by omega))) hc
  ·rename_i hc
   have hc:=not_or.1 hc;have hl:(q.eraseIdx (P.gst (P.avU cap ms q) q 0 0 q.length)).length=q.length-1:=List.length_eraseIdx_of_lt hi;exact gt_gate n (by omega) (by omega)
theorem gt_sub {cap gate:Int} {ms:List Mem}:∀ (n:Nat) {q:List Prs},(P.gt cap gate ms n q).Sublist q
 | 0,q=>List.Sublist.refl _
 | n+1,q=>by
  unfold P.gt;split
  ·split
   ·exact List.Sublist.refl _
   ·exact (gt_sub n).trans (List.eraseIdx_sublist _ _)
  ·exact List.Sublist.refl _
theorem pq_sub (s:Set4) (ms:List Mem) (ps:List Pnt) (l:List Prs):(P.pq s ms ps l).Sublist l:=by
 unfold P.pq
 dsimp only
 refine (gt_sub _).trans ?_;split
 ·exact List.Sublist.refl _
 ·exact List.filter_sublist
theorem pq_ok {s:Set4} {ms:List Mem} {ps:List Pnt} {l:List Prs} (h0:0<l.length) (h1:l.length≤16) (hP:okPb ms l=true) :
  0<(P.pq s ms ps l).length∧(P.pq s ms ps l).length≤16∧okPb ms (P.pq s ms ps l)=true∧((P.pq s ms ps l).length<2∨∀ e∈P.pq s ms ps l,P.far e.est (P.avU s.cap ms (P.pq s ms ps l))≤s.gate):=by
 unfold P.pq
 dsimp only
 split
 ·have:=gt_ok (cap:=s.cap) (gate:=s.gate) (ms:=ms) l.length h0 h1 hP
  exact⟨this.1,this.2.1,this.2.2,gt_gate _ (Nat.le_refl _) h0⟩
 ·rename_i hc
  have hq:0<(P.cand s.wait (lst ps).ep ms l).length:=by
   cases hq:P.cand s.wait (lst ps).ep ms l with
   | nil=>rw[hq] at hc;exact absurd rfl hc
   | cons a b=>simp
  obtain⟨c1,c2⟩:=cand_ok (w:=s.wait) (ep:=(lst ps).ep) h1 hP;have:=gt_ok (cap:=s.cap) (gate:=s.gate) (ms:=ms) (P.cand s.wait (lst ps).ep ms l).length hq c1 c2
  exact⟨this.1,this.2.1,this.2.2,gt_gate _ (Nat.le_refl _) hq⟩
theorem wsum_ge {m:Int}:∀ {w:List Int} {l:List Prs},w.length=l.length→(∀ x∈w,0≤x)→(∀ e∈l,m≤e.est)→m*P.tot w≤P.wsum w l
 | [],[],_,_,_=>by simp[P.tot,P.wsum]
 | [],e::l,h,_,_=>by simp at h
 | x::w,[],h,_,_=>by simp at h
 | x::w,e::l,h,hw,he=>by
  have ih:=wsum_ge (m:=m) (w:=w) (l:=l) (by simpa using h) (fun y hy=>hw y (by simp[hy])) (fun y hy=>he y (by simp[hy]))
  simp only[P.tot,P.wsum];have h1:=hw x (by simp)
  have h2:=Int.mul_le_mul_of_nonneg_left (he e (by simp)) h1
  rw[Int.mul_add,Int.mul_comm m x];omega
theorem wsum_le {m:Int}:∀ {w:List Int} {l:List Prs},w.length=l.length→(∀ x∈w,0≤x)→(∀ e∈l,e.est≤m)→P.wsum w l≤m*P.tot w
 | [],[],_,_,_=>by simp[P.tot,P.wsum]
 | [],e::l,h,_,_=>by simp at h
 | x::w,[],h,_,_=>by simp at h
 | x::w,e::l,h,hw,he=>by
  have ih:=wsum_le (m:=m) (w:=w) (l:=l) (by simpa using h) (fun y hy=>hw y (by simp[hy])) (fun y hy=>he y (by simp[hy]))
  simp only[P.tot,P.wsum];have h1:=hw x (by simp)
  have h2:=Int.mul_le_mul_of_nonneg_left (he e (by simp)) h1
  rw[Int.mul_add,Int.mul_comm m x];omega
theorem fl_eq (v:Int):P.fl (2*v+1000000) 2000000=(2*v+1000000) / 2000000:=by
 unfold P.fl;have hd:=Int.mul_tdiv_add_tmod (2*v+1000000) 2000000;have hr1:=Int.tmod_lt_of_pos (2*v+1000000) (show (0:Int)<2000000 by omega)
 have hr2:=Int.lt_tmod_of_pos (2*v+1000000) (show (0:Int)<2000000 by omega)
 split<;>omega
theorem avU_ge {cap m:Int} {ms:List Mem} {l:List Prs} (hM:okMb ms=true) (hP:okPb ms l=true) (h0:0<l.length) (h1:l.length≤16) (h:∀ e∈l,m≤e.est):m≤P.avU cap ms l:=by
 obtain⟨t1,t2,t3⟩:=avW_ok (cap:=cap) hM hP h0 h1;have:=wsum_ge t3 (fun x hx=>(t2 x hx).1) h
 rw[t1] at this;unfold P.avU;rw[fl_eq];omega
theorem avU_le {cap m:Int} {ms:List Mem} {l:List Prs} (hM:okMb ms=true) (hP:okPb ms l=true) (h0:0<l.length) (h1:l.length≤16) (h:∀ e∈l,e.est≤m):P.avU cap ms l≤m:=by
 obtain⟨t1,t2,t3⟩:=avW_ok (cap:=cap) hM hP h0 h1;have:=wsum_le t3 (fun x hx=>(t2 x hx).1) h
 rw[t1] at this;unfold P.avU;rw[fl_eq];omega
theorem rdM_mem {l:List Rd}:∀ {ms:List Mem} {k:Int} {q:List Prs},P.rdM l ms k=some q→∀ e∈q,k≤e.at_∧∃ m d,ms[(e.at_-k).toNat]?=some m∧P.dfo l m.id=some d∧e.est=m.h+m.rate-d
 | [],k,q,h,e,he=>by
  simp only[P.rdM,Option.some.injEq] at h;subst h;simp at he
 | m::ms,k,q,h,e,he=>by
  simp only[P.rdM] at h;cases hd:P.dfo l m.id with
  | some d =>
   rw[hd] at h;simp only at h;split at h
   ·rw[Option.map_eq_some_iff] at h
    obtain⟨q',h1,rfl⟩:=h;rcases List.mem_cons.1 he with rfl | he
    ·exact⟨by simp,m,d,by simp,hd,rfl⟩
    ·obtain⟨g1,m',d',g2,g3,g4⟩:=rdM_mem h1 e he
     refine⟨by omega,m',d',?_,g3,g4⟩
     rw[show (e.at_-k).toNat=(e.at_-(k+1)).toNat+1 by omega]
     simpa using g2
   ·cases h
  | none =>
   rw[hd] at h;simp only at h;split at h
   ·obtain⟨g1,m',d',g2,g3,g4⟩:=rdM_mem h e he
    refine⟨by omega,m',d',?_,g3,g4⟩
    rw[show (e.at_-k).toNat=(e.at_-(k+1)).toNat+1 by omega]
    simpa using g2
   ·cases h
theorem rdV_mem {ms:List Mem} {ps:List Pnt} {l:List Rd} {e:Prs} (he:e∈P.rdV ms ps l):0≤e.at_∧∃ m d,ms[e.at_.toNat]?=some m∧P.dfo l m.id=some d∧e.est=m.h+m.rate-d:=by
 unfold P.rdV at he;split at he
 ·cases hz:P.rdM l ms 0 with
  | none=>rw[hz] at he;simp at he
  | some q =>
   rw[hz] at he;obtain⟨g1,m,d,g2,g3,g4⟩:=rdM_mem hz e he;exact⟨g1,m,d,by simpa using g2,g3,g4⟩
 ·simp at he
theorem rdL_nodup {ms:List Mem}:∀ {l:List Rd} {ks:List Int},P.rdL ms ks l=0→(l.map Rd.id).Nodup∧∀ k∈ks,k∉l.map Rd.id
 | [],ks,_=>by simp
 | r::l,ks,h=>by
  simp only[P.rdL] at h;split at h
  ·omega
  ·split at h
   ·omega
   ·split at h
    ·rename_i hr hb
     obtain⟨g1,g2⟩:=rdL_nodup h;refine⟨?_,fun k hk=>?_⟩
     ·rw[List.map_cons,List.nodup_cons]
      exact⟨g2 r.id (by simp),g1⟩
     ·rw[List.map_cons,List.mem_cons,not_or]
      exact⟨fun e=>hr (e▸hk),g2 k (by simp[hk])⟩
    ·omega
theorem dfo_hits {i d:Int}:∀ {l:List Rd},(l.map Rd.id).Nodup→P.dfo l i=some d→l.filter (fun r=>decide (r.id=i))=[⟨i,d⟩]
 | [],_,h=>by simp[P.dfo] at h
 | r::l,hn,h=>by
  rw[List.map_cons,List.nodup_cons] at hn;simp only[P.dfo] at h;split at h
  ·rename_i hr
   injection h with h;rw[List.filter_cons_of_pos (by simpa using hr)]
   have:l.filter (fun r=>decide (r.id=i))=[]:=by
    rw[List.filter_eq_nil_iff];intro x hx hxi;exact hn.1 (List.mem_map.2 ⟨x,hx,by simp only[decide_eq_true_eq] at hxi;rw[hxi,hr]⟩)
   rw[this];cases r;simp only at hr h;rw[hr,h]
  ·rename_i hr
   rw[List.filter_cons_of_neg (by simpa using hr)]
   exact dfo_hits hn.2 h
theorem rdE_zero {ms:List Mem} {ps:List Pnt} {l:List Rd} (h:P.rdE ms ps l=0):ps.length≤10000∧P.rdL ms [] l=0∧l.length≠0∧∃ q,P.rdM l ms 0=some q:=by
 unfold P.rdE at h;by_cases hp:10000<ps.length
 ·rw[if_pos hp] at h;omega
 ·rw[if_neg hp] at h
  by_cases h0:P.rdL ms [] l=0
  ·rw[if_pos h0] at h
   by_cases hl:l.length=0
   ·rw[if_pos hl] at h;omega
   ·rw[if_neg hl] at h
    cases hz:P.rdM l ms 0 with
    | none=>rw[hz] at h;simp at h
    | some q=>exact⟨by omega,h0,hl,q,rfl⟩
  ·rw[if_neg h0] at h;exact absurd h h0
theorem fd_mem {i:Int}:∀ {ms:List Mem} {k:Int} {j:Nat} {m:Mem},(ms.map Mem.id).Nodup→ms[j]?=some m→m.id=i→P.fd ms i k=k+j
 | [],k,j,m,_,h,_=>by simp at h
 | x::ms,k,0,m,hn,h,hi=>by
  simp only[List.getElem?_cons_zero,Option.some.injEq] at h;subst h;rw[fd_cons,if_pos hi];simp
 | x::ms,k,j+1,m,hn,h,hi=>by
  rw[List.map_cons,List.nodup_cons] at hn;simp only[List.getElem?_cons_succ] at h;have hx:x.id≠i:=fun e=>hn.1 (List.mem_map.2 ⟨m,List.mem_of_getElem? h,by rw[hi,e]⟩)
  rw[fd_cons,if_neg hx,fd_mem hn.2 h hi];omega
theorem hold_est {ms:List Mem} {ps:List Pnt} {l:List Rd} {e:Prs} (hn:(ms.map Mem.id).Nodup) (h:P.rdE ms ps l=0) (he:e∈P.rdV ms ps l) :
  ∃ d,l.filter (fun r=>decide (r.id=P.idAt ms e.at_))=[⟨P.idAt ms e.at_,d⟩]∧P.hoE ms (P.idAt ms e.at_) d=0∧P.hoV ms (P.idAt ms e.at_) d=e.est:=by
 obtain⟨h0,m,d,h1,h2,h3⟩:=rdV_mem he;obtain⟨_,g2,_,_⟩:=rdE_zero h;have hid:P.idAt ms e.at_=m.id:=by unfold P.idAt;rw[h1]
 rw[hid];have hf:=dfo_hits (rdL_nodup g2).1 h2;have hfd:P.fd ms m.id 0=e.at_:=by rw[fd_mem hn h1 rfl];omega
 have hmem:(⟨m.id,d⟩:Rd)∈l:=(List.mem_filter.1 (by rw[hf];simp:(⟨m.id,d⟩:Rd)∈l.filter (fun r=>decide (r.id=m.id)))).1
 have hb:=rdL_ok g2 _ hmem;have hE:P.hoE ms m.id d=0:=by
  unfold P.hoE;rw[if_neg (by omega),if_pos hb]
 refine⟨d,hf,hE,?_⟩;unfold P.hoV;rw[if_pos hE,hfd,h1,h3]
end Go.Proofs.Ytnijkhcmjpfjeaa
