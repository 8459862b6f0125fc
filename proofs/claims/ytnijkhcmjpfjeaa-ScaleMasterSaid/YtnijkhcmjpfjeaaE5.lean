/- E5: readings that are all less by the same: u is greater by it,nothing else changes (plain). -/
import Derived.Test.YtnijkhcmjpfjeaaE3
namespace Go.Proofs.Ytnijkhcmjpfjeaa
open Go Go.Vm
def shR (e:Int) (r:Rd):Rd:=⟨r.id,r.df-e⟩
def shE (e:Int) (p:Prs):Prs:=⟨p.at_,p.est+e⟩
theorem dfo_sh (e:Int):∀ (l:List Rd) (i:Int),P.dfo (l.map (shR e)) i=(P.dfo l i).map (· - e)
 | [],_=>rfl
 | r::l,i=>by
  simp only[List.map_cons,P.dfo,shR];split
  ·rfl
  ·exact dfo_sh e l i
theorem rdL_sh (e:Int) (ms:List Mem):∀ (l:List Rd) (ks:List Int),P.rdL ms ks l=P.rdL ms ks (l.map (shR e))∨P.rdL ms ks l=6∨P.rdL ms ks (l.map (shR e))=6
 | [],_=>.inl rfl
 | r::l,ks=>by
  show P.rdL ms ks (r::l)=P.rdL ms ks (⟨r.id,r.df-e⟩::l.map (shR e))∨P.rdL ms ks (r::l)=6∨P.rdL ms ks (⟨r.id,r.df-e⟩::l.map (shR e))=6
  have ih:=rdL_sh e ms l (ks++[r.id]);simp only[P.rdL];by_cases h1:P.fd ms r.id 0<0
  ·simp[h1]
  ·by_cases h2:r.id∈ks
   ·simp[h1,h2]
   ·simp only[h1,h2,if_false]
    by_cases h3:-1000000000000≤r.df∧r.df≤1000000000000
    ·by_cases h4:-1000000000000≤r.df-e∧r.df-e≤1000000000000
     ·simp only[h3,h4,and_self,if_true];exact ih
     ·right;right;rw[if_neg h4]
    ·right;left;rw[if_neg h3]
theorem rdM_sh (e:Int) (r:List Rd):∀ (ms:List Mem) (k:Int) (q q':List Prs),P.rdM r ms k=some q→P.rdM (r.map (shR e)) ms k=some q'→q'=q.map (shE e)
 | [],k,q,q',h,h'=>by
  simp only[P.rdM,Option.some.injEq] at h h';subst h;subst h';rfl
 | m::ms,k,q,q',h,h'=>by
  simp only[P.rdM,dfo_sh] at h h';cases hd:P.dfo r m.id with
  | none =>
   simp only[hd,Option.map_none] at h h';split at h
   ·rename_i hc
    rw[if_pos hc] at h';exact rdM_sh e r ms (k+1) q q' h h'
   ·cases h
  | some d =>
   simp only[hd,Option.map_some] at h h';split at h
   ·split at h'
    ·rw[Option.map_eq_some_iff] at h h'
     obtain⟨p,h1,rfl⟩:=h;obtain⟨p',h1',rfl⟩:=h';rw[rdM_sh e r ms (k+1) p p' h1 h1',List.map_cons]
     congr 1
     simp only[shE,Prs.mk.injEq,true_and];omega
    ·cases h'
   ·cases h
theorem rdE_sh (e:Int) (ms:List Mem) (ps:List Pnt) (l:List Rd):P.rdE ms ps l=P.rdE ms ps (l.map (shR e))∨P.rdE ms ps l=6∨P.rdE ms ps (l.map (shR e))=6:=by
 unfold P.rdE;by_cases hp:10000<ps.length
 ·simp[hp]
 ·simp only[hp,if_false,List.length_map]
  rcases rdL_sh e ms l [] with h | h | h
  ·rw[←h]
   by_cases h0:P.rdL ms [] l=0
   ·rw[if_pos h0,if_pos h0]
    by_cases hl:l.length=0
    ·simp[hl]
    ·rw[if_neg hl,if_neg hl]
     cases P.rdM l ms 0<;>cases P.rdM (l.map (shR e)) ms 0<;>simp
   ·rw[if_neg h0,if_neg h0];exact .inl rfl
  ·right;left;rw[h];rfl
  ·right;right;rw[h];rfl
theorem rdV_sh {e:Int} {ms:List Mem} {ps:List Pnt} {l:List Rd} (h:P.rdE ms ps l=0) (h':P.rdE ms ps (l.map (shR e))=0):P.rdV ms ps (l.map (shR e))=(P.rdV ms ps l).map (shE e):=by
 obtain⟨_,_,_,q,hq⟩:=rdE_zero h;obtain⟨_,_,_,q',hq'⟩:=rdE_zero h';unfold P.rdV;rw[if_pos h,if_pos h',hq,hq'];exact rdM_sh e l ms 0 q q' hq hq'
theorem pws_sh (e:Int) (ms:List Mem) (q:List Prs):P.pws ms (q.map (shE e))=P.pws ms q:=by
 unfold P.pws;rw[List.map_map];rfl
theorem avW_sh (e cap:Int) (ms:List Mem) (q:List Prs):P.avW cap ms (q.map (shE e))=P.avW cap ms q:=by
 unfold P.avW;rw[pws_sh,List.length_map]
theorem wsum_sh (e:Int):∀ (w:List Int) (q:List Prs),w.length=q.length→P.wsum w (q.map (shE e))=P.wsum w q+P.tot w*e
 | [],[],_=>by simp[P.wsum,P.tot]
 | w::ws,x::q,h=>by
  simp only[List.map_cons,P.wsum,shE,P.tot];rw[wsum_sh e ws q (by simpa using h)]
  simp only[Int.add_mul,Int.mul_add];omega
 | [],_::_,h=>by simp at h
 | _::_,[],h=>by simp at h
theorem avU_sh {e cap:Int} {ms:List Mem} {q:List Prs} (hM:okMb ms=true) (hP:okPb ms q=true) (h0:0<q.length) (h1:q.length≤16):P.avU cap ms (q.map (shE e))=P.avU cap ms q+e:=by
 obtain⟨w1,_,w3⟩:=avW_ok (cap:=cap) hM hP h0 h1;unfold P.avU;rw[avW_sh,wsum_sh e _ q w3,w1,fl_eq,fl_eq];omega
theorem far_sh (e x u:Int):P.far (x+e) (u+e)=P.far x u:=by
 unfold P.far;rw[show u+e-(x+e)=u-x by omega,show x+e-(u+e)=x-u by omega]
theorem gst_sh (e u:Int) (q:List Prs):∀ (d b k:Nat),P.gst (u+e) (q.map (shE e)) b k d=P.gst u q b k d
 | 0,b,k=>rfl
 | d+1,b,k=>by
  simp only[P.gst,List.getElem?_map];cases q[k]? with
  | none=>rfl
  | some x =>
   cases q[b]? with
   | none=>rfl
   | some y =>
    simp only[Option.map_some,shE,far_sh];rw[gst_sh e u q d k (k+1),gst_sh e u q d b (k+1)]
theorem map_eraseIdx' {α β:Type} (f:α→β):∀ (l:List α) (i:Nat),(l.map f).eraseIdx i=(l.eraseIdx i).map f
 | [],_=>rfl
 | _::_,0=>rfl
 | a::l,i+1=>by simp only[List.map_cons,List.eraseIdx_cons_succ,map_eraseIdx' f l i]
theorem gt_sh {e cap gate:Int} {ms:List Mem} (hM:okMb ms=true):∀ (n:Nat) (q:List Prs),okPb ms q=true→0<q.length→q.length≤16→P.gt cap gate ms n (q.map (shE e))=(P.gt cap gate ms n q).map (shE e)
 | 0,q,_,_,_=>rfl
 | n+1,q,hP,h0,h1=>by
  simp only[P.gt];rw[avU_sh hM hP h0 h1,gst_sh,List.length_map,List.getElem?_map];cases hq:q[P.gst (P.avU cap ms q) q 0 0 q.length]? with
  | none=>rfl
  | some x =>
   simp only[Option.map_some,shE,far_sh];by_cases hc:q.length<2∨P.far x.est (P.avU cap ms q)≤gate
   ·rw[if_pos hc,if_pos hc]
   ·rw[if_neg hc,if_neg hc]
    have hi:=(List.getElem?_eq_some_iff.1 hq).1;have hl:=List.length_eraseIdx_of_lt hi;rw[map_eraseIdx' (shE e)];exact gt_sh hM n _ (okPb_erase hP _) (by omega) (by omega)
theorem cand_sh (e w ep:Int) (ms:List Mem) (q:List Prs):P.cand w ep ms (q.map (shE e))=(P.cand w ep ms q).map (shE e):=by
 unfold P.cand;rw[List.filter_map];rfl
theorem pq_sh {e:Int} {s:Set4} {ms:List Mem} {ps:List Pnt} {q:List Prs} (hM:okMb ms=true) (hP:okPb ms q=true) (h0:0<q.length) (h1:q.length≤16):P.pq s ms ps (q.map (shE e))=(P.pq s ms ps q).map (shE e):=by
 unfold P.pq
 dsimp only
 rw[cand_sh];have hs:(P.cand s.wait (lst ps).ep ms q).Sublist q:=List.filter_sublist;cases hc:P.cand s.wait (lst ps).ep ms q with
 | nil=>simp only[List.map_nil,List.isEmpty_nil,if_true,List.length_map];exact gt_sh hM _ _ hP h0 h1
 | cons a l =>
  have h2:((a::l).map (shE e)).isEmpty=false:=rfl;have h3:(a::l).isEmpty=false:=rfl;simp only[h2,h3,Bool.false_eq_true,if_false,List.length_map];rw[hc] at hs;have hle:=hs.length_le;refine gt_sh hM _ _ ?_ (by simp) (by omega)
  unfold okPb at hP ⊢;rw[List.all_eq_true] at hP ⊢;exact fun x hx=>hP x (hs.subset hx)
theorem idsOf_sh (e:Int) (ms:List Mem) (q:List Prs):P.idsOf ms (q.map (shE e))=P.idsOf ms q:=by
 unfold P.idsOf;rw[List.map_map];rfl
theorem ptO_sh {e:Int} {s:Set4} {ms:List Mem} {ps:List Pnt} {n:Nat} {l:List Rd} (hI:Inv s ms ps n) (h:P.rdE ms ps l=0) (h':P.rdE ms ps (l.map (shR e))=0) :
  (ptO s ms ps (P.rdV ms ps (l.map (shR e)))).u=(ptO s ms ps (P.rdV ms ps l)).u+e∧(ptO s ms ps (P.rdV ms ps (l.map (shR e)))).ids=(ptO s ms ps (P.rdV ms ps l)).ids∧(ptO s ms ps (P.rdV ms ps (l.map (shR e)))).ws=(ptO s ms ps (P.rdV ms ps l)).ws:=by
 have hv:=rdV_ok h;have hl:=hI.len;obtain⟨q0,q1,q2,_⟩:=pq_ok (s:=s) (ps:=ps) hv.1 (by omega) hv.2.2
 rw[rdV_sh h h'];simp only[ptO];rw[pq_sh hI.okMb hv.2.2 hv.1 (by omega)]
 exact⟨avU_sh hI.okMb q2 q0 q1,idsOf_sh _ _ _,avW_sh _ _ _ _⟩
theorem takeM_sh {e:Int} {s:Set4} {ms:List Mem} {ps:List Pnt} {n:Nat} {l:List Rd} (hI:Inv s ms ps n) (h:P.rdE ms ps l=0) (h':P.rdE ms ps (l.map (shR e))=0):P.takeM s ms ps (l.map (shR e))=P.takeM s ms ps l:=by
 have hu:=(ptO_sh hI h h').1;simp only[ptO] at hu;rw[takeM_map h,takeM_map h',hu];refine List.map_congr_left fun m _=>?_
 unfold P.tkG;rw[dfo_sh];cases P.dfo l m.id with
 | none=>rfl
 | some d =>
  simp only[Option.map_some,P.tk1,P.nxt];rw[show m.h+m.rate-(d-e)=m.h+m.rate-d+e by omega]
  generalize m.h+m.rate-d=x;generalize P.avU s.cap ms (P.pq s ms ps (P.rdV ms ps l))=u;rw[show m.h+m.rate-(x+e)+(u+e)=m.h+m.rate-x+u by omega,show u+e-(x+e)=u-x by omega,show x+e-(u+e)=x-u by omega]
end Go.Proofs.Ytnijkhcmjpfjeaa
