/- D9: the next point,told. -/
import Derived.Test.YtnijkhcmjpfjeaaD8
namespace Go.Proofs.Ytnijkhcmjpfjeaa
open Go Go.Vm
def ptE (s:Set4) (ms:List Mem) (ps:List Pnt) (l q:List Prs) (w:List Int) (u i:Int) (bb:Bool):Ex×St:=(.exit 2,⟨[(0,V.ptr 1 0),(4,V.ptr 2 0),(5,V.ptr 3 0),(7,V.ptr 6 0),(9,.int .i64 i),(55,.bool bb)],ptH s ms ps l (.ex 2 false (q.map encE)) (.sl true []) (.sl false (w.map encI)) u 0⟩)
def idS (s:Set4) (ms:List Mem) (ps:List Pnt) (l q:List Prs) (c:V) (w:List Int) (u ep k:Int):St:=⟨[(0,V.ptr 1 0),(4,V.ptr 2 0),(7,V.ptr 6 0),(66,V.lent (Place.cell 3 0)),(67,.int .i64 q.length),(68,.int .i64 k)],ptH s ms ps l (.ex 2 false (q.map encE)) c (.sl false (w.map encI)) u ep⟩
namespace P
def idAt (ms:List Mem) (i:Int):Int:=match ms[i.toNat]? with
 | some m=>m.id
 | none=>0
def idsOf (ms:List Mem) (q:List Prs):List Int:=q.map fun e=>idAt ms e.at_
def pq (s:Set4) (ms:List Mem) (ps:List Pnt) (l:List Prs):List Prs :=
 let q:=if (cand s.wait (lst ps).ep ms l).isEmpty then l else cand s.wait (lst ps).ep ms l
 gt s.cap s.gate ms q.length q
end P
def ptO (s:Set4) (ms:List Mem) (ps:List Pnt) (l:List Prs):Pnt:=⟨(lst ps).ep+1,P.avU s.cap ms (P.pq s ms ps l),false,P.idsOf ms (P.pq s ms ps l),false,P.avW s.cap ms (P.pq s ms ps l)⟩
def icOf (acc:List Int):V:=match acc with
 | []=>.sl true []
 | a::r=>.ex 1 false ((a::r).map encI)
theorem fitE' (l:List Prs) (k:Nat) (h:k < l.length):fitP [.int .i64,.int .i64] 0 ((l.map encE).getD k V.undef)=true:=by
 rw[e_at l k h];rfl
theorem id_loop (s:Set4) (ms:List Mem) (ps:List Pnt) (l q:List Prs) (w:List Int) (u ep:Int) (hq:q.length < 2 ^ 30) (hP:okPb ms q=true):∀ (d k:Nat) (ids:List Int),k+d=q.length→ids.length=k →
  LRuns (vstep T (vlim T F) lplim fi46.cx 7 (lb fi46 1)) (idS s ms ps l q (icOf ids) w u ep k) (.exit 4,⟨(idS s ms ps l q (icOf ids) w u ep q.length).env++[(69,.bool false)],ptH s ms ps l (.ex 2 false (q.map encE)) (icOf (ids++P.idsOf ms (q.drop k))) (.sl false (w.map encI)) u ep⟩)
 | 0,k,ids,hd,ha=>by
  have hk:k=q.length:=by omega
  subst hk
  rw[List.drop_length]
  simp only[P.idsOf,List.map_nil,List.append_nil]
  cases ids with
  | nil=>refine lastE U76_ok noL [(decide ((↑(q.length):Int) < (↑q.length:Int)),false)] [2] (Ex.exit 4,{ env:=[(0,V.ptr 1 0),(4,V.ptr 2 0),(7,V.ptr 6 0),(66,V.lent (Place.cell 3 0)),(67,.int .i64 (↑q.length:Int)),(68,.int .i64 (↑(q.length):Int)),(69,V.bool (decide ((↑(q.length):Int) < (↑q.length:Int))))],heap:=[B.cells [.int .i64 s.1,.int .i64 s.2,.int .i64 s.3,.int .i64 s.4],B.cells [V.ptr 0 0,V.ex 6 false (List.map encM ms),V.ex 4 false (List.map encP ps)],B.cells [.int .i64 0,.int .i64 0,V.sl true [],V.sl true []],B.cells [V.ex 2 false (List.map encE q)],B.cells [V.ptr 1 0],B.cells [V.sl false (List.map encE l)],B.cells [.int .i64 ep,.int .i64 u,V.sl true [],V.sl false (List.map encI w)]] }) (by kernel_rfl) (by simp) ⟨by simp,trivial⟩ (by simp[idS,ptH,icOf,bS,bD])
  | cons a r=>refine lastE U76_ok noL [(decide ((↑(q.length):Int) < (↑q.length:Int)),false)] [2] (Ex.exit 4,{ env:=[(0,V.ptr 1 0),(4,V.ptr 2 0),(7,V.ptr 6 0),(66,V.lent (Place.cell 3 0)),(67,.int .i64 (↑q.length:Int)),(68,.int .i64 (↑(q.length):Int)),(69,V.bool (decide ((↑(q.length):Int) < (↑q.length:Int))))],heap:=[B.cells [.int .i64 s.1,.int .i64 s.2,.int .i64 s.3,.int .i64 s.4],B.cells [V.ptr 0 0,V.ex 6 false (List.map encM ms),V.ex 4 false (List.map encP ps)],B.cells [.int .i64 0,.int .i64 0,V.sl true [],V.sl true []],B.cells [V.ex 2 false (List.map encE q)],B.cells [V.ptr 1 0],B.cells [V.sl false (List.map encE l)],B.cells [.int .i64 ep,.int .i64 u,V.ex 1 false (List.map encI (a::r)),V.sl false (List.map encI w)]] }) (by kernel_rfl) (by simp) ⟨by simp,trivial⟩ (by simp[idS,ptH,icOf,bS,bD])
 | d+1,k,ids,hd,ha=>by
  have hk:k < q.length:=by omega
  have hwi:IntKind.i64.wrap ((k:Int)+1)=((k+1:Nat):Int):=by rw[i64in (by omega) (by omega)];rfl
  have h0:=ee0 q k hk
  obtain⟨b1,b2,b3,b4⟩:=okPb_at hP k hk
  have hj:q[k].at_.toNat < ms.length:=by omega
  have hmm:Fd.mm ms (Fd.ee q k 0)=encM ms[q[k].at_.toNat]:=by rw[h0];exact m_at ms _ hj
  have hfm:fitP [.int .i64] 0 (Fd.mm ms (Fd.ee q k 0))=true:=by rw[hmm];rfl
  have hid:intOf (fld 0 (Fd.mm ms (Fd.ee q k 0)))=P.idAt ms q[k].at_:=by
   rw[hmm];unfold P.idAt;rw[List.getElem?_eq_getElem hj];rfl
  have hac:ids.length < 2 ^ 40:=by omega
  have ih:=id_loop s ms ps l q w u ep hq hP d (k+1) (ids++[P.idAt ms q[k].at_]) (by omega) (by simp[ha])
  have ee:ids++P.idsOf ms (q.drop k)=(ids++[P.idAt ms q[k].at_])++P.idsOf ms (q.drop (k+1)):=by
   rw[List.drop_eq_getElem_cons hk];simp only[P.idsOf,List.map_cons,List.append_assoc,List.singleton_append]
  rw[ee]
  cases ids with
  | nil =>
   refine nextE U76_ok noL [(decide ((↑k:Int) < (↑q.length:Int)),true),(decide ((↑k:Int) < (↑(List.map encE q).length:Int)),true),(decide (k < (List.map encE q).length),true),(fitP [.int .i64,.int .i64] 0 ((List.map encE q).getD k V.undef),true),(decide (0≤Fd.ee q k 0),true),(decide (Fd.ee q k 0 < (↑(List.map encM ms).length:Int)),true),(decide ((Fd.ee q k 0).toNat < (List.map encM ms).length),true),(fitP [.int .i64] 0 (Fd.mm ms (Fd.ee q k 0)),true)] [2,0,3,4,5,6,7,8,9,0,0,0] { env:=[(0,V.ptr 1 0),(4,V.ptr 2 0),(7,V.ptr 6 0),(66,V.lent (Place.cell 3 0)),(67,.int .i64 (↑q.length:Int)),(68,.int .i64 (IntKind.i64.wrap ((↑k:Int)+1)))],heap:=[B.cells [.int .i64 s.1,.int .i64 s.2,.int .i64 s.3,.int .i64 s.4],B.cells [V.ptr 0 0,V.ex 6 false (List.map encM ms),V.ex 4 false (List.map encP ps)],B.cells [.int .i64 0,.int .i64 0,V.sl true [],V.sl true []],B.cells [V.ex 2 false (List.map encE q)],B.cells [V.ptr 1 0],B.cells [V.sl false (List.map encE l)],B.cells [.int .i64 ep,.int .i64 u,V.ex 1 false [.int .i64 (intOf (fld 0 (Fd.mm ms (Fd.ee q k 0))))],V.sl false (List.map encI w)]] } (by kernel_rfl) ?_ (by rw[hwi,hid];simp[idS,ptH,icOf,bS,bD,encI]) ih
   refine⟨?_,?_,?_,?_,?_,?_,?_,?_,trivial⟩
   all_goals first
                   | exact fitE' _ _ hk
                   | exact hfm
                   | exact rooms_1 hac
                   | (rw[h0];simp;omega)
                   | (rw[List.length_map];exact decide_eq_true (by omega))
                   | (simp;done)
                   | (simp;omega)
                   | done
  | cons a r =>
   refine nextE U76_ok noL [(decide ((↑k:Int) < (↑q.length:Int)),true),(decide ((↑k:Int) < (↑(List.map encE q).length:Int)),true),(decide (k < (List.map encE q).length),true),(fitP [.int .i64,.int .i64] 0 ((List.map encE q).getD k V.undef),true),(decide (0≤Fd.ee q k 0),true),(decide (Fd.ee q k 0 < (↑(List.map encM ms).length:Int)),true),(decide ((Fd.ee q k 0).toNat < (List.map encM ms).length),true),(fitP [.int .i64] 0 (Fd.mm ms (Fd.ee q k 0)),true),(rooms ((List.map encI (a::r)).length+1) 8,true),(decide ((List.map encI (a::r)).length+1 < 4611686018427387904),true)] [2,0,3,4,5,6,7,8,9,10,11,0] { env:=[(0,V.ptr 1 0),(4,V.ptr 2 0),(7,V.ptr 6 0),(66,V.lent (Place.cell 3 0)),(67,.int .i64 (↑q.length:Int)),(68,.int .i64 (IntKind.i64.wrap ((↑k:Int)+1)))],heap:=[B.cells [.int .i64 s.1,.int .i64 s.2,.int .i64 s.3,.int .i64 s.4],B.cells [V.ptr 0 0,V.ex 6 false (List.map encM ms),V.ex 4 false (List.map encP ps)],B.cells [.int .i64 0,.int .i64 0,V.sl true [],V.sl true []],B.cells [V.ex 2 false (List.map encE q)],B.cells [V.ptr 1 0],B.cells [V.sl false (List.map encE l)],B.cells [.int .i64 ep,.int .i64 u,V.ex 1 false (List.map encI (a::r)++[.int .i64 (intOf (fld 0 (Fd.mm ms (Fd.ee q k 0))))]),V.sl false (List.map encI w)]] } (by kernel_rfl) ?_ (by rw[hwi,hid];simp[idS,ptH,icOf,bS,bD,encI]) ih
   refine⟨?_,?_,?_,?_,?_,?_,?_,?_,?_,?_,trivial⟩
   all_goals first
                   | exact fitE' _ _ hk
                   | exact hfm
                   | exact rooms_1 hac
                   | (rw[h0];simp;omega)
                   | (rw[List.length_map];exact decide_eq_true (by omega))
                   | (simp;done)
                   | (simp;omega)
                   | done
theorem gt_ok {cap gate:Int} {ms:List Mem}:∀ (n:Nat) {q:List Prs},0 < q.length→q.length≤16→okPb ms q=true→0 < (P.gt cap gate ms n q).length∧(P.gt cap gate ms n q).length≤16∧okPb ms (P.gt cap gate ms n q)=true
 | 0,q,h0,h1,hP=>⟨h0,h1,hP⟩
 | n+1,q,h0,h1,hP=>by
  have hi:=gst_lt (P.avU cap ms q) q q.length 0 0 (by omega) h0
  unfold P.gt
  rw[List.getElem?_eq_getElem hi]
  simp only
  split
  ·exact⟨h0,h1,hP⟩
  ·rename_i h
   have hel:(q.eraseIdx (P.gst (P.avU cap ms q) q 0 0 q.length)).length=q.length - 1:=List.length_eraseIdx_of_lt hi
   have:¬q.length < 2:=fun hh=>h (.inl hh)
   exact gt_ok n (by omega) (by omega) (okPb_erase hP _)
theorem cand_ok {w ep:Int} {ms:List Mem} {l:List Prs} (h1:l.length≤16) (hP:okPb ms l=true):(P.cand w ep ms l).length≤16∧okPb ms (P.cand w ep ms l)=true:=by
 refine⟨Nat.le_trans (List.length_filter_le _ _) h1,?_⟩
 rw[okPb,List.all_eq_true] at hP ⊢
 intro e he
 exact hP e (List.mem_filter.1 he).1
theorem dat2 (l:List Prs):((l.map encE).all fun y=>y.cells.length==2)=true:=by
 rw[List.all_eq_true];intro x hx;obtain⟨e,_,rfl⟩:=List.mem_map.1 hx;rfl
theorem pt_runs (s:Set4) (ms:List Mem) (ps:List Pnt) (l:List Prs) (hm:ms.length < 2 ^ 40) (hp0:0 < ps.length) (hp1:ps.length < 2 ^ 40) (h0:0 < l.length) (h1:l.length≤16) (hM:okMb ms=true) (hP:okPb ms l=true) (hO:okEp s ps=true) :
  Runs T F 46 [.ptr 1 0,.sl false (l.map encE)] [bS s,bD ms ps] (encP (ptO s ms ps l),[bS s,bD ms ps]):=by
 have hO':=hO
 simp only[okEp,decide_eq_true_eq] at hO'
 have hwl:IntKind.i64.wrap ((ps.length:Int) - 1)=ps.length - 1:=i64in (by omega) (by omega)
 have hep':IntKind.i64.wrap (intOf (fld 0 (Fd.lp ps))+1)=(lst ps).ep+1:=by
  rw[lp_at hp0 hp1]
  simp only[encP,fld,V.cells,List.getD_cons_zero,intOf]
  exact i64in (by omega) (by omega)
 have hro:rooms (0+(List.map encE l).length) 16=true:=decide_eq_true (by rw[List.length_map];unfold maxRoom;omega)
 have h2:loopsOf fi46.body=[lb fi46 0,lb fi46 1]:=by kernel_rfl
 have go:∀ q0:List Prs,0 < q0.length→q0.length≤16→okPb ms q0=true→∃ (i:Int) (bb:Bool),LGood T (vlim T F) lplim fi46.cx (loopsIs [(8,ptS s ms ps l (.ex 2 false (q0.map encE)) (.sl true []) (.sl true []) 0,ptE s ms ps l (P.gt s.cap s.gate ms q0.length q0) (P.avW s.cap ms (P.gt s.cap s.gate ms q0.length q0)) (P.avU s.cap ms (P.gt s.cap s.gate ms q0.length q0)) i bb),
   (15,idS s ms ps l (P.gt s.cap s.gate ms q0.length q0) (.sl true []) (P.avW s.cap ms (P.gt s.cap s.gate ms q0.length q0)) (P.avU s.cap ms (P.gt s.cap s.gate ms q0.length q0)) ((lst ps).ep+1) 0,(.exit 4,⟨(idS s ms ps l (P.gt s.cap s.gate ms q0.length q0) (.sl true []) (P.avW s.cap ms (P.gt s.cap s.gate ms q0.length q0)) (P.avU s.cap ms (P.gt s.cap s.gate ms q0.length q0)) ((lst ps).ep+1) (P.gt s.cap s.gate ms q0.length q0).length).env++[(69,.bool false)],ptH s ms ps l (.ex 2 false ((P.gt s.cap s.gate ms q0.length q0).map encE)) (.ex 1 false ((P.idsOf ms (P.gt s.cap s.gate ms q0.length q0)).map encI)) (.sl false ((P.avW s.cap ms (P.gt s.cap s.gate ms q0.length q0)).map encI)) (P.avU s.cap ms (P.gt s.cap s.gate ms q0.length q0)) ((lst ps).ep+1)⟩))]) fi46.body:=by
  intro q0 a0 a1 aP
  obtain⟨i,bb,hg⟩:=gt_loop s ms ps l hm hp0 hp1 hM q0.length q0 true [] 0 (Nat.le_refl _) a0 a1 aP
  obtain⟨c0,c1,cP⟩:=gt_ok (cap:=s.cap) (gate:=s.gate) q0.length a0 a1 aP
  generalize P.gt s.cap s.gate ms q0.length q0=q at *
  have hi:=id_loop s ms ps l q (P.avW s.cap ms q) (P.avU s.cap ms q) ((lst ps).ep+1) (by omega) cP q.length 0 [] (by omega) rfl
  rw[List.drop_zero,List.nil_append] at hi
  have hic:icOf (P.idsOf ms q)=.ex 1 false ((P.idsOf ms q).map encI):=by
   cases q with
   | nil=>simp at c0
   | cons e r=>rfl
  rw[hic] at hi
  exact⟨i,bb,LGood.two (k0:=8) (k1:=15) h2 (by kernel_rfl) (by kernel_rfl) (by exact hg) (by exact hi)⟩
 obtain⟨d1,dP⟩:=cand_ok (w:=s.wait) (ep:=(lst ps).ep) h1 hP
 have hpq:P.pq s ms ps l=P.gt s.cap s.gate ms (if (P.cand s.wait (lst ps).ep ms l).isEmpty then l else P.cand s.wait (lst ps).ep ms l).length (if (P.cand s.wait (lst ps).ep ms l).isEmpty then l else P.cand s.wait (lst ps).ep ms l):=rfl
 unfold ptO
 cases hc:(P.cand s.wait (lst ps).ep ms l).isEmpty with
 | true =>
  rw[hc] at hpq
  simp only[if_true] at hpq
  obtain⟨i,bb,hL⟩:=go l h0 h1 hP
  rw[hpq]
  generalize P.gt s.cap s.gate ms l.length l=q at *
  refine wayE U76_ok (fi:=fi46) (by kernel_rfl) hL [(eqB [V.ref RK.yld 5,V.ptr 4 0,V.ptr 3 0] [V.ref RK.yld 5,V.ptr 4 0,V.ptr 3 0],true),(eqB (List.map encE l) (List.map encE (P.decEs (List.map encE l))),true),(decide ((List.map encE l).length < 1073741824),true),(eqB [V.int IntKind.i64 s.1,.int .i64 s.2,.int .i64 s.3,.int .i64 s.4] [.int .i64 s.1,.int .i64 s.2,.int .i64 s.3,.int .i64 s.4],true),(eqB (List.map encP ps) (List.map encP (P.decPs (List.map encP ps))),true),(decide (0 < (List.map encP ps).length),true),(decide ((List.map encP ps).length < 1099511627776),true),(eqB (List.map encM ms) (List.map encM (P.decMs (List.map encM ms))),true),(decide ((List.map encM ms).length < 1099511627776),true),(eqB [B.cells [.int .i64 s.1,.int .i64 s.2,.int .i64 s.3,.int .i64 s.4],B.cells [V.ptr 0 0,V.ex 6 false (List.map encM ms),V.ex 4 false (List.map encP ps)],B.cells [V.sl true []],B.cells [V.ptr 1 0],B.cells [V.sl false (List.map encE l)],B.cells [Fd.lp46]] [B.cells [.int .i64 s.1,.int .i64 s.2,.int .i64 s.3,.int .i64 s.4],B.cells [V.ptr 0 0,V.ex 6 false (List.map encM (P.decMs (List.map encM ms))),V.ex 4 false (List.map encP (P.decPs (List.map encP ps)))],B.cells [V.sl true []],B.cells [V.ptr 1 0],B.cells [V.sl false (List.map encE (P.decEs (List.map encE l)))],B.cells [Fd.lp46]],true),((P.decEs (List.map encE l)).all fun e=>decide (0≤e.1∧e.1 < (↑(P.decMs (List.map encM ms)).length:Int)∧-2000000000000≤e.2∧e.2≤2000000000000),true),(decide (0≤(lst (P.decPs (List.map encP ps))).1∧(lst (P.decPs (List.map encP ps))).1≤1000000000000∧0≤s.3∧s.3≤100),true),((P.cand s.3 (lst (P.decPs (List.map encP ps))).1 (P.decMs (List.map encM ms)) (P.decEs (List.map encE l))).isEmpty,true),(rooms (0+(List.map encE l).length) 16,true),(decide (0+(List.map encE l).length < 4611686018427387904),true),((List.map encE l).all fun y=>y.cells.length==2,true),(is { env:=[(0,V.ptr 1 0),(4,V.ptr 2 0),(5,V.ptr 3 0),(7,V.ptr 6 0)],heap:=[B.cells [.int .i64 s.1,.int .i64 s.2,.int .i64 s.3,.int .i64 s.4],B.cells [V.ptr 0 0,V.ex 6 false (List.map encM ms),V.ex 4 false (List.map encP ps)],B.cells [.int .i64 0,.int .i64 0,V.sl true [],V.sl true []],B.cells [V.ex 2 false ([]++List.map encE l)],B.cells [V.ptr 1 0],B.cells [V.sl false (List.map encE l)],B.cells [.int .i64 0,.int .i64 0,V.sl true [],V.sl true []]] } { env:=[(0,V.ptr 1 0),(4,V.ptr 2 0),(5,V.ptr 3 0),(7,V.ptr 6 0)],heap:=[B.cells [.int .i64 s.1,.int .i64 s.2,.int .i64 s.3,.int .i64 s.4],B.cells [V.ptr 0 0,V.ex 6 false (List.map encM ms),V.ex 4 false (List.map encP ps)],B.cells [.int .i64 0,.int .i64 0,V.sl true [],V.sl true []],B.cells [V.ex 2 false (List.map encE (l))],B.cells [V.ptr 1 0],B.cells [V.sl false (List.map encE l)],B.cells [.int .i64 0,.int .i64 0,V.sl true [],V.sl true []]] },true),(decide (0≤IntKind.i64.wrap ((↑(List.map encP ps).length:Int) - 1)),true),(decide (IntKind.i64.wrap ((↑(List.map encP ps).length:Int) - 1) < (↑(List.map encP ps).length:Int)),true),((Fd.lp ps).cells.length==4&&fitP [.int .i64,.int .i64,TK.slice 3,TK.slice 3] 0 (Fd.lp ps),true),(is { env:=[(0,V.ptr 1 0),(4,V.ptr 2 0),(7,V.ptr 6 0),(66,V.lent (Place.cell 3 0)),(67,.int .i64 (↑(List.map encE q).length:Int)),(68,.int .i64 0)],heap:=[B.cells [.int .i64 s.1,.int .i64 s.2,.int .i64 s.3,.int .i64 s.4],B.cells [V.ptr 0 0,V.ex 6 false (List.map encM ms),V.ex 4 false (List.map encP ps)],B.cells [.int .i64 0,.int .i64 0,V.sl true [],V.sl true []],B.cells [V.ex 2 false (List.map encE q)],B.cells [V.ptr 1 0],B.cells [V.sl false (List.map encE l)],B.cells [.int .i64 (IntKind.i64.wrap (intOf (fld 0 (Fd.lp ps))+1)),.int .i64 (P.avU s.cap ms q),V.sl true [],V.sl false (List.map encI (P.avW s.cap ms q))]] } { env:=[(0,V.ptr 1 0),(4,V.ptr 2 0),(7,V.ptr 6 0),(66,V.lent (Place.cell 3 0)),(67,.int .i64 (↑q.length:Int)),(68,.int .i64 0)],heap:=[B.cells [.int .i64 s.1,.int .i64 s.2,.int .i64 s.3,.int .i64 s.4],B.cells [V.ptr 0 0,V.ex 6 false (List.map encM ms),V.ex 4 false (List.map encP ps)],B.cells [.int .i64 0,.int .i64 0,V.sl true [],V.sl true []],B.cells [V.ex 2 false (List.map encE q)],B.cells [V.ptr 1 0],B.cells [V.sl false (List.map encE l)],B.cells [.int .i64 ((lst ps).ep+1),.int .i64 (P.avU s.cap ms q),V.sl true [],V.sl false (List.map encI (P.avW s.cap ms q))]] },true)] [0,1,0,1,1,0,0,1,0,1,0,1,2,3,4,5,6,7,8,9,10,11,12,13,14,0,1,0,1,0,1,0,1,15,16,17,18,19,20,21,22] (V.agg [.int .i64 ((lst ps).ep+1),.int .i64 (P.avU s.cap ms q),V.sl false (List.map encI (P.idsOf ms q)),V.sl false (List.map encI (P.avW s.cap ms q))],[B.cells [.int .i64 s.1,.int .i64 s.2,.int .i64 s.3,.int .i64 s.4],B.cells [V.ptr 0 0,V.ex 6 false (List.map encM ms),V.ex 4 false (List.map encP ps)]]) (by kernel_rfl) ?_ rfl
  refine⟨?_,?_,?_,?_,?_,?_,?_,?_,?_,?_,?_,?_,?_,?_,?_,?_,?_,?_,?_,?_,?_,trivial⟩
  all_goals first
                   | exact eqB_self _
                   | exact isEs_enc _
                   | exact isPs_enc _
                   | exact isMs_enc _
                   | exact dat2 _
                   | (rw[decMs_enc,decPs_enc,decEs_enc];exact eqB_self _)
                   | (rw[decMs_enc,decEs_enc];exact hP)
                   | (rw[decPs_enc];exact hO)
                   | (rw[decMs_enc,decPs_enc,decEs_enc];exact hc)
                   | (rw[decMs_enc,decPs_enc,decEs_enc];exact hz)
                   | (refine is_eq ?_;simp only[List.nil_append];rfl)
                   | (refine is_eq ?_;rw[decMs_enc,decPs_enc,decEs_enc];rfl)
                   | (rw[hep',List.length_map];exact is_eq rfl)
                   | (rw[List.length_map];exact decide_eq_true (by omega))
                   | exact fitPt' hp0 hp1
                   | (rw[List.length_map,hwl];exact decide_eq_true (by omega))
                   | exact hro
                   | done
 | false =>
  rw[hc] at hpq
  simp only[Bool.false_eq_true,if_false] at hpq
  have dl:0 < (P.cand s.wait (lst ps).ep ms l).length:=by
   cases hq:P.cand s.wait (lst ps).ep ms l with
   | nil=>rw[hq] at hc;simp at hc
   | cons e r=>simp
  obtain⟨i,bb,hL⟩:=go _ dl d1 dP
  have hz:((↑(List.map encE (P.cand s.wait (lst ps).ep ms l)).length:Int)==0)=false:=beq_eq_false_iff_ne.2 (by rw[List.length_map];omega)
  rw[hpq]
  generalize hqq:P.gt s.cap s.gate ms (P.cand s.wait (lst ps).ep ms l).length (P.cand s.wait (lst ps).ep ms l)=q at *
  refine wayE U76_ok (fi:=fi46) (by kernel_rfl) hL [(eqB [V.ref RK.yld 5,V.ptr 4 0,V.ptr 3 0] [V.ref RK.yld 5,V.ptr 4 0,V.ptr 3 0],true),(eqB (List.map encE l) (List.map encE (P.decEs (List.map encE l))),true),(decide ((List.map encE l).length < 1073741824),true),(eqB [V.int IntKind.i64 s.1,.int .i64 s.2,.int .i64 s.3,.int .i64 s.4] [.int .i64 s.1,.int .i64 s.2,.int .i64 s.3,.int .i64 s.4],true),(eqB (List.map encP ps) (List.map encP (P.decPs (List.map encP ps))),true),(decide (0 < (List.map encP ps).length),true),(decide ((List.map encP ps).length < 1099511627776),true),(eqB (List.map encM ms) (List.map encM (P.decMs (List.map encM ms))),true),(decide ((List.map encM ms).length < 1099511627776),true),(eqB [B.cells [.int .i64 s.1,.int .i64 s.2,.int .i64 s.3,.int .i64 s.4],B.cells [V.ptr 0 0,V.ex 6 false (List.map encM ms),V.ex 4 false (List.map encP ps)],B.cells [V.sl true []],B.cells [V.ptr 1 0],B.cells [V.sl false (List.map encE l)],B.cells [Fd.lp46]] [B.cells [.int .i64 s.1,.int .i64 s.2,.int .i64 s.3,.int .i64 s.4],B.cells [V.ptr 0 0,V.ex 6 false (List.map encM (P.decMs (List.map encM ms))),V.ex 4 false (List.map encP (P.decPs (List.map encP ps)))],B.cells [V.sl true []],B.cells [V.ptr 1 0],B.cells [V.sl false (List.map encE (P.decEs (List.map encE l)))],B.cells [Fd.lp46]],true),((P.decEs (List.map encE l)).all fun e=>decide (0≤e.1∧e.1 < (↑(P.decMs (List.map encM ms)).length:Int)∧-2000000000000≤e.2∧e.2≤2000000000000),true),(decide (0≤(lst (P.decPs (List.map encP ps))).1∧(lst (P.decPs (List.map encP ps))).1≤1000000000000∧0≤s.3∧s.3≤100),true),((P.cand s.3 (lst (P.decPs (List.map encP ps))).1 (P.decMs (List.map encM ms)) (P.decEs (List.map encE l))).isEmpty,false),((↑(List.map encE (P.cand s.3 (lst (P.decPs (List.map encP ps))).1 (P.decMs (List.map encM ms)) (P.decEs (List.map encE l)))).length:Int)==0,false),(is { env:=[(0,V.ptr 1 0),(4,V.ptr 2 0),(5,V.ptr 3 0),(7,V.ptr 6 0)],heap:=[B.cells [.int .i64 s.1,.int .i64 s.2,.int .i64 s.3,.int .i64 s.4],B.cells [V.ptr 0 0,V.ex 6 false (List.map encM ms),V.ex 4 false (List.map encP ps)],B.cells [.int .i64 0,.int .i64 0,V.sl true [],V.sl true []],B.cells [V.ex 2 false (List.map encE (P.cand s.3 (lst (P.decPs (List.map encP ps))).1 (P.decMs (List.map encM ms)) (P.decEs (List.map encE l))))],B.cells [V.ptr 1 0],B.cells [V.sl false (List.map encE l)],B.cells [.int .i64 0,.int .i64 0,V.sl true [],V.sl true []]] } { env:=[(0,V.ptr 1 0),(4,V.ptr 2 0),(5,V.ptr 3 0),(7,V.ptr 6 0)],heap:=[B.cells [.int .i64 s.1,.int .i64 s.2,.int .i64 s.3,.int .i64 s.4],B.cells [V.ptr 0 0,V.ex 6 false (List.map encM ms),V.ex 4 false (List.map encP ps)],B.cells [.int .i64 0,.int .i64 0,V.sl true [],V.sl true []],B.cells [V.ex 2 false (List.map encE (P.cand s.wait (lst ps).ep ms l))],B.cells [V.ptr 1 0],B.cells [V.sl false (List.map encE l)],B.cells [.int .i64 0,.int .i64 0,V.sl true [],V.sl true []]] },true),(decide (0≤IntKind.i64.wrap ((↑(List.map encP ps).length:Int) - 1)),true),(decide (IntKind.i64.wrap ((↑(List.map encP ps).length:Int) - 1) < (↑(List.map encP ps).length:Int)),true),((Fd.lp ps).cells.length==4&&fitP [.int .i64,.int .i64,TK.slice 3,TK.slice 3] 0 (Fd.lp ps),true),(is { env:=[(0,V.ptr 1 0),(4,V.ptr 2 0),(7,V.ptr 6 0),(66,V.lent (Place.cell 3 0)),(67,.int .i64 (↑(List.map encE q).length:Int)),(68,.int .i64 0)],heap:=[B.cells [.int .i64 s.1,.int .i64 s.2,.int .i64 s.3,.int .i64 s.4],B.cells [V.ptr 0 0,V.ex 6 false (List.map encM ms),V.ex 4 false (List.map encP ps)],B.cells [.int .i64 0,.int .i64 0,V.sl true [],V.sl true []],B.cells [V.ex 2 false (List.map encE q)],B.cells [V.ptr 1 0],B.cells [V.sl false (List.map encE l)],B.cells [.int .i64 (IntKind.i64.wrap (intOf (fld 0 (Fd.lp ps))+1)),.int .i64 (P.avU s.cap ms q),V.sl true [],V.sl false (List.map encI (P.avW s.cap ms q))]] } { env:=[(0,V.ptr 1 0),(4,V.ptr 2 0),(7,V.ptr 6 0),(66,V.lent (Place.cell 3 0)),(67,.int .i64 (↑q.length:Int)),(68,.int .i64 0)],heap:=[B.cells [.int .i64 s.1,.int .i64 s.2,.int .i64 s.3,.int .i64 s.4],B.cells [V.ptr 0 0,V.ex 6 false (List.map encM ms),V.ex 4 false (List.map encP ps)],B.cells [.int .i64 0,.int .i64 0,V.sl true [],V.sl true []],B.cells [V.ex 2 false (List.map encE q)],B.cells [V.ptr 1 0],B.cells [V.sl false (List.map encE l)],B.cells [.int .i64 ((lst ps).ep+1),.int .i64 (P.avU s.cap ms q),V.sl true [],V.sl false (List.map encI (P.avW s.cap ms q))]] },true)] [0,1,0,1,1,0,0,1,0,1,0,1,2,3,4,5,6,7,8,9,10,11,12,13,14,0,1,0,1,0,1,15,16,17,18,19,20] (V.agg [.int .i64 ((lst ps).ep+1),.int .i64 (P.avU s.cap ms q),V.sl false (List.map encI (P.idsOf ms q)),V.sl false (List.map encI (P.avW s.cap ms q))],[B.cells [.int .i64 s.1,.int .i64 s.2,.int .i64 s.3,.int .i64 s.4],B.cells [V.ptr 0 0,V.ex 6 false (List.map encM ms),V.ex 4 false (List.map encP ps)]]) (by kernel_rfl) ?_ rfl
  refine⟨?_,?_,?_,?_,?_,?_,?_,?_,?_,?_,?_,?_,?_,?_,?_,?_,?_,?_,?_,trivial⟩
  all_goals first
                   | exact eqB_self _
                   | exact isEs_enc _
                   | exact isPs_enc _
                   | exact isMs_enc _
                   | exact dat2 _
                   | (rw[decMs_enc,decPs_enc,decEs_enc];exact eqB_self _)
                   | (rw[decMs_enc,decEs_enc];exact hP)
                   | (rw[decPs_enc];exact hO)
                   | (rw[decMs_enc,decPs_enc,decEs_enc];exact hc)
                   | (rw[decMs_enc,decPs_enc,decEs_enc];exact hz)
                   | (refine is_eq ?_;simp only[List.nil_append];rfl)
                   | (refine is_eq ?_;rw[decMs_enc,decPs_enc,decEs_enc];rfl)
                   | (rw[hep',List.length_map];exact is_eq rfl)
                   | (rw[List.length_map];exact decide_eq_true (by omega))
                   | exact fitPt' hp0 hp1
                   | (rw[List.length_map,hwl];exact decide_eq_true (by omega))
                   | exact hro
                   | done
end Go.Proofs.Ytnijkhcmjpfjeaa
