/- D5: the average. -/
import Derived.Test.YtnijkhcmjpfjeaaD4
namespace Go.Proofs.Ytnijkhcmjpfjeaa
open Go Go.Vm
namespace P
def fl2 (d:List Prs):List V:=(d.map encE).flatMap V.cells
end P
theorem fl2_cons (x:Prs) (d:List Prs):P.fl2 (x::d)=.int .i64 x.at_::.int .i64 x.est::P.fl2 d:=rfl
theorem fl2_at:∀ (d:List Prs) (k:Nat) (h:k<d.length),(P.fl2 d).getD (k*2) .undef=.int .i64 d[k].at_∧(P.fl2 d).getD (k*2+1) .undef=.int .i64 d[k].est
 | x::d,0,_=>⟨rfl,rfl⟩
 | x::d,k+1,h=>by
  obtain⟨h1,h2⟩:=fl2_at d k (by simpa using h)
  rw[fl2_cons,Nat.succ_mul];exact⟨h1,h2⟩
theorem fl2_spec (d:List Prs):specB (P.fl2 d)=false:=by
 cases d with
 | nil=>rfl
 | cons x d=>rfl
theorem fl2_fit (d:List Prs) (k:Nat) (h:k<d.length):fitP [.int .i64,.int .i64] (k*2) (V.agg (P.fl2 d))=true:=by
 obtain⟨h1,h2⟩:=fl2_at d k h;simp only[fitP,fld,V.cells];rw[h1,h2];rfl
theorem fl2_0 (d:List Prs) (k:Nat) (h:k<d.length):Fd.at3 (P.fl2 d) (k*2)=d[k].at_:=by
 obtain⟨h1,h2⟩:=fl2_at d k h;simp only[Fd.at3,fld,V.cells];rw[h1];rfl
theorem fl2_1 (d:List Prs) (k:Nat) (h:k<d.length):Fd.at3 (P.fl2 d) (k*2+1)=d[k].est:=by
 obtain⟨h1,h2⟩:=fl2_at d k h;simp only[Fd.at3,fld,V.cells];rw[h2];rfl
def okIb (l:List Int):Bool:=l.all (fun x=>decide (-1000000000≤x∧x≤1000000000))&&decide (l.length≤1000000)
theorem okIb_iff {l:List Int}:okIb l=true↔okI l∧l.length≤1000000:=by simp[okIb,okI]
noncomputable def powS:List V→Heap→Tr (V×Heap):=fun a H=>match a with
 | [v]=>match H with
  | []=>.must (eqB v (encM (decM v))) (.must (okIb (decM v).miss) (.ret (.int .i64 (P.pow (decM v).miss),[])))
  | _=>.fail
 | _=>.fail
theorem powS_ok:∀ a H r,(powS a H).run=some r→Runs T F 77 a H r:=by
 intro a H r h;unfold powS at h;split at h
 ·rename_i v
  split at h
  ·obtain⟨h1,g⟩:=Tr.must_some h
   obtain⟨h2,g'⟩:=Tr.must_some g;have hr:=ret_some g';clear h g g';subst hr;have:=of_eqB h1
   generalize decM v=m at *;subst this;exact pow_runs m (okIb_iff.1 h2).1 (okIb_iff.1 h2).2
  ·cases h
 ·cases h
noncomputable def U77:Vm.Spec:=U48.add 77 powS
theorem U77_ok:Vm.Good (vlim T F) U77:=U48_ok.add powS_ok
noncomputable def U78:Vm.Spec:=U77.add 78 (inl T Sh U77 0 0 fi78)
theorem U78_ok:Vm.Good (vlim T F) U78:=U77_ok.inl (by kernel_rfl) 0 0 (by kernel_rfl)
def okMb (ms:List Mem):Bool:=ms.all fun m=>okIb m.miss
def okPb (ms:List Mem) (l:List Prs):Bool:=l.all fun e=>decide (0≤e.at_∧e.at_<ms.length∧-2000000000000≤e.est∧e.est≤2000000000000)
namespace P
def powAt (ms:List Mem) (i:Int):Int:=match ms[i.toNat]? with
 | some m=>pow m.miss
 | none=>0
def pws (ms:List Mem) (l:List Prs):List Int:=l.map fun e=>powAt ms e.at_
def avW (cap:Int) (ms:List Mem) (l:List Prs):List Int:=if bad (pws ms l) 1000000 cap=0 then outs (pws ms l) 1000000 cap else outs (pws ms l) 1000000 ((1000000+(l.length:Int)-1).tdiv l.length)
def wsum:List Int→List Prs→Int
 | w::ws,e::l=>w*e.est+wsum ws l
 | _,_=>0
def fl (a b:Int):Int:=if a.tmod b<0 then a.tdiv b-1 else a.tdiv b
def avU (cap:Int) (ms:List Mem) (l:List Prs):Int:=fl (2*wsum (avW cap ms l) l+1000000) 2000000
end P
def Fd.mm (ms:List Mem) (j:Int):V:=(List.map encM ms).getD j.toNat V.undef
def avS (s:Set4) (ms:List Mem) (ps:List Pnt) (l:List Prs) (z:Bool) (w:List Int) (k:Int):St:=⟨[(0,V.ptr 1 0),(1,V.ref (RK.arr l.length) 2),(6,V.ex 1 z (w.map encI)),(14,V.ref (RK.arr l.length) 2),(15,.int .i64 (↑l.length:Int)),(16,.int .i64 k)],[bS s,bD ms ps,.cells (P.fl2 l)]⟩
def atS (s:Set4) (ms:List Mem) (ps:List Pnt) (l:List Prs) (z:Bool) (w:List Int) (v k:Int):St:=⟨[(9,V.sl z (w.map encI)),(11,.int .i64 v),(59,V.ref (RK.arr l.length) 2),(60,.int .i64 (↑l.length:Int)),(61,.int .i64 k)],[bS s,bD ms ps,.cells (P.fl2 l)]⟩
theorem okPb_at {ms:List Mem} {l:List Prs} (h:okPb ms l=true) (k:Nat) (hk:k<l.length):0≤l[k].at_∧l[k].at_<ms.length∧-2000000000000≤l[k].est∧l[k].est≤2000000000000:=by
 have:=List.all_eq_true.1 h l[k] (List.getElem_mem hk)
 simpa using this
theorem okMb_at {ms:List Mem} (h:okMb ms=true) (k:Nat) (hk:k<ms.length):okIb ms[k].miss=true:=List.all_eq_true.1 h ms[k] (List.getElem_mem hk)
theorem powAt_ok {ms:List Mem} (h:okMb ms=true) {i:Int} (h0:0≤i) (h1:i<ms.length):1≤P.powAt ms i∧P.powAt ms i≤100000000000:=by
 have hj:i.toNat<ms.length:=by omega
 unfold P.powAt;rw[List.getElem?_eq_getElem hj];have:=okIb_iff.1 (okMb_at h _ hj)
 exact pow_ok this.1 this.2
theorem rooms_1 {w:List Int} (h:w.length<2 ^ 40):rooms ((w.map encI).length+1) 8=true:=by
 exact decide_eq_true (by rw[List.length_map];unfold maxRoom;omega)
theorem av_loop (s:Set4) (ms:List Mem) (ps:List Pnt) (l:List Prs) (hm:ms.length<2 ^ 40) (hl:l.length<2 ^ 30) (hP:okPb ms l=true) (hM:okMb ms=true):∀ (d k:Nat) (w:List Int),k+d=l.length→w.length=k →
  LRuns (vstep T (vlim T F) lplim fi65.cx 3 (lb fi65 0)) (avS s ms ps l w.isEmpty w k) (.exit 0,⟨(avS s ms ps l (w++P.pws ms (l.drop k)).isEmpty (w++P.pws ms (l.drop k)) l.length).env++[(17,.bool false)],(avS s ms ps l true [] 0).heap⟩)
 | 0,k,w,hd,hw=>by
  have hk:k=l.length:=by omega
  subst hk;rw[List.drop_length];simp only[P.pws,List.map_nil,List.append_nil];refine lastE U78_ok noL [(decide ((↑(l.length):Int)<(↑l.length:Int)),false)] [2] (Ex.exit 0,{env:=[(0,V.ptr 1 0),(1,V.ref (RK.arr l.length) 2),(6,V.ex 1 (w.isEmpty) (List.map encI w)),(14,V.ref (RK.arr l.length) 2),(15,.int .i64 (↑l.length:Int)),(16,.int .i64 (↑(l.length):Int)),(17,V.bool (decide ((↑(l.length):Int)<(↑l.length:Int))))],heap:=[B.cells [.int .i64 s.1,.int .i64 s.2,.int .i64 s.3,.int .i64 s.4],B.cells [V.ptr 0 0,V.ex 6 false (List.map encM ms),V.ex 4 false (List.map encP ps)],B.cells (P.fl2 l)]}) (by kernel_rfl) (by simp) ⟨by simp,trivial⟩ (by simp[avS,bS,bD])
 | d+1,k,w,hd,hw=>by
  have hk:k<l.length:=by omega
  have hwi:IntKind.i64.wrap ((k:Int)+1)=((k+1:Nat):Int):=by rw[i64in (by omega) (by omega)];rfl
  have h0:=fl2_0 l k hk;obtain⟨b1,b2,b3,b4⟩:=okPb_at hP k hk;have hj:l[k].at_.toNat<ms.length:=by omega
  have hmm:Fd.mm ms (Fd.at3 (P.fl2 l) (k*2))=encM ms[l[k].at_.toNat]:=by rw[h0];exact m_at ms _ hj
  have hfm:fitP [.int .i64,.int .i64,.int .i64,.int .i64,.int .i64,TK.slice 3] 0 (Fd.mm ms (Fd.at3 (P.fl2 l) (k*2)))=true:=by rw[hmm];rfl
  have hmi:List.map intOf (listOf (fld 5 (Fd.mm ms (Fd.at3 (P.fl2 l) (k*2)))))=ms[l[k].at_.toNat].miss:=by rw[hmm];exact ints_enc _
  have hpw:P.powAt ms l[k].at_=P.pow ms[l[k].at_.toNat].miss:=by unfold P.powAt;rw[List.getElem?_eq_getElem hj]
  have he9:=okMb_at hM _ hj;rw[←hmi] at he9;have he8:∀ x,x=encM ms[l[k].at_.toNat]→eqB (V.agg [.int .i64 (intOf (fld 0 x)),.int .i64 (intOf (fld 1 x)),.int .i64 (intOf (fld 2 x)),.int .i64 (intOf (fld 3 x)),.int .i64 (intOf (fld 4 x)),V.sl (nilOf (fld 5 x)) (listOf (fld 5 x))])
    (V.agg [.int .i64 (intOf (fld 0 x)),.int .i64 (intOf (fld 1 x)),.int .i64 (intOf (fld 2 x)),.int .i64 (intOf (fld 3 x)),.int .i64 (intOf (fld 4 x)),V.sl (nilOf (fld 5 x)) (List.map encI (List.map intOf (listOf (fld 5 x))))])=true:=fun x hx=>by
   refine eqB_eq ?_;rw[hx];simp only[encM,fld,V.cells,List.getD_cons_zero,List.getD_cons_succ,intOf,nilOf,listOf,ints_enc]
  have he8:=he8 _ hmm;have ih:=av_loop s ms ps l hm hl hP hM d (k+1) (w++[P.powAt ms l[k].at_]) (by omega) (by simp[hw])
  have ee:w++P.pws ms (l.drop k)=(w++[P.powAt ms l[k].at_])++P.pws ms (l.drop (k+1)):=by
   rw[List.drop_eq_getElem_cons hk];simp only[P.pws,List.map_cons,List.append_assoc,List.singleton_append]
  rw[ee];refine nextE U78_ok noL [(decide ((↑k:Int)<(↑l.length:Int)),true),(!specB (P.fl2 l),true),(fitP [.int .i64,.int .i64] (k*2) (V.agg (P.fl2 l)),true),(decide (0≤Fd.at3 (P.fl2 l) (k*2)),true),(decide (Fd.at3 (P.fl2 l) (k*2)<(↑(List.map encM ms).length:Int)),true),(decide ((Fd.at3 (P.fl2 l) (k*2)).toNat<(List.map encM ms).length),true),(fitP [.int .i64,.int .i64,.int .i64,.int .i64,.int .i64,TK.slice 3] 0 (Fd.mm ms (Fd.at3 (P.fl2 l) (k*2))),true),(eqB (V.agg [.int .i64 (intOf (fld 0 (Fd.mm ms (Fd.at3 (P.fl2 l) (k*2))))),.int .i64 (intOf (fld 1 (Fd.mm ms (Fd.at3 (P.fl2 l) (k*2))))),.int .i64 (intOf (fld 2 (Fd.mm ms (Fd.at3 (P.fl2 l) (k*2))))),.int .i64 (intOf (fld 3 (Fd.mm ms (Fd.at3 (P.fl2 l) (k*2))))),.int .i64 (intOf (fld 4 (Fd.mm ms (Fd.at3 (P.fl2 l) (k*2))))),V.sl (nilOf (fld 5 (Fd.mm ms (Fd.at3 (P.fl2 l) (k*2))))) (listOf (fld 5 (Fd.mm ms (Fd.at3 (P.fl2 l) (k*2)))))]) (V.agg [.int .i64 (intOf (fld 0 (Fd.mm ms (Fd.at3 (P.fl2 l) (k*2))))),.int .i64 (intOf (fld 1 (Fd.mm ms (Fd.at3 (P.fl2 l) (k*2))))),.int .i64 (intOf (fld 2 (Fd.mm ms (Fd.at3 (P.fl2 l) (k*2))))),.int .i64 (intOf (fld 3 (Fd.mm ms (Fd.at3 (P.fl2 l) (k*2))))),.int .i64 (intOf (fld 4 (Fd.mm ms (Fd.at3 (P.fl2 l) (k*2))))),V.sl (nilOf (fld 5 (Fd.mm ms (Fd.at3 (P.fl2 l) (k*2))))) (List.map encI (List.map intOf (listOf (fld 5 (Fd.mm ms (Fd.at3 (P.fl2 l) (k*2)))))))]),true),(((List.map intOf (listOf (fld 5 (Fd.mm ms (Fd.at3 (P.fl2 l) (k*2)))))).all fun x=>decide (-1000000000≤x∧x≤1000000000))&&decide ((List.map intOf (listOf (fld 5 (Fd.mm ms (Fd.at3 (P.fl2 l) (k*2)))))).length≤1000000),true),(rooms ((List.map encI w).length+1) 8,true),(decide ((List.map encI w).length+1<4611686018427387904),true)] [2,0,2,3,4,0,0,0,0,5,6,7,8,9,10,11,12,0] {env:=[(0,V.ptr 1 0),(1,V.ref (RK.arr l.length) 2),(6,V.ex 1 ((w.isEmpty)&&false) (List.map encI w++[.int .i64 (P.pow (List.map intOf (listOf (fld 5 (Fd.mm ms (Fd.at3 (P.fl2 l) (k*2)))))))])),(14,V.ref (RK.arr l.length) 2),(15,.int .i64 (↑l.length:Int)),(16,.int .i64 (IntKind.i64.wrap ((↑k:Int)+1)))],heap:=[B.cells [.int .i64 s.1,.int .i64 s.2,.int .i64 s.3,.int .i64 s.4],B.cells [V.ptr 0 0,V.ex 6 false (List.map encM ms),V.ex 4 false (List.map encP ps)],B.cells (P.fl2 l)]} (by kernel_rfl) ?_ (by rw[hwi,hmi,←hpw];simp[avS,encI,bS,bD]) ih
  have hw:w.length<2 ^ 40:=by omega
  refine⟨?_,?_,?_,?_,?_,?_,?_,?_,?_,?_,?_,trivial⟩
  all_goals first|(rw[fl2_spec];rfl)|exact fl2_fit _ _ hk|(rw[h0];simp;omega)|exact hfm|exact he8|exact he9|exact fitI _ _ (by omega)|exact rooms_1 hw|(simp;done)|(simp;omega)|(exact decide_eq_true (by rw[List.length_map];omega))|done
theorem tot_nn:∀ {w:List Int},(∀ x∈w,0≤x∧x≤1000000)→0≤P.tot w
 | [],_=>by simp[P.tot]
 | x::w,h=>by
  have:=tot_nn (w:=w) (fun y hy=>h y (by simp[hy]))
  have:=h x (by simp)
  simp only[P.tot];omega
theorem at_loop (s:Set4) (ms:List Mem) (ps:List Pnt) (l:List Prs) (w:List Int) (hl:l.length<2 ^ 30) (hP:okPb ms l=true) (hw:∀ x∈w,0≤x∧x≤1000000) (hwl:w.length=l.length):∀ (d k:Nat) (v:Int),k+d=l.length →
  -2000000000000*(1000000-P.tot (w.drop k))≤v→v≤2000000000000*(1000000-P.tot (w.drop k)) →
  LRuns (vstep T (vlim T F) lplim fi65.cx 3 (lb fi65 1)) (atS s ms ps l false w v k) (.exit 2,⟨(atS s ms ps l false w (v+P.wsum (w.drop k) (l.drop k)) l.length).env++[(62,.bool false)],(atS s ms ps l false w v 0).heap⟩)
 | 0,k,v,hd,h1,h2=>by
  have hk:k=l.length:=by omega
  subst hk;rw[List.drop_length,←hwl,List.drop_length,hwl];simp only[P.wsum,Int.add_zero];refine lastE U78_ok noL [(decide ((↑(l.length):Int)<(↑l.length:Int)),false)] [2] (Ex.exit 2,{env:=[(9,V.sl (false) (List.map encI w)),(11,.int .i64 v),(59,V.ref (RK.arr l.length) 2),(60,.int .i64 (↑l.length:Int)),(61,.int .i64 (↑(l.length):Int)),(62,V.bool (decide ((↑(l.length):Int)<(↑l.length:Int))))],heap:=[B.cells [.int .i64 s.1,.int .i64 s.2,.int .i64 s.3,.int .i64 s.4],B.cells [V.ptr 0 0,V.ex 6 false (List.map encM ms),V.ex 4 false (List.map encP ps)],B.cells (P.fl2 l)]}) (by kernel_rfl) (by simp) ⟨by simp,trivial⟩ (by simp[atS,bS,bD])
 | d+1,k,v,hd,h1,h2=>by
  have hk:k<l.length:=by omega
  have hkw:k<w.length:=by omega
  have hwi:IntKind.i64.wrap ((k:Int)+1)=((k+1:Nat):Int):=by rw[i64in (by omega) (by omega)];rfl
  have h0:=fl2_1 l k hk;have hg:Fd.it w k=w[k]:=it_at w k hkw;obtain⟨b1,b2,b3,b4⟩:=okPb_at hP k hk;have hwk:=hw w[k] (List.getElem_mem hkw);rw[List.drop_eq_getElem_cons hk,List.drop_eq_getElem_cons hkw] at *;simp only[P.tot,P.wsum] at h1 h2 ⊢;have htn:=tot_nn (w:=w.drop (k+1)) (fun x hx=>hw x (List.mem_of_mem_drop hx))
  have q1:w[k]*l[k].est≤w[k]*2000000000000:=Int.mul_le_mul_of_nonneg_left b4 hwk.1;have q2:w[k]*-2000000000000≤w[k]*l[k].est:=Int.mul_le_mul_of_nonneg_left b3 hwk.1;have hp:IntKind.i64.wrap (w[k]*l[k].est)=w[k]*l[k].est:=i64in (by omega) (by omega)
  have hv:IntKind.i64.wrap (v+w[k]*l[k].est)=v+w[k]*l[k].est:=i64in (by omega) (by omega)
  rw[←Int.add_assoc];refine nextE U78_ok noL [(decide ((↑k:Int)<(↑l.length:Int)),true),(!specB (P.fl2 l),true),(fitP [.int .i64,.int .i64] (k*2) (V.agg (P.fl2 l)),true),(decide ((↑k:Int)<(↑(List.map encI w).length:Int)),true),(((List.map encI w).getD k V.undef).cells.length==1&&fitP [.int .i64] 0 ((List.map encI w).getD k V.undef),true)] [2,0,2,3,4,0,0,0,5,6,0,0] {env:=[(9,V.sl (false) (List.map encI w)),(11,.int .i64 (IntKind.i64.wrap (v+IntKind.i64.wrap (Fd.it w k*Fd.at3 (P.fl2 l) (k*2+1))))),(59,V.ref (RK.arr l.length) 2),(60,.int .i64 (↑l.length:Int)),(61,.int .i64 (IntKind.i64.wrap ((↑k:Int)+1)))],heap:=[B.cells [.int .i64 s.1,.int .i64 s.2,.int .i64 s.3,.int .i64 s.4],B.cells [V.ptr 0 0,V.ex 6 false (List.map encM ms),V.ex 4 false (List.map encP ps)],B.cells (P.fl2 l)]} (by kernel_rfl) ?_ (by rw[hg,h0,hp,hv,hwi];rfl) (at_loop s ms ps l w hl hP hw hwl d (k+1) _ (by omega) (by omega) (by omega))
  refine⟨?_,?_,?_,?_,?_,trivial⟩
  all_goals first
   | (rw[fl2_spec];rfl)
   | exact fl2_fit _ _ hk
   | exact fitI _ _ (by omega)
   | (simp;done)
   | (simp;omega)
   | (exact decide_eq_true (by rw[List.length_map];omega))
   | done
theorem pws_ok {ms:List Mem} {l:List Prs} (hM:okMb ms=true) (hP:okPb ms l=true):P.pw (P.pws ms l)=true:=by
 rw[pw_iff];intro x hx;obtain⟨e,he,rfl⟩:=List.mem_map.1 hx;have:=List.all_eq_true.1 hP e he
 simp only[decide_eq_true_eq] at this;exact powAt_ok hM (by omega) (by omega)
theorem pws_len (ms:List Mem) (l:List Prs):(P.pws ms l).length=l.length:=List.length_map _
theorem lim_ok {n:Int} (h0:0<n) (h1:n≤16):0≤(1000000+n-1).tdiv n∧(1000000+n-1).tdiv n≤1000000∧1000000≤(1000000+n-1).tdiv n*n:=by
 have e:=Int.mul_tdiv_add_tmod (1000000+n-1) n;have r1:=Int.tmod_lt_of_pos (1000000+n-1) h0;have q0:=Int.tdiv_nonneg (show 0≤1000000+n-1 by omega) (show 0≤n by omega)
 generalize (1000000+n-1).tdiv n=q at *;rw[Int.mul_comm q n];have:q≤n*q:=by
  have:=Int.mul_le_mul_of_nonneg_right (show 1≤n by omega) q0
  omega
 refine⟨q0,?_,by omega⟩
 rcases Int.lt_or_le 1000000 q with h | h
 ·have h2:n*1000001≤n*q:=Int.mul_le_mul_of_nonneg_left (by omega) (by omega)
  have:=Int.tmod_nonneg (a:=1000000+n-1) n (by omega)
  omega
 ·exact h
theorem bad2_ok {ms:List Mem} {l:List Prs} (hM:okMb ms=true) (hP:okPb ms l=true) (h0:0<l.length) (h1:l.length≤16):P.bad (P.pws ms l) 1000000 ((1000000+(l.length:Int)-1).tdiv l.length)=0:=by
 obtain⟨a,b,c⟩:=lim_ok (n:=l.length) (by omega) (by omega)
 unfold P.bad;rw[pws_len,if_neg (by omega),if_pos ⟨pws_ok hM hP,by omega,by omega,a,b⟩,if_neg (by omega)]
theorem avW_ok {cap:Int} {ms:List Mem} {l:List Prs} (hM:okMb ms=true) (hP:okPb ms l=true) (h0:0<l.length) (h1:l.length≤16) :
  P.tot (P.avW cap ms l)=1000000∧(∀ x∈P.avW cap ms l,0≤x∧x≤1000000)∧(P.avW cap ms l).length=l.length:=by
 unfold P.avW;by_cases hb:P.bad (P.pws ms l) 1000000 cap=0
 ·rw[if_pos hb]
  unfold P.outs;rw[if_pos hb];obtain⟨a,b,c⟩:=app_plain _ _ _ hb;have hc:=(bad_ok hb).2.2.2.1;exact⟨a,fun x hx=>by have:=b x hx;omega,by rw[c,pws_len]⟩
 ·rw[if_neg hb]
  have hb2:=bad2_ok hM hP h0 h1;unfold P.outs;rw[if_pos hb2];obtain⟨a,b,c⟩:=app_plain _ _ _ hb2;have hc:=(bad_ok hb2).2.2.2.1;exact⟨a,fun x hx=>by have:=b x hx;omega,by rw[c,pws_len]⟩
theorem flat_I (l:List Int):(l.map encI).all V.flat=true:=by
 rw[List.all_eq_true];intro x hx;obtain⟨k,_,rfl⟩:=List.mem_map.1 hx;rfl
theorem apart_w (b:Bool) (l:List Int) (e:Int):apart (V.tup [V.ex 1 b (l.map encI),.int .i64 e])=true:=by
 simp[apart,V.cells,apartC,flat_I];intro x _;rfl
theorem wsum_b {ms:List Mem}:∀ {w:List Int} {l:List Prs},(∀ x∈w,0≤x∧x≤1000000)→okPb ms l=true→-2000000000000*P.tot w≤P.wsum w l∧P.wsum w l≤2000000000000*P.tot w
 | [],l,_,_=>by simp[P.wsum,P.tot]
 | x::w,[],hw,_=>by
  have:=tot_nn hw
  simp only[P.wsum];omega
 | x::w,e::l,hw,hP=>by
  have ih:=wsum_b (w:=w) (l:=l) (ms:=ms) (fun y hy=>hw y (by simp[hy])) (by simp only[okPb,List.all_cons,Bool.and_eq_true] at hP ⊢;exact hP.2)
  have hx:=hw x (by simp)
  have he:=okPb_at hP 0 (by simp)
  simp only[List.getElem_cons_zero] at he;have q1:x*e.est≤x*2000000000000:=Int.mul_le_mul_of_nonneg_left he.2.2.2 hx.1;have q2:x*-2000000000000≤x*e.est:=Int.mul_le_mul_of_nonneg_left he.2.2.1 hx.1;simp only[P.wsum,P.tot];omega
theorem avg_runs (s:Set4) (ms:List Mem) (ps:List Pnt) (l:List Prs) (hm:ms.length<2 ^ 40) (h0:0<l.length) (h1:l.length≤16) (hP:okPb ms l=true) (hM:okMb ms=true) :
  Runs T F 65 [.ptr 1 0,.ref (.arr l.length) 2] [bS s,bD ms ps,.cells (P.fl2 l)] (.tup [.sl false ((P.avW s.cap ms l).map encI),.int .i64 (P.avU s.cap ms l)],[bS s,bD ms ps,.cells (P.fl2 l)]):=by
 have q0:=av_loop s ms ps l hm (by omega) hP hM l.length 0 [] (by omega) rfl
 simp only[List.nil_append,List.drop_zero] at q0;obtain⟨t1,t2,t3⟩:=avW_ok (cap:=s.cap) hM hP h0 h1;have q1:=at_loop s ms ps l (P.avW s.cap ms l) (by omega) hP t2 t3 l.length 0 0 (by omega) (by rw[List.drop_zero,t1];omega) (by rw[List.drop_zero,t1];omega)
 simp only[List.drop_zero,Int.zero_add] at q1;have hwb:=wsum_b t2 hP;rw[t1] at hwb;have hwe:(P.pws ms l).isEmpty=false:=by
  cases hq:P.pws ms l with
  | nil=>have:=pws_len ms l;rw[hq] at this;simp at this;omega
  | cons a b=>rfl
 have hl2:IntKind.i64.wrap ((IntKind.i64.wrap (IntKind.i64.wrap (1000000+(l.length:Int))-1)).tdiv (l.length:Int))=(1000000+(l.length:Int)-1).tdiv l.length:=by
  have:=lim_ok (n:=l.length) (by omega) (by omega)
  rw[i64in (n:=1000000+(l.length:Int)) (by omega) (by omega),i64in (n:=1000000+(l.length:Int)-1) (by omega) (by omega),i64in (by omega) (by omega)]
 have hb2:=bad2_ok hM hP h0 h1;have hW:P.avW s.cap ms l=if P.bad (P.pws ms l) 1000000 s.cap=0 then P.outs (P.pws ms l) 1000000 s.cap else P.outs (P.pws ms l) 1000000 ((1000000+(l.length:Int)-1).tdiv l.length):=rfl;unfold P.avU;generalize P.avW s.cap ms l=w2 at *;generalize P.wsum w2 l=v at *;have hL:=LGood.two (T:=T) (F:=F) (c:=fi65.body) (b0:=lb fi65 0) (b1:=lb fi65 1) (k0:=3) (k1:=12) (σ0:=avS s ms ps l true [] 0) (σ1:=atS s ms ps l false w2 0 0) (by kernel_rfl) (by kernel_rfl) (by kernel_rfl) (by exact q0) (by exact q1)
 have hd:=Int.mul_tdiv_add_tmod (2*v+1000000) 2000000;have hr1:=Int.tmod_lt_of_pos (2*v+1000000) (show (0:Int)<2000000 by omega)
 have hr2:=Int.lt_tmod_of_pos (2*v+1000000) (show (0:Int)<2000000 by omega)
 have e1:IntKind.i64.wrap (2*v)=2*v:=i64in (by omega) (by omega)
 have e2:IntKind.i64.wrap (2*v+1000000)=2*v+1000000:=i64in (by omega) (by omega)
 have e3:IntKind.i64.wrap ((2*v+1000000).tdiv 2000000)=(2*v+1000000).tdiv 2000000:=i64in (by omega) (by omega)
 have e4:IntKind.i64.wrap ((2*v+1000000).tdiv 2000000-1)=(2*v+1000000).tdiv 2000000-1:=i64in (by omega) (by omega)
 have hlen:decide ((List.map encI (P.pws ms l)).length<4611686018427387904)=true:=decide_eq_true (by rw[List.length_map,pws_len];omega)
 have hn0:(!decide ((l.length:Int)=0))=true:=by rw[decide_eq_false (by omega)];rfl
 by_cases hb:P.bad (P.pws ms l) 1000000 s.cap=0
 ·rw[if_pos hb] at hW
  have g1:(P.bad (List.map intOf (List.map encI (P.pws ms l))) 1000000 s.cap != 0)=false:=by rw[ints_enc,hb];rfl
  have g2:is _ (atS s ms ps l false w2 0 0)=true:=is_eq (σ:=⟨[(9,V.sl (!decide (P.bad (List.map intOf (List.map encI (P.pws ms l))) 1000000 s.cap=0)) (List.map encI (P.outs (List.map intOf (List.map encI (P.pws ms l))) 1000000 s.cap))),(11,.int .i64 0),(59,V.ref (RK.arr l.length) 2),(60,.int .i64 (↑l.length:Int)),(61,.int .i64 0)],[bS s,bD ms ps,.cells (P.fl2 l)]⟩) (by rw[ints_enc,hb,hW];simp[atS])
  by_cases hq:(2*v+1000000).tmod 2000000<0
  ·refine wayE U78_ok (fi:=fi65) (by kernel_rfl) hL [(is {env:=[(0,V.ptr 1 0),(1,V.ref (RK.arr l.length) 2),(6,V.ex 1 true []),(14,V.ref (RK.arr l.length) 2),(15,.int .i64 (↑l.length:Int)),(16,.int .i64 0)],heap:=[B.cells [.int .i64 s.1,.int .i64 s.2,.int .i64 s.3,.int .i64 s.4],B.cells [V.ptr 0 0,V.ex 6 false (List.map encM ms),V.ex 4 false (List.map encP ps)],B.cells (P.fl2 l)]} {env:=[(0,V.ptr 1 0),(1,V.ref (RK.arr l.length) 2),(6,V.ex 1 true []),(14,V.ref (RK.arr l.length) 2),(15,.int .i64 (↑l.length:Int)),(16,.int .i64 0)],heap:=[B.cells [.int .i64 s.1,.int .i64 s.2,.int .i64 s.3,.int .i64 s.4],B.cells [V.ptr 0 0,V.ex 6 false (List.map encM ms),V.ex 4 false (List.map encP ps)],B.cells (P.fl2 l)]},true),((List.map encI (P.pws ms l)).all isI,true),(decide ((List.map encI (P.pws ms l)).length<4611686018427387904),true),(apart (V.tup [V.ex 1 (!decide (P.bad (List.map intOf (List.map encI (P.pws ms l))) 1000000 s.1=0)) (List.map encI (P.outs (List.map intOf (List.map encI (P.pws ms l))) 1000000 s.1)),.int .i64 (P.bad (List.map intOf (List.map encI (P.pws ms l))) 1000000 s.1)]),true),(P.bad (List.map intOf (List.map encI (P.pws ms l))) 1000000 s.1 != 0,false),(is {env:=[(9,V.sl (!decide (P.bad (List.map intOf (List.map encI (P.pws ms l))) 1000000 s.1=0)) (List.map encI (P.outs (List.map intOf (List.map encI (P.pws ms l))) 1000000 s.1))),(11,.int .i64 0),(59,V.ref (RK.arr l.length) 2),(60,.int .i64 (↑l.length:Int)),(61,.int .i64 0)],heap:=[B.cells [.int .i64 s.1,.int .i64 s.2,.int .i64 s.3,.int .i64 s.4],B.cells [V.ptr 0 0,V.ex 6 false (List.map encM ms),V.ex 4 false (List.map encP ps)],B.cells (P.fl2 l)]} {env:=[(9,V.sl false (List.map encI w2)),(11,.int .i64 0),(59,V.ref (RK.arr l.length) 2),(60,.int .i64 (↑l.length:Int)),(61,.int .i64 0)],heap:=[B.cells [.int .i64 s.1,.int .i64 s.2,.int .i64 s.3,.int .i64 s.4],B.cells [V.ptr 0 0,V.ex 6 false (List.map encM ms),V.ex 4 false (List.map encP ps)],B.cells (P.fl2 l)]},true),(decide ((IntKind.i64.wrap (IntKind.i64.wrap (2*v)+1000000)).tmod 2000000<0),true)] [2,0,0,3,4,5,6,7,0,0,8] (V.tup [V.sl false (List.map encI w2),.int .i64 (IntKind.i64.wrap (IntKind.i64.wrap ((IntKind.i64.wrap (IntKind.i64.wrap (2*v)+1000000)).tdiv 2000000)-1))],[B.cells [.int .i64 s.1,.int .i64 s.2,.int .i64 s.3,.int .i64 s.4],B.cells [V.ptr 0 0,V.ex 6 false (List.map encM ms),V.ex 4 false (List.map encP ps)],B.cells (P.fl2 l)]) (by kernel_rfl) ?_ (by rw[e1,e2,e3,e4];unfold P.fl;rw[if_pos hq];rfl)
   refine⟨?_,?_,?_,?_,?_,?_,?_,trivial⟩
   all_goals first|exact isI_enc _|exact hlen|exact apart_w _ _ _|exact g1|exact hn0|exact g2|exact is_eq rfl|(rw[e1,e2];exact decide_eq_true hq)|(rw[e1,e2];exact decide_eq_false hq)|(simp;done)|done
  ·refine wayE U78_ok (fi:=fi65) (by kernel_rfl) hL [(is {env:=[(0,V.ptr 1 0),(1,V.ref (RK.arr l.length) 2),(6,V.ex 1 true []),(14,V.ref (RK.arr l.length) 2),(15,.int .i64 (↑l.length:Int)),(16,.int .i64 0)],heap:=[B.cells [.int .i64 s.1,.int .i64 s.2,.int .i64 s.3,.int .i64 s.4],B.cells [V.ptr 0 0,V.ex 6 false (List.map encM ms),V.ex 4 false (List.map encP ps)],B.cells (P.fl2 l)]} {env:=[(0,V.ptr 1 0),(1,V.ref (RK.arr l.length) 2),(6,V.ex 1 true []),(14,V.ref (RK.arr l.length) 2),(15,.int .i64 (↑l.length:Int)),(16,.int .i64 0)],heap:=[B.cells [.int .i64 s.1,.int .i64 s.2,.int .i64 s.3,.int .i64 s.4],B.cells [V.ptr 0 0,V.ex 6 false (List.map encM ms),V.ex 4 false (List.map encP ps)],B.cells (P.fl2 l)]},true),((List.map encI (P.pws ms l)).all isI,true),(decide ((List.map encI (P.pws ms l)).length<4611686018427387904),true),(apart (V.tup [V.ex 1 (!decide (P.bad (List.map intOf (List.map encI (P.pws ms l))) 1000000 s.1=0)) (List.map encI (P.outs (List.map intOf (List.map encI (P.pws ms l))) 1000000 s.1)),.int .i64 (P.bad (List.map intOf (List.map encI (P.pws ms l))) 1000000 s.1)]),true),(P.bad (List.map intOf (List.map encI (P.pws ms l))) 1000000 s.1 != 0,false),(is {env:=[(9,V.sl (!decide (P.bad (List.map intOf (List.map encI (P.pws ms l))) 1000000 s.1=0)) (List.map encI (P.outs (List.map intOf (List.map encI (P.pws ms l))) 1000000 s.1))),(11,.int .i64 0),(59,V.ref (RK.arr l.length) 2),(60,.int .i64 (↑l.length:Int)),(61,.int .i64 0)],heap:=[B.cells [.int .i64 s.1,.int .i64 s.2,.int .i64 s.3,.int .i64 s.4],B.cells [V.ptr 0 0,V.ex 6 false (List.map encM ms),V.ex 4 false (List.map encP ps)],B.cells (P.fl2 l)]} {env:=[(9,V.sl false (List.map encI w2)),(11,.int .i64 0),(59,V.ref (RK.arr l.length) 2),(60,.int .i64 (↑l.length:Int)),(61,.int .i64 0)],heap:=[B.cells [.int .i64 s.1,.int .i64 s.2,.int .i64 s.3,.int .i64 s.4],B.cells [V.ptr 0 0,V.ex 6 false (List.map encM ms),V.ex 4 false (List.map encP ps)],B.cells (P.fl2 l)]},true),(decide ((IntKind.i64.wrap (IntKind.i64.wrap (2*v)+1000000)).tmod 2000000<0),false)] [2,0,0,3,4,5,6,7,0,0,8] (V.tup [V.sl false (List.map encI w2),.int .i64 (IntKind.i64.wrap ((IntKind.i64.wrap (IntKind.i64.wrap (2*v)+1000000)).tdiv 2000000))],[B.cells [.int .i64 s.1,.int .i64 s.2,.int .i64 s.3,.int .i64 s.4],B.cells [V.ptr 0 0,V.ex 6 false (List.map encM ms),V.ex 4 false (List.map encP ps)],B.cells (P.fl2 l)]) (by kernel_rfl) ?_ (by rw[e1,e2,e3];unfold P.fl;rw[if_neg hq];rfl)
   refine⟨?_,?_,?_,?_,?_,?_,?_,trivial⟩
   all_goals first|exact isI_enc _|exact hlen|exact apart_w _ _ _|exact g1|exact hn0|exact g2|exact is_eq rfl|(rw[e1,e2];exact decide_eq_true hq)|(rw[e1,e2];exact decide_eq_false hq)|(simp;done)|done
 ·rw[if_neg hb] at hW
  have g1:(P.bad (List.map intOf (List.map encI (P.pws ms l))) 1000000 s.cap != 0)=true:=by rw[ints_enc];simpa using hb
  have g2:is _ (atS s ms ps l false w2 0 0)=true:=is_eq (σ:=⟨[(9,V.sl (!decide (P.bad (List.map intOf (List.map encI (P.pws ms l))) 1000000 (IntKind.i64.wrap ((IntKind.i64.wrap (IntKind.i64.wrap (1000000+(↑l.length:Int))-1)).tdiv (↑l.length:Int)))=0)) (List.map encI (P.outs (List.map intOf (List.map encI (P.pws ms l))) 1000000 (IntKind.i64.wrap ((IntKind.i64.wrap (IntKind.i64.wrap (1000000+(↑l.length:Int))-1)).tdiv (↑l.length:Int)))))),(11,.int .i64 0),(59,V.ref (RK.arr l.length) 2),(60,.int .i64 (↑l.length:Int)),(61,.int .i64 0)],[bS s,bD ms ps,.cells (P.fl2 l)]⟩) (by rw[ints_enc,hl2,hb2,hW];simp[atS])
  by_cases hq:(2*v+1000000).tmod 2000000<0
  ·refine wayE U78_ok (fi:=fi65) (by kernel_rfl) hL [(is {env:=[(0,V.ptr 1 0),(1,V.ref (RK.arr l.length) 2),(6,V.ex 1 true []),(14,V.ref (RK.arr l.length) 2),(15,.int .i64 (↑l.length:Int)),(16,.int .i64 0)],heap:=[B.cells [.int .i64 s.1,.int .i64 s.2,.int .i64 s.3,.int .i64 s.4],B.cells [V.ptr 0 0,V.ex 6 false (List.map encM ms),V.ex 4 false (List.map encP ps)],B.cells (P.fl2 l)]} {env:=[(0,V.ptr 1 0),(1,V.ref (RK.arr l.length) 2),(6,V.ex 1 true []),(14,V.ref (RK.arr l.length) 2),(15,.int .i64 (↑l.length:Int)),(16,.int .i64 0)],heap:=[B.cells [.int .i64 s.1,.int .i64 s.2,.int .i64 s.3,.int .i64 s.4],B.cells [V.ptr 0 0,V.ex 6 false (List.map encM ms),V.ex 4 false (List.map encP ps)],B.cells (P.fl2 l)]},true),((List.map encI (P.pws ms l)).all isI,true),(decide ((List.map encI (P.pws ms l)).length<4611686018427387904),true),(apart (V.tup [V.ex 1 (!decide (P.bad (List.map intOf (List.map encI (P.pws ms l))) 1000000 s.1=0)) (List.map encI (P.outs (List.map intOf (List.map encI (P.pws ms l))) 1000000 s.1)),.int .i64 (P.bad (List.map intOf (List.map encI (P.pws ms l))) 1000000 s.1)]),true),(P.bad (List.map intOf (List.map encI (P.pws ms l))) 1000000 s.1 != 0,true),(!decide ((↑l.length:Int)=0),true),(apart (V.tup [V.ex 1 (!decide (P.bad (List.map intOf (List.map encI (P.pws ms l))) 1000000 (IntKind.i64.wrap ((IntKind.i64.wrap (IntKind.i64.wrap (1000000+(↑l.length:Int))-1)).tdiv (↑l.length:Int)))=0)) (List.map encI (P.outs (List.map intOf (List.map encI (P.pws ms l))) 1000000 (IntKind.i64.wrap ((IntKind.i64.wrap (IntKind.i64.wrap (1000000+(↑l.length:Int))-1)).tdiv (↑l.length:Int))))),.int .i64 (P.bad (List.map intOf (List.map encI (P.pws ms l))) 1000000 (IntKind.i64.wrap ((IntKind.i64.wrap (IntKind.i64.wrap (1000000+(↑l.length:Int))-1)).tdiv (↑l.length:Int))))]),true),(is {env:=[(9,V.sl (!decide (P.bad (List.map intOf (List.map encI (P.pws ms l))) 1000000 (IntKind.i64.wrap ((IntKind.i64.wrap (IntKind.i64.wrap (1000000+(↑l.length:Int))-1)).tdiv (↑l.length:Int)))=0)) (List.map encI (P.outs (List.map intOf (List.map encI (P.pws ms l))) 1000000 (IntKind.i64.wrap ((IntKind.i64.wrap (IntKind.i64.wrap (1000000+(↑l.length:Int))-1)).tdiv (↑l.length:Int)))))),(11,.int .i64 0),(59,V.ref (RK.arr l.length) 2),(60,.int .i64 (↑l.length:Int)),(61,.int .i64 0)],heap:=[B.cells [.int .i64 s.1,.int .i64 s.2,.int .i64 s.3,.int .i64 s.4],B.cells [V.ptr 0 0,V.ex 6 false (List.map encM ms),V.ex 4 false (List.map encP ps)],B.cells (P.fl2 l)]} {env:=[(9,V.sl false (List.map encI w2)),(11,.int .i64 0),(59,V.ref (RK.arr l.length) 2),(60,.int .i64 (↑l.length:Int)),(61,.int .i64 0)],heap:=[B.cells [.int .i64 s.1,.int .i64 s.2,.int .i64 s.3,.int .i64 s.4],B.cells [V.ptr 0 0,V.ex 6 false (List.map encM ms),V.ex 4 false (List.map encP ps)],B.cells (P.fl2 l)]},true),(decide ((IntKind.i64.wrap (IntKind.i64.wrap (2*v)+1000000)).tmod 2000000<0),true)] [2,0,0,3,4,5,6,7,3,4,8,9,0,0,10] (V.tup [V.sl false (List.map encI w2),.int .i64 (IntKind.i64.wrap (IntKind.i64.wrap ((IntKind.i64.wrap (IntKind.i64.wrap (2*v)+1000000)).tdiv 2000000)-1))],[B.cells [.int .i64 s.1,.int .i64 s.2,.int .i64 s.3,.int .i64 s.4],B.cells [V.ptr 0 0,V.ex 6 false (List.map encM ms),V.ex 4 false (List.map encP ps)],B.cells (P.fl2 l)]) (by kernel_rfl) ?_ (by rw[e1,e2,e3,e4];unfold P.fl;rw[if_pos hq];rfl)
   refine⟨?_,?_,?_,?_,?_,?_,?_,?_,?_,trivial⟩
   all_goals first|exact isI_enc _|exact hlen|exact apart_w _ _ _|exact g1|exact hn0|exact g2|exact is_eq rfl|(rw[e1,e2];exact decide_eq_true hq)|(rw[e1,e2];exact decide_eq_false hq)|(simp;done)|done
  ·refine wayE U78_ok (fi:=fi65) (by kernel_rfl) hL [(is {env:=[(0,V.ptr 1 0),(1,V.ref (RK.arr l.length) 2),(6,V.ex 1 true []),(14,V.ref (RK.arr l.length) 2),(15,.int .i64 (↑l.length:Int)),(16,.int .i64 0)],heap:=[B.cells [.int .i64 s.1,.int .i64 s.2,.int .i64 s.3,.int .i64 s.4],B.cells [V.ptr 0 0,V.ex 6 false (List.map encM ms),V.ex 4 false (List.map encP ps)],B.cells (P.fl2 l)]} {env:=[(0,V.ptr 1 0),(1,V.ref (RK.arr l.length) 2),(6,V.ex 1 true []),(14,V.ref (RK.arr l.length) 2),(15,.int .i64 (↑l.length:Int)),(16,.int .i64 0)],heap:=[B.cells [.int .i64 s.1,.int .i64 s.2,.int .i64 s.3,.int .i64 s.4],B.cells [V.ptr 0 0,V.ex 6 false (List.map encM ms),V.ex 4 false (List.map encP ps)],B.cells (P.fl2 l)]},true),((List.map encI (P.pws ms l)).all isI,true),(decide ((List.map encI (P.pws ms l)).length<4611686018427387904),true),(apart (V.tup [V.ex 1 (!decide (P.bad (List.map intOf (List.map encI (P.pws ms l))) 1000000 s.1=0)) (List.map encI (P.outs (List.map intOf (List.map encI (P.pws ms l))) 1000000 s.1)),.int .i64 (P.bad (List.map intOf (List.map encI (P.pws ms l))) 1000000 s.1)]),true),(P.bad (List.map intOf (List.map encI (P.pws ms l))) 1000000 s.1 != 0,true),(!decide ((↑l.length:Int)=0),true),(apart (V.tup [V.ex 1 (!decide (P.bad (List.map intOf (List.map encI (P.pws ms l))) 1000000 (IntKind.i64.wrap ((IntKind.i64.wrap (IntKind.i64.wrap (1000000+(↑l.length:Int))-1)).tdiv (↑l.length:Int)))=0)) (List.map encI (P.outs (List.map intOf (List.map encI (P.pws ms l))) 1000000 (IntKind.i64.wrap ((IntKind.i64.wrap (IntKind.i64.wrap (1000000+(↑l.length:Int))-1)).tdiv (↑l.length:Int))))),.int .i64 (P.bad (List.map intOf (List.map encI (P.pws ms l))) 1000000 (IntKind.i64.wrap ((IntKind.i64.wrap (IntKind.i64.wrap (1000000+(↑l.length:Int))-1)).tdiv (↑l.length:Int))))]),true),(is {env:=[(9,V.sl (!decide (P.bad (List.map intOf (List.map encI (P.pws ms l))) 1000000 (IntKind.i64.wrap ((IntKind.i64.wrap (IntKind.i64.wrap (1000000+(↑l.length:Int))-1)).tdiv (↑l.length:Int)))=0)) (List.map encI (P.outs (List.map intOf (List.map encI (P.pws ms l))) 1000000 (IntKind.i64.wrap ((IntKind.i64.wrap (IntKind.i64.wrap (1000000+(↑l.length:Int))-1)).tdiv (↑l.length:Int)))))),(11,.int .i64 0),(59,V.ref (RK.arr l.length) 2),(60,.int .i64 (↑l.length:Int)),(61,.int .i64 0)],heap:=[B.cells [.int .i64 s.1,.int .i64 s.2,.int .i64 s.3,.int .i64 s.4],B.cells [V.ptr 0 0,V.ex 6 false (List.map encM ms),V.ex 4 false (List.map encP ps)],B.cells (P.fl2 l)]} {env:=[(9,V.sl false (List.map encI w2)),(11,.int .i64 0),(59,V.ref (RK.arr l.length) 2),(60,.int .i64 (↑l.length:Int)),(61,.int .i64 0)],heap:=[B.cells [.int .i64 s.1,.int .i64 s.2,.int .i64 s.3,.int .i64 s.4],B.cells [V.ptr 0 0,V.ex 6 false (List.map encM ms),V.ex 4 false (List.map encP ps)],B.cells (P.fl2 l)]},true),(decide ((IntKind.i64.wrap (IntKind.i64.wrap (2*v)+1000000)).tmod 2000000<0),false)] [2,0,0,3,4,5,6,7,3,4,8,9,0,0,10] (V.tup [V.sl false (List.map encI w2),.int .i64 (IntKind.i64.wrap ((IntKind.i64.wrap (IntKind.i64.wrap (2*v)+1000000)).tdiv 2000000))],[B.cells [.int .i64 s.1,.int .i64 s.2,.int .i64 s.3,.int .i64 s.4],B.cells [V.ptr 0 0,V.ex 6 false (List.map encM ms),V.ex 4 false (List.map encP ps)],B.cells (P.fl2 l)]) (by kernel_rfl) ?_ (by rw[e1,e2,e3];unfold P.fl;rw[if_neg hq];rfl)
   refine⟨?_,?_,?_,?_,?_,?_,?_,?_,?_,trivial⟩
   all_goals first|exact isI_enc _|exact hlen|exact apart_w _ _ _|exact g1|exact hn0|exact g2|exact is_eq rfl|(rw[e1,e2];exact decide_eq_true hq)|(rw[e1,e2];exact decide_eq_false hq)|(simp;done)|done
end Go.Proofs.Ytnijkhcmjpfjeaa
