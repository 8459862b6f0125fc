/- D2: the scale: made,entered,left,held. -/
import Derived.Test.YtnijkhcmjpfjeaaD1
namespace Go.Proofs.Ytnijkhcmjpfjeaa
open Go Go.Vm
def lst (ps:List Pnt):Pnt:=ps.getD (ps.length-1) ⟨0,0,true,[],true,[]⟩
def Fd.lp (ps:List Pnt):V:=(ps.map encP).getD (IntKind.i64.wrap (((ps.map encP).length:Int)-1)).toNat V.undef
theorem lp_at {ps:List Pnt} (h0:0<ps.length) (h1:ps.length<2 ^ 40):Fd.lp ps=encP (lst ps):=by
 have e:(IntKind.i64.wrap (((ps.map encP).length:Int)-1)).toNat=ps.length-1:=by
  rw[List.length_map,i64in (by omega) (by omega)];omega
 unfold Fd.lp lst;rw[e];have:ps.length-1<ps.length:=by omega
 simp[this]
theorem fitPt' {ps:List Pnt} (h0:0<ps.length) (h1:ps.length<2 ^ 40):((Fd.lp ps).cells.length==4&&fitP [.int .i64,.int .i64,TK.slice 3,TK.slice 3] 0 (Fd.lp ps))=true:=by
 rw[lp_at h0 h1];rfl
def bD (ms:List Mem) (ps:List Pnt):B:=.cells [.ptr 0 0,.ex 6 false (ms.map encM),.ex 4 false (ps.map encP)]
def bE (ps:List Pnt):B:=.cells [.ptr 0 0,.sl true [],.ex 4 false (ps.map encP)]
namespace P
def enE (ms:List Mem) (i d r m:Int):Int :=
 if 0≤i∧i≤1000000∧-1000000000000≤d∧d≤1000000000000∧-1000000000≤r∧r≤1000000000∧1≤m∧m≤1000 then (if 0≤fd ms i 0 then 10 else if 16≤ms.length then 2 else 0) else 6
def enM (ms:List Mem) (ps:List Pnt) (i d r m:Int):List Mem:=if enE ms i d r m=0 then ms++[⟨i,d+(lst ps).u,r,m,(lst ps).ep,true,[]⟩] else ms
def leE (ms:List Mem) (i:Int):Int:=if fd ms i 0<0 then 41 else 0
def leM (ms:List Mem) (i:Int):List Mem:=if fd ms i 0<0 then ms else ms.eraseIdx (fd ms i 0).toNat
def hoE (ms:List Mem) (i d:Int):Int:=if fd ms i 0<0 then 41 else if -1000000000000≤d∧d≤1000000000000 then 0 else 6
def hoV (ms:List Mem) (i d:Int):Int:=if hoE ms i d=0 then (match ms[(fd ms i 0).toNat]? with | some m=>m.h+m.rate-d | none=>0) else 0
end P
def Fd.hm (ms:List Mem) (i:Int) (j:Nat):Int:=intOf (fld j ((List.map encM ms).getD (P.fd ms i 0).toNat V.undef))
def okMs (ms:List Mem):Bool:=ms.all fun m=>decide (-1000000000000000000≤m.h∧m.h≤1000000000000000000∧-1000000000000000000≤m.rate∧m.rate≤1000000000000000000)
namespace P
def nwE (a b c d u:Int):Int:=if st a b c d=0 then (if -1000000000000≤u∧u≤1000000000000 then 0 else 6) else st a b c d
end P
theorem nw_runs (a b c d u:Int):Runs T F 28 [.agg [.int .i64 a,.int .i64 b,.int .i64 c,.int .i64 d],.int .i64 u] []
  (if P.nwE a b c d u=0 then (.tup [.ptr 1 0,.int .i64 0],[bS ⟨a,b,c,d⟩,bE [⟨0,u,true,[],true,[]⟩]]) else (.tup [.nilp,.int .i64 (P.nwE a b c d u)],[])):=by
 by_cases h0:(P.st a b c d != 0)=true
 ·skip
  refine wayE U48_ok (fi:=fi28) (by kernel_rfl) noL [(P.st a b c d != 0,true)] [2] (V.tup [V.nilp,.int .i64 (P.st a b c d)],[]) (by kernel_rfl) ⟨h0,trivial⟩ ?_
  all_goals try simp only[bne_iff_ne,ne_eq] at *
  all_goals first|(simp;done)|(simp;omega)|(rw[show P.nwE a b c d u=P.st a b c d by unfold P.nwE;rw[if_neg (by assumption)],if_neg (by assumption)];done)|(have hE:P.nwE a b c d u=6:=by {unfold P.nwE;rw[if_pos (by assumption),if_neg (by omega)]};rw[hE,if_neg (by omega)];done)|(have hE:P.nwE a b c d u=0:=by {unfold P.nwE;rw[if_pos (by assumption),if_pos (by omega)]};rw[hE,if_pos rfl];rfl)|done
 ·skip
  by_cases h1:u≥-1000000000000
  ·skip
   by_cases h2:(!decide (u≤1000000000000))=true
   ·skip
    refine wayE U48_ok (fi:=fi28) (by kernel_rfl) noL [(P.st a b c d != 0,false),
      (decide (u≥-1000000000000),true),
      (!decide (u≤1000000000000),true)] [2,3,3,3,3,4] (V.tup [V.nilp,.int .i64 6],[]) (by kernel_rfl) ⟨(Bool.eq_false_iff.2 h0),(decide_eq_true h1),h2,trivial⟩ ?_
    all_goals try simp only[bne_iff_ne,ne_eq,Decidable.not_not,Bool.not_eq_true',decide_eq_false_iff_not] at *
    all_goals first|(simp;done)|(simp;omega)|(rw[show P.nwE a b c d u=P.st a b c d by unfold P.nwE;rw[if_neg (by assumption)],if_neg (by assumption)];done)|(have hE:P.nwE a b c d u=6:=by {unfold P.nwE;rw[if_pos (by assumption),if_neg (by omega)]};rw[hE,if_neg (by omega)];done)|(have hE:P.nwE a b c d u=0:=by {unfold P.nwE;rw[if_pos (by assumption),if_pos (by omega)]};rw[hE,if_pos rfl];rfl)|done
   ·skip
    refine wayE U48_ok (fi:=fi28) (by kernel_rfl) noL [(P.st a b c d != 0,false),
      (decide (u≥-1000000000000),true),
      (!decide (u≤1000000000000),false)] [2,3,3,3,3,4] (V.tup [V.ptr 1 0,.int .i64 0],[B.cells [.int .i64 a,.int .i64 b,.int .i64 c,.int .i64 d],B.cells [V.ptr 0 0,V.sl true [],V.ex 4 false [V.agg [.int .i64 0,.int .i64 u,V.sl true [],V.sl true []]]]]) (by kernel_rfl) ⟨(Bool.eq_false_iff.2 h0),(decide_eq_true h1),(Bool.eq_false_iff.2 h2),trivial⟩ ?_
    all_goals try simp only[bne_iff_ne,ne_eq,Decidable.not_not,Bool.not_eq_true',decide_eq_false_iff_not] at *
    all_goals first|(simp;done)|(simp;omega)|(rw[show P.nwE a b c d u=P.st a b c d by unfold P.nwE;rw[if_neg (by assumption)],if_neg (by assumption)];done)|(have hE:P.nwE a b c d u=6:=by {unfold P.nwE;rw[if_pos (by assumption),if_neg (by omega)]};rw[hE,if_neg (by omega)];done)|(have hE:P.nwE a b c d u=0:=by {unfold P.nwE;rw[if_pos (by assumption),if_pos (by omega)]};rw[hE,if_pos rfl];rfl)|done
  ·skip
   refine wayE U48_ok (fi:=fi28) (by kernel_rfl) noL [(P.st a b c d != 0,false),
     (decide (u≥-1000000000000),false)] [2,3,3,3,3,0] (V.tup [V.nilp,.int .i64 6],[]) (by kernel_rfl) ⟨(Bool.eq_false_iff.2 h0),(decide_eq_false h1),trivial⟩ ?_
   all_goals try simp only[bne_iff_ne,ne_eq,Decidable.not_not] at *
   all_goals first|(simp;done)|(simp;omega)|(rw[show P.nwE a b c d u=P.st a b c d by unfold P.nwE;rw[if_neg (by assumption)],if_neg (by assumption)];done)|(have hE:P.nwE a b c d u=6:=by {unfold P.nwE;rw[if_pos (by assumption),if_neg (by omega)]};rw[hE,if_neg (by omega)];done)|(have hE:P.nwE a b c d u=0:=by {unfold P.nwE;rw[if_pos (by assumption),if_pos (by omega)]};rw[hE,if_pos rfl];rfl)|done
def decS (sc:List V):Set4:=match sc with
 | [a,b,c,d]=>⟨intOf a,intOf b,intOf c,intOf d⟩
 | _=>⟨0,0,0,0⟩
def encS4 (s:Set4):List V:=[.int .i64 s.cap,.int .i64 s.gate,.int .i64 s.wait,.int .i64 s.keep]
noncomputable def isPs (xs:List V):Bool:=eqB xs ((P.decPs xs).map encP)
theorem isPs_enc (ps:List Pnt):isPs (ps.map encP)=true:=by unfold isPs;rw[decPs_enc];exact eqB_self _
theorem isPs_of {xs:List V} (h:isPs xs=true):∃ ps:List Pnt,xs=ps.map encP:=⟨_,of_eqB h⟩
def onP {α:Type} (pc:V) (f:List V→Tr α):Tr α:=match pc with
 | .ex sz z xs=>match Nat.beq sz 4,z with
  | true,false=>f xs
  | _,_=>.fail
 | _=>.fail
theorem onP_run {α:Type} {pc:V} {f:List V→Tr α} {r:α} (h:(onP pc f).run=some r):∃ xs,pc=.ex 4 false xs∧(f xs).run=some r:=by
 unfold onP at h;split at h
 ·rename_i sz z xs
  cases hb:Nat.beq sz 4<;>cases z<;>simp only[hb] at h<;>first | (cases h;done) | skip
  rw[Nat.eq_of_beq_eq_true hb];exact⟨xs,rfl,h⟩
 ·cases h
noncomputable def onSc {α:Type} (H:Heap) (f:Set4→List Mem→List Pnt→Tr α) (g:Set4→List Pnt→Tr α):Tr α :=
 onC H fun sc mc pc=>.must (eqB sc (encS4 (decS sc))) (onP pc fun xs=>.must (isPs xs) (.must (decide (0<xs.length)) (.must (decide (xs.length<2 ^ 40)) (onM mc (fun z ys=>match z with
  | false=>.must (isMs ys) (.must (decide (ys.length<2 ^ 40)) (f (decS sc) (P.decMs ys) (P.decPs xs)))
  | true=>.fail) (g (decS sc) (P.decPs xs))))))
theorem onSc_run {α:Type} {H:Heap} {f:Set4→List Mem→List Pnt→Tr α} {g:Set4→List Pnt→Tr α} {r:α} (h:(onSc H f g).run=some r) :
  (∃ s ms ps,H=[bS s,bD ms ps]∧0<ps.length∧ps.length<2 ^ 40∧ms.length<2 ^ 40∧(f s ms ps).run=some r)∨(∃ s ps,H=[bS s,bE ps]∧0<ps.length∧ps.length<2 ^ 40∧(g s ps).run=some r):=by
 unfold onSc at h;obtain⟨sc,mc,pc,rfl,g0⟩:=onC_run h;clear h;obtain⟨h1,g1⟩:=Tr.must_some g0;clear g0;obtain⟨xs,rfl,g2⟩:=onP_run g1;clear g1;obtain⟨h2,g3⟩:=Tr.must_some g2;obtain⟨h3,g4⟩:=Tr.must_some g3;obtain⟨h4,h⟩:=Tr.must_some g4;clear g2 g3 g4;obtain⟨ps,rfl⟩:=isPs_of h2;have h1:=of_eqB h1;generalize decS sc=s at *;subst h1;simp only[decide_eq_true_eq,List.length_map] at h3 h4;rw[decPs_enc] at h;rcases onM_run h with ⟨z,ys,rfl,h⟩ | ⟨rfl,h⟩
 ·cases z
  ·obtain⟨h5,h⟩:=Tr.must_some h
   obtain⟨h6,h⟩:=Tr.must_some h;obtain⟨ms,rfl⟩:=isMs_of h5;rw[decMs_enc] at h;exact .inl ⟨s,ms,ps,rfl,h3,h4,by simpa using h6,h⟩
  ·cases h
 ·exact .inr ⟨s,ps,rfl,h3,h4,h⟩
def okU (ps:List Pnt):Bool:=decide (-1000000000000000≤(lst ps).u∧(lst ps).u≤1000000000000000)
noncomputable def newS:List V→Heap→Tr (V×Heap):=fun a H=>match a,H with
 | [.agg [.int .i64 a,.int .i64 b,.int .i64 c,.int .i64 d],.int .i64 u],[]=>.ask (decide (P.nwE a b c d u=0)) (.ret (.tup [.ptr 1 0,.int .i64 0],[bS ⟨a,b,c,d⟩,bE [⟨0,u,true,[],true,[]⟩]])) (.ret (.tup [.nilp,.int .i64 (P.nwE a b c d u)],[]))
 | _,_=>.fail
theorem newS_ok:∀ a H r,(newS a H).run=some r→Runs T F 28 a H r:=by
 intro a H x h;unfold newS at h;split at h
 ·rename_i a b c d u
  have hq:=nw_runs a b c d u;by_cases he:P.nwE a b c d u=0
  ·rw[if_pos he] at hq
   rw[decide_eq_true he] at h;have hr:=ret_some h;clear h;subst hr;exact hq
  ·rw[if_neg he] at hq
   rw[decide_eq_false he] at h;have hr:=ret_some h;clear h;subst hr;exact hq
 ·cases h
end Go.Proofs.Ytnijkhcmjpfjeaa
