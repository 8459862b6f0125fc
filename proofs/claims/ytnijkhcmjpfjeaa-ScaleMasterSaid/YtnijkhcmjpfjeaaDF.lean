/- DF: deeds: what is done with a scale;one made. -/
import Derived.Test.YtnijkhcmjpfjeaaDE
import Derived.Test.YtnijkhcmjpfjeaaDD
import Derived.Test.YtnijkhcmjpfjeaaE3
namespace Go.Proofs.Ytnijkhcmjpfjeaa
open Go Go.Vm
structure Dd where
 kind:Int
 id:Int
 diff:Int
 rate:Int
 mem:Int
 nil:Bool
 rds:List Rd
def encDd (d:Dd):V:=.agg [.int .i64 d.kind,.int .i64 d.id,.int .i64 d.diff,.int .i64 d.rate,.int .i64 d.mem,.sl d.nil (d.rds.map encD)]
noncomputable def U19':Vm.Spec:=(U19.add 18 rdgS).add 24 pickS
theorem U19'_ok:Vm.Good (vlim T F) U19':=(U19_ok.add rdgS_ok).add pickS_ok
noncomputable def U25:Vm.Spec:=((U19'.add 25 enterS).add 22 leaveS).add 27 holdS
theorem U25_ok:Vm.Good (vlim T F) U25:=((U19'_ok.add enterS_ok).add leaveS_ok).add holdS_ok
noncomputable def U28:Vm.Spec:=(U25.add 28 newS).add 26 expS
theorem U28_ok:Vm.Good (vlim T F) U28:=(U25_ok.add newS_ok).add expS_ok
def Fd.dk (l:List Dd) (k j:Nat):Int:=intOf (fld j ((List.map encDd l).getD k V.undef))
def Fd.dr (l:List Dd) (k:Nat):List V:=listOf (fld 5 ((List.map encDd l).getD k V.undef))
theorem dd_at (l:List Dd) (k:Nat) (h:k<l.length):(l.map encDd).getD k V.undef=encDd l[k]:=by simp[h]
def rnS (s:Set4) (b:B) (z:Bool) (l:List Dd) (k:Int):St:=⟨[(0,.ptr 1 0),(1,.sl z (l.map encDd)),(4,.int .i64 k)],[bS s,b]⟩
structure Sc where
 z:Bool
 ms:List Mem
 ps:List Pnt
def bX (x:Sc):B:=match x.z with
 | true=>bE x.ps
 | false=>bD x.ms x.ps
namespace P
def deed (s:Set4) (x:Sc) (d:Dd):Sc :=
 if pick d.kind 3=0 then (if rdE x.ms x.ps d.rds=0 then ⟨x.z,takeM s x.ms x.ps d.rds,x.ps++[ptO s x.ms x.ps (rdV x.ms x.ps d.rds)]⟩ else x)
 else if pick d.kind 3=1 then ⟨x.z&&(enM x.ms x.ps d.id d.diff d.rate d.mem).isEmpty,enM x.ms x.ps d.id d.diff d.rate d.mem,x.ps⟩
 else if pick d.kind 3=2 then ⟨x.z,leM x.ms d.id,x.ps⟩ else x
def run (s:Set4) (x:Sc) (l:List Dd):Sc:=l.foldl (deed s) x
end P
structure InvS (s:Set4) (x:Sc) (n:Nat):Prop where
 inv:Inv s x.ms x.ps n
 nil:x.z=true→x.ms=[]
theorem pick3 (a:Int):P.pick a 3=0∨P.pick a 3=1∨P.pick a 3=2:=by
 unfold P.pick;rw[if_neg (by omega)]
 have h1:=Int.lt_tmod_of_pos a (show (0:Int)<3 by omega)
 have h2:=Int.tmod_lt_of_pos a (show (0:Int)<3 by omega)
 split<;>omega
theorem InvS.deed {s:Set4} {x:Sc} {n:Nat} (h:InvS s x n) (d:Dd):InvS s (P.deed s x d) (n+1):=by
 unfold P.deed;split
 ·split
  ·rename_i he
   refine⟨h.inv.take he,fun hz=>?_⟩
   simp only at hz;have:=h.nil hz
   rw[this,rdE_nil] at he;exact absurd he (rd0_ne _ _)
  ·exact⟨h.inv.more,h.nil⟩
 ·split
  ·refine⟨h.inv.enter d.id d.diff d.rate d.mem,fun hz=>?_⟩
   simp only[Bool.and_eq_true] at hz;simp only;exact List.isEmpty_iff.1 hz.2
  ·split
   ·refine⟨(h.inv.leave d.id).more,fun hz=>?_⟩
    have:=h.nil hz
    simp only;rw[this];rfl
   ·exact⟨h.inv.more,h.nil⟩
theorem InvS.run {s:Set4}:∀ {l:List Dd} {x:Sc} {n:Nat},InvS s x n→InvS s (P.run s x l) (n+l.length)
 | [],x,n,h=>h
 | d::l,x,n,h=>by
  have:=InvS.run (l:=l) (h.deed d)
  simp only[P.run,List.foldl_cons,List.length_cons] at this ⊢;rw[show n+(l.length+1)=n+1+l.length by omega]
  exact this
theorem flatP {ps:List Pnt} (h:0<ps.length):(List.map encP ps).all V.flat=false:=by
 cases ps with
 | nil=>simp at h
 | cons p ps=>rfl
set_option maxHeartbeats 2000000 in
theorem rn_step (s:Set4) (x:Sc) (zl:Bool) (l:List Dd) (k n:Nat) (hk:k<l.length) (hl:l.length<2 ^ 40) (hX:InvS s x n) (hn:n≤20000) (hrd:l[k].rds.length<2 ^ 40) {r:Ex×St}
  (hr:LRuns (vstep T (vlim T F) lplim fi44.cx 2 (lb fi44 0)) (rnS s (bX (P.deed s x l[k])) zl l (k+1:Nat)) r):LRuns (vstep T (vlim T F) lplim fi44.cx 2 (lb fi44 0)) (rnS s (bX x) zl l k) r:=by
 have hwi:IntKind.i64.wrap ((k:Int)+1)=((k+1:Nat):Int):=by rw[i64in (by omega) (by omega)];rfl
 have hd0:Fd.dk l k 0=l[k].kind:=by unfold Fd.dk;rw[dd_at l k hk];rfl
 have hd1:Fd.dk l k 1=l[k].id:=by unfold Fd.dk;rw[dd_at l k hk];rfl
 have hd2:Fd.dk l k 2=l[k].diff:=by unfold Fd.dk;rw[dd_at l k hk];rfl
 have hd3:Fd.dk l k 3=l[k].rate:=by unfold Fd.dk;rw[dd_at l k hk];rfl
 have hd4:Fd.dk l k 4=l[k].mem:=by unfold Fd.dk;rw[dd_at l k hk];rfl
 have hdr:Fd.dr l k=l[k].rds.map encD:=by unfold Fd.dr;rw[dd_at l k hk];rfl
 obtain⟨z,ms,ps⟩:=x;have hI:=hX.inv;have hZ:=hX.nil;have hp0:=hI.p0;have hp1:=hI.p1;have hlen:=hI.len;simp only at hI hZ hp0 hp1 hlen;clear hX;rcases pick3 l[k].kind with hp | hp | hp
 ·have hk0:(P.pick (Fd.dk l k 0) 3==0)=true:=by rw[hd0,hp];rfl
  unfold P.deed at hr;rw[if_pos hp] at hr;cases z with
  | false =>
   by_cases h0:P.rdE ms ps l[k].rds=0
   ·simp only[if_pos h0] at hr
    have he:=decide_eq_true h0;refine nextE U28_ok noL [(decide ((↑k:Int)<(↑(List.map encDd l).length:Int)),true),(((List.map encDd l).getD k V.undef).cells.length==6&&fitP [.int .i64,.int .i64,.int .i64,.int .i64,.int .i64,TK.slice 64] 0 ((List.map encDd l).getD k V.undef),true),(P.pick (Fd.dk l k 0) 3==0,true),(eqB (Fd.dr l k) (List.map encD (P.decDs (Fd.dr l k))),true),(decide ((Fd.dr l k).length<1099511627776),true),(eqB (encS4 s) (encS4 s),true),(eqB (List.map encP ps) (List.map encP (P.decPs (List.map encP ps))),true),(decide (0<(List.map encP ps).length),true),(decide ((List.map encP ps).length<1099511627776),true),(eqB (List.map encM ms) (List.map encM (P.decMs (List.map encM ms))),true),(decide ((List.map encM ms).length<1099511627776),true),(decide ((P.decMs (List.map encM ms)).length≤16),true),((P.decMs (List.map encM ms)).all fun m=>decide (-1000000000000000000≤m.2∧m.2≤1000000000000000000∧-1000000000000000000≤m.3∧m.3≤1000000000000000000),true),((P.decMs (List.map encM ms)).all fun m=>(m.7.all fun x=>decide (-1000000000≤x∧x≤1000000000))&&decide (m.7.length≤1000000),true),(decide (0≤(lst (P.decPs (List.map encP ps))).1∧(lst (P.decPs (List.map encP ps))).1≤1000000000000∧0≤s.3∧s.3≤100),true),((P.decMs (List.map encM ms)).all fun m=>decide (1≤m.4∧m.7.length≤1000000∧(m.nil=true→m.miss=[])),true),(decide (1≤s.4∧s.4≤30),true),(decide (P.rdE (P.decMs (List.map encM ms)) (P.decPs (List.map encP ps)) (P.decDs (Fd.dr l k))=0),true)] [2,0,2,3,0,4,5,6,0,1,5,6,7,8,9,10,11,12,13,14,15,16,17,18,19,0,1,1] {env:=[(0,V.ptr 1 0),(1,V.sl (zl) (List.map encDd l)),(4,.int .i64 (IntKind.i64.wrap ((↑k:Int)+1)))],heap:=[bS s,B.cells [V.ptr 0 0,V.ex 6 false (List.map encM (P.takeM {cap:=s.1,gate:=s.2,wait:=s.3,keep:=s.4} (P.decMs (List.map encM ms)) (P.decPs (List.map encP ps)) (P.decDs (Fd.dr l k)))),V.ex 4 false (List.map encP (P.decPs (List.map encP ps)++[{ep:=(lst (P.decPs (List.map encP ps))).1+1,u:=P.avU s.1 (P.decMs (List.map encM ms)) (P.pq {cap:=s.1,gate:=s.2,wait:=s.3,keep:=s.4} (P.decMs (List.map encM ms)) (P.decPs (List.map encP ps)) (P.rdV (P.decMs (List.map encM ms)) (P.decPs (List.map encP ps)) (P.decDs (Fd.dr l k)))),ni:=false,ids:=P.idsOf (P.decMs (List.map encM ms)) (P.pq {cap:=s.1,gate:=s.2,wait:=s.3,keep:=s.4} (P.decMs (List.map encM ms)) (P.decPs (List.map encP ps)) (P.rdV (P.decMs (List.map encM ms)) (P.decPs (List.map encP ps)) (P.decDs (Fd.dr l k)))),nw:=false,ws:=P.avW s.1 (P.decMs (List.map encM ms)) (P.pq {cap:=s.1,gate:=s.2,wait:=s.3,keep:=s.4} (P.decMs (List.map encM ms)) (P.decPs (List.map encP ps)) (P.rdV (P.decMs (List.map encM ms)) (P.decPs (List.map encP ps)) (P.decDs (Fd.dr l k))))}]))]]} (by kernel_rfl) ?_ (by rw[hwi,hdr,decMs_enc,decPs_enc,decDs_enc];rfl) hr
    refine⟨?_,?_,?_,?_,?_,?_,?_,?_,?_,?_,?_,?_,?_,?_,?_,?_,?_,?_,trivial⟩
    all_goals first|(simp;done)|(simp;omega)|(rw[dd_at l k hk];rfl)|exact hk0|exact hk1|exact hk2|exact eqB_self _|exact isPs_enc _|exact isMs_enc _|(rw[hdr];exact isDs_enc _)|(rw[hdr,List.length_map];exact decide_eq_true (by omega))|(rw[List.length_map];exact decide_eq_true (by omega))|(rw[decMs_enc];exact decide_eq_true hI.len)|(rw[decMs_enc];exact hI.okMs (by omega))|(rw[decMs_enc];exact hI.okMb)|(rw[decMs_enc];exact hI.okMt)|(rw[decPs_enc];exact hI.okEp (by omega))|(rw[decPs_enc];exact hI.okU)|exact decide_eq_true hI.set.keep|(rw[decMs_enc,decPs_enc,hdr,decDs_enc];exact he)|(rw[decMs_enc,decPs_enc,flatP hI.p0];simp;done)|(rw[decPs_enc,flatP hI.p0];rfl)|(rw[hd1,hd2,hd3,hd4];exact he)|done
   ·simp only[if_neg h0] at hr
    have he:=decide_eq_false h0;refine nextE U28_ok noL [(decide ((↑k:Int)<(↑(List.map encDd l).length:Int)),true),(((List.map encDd l).getD k V.undef).cells.length==6&&fitP [.int .i64,.int .i64,.int .i64,.int .i64,.int .i64,TK.slice 64] 0 ((List.map encDd l).getD k V.undef),true),(P.pick (Fd.dk l k 0) 3==0,true),(eqB (Fd.dr l k) (List.map encD (P.decDs (Fd.dr l k))),true),(decide ((Fd.dr l k).length<1099511627776),true),(eqB (encS4 s) (encS4 s),true),(eqB (List.map encP ps) (List.map encP (P.decPs (List.map encP ps))),true),(decide (0<(List.map encP ps).length),true),(decide ((List.map encP ps).length<1099511627776),true),(eqB (List.map encM ms) (List.map encM (P.decMs (List.map encM ms))),true),(decide ((List.map encM ms).length<1099511627776),true),(decide ((P.decMs (List.map encM ms)).length≤16),true),((P.decMs (List.map encM ms)).all fun m=>decide (-1000000000000000000≤m.2∧m.2≤1000000000000000000∧-1000000000000000000≤m.3∧m.3≤1000000000000000000),true),((P.decMs (List.map encM ms)).all fun m=>(m.7.all fun x=>decide (-1000000000≤x∧x≤1000000000))&&decide (m.7.length≤1000000),true),(decide (0≤(lst (P.decPs (List.map encP ps))).1∧(lst (P.decPs (List.map encP ps))).1≤1000000000000∧0≤s.3∧s.3≤100),true),((P.decMs (List.map encM ms)).all fun m=>decide (1≤m.4∧m.7.length≤1000000∧(m.nil=true→m.miss=[])),true),(decide (1≤s.4∧s.4≤30),true),(decide (P.rdE (P.decMs (List.map encM ms)) (P.decPs (List.map encP ps)) (P.decDs (Fd.dr l k))=0),false),((List.map encM (P.decMs (List.map encM ms))).all V.flat&&((List.map encP (P.decPs (List.map encP ps))).all V.flat&&true)&&true,false)] [2,0,2,3,0,4,5,6,0,1,5,6,7,8,9,10,11,12,13,14,15,16,17,18,19,0,1,20] {env:=[(0,V.ptr 1 0),(1,V.sl (zl) (List.map encDd l)),(4,.int .i64 (IntKind.i64.wrap ((↑k:Int)+1)))],heap:=[bS s,B.cells [V.ptr 0 0,V.ex 6 false (List.map encM (P.decMs (List.map encM ms))),V.ex 4 false (List.map encP (P.decPs (List.map encP ps)))]]} (by kernel_rfl) ?_ (by rw[hwi,decMs_enc,decPs_enc];rfl) hr
    refine⟨?_,?_,?_,?_,?_,?_,?_,?_,?_,?_,?_,?_,?_,?_,?_,?_,?_,?_,?_,trivial⟩
    all_goals first|(simp;done)|(simp;omega)|(rw[dd_at l k hk];rfl)|exact hk0|exact hk1|exact hk2|exact eqB_self _|exact isPs_enc _|exact isMs_enc _|(rw[hdr];exact isDs_enc _)|(rw[hdr,List.length_map];exact decide_eq_true (by omega))|(rw[List.length_map];exact decide_eq_true (by omega))|(rw[decMs_enc];exact decide_eq_true hI.len)|(rw[decMs_enc];exact hI.okMs (by omega))|(rw[decMs_enc];exact hI.okMb)|(rw[decMs_enc];exact hI.okMt)|(rw[decPs_enc];exact hI.okEp (by omega))|(rw[decPs_enc];exact hI.okU)|exact decide_eq_true hI.set.keep|(rw[decMs_enc,decPs_enc,hdr,decDs_enc];exact he)|(rw[decMs_enc,decPs_enc,flatP hI.p0];simp;done)|(rw[decPs_enc,flatP hI.p0];rfl)|(rw[hd1,hd2,hd3,hd4];exact he)|done
  | true =>
   obtain rfl:=hZ rfl
   rw[if_neg (by simp only;rw[rdE_nil];exact rd0_ne _ _)] at hr
   refine nextE U28_ok noL [(decide ((↑k:Int)<(↑(List.map encDd l).length:Int)),true),(((List.map encDd l).getD k V.undef).cells.length==6&&fitP [.int .i64,.int .i64,.int .i64,.int .i64,.int .i64,TK.slice 64] 0 ((List.map encDd l).getD k V.undef),true),(P.pick (Fd.dk l k 0) 3==0,true),(eqB (Fd.dr l k) (List.map encD (P.decDs (Fd.dr l k))),true),(decide ((Fd.dr l k).length<1099511627776),true),(eqB (encS4 s) (encS4 s),true),(eqB (List.map encP ps) (List.map encP (P.decPs (List.map encP ps))),true),(decide (0<(List.map encP ps).length),true),(decide ((List.map encP ps).length<1099511627776),true),((List.map encP (P.decPs (List.map encP ps))).all V.flat&&true&&true,false)] [2,0,2,3,0,4,5,6,0,1,5,6,7,8,9,10,0,1,11] {env:=[(0,V.ptr 1 0),(1,V.sl (zl) (List.map encDd l)),(4,.int .i64 (IntKind.i64.wrap ((↑k:Int)+1)))],heap:=[bS s,B.cells [V.ptr 0 0,V.sl true [],V.ex 4 false (List.map encP (P.decPs (List.map encP ps)))]]} (by kernel_rfl) ?_ (by rw[hwi,decPs_enc];rfl) hr
   refine⟨?_,?_,?_,?_,?_,?_,?_,?_,?_,?_,trivial⟩
   all_goals first|(simp;done)|(simp;omega)|(rw[dd_at l k hk];rfl)|exact hk0|exact hk1|exact hk2|exact eqB_self _|exact isPs_enc _|exact isMs_enc _|(rw[hdr];exact isDs_enc _)|(rw[hdr,List.length_map];exact decide_eq_true (by omega))|(rw[List.length_map];exact decide_eq_true (by omega))|(rw[decMs_enc];exact decide_eq_true hI.len)|(rw[decMs_enc];exact hI.okMs (by omega))|(rw[decMs_enc];exact hI.okMb)|(rw[decMs_enc];exact hI.okMt)|(rw[decPs_enc];exact hI.okEp (by omega))|(rw[decPs_enc];exact hI.okU)|exact decide_eq_true hI.set.keep|(rw[decMs_enc,decPs_enc,hdr,decDs_enc];exact he)|(rw[decMs_enc,decPs_enc,flatP hI.p0];simp;done)|(rw[decPs_enc,flatP hI.p0];rfl)|(rw[hd1,hd2,hd3,hd4];exact he)|done
 ·have hk0:(P.pick (Fd.dk l k 0) 3==0)=false:=by rw[hd0,hp];rfl
  have hk1:(P.pick (Fd.dk l k 0) 3==1)=true:=by rw[hd0,hp];rfl
  unfold P.deed at hr;rw[if_neg (by omega),if_pos hp] at hr
  cases z with
  | false =>
   simp only[Bool.false_and] at hr;refine nextE U28_ok noL [(decide ((↑k:Int)<(↑(List.map encDd l).length:Int)),true),(((List.map encDd l).getD k V.undef).cells.length==6&&fitP [.int .i64,.int .i64,.int .i64,.int .i64,.int .i64,TK.slice 64] 0 ((List.map encDd l).getD k V.undef),true),(P.pick (Fd.dk l k 0) 3==0,false),(P.pick (Fd.dk l k 0) 3==1,true),(eqB (encS4 s) (encS4 s),true),(eqB (List.map encP ps) (List.map encP (P.decPs (List.map encP ps))),true),(decide (0<(List.map encP ps).length),true),(decide ((List.map encP ps).length<1099511627776),true),(eqB (List.map encM ms) (List.map encM (P.decMs (List.map encM ms))),true),(decide ((List.map encM ms).length<1099511627776),true),(decide (-1000000000000000≤(lst (P.decPs (List.map encP ps))).2∧(lst (P.decPs (List.map encP ps))).2≤1000000000000000),true)] [2,0,2,3,0,4,5,0,1,6,7,8,9,10,11,12,0,1] {env:=[(0,V.ptr 1 0),(1,V.sl (zl) (List.map encDd l)),(4,.int .i64 (IntKind.i64.wrap ((↑k:Int)+1)))],heap:=[bS s,B.cells [V.ptr 0 0,V.ex 6 false (List.map encM (P.enM (P.decMs (List.map encM ms)) (P.decPs (List.map encP ps)) (Fd.dk l k 1) (Fd.dk l k 2) (Fd.dk l k 3) (Fd.dk l k 4))),V.ex 4 false (List.map encP (P.decPs (List.map encP ps)))]]} (by kernel_rfl) ?_ (by rw[hwi,hd1,hd2,hd3,hd4,decMs_enc,decPs_enc];rfl) hr
   refine⟨?_,?_,?_,?_,?_,?_,?_,?_,?_,?_,?_,trivial⟩
   all_goals first|(simp;done)|(simp;omega)|(rw[dd_at l k hk];rfl)|exact hk0|exact hk1|exact hk2|exact eqB_self _|exact isPs_enc _|exact isMs_enc _|(rw[hdr];exact isDs_enc _)|(rw[hdr,List.length_map];exact decide_eq_true (by omega))|(rw[List.length_map];exact decide_eq_true (by omega))|(rw[decMs_enc];exact decide_eq_true hI.len)|(rw[decMs_enc];exact hI.okMs (by omega))|(rw[decMs_enc];exact hI.okMb)|(rw[decMs_enc];exact hI.okMt)|(rw[decPs_enc];exact hI.okEp (by omega))|(rw[decPs_enc];exact hI.okU)|exact decide_eq_true hI.set.keep|(rw[decMs_enc,decPs_enc,hdr,decDs_enc];exact he)|(rw[decMs_enc,decPs_enc,flatP hI.p0];simp;done)|(rw[decPs_enc,flatP hI.p0];rfl)|(rw[hd1,hd2,hd3,hd4];exact he)|done
  | true =>
   obtain rfl:=hZ rfl
   simp only[Bool.true_and] at hr;by_cases h0:P.enE [] l[k].id l[k].diff l[k].rate l[k].mem=0
   ·have he:=decide_eq_true h0
    have hne:(P.enM [] ps l[k].id l[k].diff l[k].rate l[k].mem).isEmpty=false:=by unfold P.enM;rw[if_pos h0];rfl
    rw[hne] at hr;refine nextE U28_ok noL [(decide ((↑k:Int)<(↑(List.map encDd l).length:Int)),true),(((List.map encDd l).getD k V.undef).cells.length==6&&fitP [.int .i64,.int .i64,.int .i64,.int .i64,.int .i64,TK.slice 64] 0 ((List.map encDd l).getD k V.undef),true),(P.pick (Fd.dk l k 0) 3==0,false),(P.pick (Fd.dk l k 0) 3==1,true),(eqB (encS4 s) (encS4 s),true),(eqB (List.map encP ps) (List.map encP (P.decPs (List.map encP ps))),true),(decide (0<(List.map encP ps).length),true),(decide ((List.map encP ps).length<1099511627776),true),(decide (-1000000000000000≤(lst (P.decPs (List.map encP ps))).2∧(lst (P.decPs (List.map encP ps))).2≤1000000000000000),true),(decide (P.enE [] (Fd.dk l k 1) (Fd.dk l k 2) (Fd.dk l k 3) (Fd.dk l k 4)=0),true)] [2,0,2,3,0,4,5,0,1,6,7,8,9,10,11,0,1] {env:=[(0,V.ptr 1 0),(1,V.sl (zl) (List.map encDd l)),(4,.int .i64 (IntKind.i64.wrap ((↑k:Int)+1)))],heap:=[bS s,B.cells [V.ptr 0 0,V.ex 6 false (List.map encM (P.enM [] (P.decPs (List.map encP ps)) (Fd.dk l k 1) (Fd.dk l k 2) (Fd.dk l k 3) (Fd.dk l k 4))),V.ex 4 false (List.map encP (P.decPs (List.map encP ps)))]]} (by kernel_rfl) ?_ (by rw[hwi,hd1,hd2,hd3,hd4,decPs_enc];rfl) hr
    refine⟨?_,?_,?_,?_,?_,?_,?_,?_,?_,?_,trivial⟩
    all_goals first|(simp;done)|(simp;omega)|(rw[dd_at l k hk];rfl)|exact hk0|exact hk1|exact hk2|exact eqB_self _|exact isPs_enc _|exact isMs_enc _|(rw[hdr];exact isDs_enc _)|(rw[hdr,List.length_map];exact decide_eq_true (by omega))|(rw[List.length_map];exact decide_eq_true (by omega))|(rw[decMs_enc];exact decide_eq_true hI.len)|(rw[decMs_enc];exact hI.okMs (by omega))|(rw[decMs_enc];exact hI.okMb)|(rw[decMs_enc];exact hI.okMt)|(rw[decPs_enc];exact hI.okEp (by omega))|(rw[decPs_enc];exact hI.okU)|exact decide_eq_true hI.set.keep|(rw[decMs_enc,decPs_enc,hdr,decDs_enc];exact he)|(rw[decMs_enc,decPs_enc,flatP hI.p0];simp;done)|(rw[decPs_enc,flatP hI.p0];rfl)|(rw[hd1,hd2,hd3,hd4];exact he)|done
   ·have he:=decide_eq_false h0
    have hne:(P.enM [] ps l[k].id l[k].diff l[k].rate l[k].mem)=[]:=by unfold P.enM;rw[if_neg h0]
    rw[hne] at hr;refine nextE U28_ok noL [(decide ((↑k:Int)<(↑(List.map encDd l).length:Int)),true),(((List.map encDd l).getD k V.undef).cells.length==6&&fitP [.int .i64,.int .i64,.int .i64,.int .i64,.int .i64,TK.slice 64] 0 ((List.map encDd l).getD k V.undef),true),(P.pick (Fd.dk l k 0) 3==0,false),(P.pick (Fd.dk l k 0) 3==1,true),(eqB (encS4 s) (encS4 s),true),(eqB (List.map encP ps) (List.map encP (P.decPs (List.map encP ps))),true),(decide (0<(List.map encP ps).length),true),(decide ((List.map encP ps).length<1099511627776),true),(decide (-1000000000000000≤(lst (P.decPs (List.map encP ps))).2∧(lst (P.decPs (List.map encP ps))).2≤1000000000000000),true),(decide (P.enE [] (Fd.dk l k 1) (Fd.dk l k 2) (Fd.dk l k 3) (Fd.dk l k 4)=0),false)] [2,0,2,3,0,4,5,0,1,6,7,8,9,10,11,0,1] {env:=[(0,V.ptr 1 0),(1,V.sl (zl) (List.map encDd l)),(4,.int .i64 (IntKind.i64.wrap ((↑k:Int)+1)))],heap:=[bS s,B.cells [V.ptr 0 0,V.sl true [],V.ex 4 false (List.map encP (P.decPs (List.map encP ps)))]]} (by kernel_rfl) ?_ (by rw[hwi,decPs_enc];rfl) hr
    refine⟨?_,?_,?_,?_,?_,?_,?_,?_,?_,?_,trivial⟩
    all_goals first|(simp;done)|(simp;omega)|(rw[dd_at l k hk];rfl)|exact hk0|exact hk1|exact hk2|exact eqB_self _|exact isPs_enc _|exact isMs_enc _|(rw[hdr];exact isDs_enc _)|(rw[hdr,List.length_map];exact decide_eq_true (by omega))|(rw[List.length_map];exact decide_eq_true (by omega))|(rw[decMs_enc];exact decide_eq_true hI.len)|(rw[decMs_enc];exact hI.okMs (by omega))|(rw[decMs_enc];exact hI.okMb)|(rw[decMs_enc];exact hI.okMt)|(rw[decPs_enc];exact hI.okEp (by omega))|(rw[decPs_enc];exact hI.okU)|exact decide_eq_true hI.set.keep|(rw[decMs_enc,decPs_enc,hdr,decDs_enc];exact he)|(rw[decMs_enc,decPs_enc,flatP hI.p0];simp;done)|(rw[decPs_enc,flatP hI.p0];rfl)|(rw[hd1,hd2,hd3,hd4];exact he)|done
 ·have hk0:(P.pick (Fd.dk l k 0) 3==0)=false:=by rw[hd0,hp];rfl
  have hk1:(P.pick (Fd.dk l k 0) 3==1)=false:=by rw[hd0,hp];rfl
  have hk2:(P.pick (Fd.dk l k 0) 3==2)=true:=by rw[hd0,hp];rfl
  unfold P.deed at hr;rw[if_neg (by omega),if_neg (by omega),if_pos hp] at hr
  cases z with
  | false =>
   refine nextE U28_ok noL [(decide ((↑k:Int)<(↑(List.map encDd l).length:Int)),true),(((List.map encDd l).getD k V.undef).cells.length==6&&fitP [.int .i64,.int .i64,.int .i64,.int .i64,.int .i64,TK.slice 64] 0 ((List.map encDd l).getD k V.undef),true),(P.pick (Fd.dk l k 0) 3==0,false),(P.pick (Fd.dk l k 0) 3==1,false),(P.pick (Fd.dk l k 0) 3==2,true),(eqB (encS4 s) (encS4 s),true),(eqB (List.map encP ps) (List.map encP (P.decPs (List.map encP ps))),true),(decide (0<(List.map encP ps).length),true),(decide ((List.map encP ps).length<1099511627776),true),(eqB (List.map encM ms) (List.map encM (P.decMs (List.map encM ms))),true),(decide ((List.map encM ms).length<1099511627776),true)] [2,0,2,3,0,4,5,6,0,1,7,8,9,10,11,12,0,1] {env:=[(0,V.ptr 1 0),(1,V.sl (zl) (List.map encDd l)),(4,.int .i64 (IntKind.i64.wrap ((↑k:Int)+1)))],heap:=[bS s,B.cells [V.ptr 0 0,V.ex 6 false (List.map encM (P.leM (P.decMs (List.map encM ms)) (Fd.dk l k 1))),V.ex 4 false (List.map encP (P.decPs (List.map encP ps)))]]} (by kernel_rfl) ?_ (by rw[hwi,hd1,decMs_enc,decPs_enc];rfl) hr
   refine⟨?_,?_,?_,?_,?_,?_,?_,?_,?_,?_,?_,trivial⟩
   all_goals first|(simp;done)|(simp;omega)|(rw[dd_at l k hk];rfl)|exact hk0|exact hk1|exact hk2|exact eqB_self _|exact isPs_enc _|exact isMs_enc _|(rw[hdr];exact isDs_enc _)|(rw[hdr,List.length_map];exact decide_eq_true (by omega))|(rw[List.length_map];exact decide_eq_true (by omega))|(rw[decMs_enc];exact decide_eq_true hI.len)|(rw[decMs_enc];exact hI.okMs (by omega))|(rw[decMs_enc];exact hI.okMb)|(rw[decMs_enc];exact hI.okMt)|(rw[decPs_enc];exact hI.okEp (by omega))|(rw[decPs_enc];exact hI.okU)|exact decide_eq_true hI.set.keep|(rw[decMs_enc,decPs_enc,hdr,decDs_enc];exact he)|(rw[decMs_enc,decPs_enc,flatP hI.p0];simp;done)|(rw[decPs_enc,flatP hI.p0];rfl)|(rw[hd1,hd2,hd3,hd4];exact he)|done
  | true =>
   obtain rfl:=hZ rfl
   refine nextE U28_ok noL [(decide ((↑k:Int)<(↑(List.map encDd l).length:Int)),true),(((List.map encDd l).getD k V.undef).cells.length==6&&fitP [.int .i64,.int .i64,.int .i64,.int .i64,.int .i64,TK.slice 64] 0 ((List.map encDd l).getD k V.undef),true),(P.pick (Fd.dk l k 0) 3==0,false),(P.pick (Fd.dk l k 0) 3==1,false),(P.pick (Fd.dk l k 0) 3==2,true),(eqB (encS4 s) (encS4 s),true),(eqB (List.map encP ps) (List.map encP (P.decPs (List.map encP ps))),true),(decide (0<(List.map encP ps).length),true),(decide ((List.map encP ps).length<1099511627776),true)] [2,0,2,3,0,4,5,6,0,1,7,8,9,10,0,1] {env:=[(0,V.ptr 1 0),(1,V.sl (zl) (List.map encDd l)),(4,.int .i64 (IntKind.i64.wrap ((↑k:Int)+1)))],heap:=[bS s,bE ps]} (by kernel_rfl) ?_ (by rw[hwi];rfl) hr
   refine⟨?_,?_,?_,?_,?_,?_,?_,?_,?_,trivial⟩
   all_goals first|(simp;done)|(simp;omega)|(rw[dd_at l k hk];rfl)|exact hk0|exact hk1|exact hk2|exact eqB_self _|exact isPs_enc _|exact isMs_enc _|(rw[hdr];exact isDs_enc _)|(rw[hdr,List.length_map];exact decide_eq_true (by omega))|(rw[List.length_map];exact decide_eq_true (by omega))|(rw[decMs_enc];exact decide_eq_true hI.len)|(rw[decMs_enc];exact hI.okMs (by omega))|(rw[decMs_enc];exact hI.okMb)|(rw[decMs_enc];exact hI.okMt)|(rw[decPs_enc];exact hI.okEp (by omega))|(rw[decPs_enc];exact hI.okU)|exact decide_eq_true hI.set.keep|(rw[decMs_enc,decPs_enc,hdr,decDs_enc];exact he)|(rw[decMs_enc,decPs_enc,flatP hI.p0];simp;done)|(rw[decPs_enc,flatP hI.p0];rfl)|(rw[hd1,hd2,hd3,hd4];exact he)|done
theorem run_loop (s:Set4) (zl:Bool) (l:List Dd) (hl:l.length≤10000) (hrd:∀ d∈l,d.rds.length<2 ^ 40):∀ (d k n:Nat) (x:Sc),k+d=l.length→InvS s x n→n+d≤20000 →
  LRuns (vstep T (vlim T F) lplim fi44.cx 2 (lb fi44 0)) (rnS s (bX x) zl l k) (.exit 0,⟨(rnS s (bX x) zl l l.length).env++[(9,.bool false)],[bS s,bX (P.run s x (l.drop k))]⟩)
 | 0,k,n,x,hd,hX,hn=>by
  have hk:k=l.length:=by omega
  subst hk;rw[List.drop_length];obtain⟨z,ms,ps⟩:=x;cases z with
  | false=>refine lastE U28_ok noL [(decide ((↑(l.length):Int)<(↑(List.map encDd l).length:Int)),false)] [2] (Ex.exit 0,{env:=[(0,V.ptr 1 0),(1,V.sl (zl) (List.map encDd l)),(4,.int .i64 (↑(l.length):Int)),(9,V.bool (decide ((↑(l.length):Int)<(↑(List.map encDd l).length:Int))))],heap:=[bS s,bD ms ps]}) (by kernel_rfl) (by simp) ⟨by simp,trivial⟩ (by simp[rnS,bX,bS,bD,P.run])
  | true=>refine lastE U28_ok noL [(decide ((↑(l.length):Int)<(↑(List.map encDd l).length:Int)),false)] [2] (Ex.exit 0,{env:=[(0,V.ptr 1 0),(1,V.sl (zl) (List.map encDd l)),(4,.int .i64 (↑(l.length):Int)),(9,V.bool (decide ((↑(l.length):Int)<(↑(List.map encDd l).length:Int))))],heap:=[bS s,bE ps]}) (by kernel_rfl) (by simp) ⟨by simp,trivial⟩ (by simp[rnS,bX,bS,bE,P.run])
 | d+1,k,n,x,hd,hX,hn=>by
  have hk:k<l.length:=by omega
  have ih:=run_loop s zl l hl hrd d (k+1) (n+1) (P.deed s x l[k]) (by omega) (hX.deed l[k]) (by omega)
  rw[List.drop_eq_getElem_cons hk];exact rn_step s x zl l k n hk (by omega) hX (by omega) (hrd _ (List.getElem_mem hk)) ih
end Go.Proofs.Ytnijkhcmjpfjeaa
