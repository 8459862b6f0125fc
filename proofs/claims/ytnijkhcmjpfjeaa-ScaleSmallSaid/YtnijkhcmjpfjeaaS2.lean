/- S2: shares are sorted by what is left over. -/
import Derived.Test.YtnijkhcmjpfjeaaS1
namespace Go.Proofs.Ytnijkhcmjpfjeaa
open Go Go.Vm
structure Shr where
 at_:Int
 part:Int
 rest:Int
def encR (s:Shr):V:=.agg [.int .i64 s.at_,.int .i64 s.part,.int .i64 s.rest]
namespace P
def flat (d:List Shr):List V:=(d.map encR).flatMap V.cells
end P
def Fd.at3 (cs:List V) (j:Nat):Int:=intOf (fld j (.agg cs))
theorem flat_cons (x:Shr) (d:List Shr):P.flat (x::d)=.int .i64 x.at_::.int .i64 x.part::.int .i64 x.rest::P.flat d:=rfl
theorem flat_length:∀ d:List Shr,(P.flat d).length=d.length*3
 | []=>rfl
 | x::d=>by rw[flat_cons];simp only[List.length_cons,flat_length d];omega
theorem flat_at:∀ (d:List Shr) (k:Nat) (h:k<d.length),(P.flat d).getD (k*3) .undef=.int .i64 d[k].at_∧(P.flat d).getD (k*3+1) .undef=.int .i64 d[k].part∧(P.flat d).getD (k*3+1+1) .undef=.int .i64 d[k].rest
 | x::d,0,_=>⟨rfl,rfl,rfl⟩
 | x::d,k+1,h=>by
  obtain⟨h1,h2,h3⟩:=flat_at d k (by simpa using h)
  rw[flat_cons,Nat.succ_mul];exact⟨h1,h2,h3⟩
theorem flat_spec (d:List Shr):specB (P.flat d)=false:=by
 cases d with
 | nil=>rfl
 | cons x d=>rfl
theorem flat_dat:∀ d:List Shr,(P.flat d).all cellDat=true
 | []=>rfl
 | x::d=>by rw[flat_cons];simp only[List.all_cons,cellDat,Bool.true_and];exact flat_dat d
theorem flat_fit (d:List Shr) (k:Nat) (h:k<d.length):fitP [.int .i64,.int .i64,.int .i64] (k*3) (V.agg (P.flat d))=true:=by
 obtain⟨h1,h2,h3⟩:=flat_at d k h;simp only[fitP,fld,V.cells];rw[h1,h2,h3];rfl
theorem at3_at (d:List Shr) (k:Nat) (h:k<d.length):Fd.at3 (P.flat d) (k*3)=d[k].at_∧Fd.at3 (P.flat d) (k*3+1)=d[k].part∧Fd.at3 (P.flat d) (k*3+1+1)=d[k].rest:=by
 obtain⟨h1,h2,h3⟩:=flat_at d k h;simp only[Fd.at3,fld,V.cells];rw[h1,h2,h3];exact⟨rfl,rfl,rfl⟩
theorem setCells_succ (x:V):∀ (vs t:List V) (off:Nat),setCells (x::t) (off+1) vs=x::setCells t off vs
 | [],_,_=>rfl
 | v::vs,t,off=>by simp only[setCells,List.set_cons_succ];exact setCells_succ x vs _ _
theorem flat_set:∀ (d:List Shr) (k:Nat) (s:Shr),k<d.length→setCells (P.flat d) (k*3) [.int .i64 s.at_,.int .i64 s.part,.int .i64 s.rest]=P.flat (d.set k s)
 | x::d,0,s,_=>rfl
 | x::d,k+1,s,h=>by
  have ih:=flat_set d k s (by simpa using h)
  rw[flat_cons,Nat.succ_mul,List.set_cons_succ,flat_cons,←ih];rw[show k*3+3=k*3+1+1+1 by omega,setCells_succ,setCells_succ,setCells_succ]
def sw (d:List Shr) (j:Nat):List Shr:=match d[j]?,d[j+1]? with
 | some y,some x=>(d.set (j+1) y).set j x
 | _,_=>d
theorem sw_length (d:List Shr) (j:Nat):(sw d j).length=d.length:=by unfold sw;split<;>simp
namespace P
def ins:List Shr→Nat→List Shr
 | d,0=>d
 | d,j+1=>match d[j]?,d[j+1]? with
  | some y,some x=>if y.rest<x.rest then ins (sw d j) j else d
  | _,_=>d
def isort:List Shr→Nat→Nat→List Shr
 | d,_,0=>d
 | d,i,m+1=>isort (ins d i) (i+1) m
end P
theorem ins_length:∀ (j:Nat) (d:List Shr),(P.ins d j).length=d.length
 | 0,d=>rfl
 | j+1,d=>by
  unfold P.ins;split
  ·split
   ·rw[ins_length j,sw_length]
   ·rfl
  ·rfl
def OkR (d:List Shr):Prop:=∀ s∈d,0≤s.rest∧s.rest≤2000000000000
theorem sw_mem {d:List Shr} {j:Nat} {s:Shr} (h:s∈sw d j):s∈d:=by
 unfold sw at h;split at h
 ·rename_i y x hy hx
  rcases List.mem_or_eq_of_mem_set h with h | rfl
  ·rcases List.mem_or_eq_of_mem_set h with h | rfl
   ·exact h
   ·exact List.mem_of_getElem? hy
  ·exact List.mem_of_getElem? hx
 ·exact h
theorem OkR.sw {d:List Shr} (h:OkR d) (j:Nat):OkR (sw d j):=fun s hs=>h s (sw_mem hs)
theorem OkR.ins:∀ (j:Nat) {d:List Shr},OkR d→OkR (P.ins d j)
 | 0,d,h=>h
 | j+1,d,h=>by
  unfold P.ins;split
  ·split
   ·exact OkR.ins j (h.sw j)
   ·exact h
  ·exact h
def iSt (n:Nat) (i:Int) (d:List Shr):St:=⟨[(0,.ref (.arr n) 0),(1,.int .i64 0),(2,.int .i64 n),(3,.clo (.func 41) [] []),(8,.int .i64 i)],[.cells (P.flat d)]⟩
def jSt (n:Nat) (i j:Int) (d:List Shr):St:=⟨[(0,.ref (.arr n) 0),(1,.int .i64 0),(2,.int .i64 n),(3,.clo (.func 41) [] []),(8,.int .i64 i),(9,.int .i64 j)],[.cells (P.flat d)]⟩
theorem j_state (n i:Nat) (d:List Shr) (m:Nat) (hj:m+1<d.length):(⟨[(0,V.ref (RK.arr n) 0),(1,.int .i64 0),(2,.int .i64 (n:Int)),(3,V.clo (Fn.func 41) [] []),(8,.int .i64 (i:Int)),(9,.int .i64 (m:Int))],
  [B.cells (setCells (setCells (P.flat d) ((m+1)*3) [.int .i64 (Fd.at3 (P.flat d) (m*3)),.int .i64 (Fd.at3 (P.flat d) (m*3+1)),.int .i64 (Fd.at3 (P.flat d) (m*3+1+1))]) (m*3)
   [.int .i64 (Fd.at3 (P.flat d) ((m+1)*3)),.int .i64 (Fd.at3 (P.flat d) ((m+1)*3+1)),.int .i64 (Fd.at3 (P.flat d) ((m+1)*3+1+1))])]⟩:St)=jSt n i m (sw d m):=by
 obtain⟨a1,a2,a3⟩:=at3_at d (m+1) hj;obtain⟨b1,b2,b3⟩:=at3_at d m (by omega)
 have e1:d[m]?=some d[m]:=List.getElem?_eq_getElem (by omega)
 have e2:d[m+1]?=some d[m+1]:=List.getElem?_eq_getElem hj;rw[a1,a2,a3,b1,b2,b3,flat_set d (m+1) d[m] hj,flat_set _ m d[m+1] (by simp;omega)]
 unfold jSt sw;rw[e1,e2]
theorem q_loop (n i:Nat):∀ (m j:Nat) (d:List Shr),j=m→j<d.length→n=d.length→n<2 ^ 40→OkR d→∃ jf:Int,LRuns (vstep T (vlim T F) lplim fi74.cx 1 (lb fi74 1)) (jSt n i j d) (.exit 2,⟨(jSt n i jf d).env++[(34,.bool false)],[.cells (P.flat (P.ins d m))]⟩)
 | 0,j,d,hm,hj,hn,hs,ho=>by
  subst hm;refine⟨0,?_⟩;exact LRuns.last (F:=F) Y_ok (sh:=Sh) (L:=fun _ _=>.fail) (LGood.none (by kernel_rfl)) [(decide (((0:Nat):Int)>0),false)] [2,2,2,2,2,2,2,2,2,2,2,2,2,1] (by kernel_rfl) (by simp) ⟨by simp,trivial⟩
 | m+1,j,d,hm,hj,hn,hs,ho=>by
  have hw:IntKind.i64.wrap ((j:Int)-1)=((m:Nat):Int):=by rw[i64in (by omega) (by omega)];omega
  have ht:(IntKind.i64.wrap ((j:Int)-1)).toNat=m:=by rw[hw];simp
  obtain⟨a1,a2,a3⟩:=at3_at d j hj;obtain⟨b1,b2,b3⟩:=at3_at d m (by omega)
  have r1:=ho d[j] (List.getElem_mem _);have r2:=ho d[m] (List.getElem_mem _);have e1:d[m]?=some d[m]:=List.getElem?_eq_getElem (by omega)
  have e2:d[m+1]?=some d[j]:=by rw[←hm];exact List.getElem?_eq_getElem hj
  have hc:IntKind.i64.wrap (Fd.at3 (P.flat d) ((IntKind.i64.wrap ((j:Int)-1)).toNat*3+1+1)-Fd.at3 (P.flat d) (j*3+1+1))=d[m].rest-d[j].rest:=by
   rw[ht,b3,a3,i64in (by omega) (by omega)]
  have hl:(setCells (P.flat d) (j*3) [.int .i64 (Fd.at3 (P.flat d) ((IntKind.i64.wrap ((j:Int)-1)).toNat*3)),.int .i64 (Fd.at3 (P.flat d) ((IntKind.i64.wrap ((j:Int)-1)).toNat*3+1)),.int .i64 (Fd.at3 (P.flat d) ((IntKind.i64.wrap ((j:Int)-1)).toNat*3+1+1))])=P.flat (d.set j d[m]):=by
   rw[ht,b1,b2,b3,flat_set d j d[m] hj]
  have hins:P.ins d (m+1)=if d[m].rest<d[j].rest then P.ins (sw d m) m else d:=by
   conv=>lhs;unfold P.ins
   rw[e1,e2]
  rw[hins];by_cases hx:d[m].rest<d[j].rest
  ·rw[if_pos hx]
   obtain⟨jf,ih⟩:=q_loop n i m m (sw d m) rfl (by rw[sw_length];omega) (by rw[sw_length];exact hn) hs (ho.sw m)
   refine⟨jf,LRuns.next (F:=F) Y_ok (sh:=Sh) (L:=fun _ _=>.fail) (LGood.none (by kernel_rfl)) [(decide ((↑j:Int)>0),true),(decide ((↑j:Int)<(↑n:Int)),true),(!specB (P.flat d),true),(fitP [.int .i64,.int .i64,.int .i64] (j*3) (V.agg (P.flat d)),true),(decide (0≤IntKind.i64.wrap ((↑j:Int)-1)),true),(decide (IntKind.i64.wrap ((↑j:Int)-1)<(↑n:Int)),true),(fitP [.int .i64,.int .i64,.int .i64] ((IntKind.i64.wrap ((↑j:Int)-1)).toNat*3) (V.agg (P.flat d)),true),(decide (IntKind.i64.wrap (Fd.at3 (P.flat d) ((IntKind.i64.wrap ((↑j:Int)-1)).toNat*3+1+1)-Fd.at3 (P.flat d) (j*3+1+1))<0),true),(decide (j*3+3≤(P.flat d).length),true),(!specB (setCells (P.flat d) (j*3) [.int .i64 (Fd.at3 (P.flat d) ((IntKind.i64.wrap ((↑j:Int)-1)).toNat*3)),.int .i64 (Fd.at3 (P.flat d) ((IntKind.i64.wrap ((↑j:Int)-1)).toNat*3+1)),.int .i64 (Fd.at3 (P.flat d) ((IntKind.i64.wrap ((↑j:Int)-1)).toNat*3+1+1))]),true),(decide ((IntKind.i64.wrap ((↑j:Int)-1)).toNat*3+3≤(setCells (P.flat d) (j*3) [.int .i64 (Fd.at3 (P.flat d) ((IntKind.i64.wrap ((↑j:Int)-1)).toNat*3)),.int .i64 (Fd.at3 (P.flat d) ((IntKind.i64.wrap ((↑j:Int)-1)).toNat*3+1)),.int .i64 (Fd.at3 (P.flat d) ((IntKind.i64.wrap ((↑j:Int)-1)).toNat*3+1+1))]).length),true)] [2,2,2,2,0,3,2,4,5,2,2,2,2,6,7,2,4,8,2,2,2,9,6,7,4,8,0,3,4,5,0,3,4,10,6,7,11,12] (τ':={env:=[(0,V.ref (RK.arr n) 0),(1,.int .i64 0),(2,.int .i64 (↑n:Int)),(3,V.clo (Fn.func 41) [] []),(8,.int .i64 (↑i:Int)),(9,.int .i64 (IntKind.i64.wrap ((↑j:Int)-1)))],heap:=[B.cells (setCells (setCells (P.flat d) (j*3) [.int .i64 (Fd.at3 (P.flat d) ((IntKind.i64.wrap ((↑j:Int)-1)).toNat*3)),.int .i64 (Fd.at3 (P.flat d) ((IntKind.i64.wrap ((↑j:Int)-1)).toNat*3+1)),.int .i64 (Fd.at3 (P.flat d) ((IntKind.i64.wrap ((↑j:Int)-1)).toNat*3+1+1))]) ((IntKind.i64.wrap ((↑j:Int)-1)).toNat*3) [.int .i64 (Fd.at3 (P.flat d) (j*3)),.int .i64 (Fd.at3 (P.flat d) (j*3+1)),.int .i64 (Fd.at3 (P.flat d) (j*3+1+1))])]}) (by kernel_rfl) ⟨by simp;omega,by simp;omega,by rw[flat_spec];rfl,flat_fit d j hj,by rw[hw];simp,by rw[hw];simp;omega,by rw[ht];exact flat_fit d m (by omega),by rw[hc];simp;omega,by rw[flat_length];simp;omega,
    (by first | (rw[hl,flat_spec];rfl) | (show (!specB (setCells (P.flat d) (j*3) _))=true;erw[hl,flat_spec];rfl)),by rw[hl,flat_length,ht];simp;omega,trivial⟩ ?_⟩
   rw[ht,hw];subst hm;rw[j_state n i d m hj];exact ih
  ·rw[if_neg hx]
   refine⟨j,?_⟩;have:=LRuns.last (F:=F) Y_ok (sh:=Sh) (L:=fun _ _=>.fail) (n:=1) (b:=lb fi74 1) (cx:=fi74.cx) (τ:=jSt n i j d) (LGood.none (by kernel_rfl)) [(decide ((↑j:Int)>0),true),(decide ((↑j:Int)<(↑n:Int)),true),(!specB (P.flat d),true),(fitP [.int .i64,.int .i64,.int .i64] (j*3) (V.agg (P.flat d)),true),(decide (0≤IntKind.i64.wrap ((↑j:Int)-1)),true),(decide (IntKind.i64.wrap ((↑j:Int)-1)<(↑n:Int)),true),(fitP [.int .i64,.int .i64,.int .i64] ((IntKind.i64.wrap ((↑j:Int)-1)).toNat*3) (V.agg (P.flat d)),true),(decide (IntKind.i64.wrap (Fd.at3 (P.flat d) ((IntKind.i64.wrap ((↑j:Int)-1)).toNat*3+1+1)-Fd.at3 (P.flat d) (j*3+1+1))<0),false)] [2,2,2,2,0,3,2,4,5,2,2,2,2,6,7,2,4,8,2,2,2,9] (r:=(Ex.exit 2,{env:=[(0,V.ref (RK.arr n) 0),(1,.int .i64 0),(2,.int .i64 (↑n:Int)),(3,V.clo (Fn.func 41) [] []),(8,.int .i64 (↑i:Int)),(9,.int .i64 (↑j:Int)),(34,V.bool (decide (IntKind.i64.wrap (Fd.at3 (P.flat d) ((IntKind.i64.wrap ((↑j:Int)-1)).toNat*3+1+1)-Fd.at3 (P.flat d) (j*3+1+1))<0)))],heap:=[B.cells (P.flat d)]})) (by kernel_rfl) (by simp) ⟨by simp;omega,by simp;omega,by rw[flat_spec];rfl,flat_fit d j hj,by rw[hw];simp,by rw[hw];simp;omega,by rw[ht];exact flat_fit d m (by omega),by rw[hc];simp;omega,trivial⟩
   rw[hc,decide_eq_false (by omega)] at this
   exact this
end Go.Proofs.Ytnijkhcmjpfjeaa
