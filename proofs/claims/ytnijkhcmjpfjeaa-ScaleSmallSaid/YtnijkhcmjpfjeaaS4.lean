/- S4: the apportionment. -/
import Derived.Test.YtnijkhcmjpfjeaaS3
namespace Go.Proofs.Ytnijkhcmjpfjeaa
open Go Go.Vm
namespace P
def cnt:List Bool→Int
 | []=>0
 | b::f=>(if b then 1 else 0)+cnt f
def sml:List Int→List Bool→Int
 | x::l,b::f=>(if b then 0 else x)+sml l f
 | _,_=>0
def stp (m w o:Int) (l:List Int):Nat→Nat→List Bool→Bool→List Bool×Bool
 | _,0,f,g=>(f,g)
 | i,d+1,f,g=>if f.getD i true=false∧w*l.getD i 0>m*o then stp m w o l (i+1) d (f.set i true) true else stp m w o l (i+1) d f g
end P
theorem cnt_le:∀ f:List Bool,0≤P.cnt f∧P.cnt f≤f.length
 | []=>⟨by simp[P.cnt],by simp[P.cnt]⟩
 | b::f=>by
  have:=cnt_le f
  cases b<;>simp only[P.cnt,List.length_cons,if_true,Bool.false_eq_true,if_false]<;>omega
theorem cnt_set:∀ (f:List Bool) (i:Nat),f.getD i true=false→P.cnt (f.set i true)=P.cnt f+1
 | [],i,h=>by simp at h
 | b::f,0,h=>by
  have h:b=false:=by simpa using h
  subst h;simp only[List.set_cons_zero,P.cnt,if_true,Bool.false_eq_true,if_false];omega
 | b::f,i+1,h=>by
  have:=cnt_set f i (by simpa using h)
  simp only[List.set_cons_succ,P.cnt,this];omega
def pwP (l:List Int):Prop:=∀ x∈l,1≤x∧x≤100000000000
theorem pw_iff {l:List Int}:P.pw l=true↔pwP l:=by simp[P.pw,pwP]
theorem sm_le:∀ (l:List Int) (f:List Bool),pwP l→0≤P.sml l f∧P.sml l f≤l.length*100000000000
 | [],f,h=>by simp[P.sml]
 | x::l,[],h=>by simp only[P.sml,List.length_cons];omega
 | x::l,b::f,h=>by
  have:=sm_le l f (fun y hy=>h y (by simp[hy]))
  have:=h x (by simp)
  cases b<;>simp only[P.sml,List.length_cons,if_true,Bool.false_eq_true,if_false]<;>omega
theorem sm_set:∀ (l:List Int) (f:List Bool) (i:Nat) (h:i<l.length),f.getD i true=false→P.sml l (f.set i true)=P.sml l f-l[i]
 | x::l,[],i,h,hf=>by simp at hf
 | x::l,b::f,0,h,hf=>by
  have hf:b=false:=by simpa using hf
  subst hf;simp only[List.set_cons_zero,P.sml,if_true,Bool.false_eq_true,if_false,List.getElem_cons_zero];omega
 | x::l,b::f,i+1,h,hf=>by
  have:=sm_set l f i (by simpa using h) (by simpa using hf)
  simp only[List.set_cons_succ,P.sml,this,List.getElem_cons_succ];omega
theorem stp_length (m w o:Int) (l:List Int):∀ (d i:Nat) (f:List Bool) (g:Bool),(P.stp m w o l i d f g).1.length=f.length
 | 0,_,_,_=>rfl
 | d+1,i,f,g=>by
  unfold P.stp;split
  ·rw[stp_length];simp
  ·rw[stp_length]
def encB (b:Bool):V:=.bool b
def uSt (n:Bool) (l:List Int) (f:List Bool) (t m s i:Int):St:=⟨[(0,.sl n (l.map encI)),(2,.int .i64 m),(8,.ex 1 false (f.map encB)),(9,.int .i64 t),(10,.int .i64 s),(54,.sl n (l.map encI)),(55,.int .i64 l.length),(56,.int .i64 i)],[]⟩
def aSt (n:Bool) (l:List Int) (f:List Bool) (m t s:Int) (g:Bool):St:=⟨[(0,.sl n (l.map encI)),(2,.int .i64 m),(8,.ex 1 false (f.map encB)),(9,.int .i64 t),(10,.int .i64 s),(13,.bool g)],[]⟩
def bSt (n:Bool) (l:List Int) (f:List Bool) (m t s:Int) (g:Bool) (w o i:Int):St:=⟨[(0,.sl n (l.map encI)),(2,.int .i64 m),(8,.ex 1 false (f.map encB)),(9,.int .i64 t),(10,.int .i64 s),(13,.bool g),(14,.int .i64 w),(15,.int .i64 o),(67,.sl n (l.map encI)),(68,.int .i64 l.length),(69,.int .i64 i)],[]⟩
theorem mulb {x y A B:Int} (h1:-A≤x∧x≤A) (h2:-B≤y∧y≤B):-(A*B)≤x*y∧x*y≤A*B:=by
 have k1:x.natAbs*y.natAbs≤A.natAbs*B.natAbs:=Nat.mul_le_mul (by omega) (by omega)
 have k2:(x*y).natAbs=x.natAbs*y.natAbs:=Int.natAbs_mul x y;have k3:(A*B).natAbs=A.natAbs*B.natAbs:=Int.natAbs_mul A B;have k4:0≤A*B:=Int.mul_nonneg (by omega) (by omega)
 omega
theorem fl_at (f:List Bool) (i:Nat) (h:i<f.length):(f.map encB).getD i V.undef=.bool f[i]:=by simp[encB,h]
theorem fl_set (f:List Bool) (i:Nat) (h:i<f.length):(f.map encB).set i (mkOf ((f.map encB).getD i V.undef) (setCells ((f.map encB).getD i V.undef).cells 0 [V.bool true]))=(f.set i true).map encB:=by
 rw[fl_at f i h,List.map_set];rfl
theorem b_loop (n:Bool) (l:List Int) (m t0 w o:Int) (hl:l.length≤16) (hp:pwP l) (hm:0≤m∧m≤1000000) (ht:0≤t0∧t0≤1000000) (hw:-16000000≤w∧w≤16000000) (ho:0≤o∧o≤16*100000000000) :
  ∀ (d i:Nat) (f:List Bool) (g:Bool) (t s:Int),i+d=l.length→f.length=l.length→t=t0-m*P.cnt f→s=P.sml l f →
  LRuns (vstep T (vlim T F) lplim fi11.cx 0 (lb fi11 2)) (bSt n l f m t s g w o i) (.exit 5,⟨(bSt n l (P.stp m w o l i d f g).1 m (t0-m*P.cnt (P.stp m w o l i d f g).1) (P.sml l (P.stp m w o l i d f g).1) (P.stp m w o l i d f g).2 w o l.length).env++[(70,.bool false)],[]⟩)
 | 0,i,f,g,t,s,hd,hf,et,es=>by
  have hi:i=l.length:=by omega
  subst hi;simp only[P.stp];rw[←et,←es];have:=LRuns.last (F:=F) Y40_ok (sh:=Sh) (L:=fun _ _=>.fail) (n:=0) (b:=lb fi11 2) (cx:=fi11.cx) (τ:=bSt n l f m t s g w o l.length) (LGood.none (by kernel_rfl)) [(decide ((l.length:Int) < ↑l.length),false)] [2]
   (r:=(.exit 5,⟨(bSt n l f m t s g w o l.length).env++[(70,.bool (decide ((l.length:Int) < ↑l.length)))],[]⟩)) (by kernel_rfl) (by simp) ⟨by simp,trivial⟩
  simpa using this
 | d+1,i,f,g,t,s,hd,hf,et,es=>by
  have hk:i<l.length:=by omega
  have hi:i<f.length:=by omega
  have hwi:IntKind.i64.wrap ((i:Int)+1)=((i+1:Nat):Int):=by rw[i64in (by omega) (by omega)];rfl
  have hg:Fd.it l i=l[i]:=it_at l i hk;have hfa:=fl_at f i hi;have hpi:=hp l[i] (List.getElem_mem hk);have m1:=mulb (x:=w) (y:=l[i]) (A:=16000000) (B:=100000000000) ⟨by omega,by omega⟩ ⟨by omega,by omega⟩
  have m2:=mulb (x:=m) (y:=o) (A:=1000000) (B:=1600000000000) ⟨by omega,by omega⟩ ⟨by omega,by omega⟩
  have hwp:IntKind.i64.wrap (w*l[i])=w*l[i]:=i64in (by omega) (by omega)
  have hmo:IntKind.i64.wrap (m*o)=m*o:=i64in (by omega) (by omega)
  have ed:l.getD i 0=l[i]:=by simp[hk]
  have ef:f.getD i true=f[i]:=by simp[hi]
  unfold P.stp;rw[ed,ef];by_cases hb:f[i]=false
  ·by_cases hx:w*l[i] > m*o
   ·rw[if_pos ⟨hb,hx⟩]
    have c1:=cnt_set f i (by rw[ef];exact hb)
    have c2:=sm_set l f i hk (by rw[ef];exact hb)
    have c3:=cnt_le f;have c4:=cnt_le (f.set i true);have c5:=sm_le l f hp;have m3:=mulb (x:=m) (y:=P.cnt (f.set i true)) (A:=1000000) (B:=16) ⟨by omega,by omega⟩ ⟨by omega,by rw[List.length_set] at c4;omega⟩
    have et':t-m=t0-m*P.cnt (f.set i true):=by rw[et,c1,Int.mul_add,Int.mul_one];omega
    have es':s-l[i]=P.sml l (f.set i true):=by rw[es,c2]
    have wt:IntKind.i64.wrap (t-m)=t-m:=i64in (by omega) (by omega)
    have ws:IntKind.i64.wrap (s-l[i])=s-l[i]:=i64in (by omega) (by omega)
    have ih:=b_loop n l m t0 w o hl hp hm ht hw ho d (i+1) (f.set i true) true (t-m) (s-l[i]) (by omega) (by simpa using hf) et' es'
    refine LRuns.next (F:=F) Y40_ok (sh:=Sh) (L:=fun _ _=>.fail) (LGood.none (by kernel_rfl)) [(decide ((↑i:Int)<(↑l.length:Int)),true),(decide ((↑i:Int)<(↑(List.map encI l).length:Int)),true),(((List.map encI l).getD i V.undef).cells.length==1&&fitP [.int .i64] 0 ((List.map encI l).getD i V.undef),true),(decide ((↑i:Int)<(↑(List.map encB f).length:Int)),true),(decide (i<(List.map encB f).length),true),(fitP [TK.bool] 0 ((List.map encB f).getD i V.undef),true),(!boolOf (fld 0 ((List.map encB f).getD i V.undef)),true),(decide (IntKind.i64.wrap (w*Fd.it l i)>IntKind.i64.wrap (m*o)),true),(decide (1≤((List.map encB f).getD i V.undef).cells.length),true)] [2,0,3,4,0,5,6,7,8,8,8,8,8,8,8,8,9,0,5,6,10] (τ':={env:=[(0,V.sl n (List.map encI l)),(2,.int .i64 m),(8,V.ex 1 false ((List.map encB f).set i (mkOf ((List.map encB f).getD i V.undef) (setCells ((List.map encB f).getD i V.undef).cells 0 [V.bool true])))),(9,.int .i64 (IntKind.i64.wrap (t-m))),(10,.int .i64 (IntKind.i64.wrap (s-Fd.it l i))),(13,V.bool true),(14,.int .i64 w),(15,.int .i64 o),(67,V.sl n (List.map encI l)),(68,.int .i64 (↑l.length:Int)),(69,.int .i64 (IntKind.i64.wrap ((↑i:Int)+1)))],heap:=[]}) (by kernel_rfl) ?_ ?_
    ·refine⟨?_,?_,?_,?_,?_,?_,?_,?_,?_,trivial⟩
     all_goals first|(simp[encI,fitP,fld,leafFits,V.cells,hk];done)|(simp;omega)|(rw[hfa];simp[fitP,fld,leafFits,V.cells,boolOf,hb];done)|(rw[hg,hwp,hmo];simp;omega)
    ·rw[fl_set f i hi,hg,wt,ws,hwi];exact ih
   ·rw[if_neg (by intro h;exact hx h.2)]
    have ih:=b_loop n l m t0 w o hl hp hm ht hw ho d (i+1) f g t s (by omega) hf et es
    refine LRuns.next (F:=F) Y40_ok (sh:=Sh) (L:=fun _ _=>.fail) (LGood.none (by kernel_rfl)) [(decide ((↑i:Int)<(↑l.length:Int)),true),(decide ((↑i:Int)<(↑(List.map encI l).length:Int)),true),(((List.map encI l).getD i V.undef).cells.length==1&&fitP [.int .i64] 0 ((List.map encI l).getD i V.undef),true),(decide ((↑i:Int)<(↑(List.map encB f).length:Int)),true),(decide (i<(List.map encB f).length),true),(fitP [TK.bool] 0 ((List.map encB f).getD i V.undef),true),(!boolOf (fld 0 ((List.map encB f).getD i V.undef)),true),(decide (IntKind.i64.wrap (w*Fd.it l i)>IntKind.i64.wrap (m*o)),false)] [2,0,3,4,0,5,6,7,8,8,8,8,8,8,8,8,9] (τ':={env:=[(0,V.sl n (List.map encI l)),(2,.int .i64 m),(8,V.ex 1 false (List.map encB f)),(9,.int .i64 t),(10,.int .i64 s),(13,V.bool g),(14,.int .i64 w),(15,.int .i64 o),(67,V.sl n (List.map encI l)),(68,.int .i64 (↑l.length:Int)),(69,.int .i64 (IntKind.i64.wrap ((↑i:Int)+1)))],heap:=[]}) (by kernel_rfl) ?_ ?_
    ·refine⟨?_,?_,?_,?_,?_,?_,?_,?_,trivial⟩
     all_goals first|(simp[encI,fitP,fld,leafFits,V.cells,hk];done)|(simp;omega)|(rw[hfa];simp[fitP,fld,leafFits,V.cells,boolOf,hb];done)|(rw[hg,hwp,hmo];simp;omega)
    ·rw[hwi];exact ih
  ·rw[if_neg (by intro h;exact hb h.1)]
   have hb:f[i]=true:=by simpa using hb
   have ih:=b_loop n l m t0 w o hl hp hm ht hw ho d (i+1) f g t s (by omega) hf et es
   refine LRuns.next (F:=F) Y40_ok (sh:=Sh) (L:=fun _ _=>.fail) (LGood.none (by kernel_rfl)) [(decide ((↑i:Int)<(↑l.length:Int)),true),(decide ((↑i:Int)<(↑(List.map encI l).length:Int)),true),(((List.map encI l).getD i V.undef).cells.length==1&&fitP [.int .i64] 0 ((List.map encI l).getD i V.undef),true),(decide ((↑i:Int)<(↑(List.map encB f).length:Int)),true),(decide (i<(List.map encB f).length),true),(fitP [TK.bool] 0 ((List.map encB f).getD i V.undef),true),(!boolOf (fld 0 ((List.map encB f).getD i V.undef)),false)] [2,0,3,4,0,5,6,7,8,8,8,8,8,8,8,8,1] (τ':={env:=[(0,V.sl n (List.map encI l)),(2,.int .i64 m),(8,V.ex 1 false (List.map encB f)),(9,.int .i64 t),(10,.int .i64 s),(13,V.bool g),(14,.int .i64 w),(15,.int .i64 o),(67,V.sl n (List.map encI l)),(68,.int .i64 (↑l.length:Int)),(69,.int .i64 (IntKind.i64.wrap ((↑i:Int)+1)))],heap:=[]}) (by kernel_rfl) ?_ ?_
   ·refine⟨?_,?_,?_,?_,?_,?_,?_,trivial⟩
    all_goals first|(simp[encI,fitP,fld,leafFits,V.cells,hk];done)|(simp;omega)|(rw[hfa];simp[fitP,fld,leafFits,V.cells,boolOf,hb];done)|(rw[hg,hwp,hmo];simp;omega)
   ·rw[hwi];exact ih
theorem stp_cnt (m w o:Int) (l:List Int):∀ (d i:Nat) (f:List Bool) (g:Bool),P.cnt f≤P.cnt (P.stp m w o l i d f g).1 ∧
  ((P.stp m w o l i d f g).2=false→(P.stp m w o l i d f g).1=f∧g=false)∧((P.stp m w o l i d f g).2=true→g=true∨P.cnt f<P.cnt (P.stp m w o l i d f g).1)
 | 0,_,f,g=>by simp only[P.stp];exact⟨by omega,fun h=>⟨trivial,h⟩,fun h=>.inl h⟩
 | d+1,i,f,g=>by
  unfold P.stp;split
  ·rename_i h
   obtain⟨h1,h2,h3⟩:=stp_cnt m w o l d (i+1) (f.set i true) true;have c:=cnt_set f i h.1;exact⟨by omega,fun h=>(by cases (h2 h).2),fun _=>.inr (by omega)⟩
  ·exact stp_cnt m w o l d (i+1) f g
namespace P
def one (m t0:Int) (l:List Int) (f:List Bool):List Bool:=(stp m (t0-m*cnt f) (sml l f) l 0 l.length f false).1
def its (m t0:Int) (l:List Int):Nat→List Bool→List Bool
 | 0,f=>f
 | k+1,f=>its m t0 l k (one m t0 l f)
end P
theorem its_fix {m t0:Int} {l:List Int} {f:List Bool} (h:P.one m t0 l f=f):∀ k,P.its m t0 l k f=f
 | 0=>rfl
 | k+1=>by unfold P.its;rw[h];exact its_fix h k
def aEnd (n:Bool) (l:List Int) (f:List Bool) (m t s:Int):Ex×St:=(.exit 3,⟨[(0,.sl n (l.map encI)),(2,.int .i64 m),(8,.ex 1 false (f.map encB)),(9,.int .i64 t),(10,.int .i64 s),(64,.bool false)],[]⟩)
theorem a_last (n:Bool) (l:List Int) (f:List Bool) (m t s:Int):LRuns (vstep T (vlim T F) lplim fi11.cx 0 (lb fi11 1)) (aSt n l f m t s false) (aEnd n l f m t s) :=
 LRuns.last (F:=F) Y40_ok (sh:=Sh) (L:=fun _ _=>.fail) (n:=0) (b:=lb fi11 1) (cx:=fi11.cx) (τ:=aSt n l f m t s false) (fun _ _ _ _ h=>by cases h) [] [1]
   (r:=aEnd n l f m t s) (by kernel_rfl) (by simp[aEnd]) trivial
theorem a_loop (n:Bool) (l:List Int) (m t0:Int) (hl:l.length≤16) (hp:pwP l) (hm:0≤m∧m≤1000000) (ht:0≤t0∧t0≤1000000):∀ (k:Nat) (f:List Bool),f.length=l.length→l.length<P.cnt f+k →
  LRuns (vstep T (vlim T F) lplim fi11.cx 0 (lb fi11 1)) (aSt n l f m (t0-m*P.cnt f) (P.sml l f) true) (aEnd n l (P.its m t0 l k f) m (t0-m*P.cnt (P.its m t0 l k f)) (P.sml l (P.its m t0 l k f)))
 | 0,f,hf,hk=>by have:=cnt_le f;omega
 | k+1,f,hf,hk=>by
  have c:=cnt_le f;have m3:=mulb (x:=m) (y:=P.cnt f) (A:=1000000) (B:=16) ⟨by omega,by omega⟩ ⟨by omega,by omega⟩
  have m4:=Int.mul_nonneg hm.1 c.1;have cs:=sm_le l f hp;have hq:=b_loop n l m t0 (t0-m*P.cnt f) (P.sml l f) hl hp hm ht ⟨by omega,by omega⟩ ⟨by omega,by omega⟩ l.length 0 f false _ _ (by omega) hf rfl rfl
  obtain⟨h1,h2,h3⟩:=stp_cnt m (t0-m*P.cnt f) (P.sml l f) l l.length 0 f false;have h4:=stp_length m (t0-m*P.cnt f) (P.sml l f) l l.length 0 f false;have ih:=a_loop n l m t0 hl hp hm ht k (P.one m t0 l f);have hfix:=its_fix (m:=m) (t0:=t0) (l:=l) (f:=f);unfold P.its
  change P.cnt f≤P.cnt (P.one m t0 l f) at h1
  change _→P.one m t0 l f=f∧_ at h2
  change _→_∨P.cnt f<P.cnt (P.one m t0 l f) at h3
  change (P.one m t0 l f).length=_ at h4
  change LRuns _ _ (.exit 5,⟨(bSt n l (P.one m t0 l f) m (t0-m*P.cnt (P.one m t0 l f)) (P.sml l (P.one m t0 l f)) _ _ _ _).env++_,[]⟩) at hq
  unfold P.one at h2;generalize (P.stp m (t0-m*P.cnt f) (P.sml l f) l 0 l.length f false).2=g' at *
  change _→P.one m t0 l f=f∧_ at h2
  generalize P.one m t0 l f=f' at *;generalize t0-m*P.cnt f=t at *;generalize P.sml l f=s at *;generalize ht':t0-m*P.cnt f'=t' at *;generalize hs':P.sml l f'=s' at *;refine LRuns.next (F:=F) Y40_ok (sh:=Sh) (L:=loopsIs [(19,bSt n l f m t s false t s 0,(.exit 5,⟨(bSt n l f' m t' s' g' t s l.length).env++[(70,.bool false)],[]⟩))]) (LGood.one (b:=lb fi11 2) (k:=19) (σ0:=bSt n l f m t s false t s 0) (by kernel_rfl) (by exact hq)) [(is {env:=[(0,V.sl n (List.map encI l)),(2,.int .i64 m),(8,V.ex 1 false (List.map encB f)),(9,.int .i64 t),(10,.int .i64 s),(13,V.bool false),(14,.int .i64 t),(15,.int .i64 s),(67,V.sl n (List.map encI l)),(68,.int .i64 (↑(List.map encI l).length:Int)),(69,.int .i64 0)],heap:=[]} {env:=[(0,V.sl n (List.map encI l)),(2,.int .i64 m),(8,V.ex 1 false (List.map encB f)),(9,.int .i64 t),(10,.int .i64 s),(13,V.bool false),(14,.int .i64 t),(15,.int .i64 s),(67,V.sl n (List.map encI l)),(68,.int .i64 (↑l.length:Int)),(69,.int .i64 0)],heap:=[]},true)] [0,2] (τ':={env:=[(0,V.sl n (List.map encI l)),(2,.int .i64 m),(8,V.ex 1 false (List.map encB f')),(9,.int .i64 t'),(10,.int .i64 s'),(13,V.bool g')],heap:=[]}) (by kernel_rfl) ⟨is_eq (by simp[bSt]),trivial⟩ ?_
  cases g'
  ·obtain⟨rfl,-⟩:=h2 rfl
   rw[hfix rfl k,ht',hs'];exact a_last n l _ m t' s'
  ·have:=h3 rfl
   exact ih (by omega) (by simp at this;omega)
namespace P
def tot:List Int→Int
 | []=>0
 | x::l=>x+tot l
end P
theorem tot_le:∀ l:List Int,pwP l→0≤P.tot l∧P.tot l≤l.length*100000000000
 | [],_=>by simp[P.tot]
 | x::l,h=>by
  have:=tot_le l (fun y hy=>h y (by simp[hy]))
  have:=h x (by simp)
  simp only[P.tot,List.length_cons];omega
theorem u_loop (n:Bool) (l:List Int) (f:List Bool) (t m:Int) (hl:l.length≤16) (hp:pwP l):∀ (d i:Nat) (s:Int),i+d=l.length→0≤s→s+P.tot (l.drop i)≤2000000000000 →
  LRuns (vstep T (vlim T F) lplim fi11.cx 0 (lb fi11 0)) (uSt n l f t m s i) (.exit 1,⟨(uSt n l f t m (s+P.tot (l.drop i)) l.length).env++[(57,.bool false)],[]⟩)
 | 0,i,s,hd,h0,h1=>by
  have hi:i=l.length:=by omega
  subst hi;rw[List.drop_length];have:=LRuns.last (F:=F) Y40_ok (sh:=Sh) (L:=fun _ _=>.fail) (n:=0) (b:=lb fi11 0) (cx:=fi11.cx) (τ:=uSt n l f t m s l.length) (LGood.none (by kernel_rfl)) [(decide ((l.length:Int) < ↑l.length),false)] [2]
   (r:=(.exit 1,⟨(uSt n l f t m s l.length).env++[(57,.bool (decide ((l.length:Int) < ↑l.length)))],[]⟩)) (by kernel_rfl) (by simp) ⟨by simp,trivial⟩
  simpa [P.tot] using this
 | d+1,i,s,hd,h0,h1=>by
  have hk:i<l.length:=by omega
  have hwi:IntKind.i64.wrap ((i:Int)+1)=((i+1:Nat):Int):=by rw[i64in (by omega) (by omega)];rfl
  have hg:Fd.it l i=l[i]:=it_at l i hk;have hpi:=hp l[i] (List.getElem_mem hk);have hto:=tot_le (l.drop (i+1)) (fun y hy=>hp y (List.mem_of_mem_drop hy))
  rw[List.drop_eq_getElem_cons hk] at h1 ⊢;rw[P.tot,←Int.add_assoc] at h1 ⊢;have hws:IntKind.i64.wrap (s+l[i])=s+l[i]:=i64in (by omega) (by omega)
  have ih:=u_loop n l f t m hl hp d (i+1) (s+l[i]) (by omega) (by omega) h1
  refine LRuns.next (F:=F) Y40_ok (sh:=Sh) (L:=fun _ _=>.fail) (LGood.none (by kernel_rfl)) [(decide ((↑i:Int)<(↑l.length:Int)),true),(decide ((↑i:Int)<(↑(List.map encI l).length:Int)),true),(((List.map encI l).getD i V.undef).cells.length==1&&fitP [.int .i64] 0 ((List.map encI l).getD i V.undef),true)] [2,0,3,4] (τ':={env:=[(0,V.sl n (List.map encI l)),(2,.int .i64 m),(8,V.ex 1 false (List.map encB f)),(9,.int .i64 t),(10,.int .i64 (IntKind.i64.wrap (s+Fd.it l i))),(54,V.sl n (List.map encI l)),(55,.int .i64 (↑l.length:Int)),(56,.int .i64 (IntKind.i64.wrap ((↑i:Int)+1)))],heap:=[]}) (by kernel_rfl) ?_ ?_
  ·refine⟨?_,?_,?_,trivial⟩
   all_goals first
     | (simp[encI,fitP,fld,leafFits,V.cells,hk];done)
     | (simp;omega)
  ·rw[hg,hws,hwi];exact ih
namespace P
def ous (t s m:Int):List Int→List Bool→List Int
 | x::l,b::f=>(if b then m else (t*x).tdiv s)::ous t s m l f
 | _,_=>[]
def shs (t s:Int):Int→List Int→List Bool→List Shr
 | i,x::l,b::f=>if b then shs t s (i+1) l f else ⟨i,(t*x).tdiv s,(t*x).tmod s⟩::shs t s (i+1) l f
 | _,_,_=>[]
def pts:List Shr→Int
 | []=>0
 | x::d=>x.part+pts d
end P
def cSt (n:Bool) (l:List Int) (f:List Bool) (m t s:Int) (o:List Int) (z:Bool) (d:List Shr) (e i:Int):St:=⟨[(2,.int .i64 m),(8,.ex 1 false (f.map encB)),(9,.int .i64 t),(10,.int .i64 s),(18,.ex 1 false (o.map encI)),(19,.ex 3 z (d.map encR)),(20,.int .i64 e),(102,.sl n (l.map encI)),(103,.int .i64 l.length),(104,.int .i64 i)],[]⟩
def dSt (z:Bool) (m:Int) (o:List Int) (d:List Shr) (e i:Int):St:=⟨[(2,.int .i64 m),(18,.ex 1 false (o.map encI)),(19,.ex 3 z (d.map encR)),(20,.int .i64 e),(145,.lent (.slot 19)),(146,.int .i64 d.length),(147,.int .i64 i),(19,.ex 3 z (d.map encR))],[]⟩
theorem it_set (o:List Int) (i:Nat) (v:Int) (h:i<o.length):(o.map encI).set i (mkOf ((o.map encI).getD i V.undef) (setCells ((o.map encI).getD i V.undef).cells 0 [.int .i64 v]))=(o.set i v).map encI:=by
 have:(o.map encI).getD i V.undef=encI o[i]:=by simp[h]
 rw[this,List.map_set];rfl
theorem take_set {α:Type} (o r:List α) (i:Nat) (v:α) (h:i<o.length):(o.set i v).take (i+1)++r=o.take i++v::r:=by
 rw[List.take_succ_eq_append_getElem (by simpa using h),List.take_set_of_le (by omega)]
 simp
theorem c_loop (n:Bool) (l:List Int) (f:List Bool) (m t s:Int) (hl:l.length≤16) (hp:pwP l) (hf:f.length=l.length) (ht:0≤t∧t≤1000000) (hs:0≤s∧s≤2000000000000) (h0:∀ i,f.getD i true=false→0<s) :
  ∀ (k i:Nat) (o:List Int) (z:Bool) (d:List Shr) (e:Int),i+k=l.length→o.length=l.length→d.length≤i→-100000000000000000*((i:Int)+1)≤e→e≤1000000 →
  LRuns (vstep T (vlim T F) lplim fi11.cx 0 (lb fi11 3)) (cSt n l f m t s o z d e i) (.exit 7,⟨(cSt n l f m t s (o.take i++P.ous t s m (l.drop i) (f.drop i)) (z&&(P.shs t s i (l.drop i) (f.drop i)).isEmpty) (d++P.shs t s i (l.drop i) (f.drop i)) (e-P.pts (P.shs t s i (l.drop i) (f.drop i))) l.length).env++[(105,.bool false)],[]⟩)
 | 0,i,o,z,d,e,hk,ho,hd,he,he'=>by
  have hi:i=l.length:=by omega
  subst hi;have:=LRuns.last (F:=F) Y40_ok (sh:=Sh) (L:=fun _ _=>.fail) (n:=0) (b:=lb fi11 3) (cx:=fi11.cx) (τ:=cSt n l f m t s o z d e l.length) (LGood.none (by kernel_rfl)) [(decide ((l.length:Int) < ↑l.length),false)] [2]
   (r:=(.exit 7,⟨(cSt n l f m t s o z d e l.length).env++[(105,.bool (decide ((l.length:Int) < ↑l.length)))],[]⟩)) (by kernel_rfl) (by simp) ⟨by simp,trivial⟩
  rw[List.drop_length,←ho,List.take_length];rw[ho];simpa [P.shs,P.ous,P.pts] using this
 | k+1,i,o,z,d,e,hd,ho,hdl,he,he'=>by
  have hk:i<l.length:=by omega
  have hi:i<f.length:=by omega
  have hio:i<o.length:=by omega
  have hwi:IntKind.i64.wrap ((i:Int)+1)=((i+1:Nat):Int):=by rw[i64in (by omega) (by omega)];rfl
  have hg:Fd.it l i=l[i]:=it_at l i hk;have hfa:=fl_at f i hi;have hpi:=hp l[i] (List.getElem_mem hk);rw[List.drop_eq_getElem_cons hk,List.drop_eq_getElem_cons hi];by_cases hb:f[i]=true
  ·simp only[P.ous,P.shs,hb,if_true]
   rw[show (i:Int)+1=((i+1:Nat):Int) from rfl];have ih:=c_loop n l f m t s hl hp hf ht hs h0 k (i+1) (o.set i m) z d e (by omega) (by simpa using ho) (by omega) (by omega) he'
   rw[take_set o _ i m hio] at ih;refine LRuns.next (F:=F) Y40_ok (sh:=Sh) (L:=fun _ _=>.fail) (LGood.none (by kernel_rfl)) [(decide ((↑i:Int)<(↑l.length:Int)),true),(decide ((↑i:Int)<(↑(List.map encI l).length:Int)),true),(((List.map encI l).getD i V.undef).cells.length==1&&fitP [.int .i64] 0 ((List.map encI l).getD i V.undef),true),(decide ((↑i:Int)<(↑(List.map encB f).length:Int)),true),(decide (i<(List.map encB f).length),true),(fitP [TK.bool] 0 ((List.map encB f).getD i V.undef),true),(boolOf (fld 0 ((List.map encB f).getD i V.undef)),true),(decide ((↑i:Int)<(↑(List.map encI o).length:Int)),true),(decide (i<(List.map encI o).length),true),(decide (1≤((List.map encI o).getD i V.undef).cells.length),true)] [2,0,3,4,0,5,6,7,8,0,9,10,11] (τ':={env:=[(2,.int .i64 m),(8,V.ex 1 false (List.map encB f)),(9,.int .i64 t),(10,.int .i64 s),(18,V.ex 1 false ((List.map encI o).set i (mkOf ((List.map encI o).getD i V.undef) (setCells ((List.map encI o).getD i V.undef).cells 0 [.int .i64 m])))),(19,V.ex 3 z (List.map encR d)),(20,.int .i64 e),(102,V.sl n (List.map encI l)),(103,.int .i64 (↑l.length:Int)),(104,.int .i64 (IntKind.i64.wrap ((↑i:Int)+1)))],heap:=[]}) (by kernel_rfl) ?_ ?_
   ·refine⟨?_,?_,?_,?_,?_,?_,?_,?_,?_,?_,trivial⟩
    all_goals first|(simp[encI,fitP,fld,leafFits,V.cells,hk];done)|(simp;omega)|(rw[hfa];simp[fitP,fld,leafFits,V.cells,boolOf,hb];done)|(simp[encI,V.cells,hio];done)|(simp[rooms,maxRoom];omega)
   ·rw[it_set o i m hio,hwi];exact ih
  ·have hb:f[i]=false:=by simpa using hb
   have hs0:0<s:=h0 i (by simp[hi,hb])
   have m1:=mulb (x:=t) (y:=l[i]) (A:=1000000) (B:=100000000000) ⟨by omega,by omega⟩ ⟨by omega,by omega⟩
   have m2:0≤t*l[i]:=Int.mul_nonneg ht.1 (by omega)
   have hwp:IntKind.i64.wrap (t*l[i])=t*l[i]:=i64in (by omega) (by omega)
   have v1:0≤(t*l[i]).tdiv s:=Int.tdiv_nonneg m2 (by omega)
   have v2:(t*l[i]).tdiv s≤t*l[i]:=Int.tdiv_le_self _ m2;have hwv:IntKind.i64.wrap ((t*l[i]).tdiv s)=(t*l[i]).tdiv s:=i64in (by omega) (by omega)
   have hwe:IntKind.i64.wrap (e-(t*l[i]).tdiv s)=e-(t*l[i]).tdiv s:=i64in (by omega) (by omega)
   simp only[P.ous,P.shs,hb,Bool.false_eq_true,if_false];rw[show (i:Int)+1=((i+1:Nat):Int) from rfl];have ih:=c_loop n l f m t s hl hp hf ht hs h0 k (i+1) (o.set i ((t*l[i]).tdiv s)) false (d++[⟨i,(t*l[i]).tdiv s,(t*l[i]).tmod s⟩]) (e-(t*l[i]).tdiv s) (by omega) (by simpa using ho) (by simp;omega) (by omega) (by omega)
   rw[take_set o _ i _ hio] at ih;simp only[P.pts,List.isEmpty_cons,Bool.and_false];rw[Bool.false_and,List.append_assoc,List.singleton_append,Int.sub_sub] at ih;refine LRuns.next (F:=F) Y40_ok (sh:=Sh) (L:=fun _ _=>.fail) (LGood.none (by kernel_rfl)) [(decide ((↑i:Int)<(↑l.length:Int)),true),(decide ((↑i:Int)<(↑(List.map encI l).length:Int)),true),(((List.map encI l).getD i V.undef).cells.length==1&&fitP [.int .i64] 0 ((List.map encI l).getD i V.undef),true),(decide ((↑i:Int)<(↑(List.map encB f).length:Int)),true),(decide (i<(List.map encB f).length),true),(fitP [TK.bool] 0 ((List.map encB f).getD i V.undef),true),(boolOf (fld 0 ((List.map encB f).getD i V.undef)),false),(!decide (s=0),true),(decide ((↑i:Int)<(↑(List.map encI o).length:Int)),true),(decide (i<(List.map encI o).length),true),(decide (1≤((List.map encI o).getD i V.undef).cells.length),true),(rooms ((List.map encR d).length+1) 24,true),(decide ((List.map encR d).length+1<4611686018427387904),true)] [2,0,3,4,0,5,6,7,8,9,9,0,10,11,12,13,14,0] (τ':={env:=[(2,.int .i64 m),(8,V.ex 1 false (List.map encB f)),(9,.int .i64 t),(10,.int .i64 s),(18,V.ex 1 false ((List.map encI o).set i (mkOf ((List.map encI o).getD i V.undef) (setCells ((List.map encI o).getD i V.undef).cells 0 [.int .i64 (IntKind.i64.wrap ((IntKind.i64.wrap (t*Fd.it l i)).tdiv s))])))),(19,V.ex 3 (z&&false) (List.map encR d++[V.agg [.int .i64 (↑i:Int),.int .i64 (IntKind.i64.wrap ((IntKind.i64.wrap (t*Fd.it l i)).tdiv s)),.int .i64 ((IntKind.i64.wrap (t*Fd.it l i)).tmod s)]])),(20,.int .i64 (IntKind.i64.wrap (e-IntKind.i64.wrap ((IntKind.i64.wrap (t*Fd.it l i)).tdiv s)))),(102,V.sl n (List.map encI l)),(103,.int .i64 (↑l.length:Int)),(104,.int .i64 (IntKind.i64.wrap ((↑i:Int)+1)))],heap:=[]}) (by kernel_rfl) ?_ ?_
   ·refine⟨?_,?_,?_,?_,?_,?_,?_,?_,?_,?_,?_,?_,?_,trivial⟩
    all_goals first|(simp[encI,fitP,fld,leafFits,V.cells,hk];done)|(simp;omega)|(rw[hfa];simp[fitP,fld,leafFits,V.cells,boolOf,hb];done)|(simp[encI,V.cells,hio];done)|(simp[rooms,maxRoom];omega)
   ·rw[hg,hwp,hwv,it_set o i _ hio,hwi,hwe,Bool.and_false]
    rw[show d.map encR++[V.agg [.int .i64 i,.int .i64 ((t*l[i]).tdiv s),.int .i64 ((t*l[i]).tmod s)]]=(d++[(⟨i,(t*l[i]).tdiv s,(t*l[i]).tmod s⟩:Shr)]).map encR by simp[encR]]
    exact ih
namespace P
def hnd (m:Int):List Shr→List Int→Int→List Int×Int
 | [],o,e=>(o,e)
 | x::d,o,e=>if e>0∧x.part<m then hnd m d (o.set x.at_.toNat (o.getD x.at_.toNat 0+1)) (e-1) else hnd m d o e
end P
theorem sh_at (d:List Shr) (i:Nat) (h:i<d.length):(d.map encR).getD i V.undef=encR d[i]:=by simp[h]
theorem d_loop (z:Bool) (m:Int) (d:List Shr) (hd:d.length≤16) (N:Nat) (hN:N≤16) (ha:∀ s∈d,0≤s.at_∧s.at_<N):∀ (k i:Nat) (o:List Int) (e:Int),i+k=d.length→o.length=N→(∀ x∈o,-4000000000000000000≤x∧x+k≤4000000000000000000)→-4000000000000000000≤e→e≤4000000000000000000 →
  LRuns (vstep T (vlim T F) lplim fi11.cx 0 (lb fi11 4)) (dSt z m o d e i) (.exit 9,⟨[(2,.int .i64 m),(18,.ex 1 false ((P.hnd m (d.drop i) o e).1.map encI)),(19,.ex 3 z (d.map encR)),(20,.int .i64 (P.hnd m (d.drop i) o e).2),(145,.lent (.slot 19)),(146,.int .i64 d.length),(147,.int .i64 d.length),(148,.bool false),(19,.ex 3 z (d.map encR))],[]⟩)
 | 0,i,o,e,hk,ho,hx,he,he'=>by
  have hi:i=d.length:=by omega
  subst hi;rw[List.drop_length];have:=LRuns.last (F:=F) Y40_ok (sh:=Sh) (L:=fun _ _=>.fail) (n:=0) (b:=lb fi11 4) (cx:=fi11.cx) (τ:=dSt z m o d e d.length) (LGood.none (by kernel_rfl)) [(decide ((d.length:Int) < ↑d.length),false)] [2]
   (r:=(.exit 9,⟨[(2,.int .i64 m),(18,.ex 1 false (o.map encI)),(19,.ex 3 z (d.map encR)),(20,.int .i64 e),(145,.lent (.slot 19)),(146,.int .i64 d.length),(147,.int .i64 d.length),(148,.bool (decide ((d.length:Int) < ↑d.length))),(19,.ex 3 z (d.map encR))],[]⟩)) (by kernel_rfl) (by simp) ⟨by simp,trivial⟩
  simpa [P.hnd] using this
 | k+1,i,o,e,hk,ho,hx,he,he'=>by
  have hi:i<d.length:=by omega
  have hwi:IntKind.i64.wrap ((i:Int)+1)=((i+1:Nat):Int):=by rw[i64in (by omega) (by omega)];rfl
  have hda:=sh_at d i hi;obtain⟨hat,hat'⟩:=ha d[i] (List.getElem_mem hi);have hao:d[i].at_.toNat<o.length:=by omega
  rw[List.drop_eq_getElem_cons hi];unfold P.hnd;by_cases h1:e>0
  ·by_cases h2:d[i].part<m
   ·rw[if_pos ⟨h1,h2⟩]
    have hv:o.getD d[i].at_.toNat 0=o[d[i].at_.toNat]:=by simp[hao]
    have hxo:=hx _ (List.getElem_mem hao);have ih:=d_loop z m d hd N hN ha k (i+1) (o.set d[i].at_.toNat (o.getD d[i].at_.toNat 0+1)) (e-1) (by omega) (by simpa using ho)
     (fun x h=>by rcases List.mem_or_eq_of_mem_set h with h | h;· have:=hx x h;omega
                  ·subst h;rw[hv];omega) (by omega) (by omega)
    have hf1:intOf (fld 0 ((d.map encR).getD i V.undef))=d[i].at_:=by rw[hda];rfl
    have hw1:IntKind.i64.wrap (Fd.it o d[i].at_.toNat+1)=o.getD d[i].at_.toNat 0+1:=by rw[it_at o _ hao,hv,i64in (by omega) (by omega)]
    refine LRuns.next (F:=F) Y40_ok (sh:=Sh) (L:=fun _ _=>.fail) (LGood.none (by kernel_rfl)) [(decide ((↑i:Int)<(↑d.length:Int)),true),(decide ((↑i:Int)<(↑(List.map encR d).length:Int)),true),(decide (i<(List.map encR d).length),true),(fitP [.int .i64,.int .i64,.int .i64] 0 ((List.map encR d).getD i V.undef),true),(decide (e>0),true),(decide (intOf (fld 1 ((List.map encR d).getD i V.undef))<m),true),(decide (0≤intOf (fld 0 ((List.map encR d).getD i V.undef))),true),(decide (intOf (fld 0 ((List.map encR d).getD i V.undef))<(↑(List.map encI o).length:Int)),true),(decide ((intOf (fld 0 ((List.map encR d).getD i V.undef))).toNat<(List.map encI o).length),true),(fitP [.int .i64] 0 ((List.map encI o).getD (intOf (fld 0 ((List.map encR d).getD i V.undef))).toNat V.undef),true),(decide (1≤((List.map encI o).getD (intOf (fld 0 ((List.map encR d).getD i V.undef))).toNat V.undef).cells.length),true)] [2,0,3,4,5,6,6,6,6,6,7,8,9,10,11,8,9,10,12] (τ':={env:=[(2,.int .i64 m),(18,V.ex 1 false ((List.map encI o).set (intOf (fld 0 ((List.map encR d).getD i V.undef))).toNat (mkOf ((List.map encI o).getD (intOf (fld 0 ((List.map encR d).getD i V.undef))).toNat V.undef) (setCells ((List.map encI o).getD (intOf (fld 0 ((List.map encR d).getD i V.undef))).toNat V.undef).cells 0 [.int .i64 (IntKind.i64.wrap (Fd.it o (intOf (fld 0 ((List.map encR d).getD i V.undef))).toNat+1))])))),(19,V.ex 3 z (List.map encR d)),(20,.int .i64 (IntKind.i64.wrap (e-1))),(145,V.lent (Place.slot 19)),(146,.int .i64 (↑d.length:Int)),(147,.int .i64 (IntKind.i64.wrap ((↑i:Int)+1))),(19,V.ex 3 z (List.map encR d))],heap:=[]}) (by kernel_rfl) ?_ ?_
    ·refine⟨?_,?_,?_,?_,?_,?_,?_,?_,?_,?_,?_,trivial⟩
     all_goals first|(simp;omega)|(rw[hda];simp[encR,fitP,fld,leafFits,V.cells,intOf,hat];done)|(rw[hda];simp[encR,fld,V.cells,intOf];omega)|(rw[hda];simp[encR,fld,V.cells,intOf,encI,fitP,leafFits,hao];done)
    ·rw[hf1,hw1,it_set o _ _ hao,hwi,i64in (by omega) (by omega)];exact ih
   ·rw[if_neg (by intro h;exact h2 h.2)]
    have ih:=d_loop z m d hd N hN ha k (i+1) o e (by omega) ho (fun x h=>by have:=hx x h;omega) he he'
    refine LRuns.next (F:=F) Y40_ok (sh:=Sh) (L:=fun _ _=>.fail) (LGood.none (by kernel_rfl)) [(decide ((↑i:Int)<(↑d.length:Int)),true),(decide ((↑i:Int)<(↑(List.map encR d).length:Int)),true),(decide (i<(List.map encR d).length),true),(fitP [.int .i64,.int .i64,.int .i64] 0 ((List.map encR d).getD i V.undef),true),(decide (e>0),true),(decide (intOf (fld 1 ((List.map encR d).getD i V.undef))<m),false)] [2,0,3,4,5,6,6,6,6,6,7] (τ':={env:=[(2,.int .i64 m),(18,V.ex 1 false (List.map encI o)),(19,V.ex 3 z (List.map encR d)),(20,.int .i64 e),(145,V.lent (Place.slot 19)),(146,.int .i64 (↑d.length:Int)),(147,.int .i64 (IntKind.i64.wrap ((↑i:Int)+1))),(19,V.ex 3 z (List.map encR d))],heap:=[]}) (by kernel_rfl) ?_ ?_
    ·refine⟨?_,?_,?_,?_,?_,?_,trivial⟩
     all_goals first|(simp;omega)|(rw[hda];simp[encR,fitP,fld,leafFits,V.cells,intOf,hat];done)|(rw[hda];simp[encR,fld,V.cells,intOf];omega)|(rw[hda];simp[encR,fld,V.cells,intOf,encI,fitP,leafFits,hao];done)
    ·rw[hwi];exact ih
  ·rw[if_neg (by intro h;exact h1 h.1)]
   have ih:=d_loop z m d hd N hN ha k (i+1) o e (by omega) ho (fun x h=>by have:=hx x h;omega) he he'
   refine LRuns.next (F:=F) Y40_ok (sh:=Sh) (L:=fun _ _=>.fail) (LGood.none (by kernel_rfl)) [(decide ((↑i:Int)<(↑d.length:Int)),true),(decide ((↑i:Int)<(↑(List.map encR d).length:Int)),true),(decide (i<(List.map encR d).length),true),(fitP [.int .i64,.int .i64,.int .i64] 0 ((List.map encR d).getD i V.undef),true),(decide (e>0),false)] [2,0,3,4,5,6,6,6,6,6,1] (τ':={env:=[(2,.int .i64 m),(18,V.ex 1 false (List.map encI o)),(19,V.ex 3 z (List.map encR d)),(20,.int .i64 e),(145,V.lent (Place.slot 19)),(146,.int .i64 (↑d.length:Int)),(147,.int .i64 (IntKind.i64.wrap ((↑i:Int)+1))),(19,V.ex 3 z (List.map encR d))],heap:=[]}) (by kernel_rfl) ?_ ?_
   ·refine⟨?_,?_,?_,?_,?_,trivial⟩
    all_goals first|(simp;omega)|(rw[hda];simp[encR,fitP,fld,leafFits,V.cells,intOf,hat];done)|(rw[hda];simp[encR,fld,V.cells,intOf];omega)|(rw[hda];simp[encR,fld,V.cells,intOf,encI,fitP,leafFits,hao];done)
   ·rw[hwi];exact ih
end Go.Proofs.Ytnijkhcmjpfjeaa
