/- S5: the apportionment,told by a function. -/
import Derived.Test.YtnijkhcmjpfjeaaS4
namespace Go.Proofs.Ytnijkhcmjpfjeaa
open Go Go.Vm
theorem sml_one:∀ (l:List Int) (f:List Bool) (i:Nat) (h:i<l.length),pwP l→f.getD i true=false→l[i]≤P.sml l f
 | x::l,[],i,h,hp,hf=>by simp at hf
 | x::l,b::f,0,h,hp,hf=>by
  have hf:b=false:=by simpa using hf
  have:=sm_le l f (fun y hy=>hp y (by simp[hy]))
  subst hf;simp only[P.sml,Bool.false_eq_true,if_false,List.getElem_cons_zero];omega
 | x::l,b::f,i+1,h,hp,hf=>by
  have:=sml_one l f i (by simpa using h) (fun y hy=>hp y (by simp[hy])) (by simpa using hf)
  have hx:=hp x (by simp)
  simp only[P.sml,List.getElem_cons_succ];cases b<;>simp only[if_true,Bool.false_eq_true,if_false]<;>omega
theorem stp_left (m w o:Int) (l:List Int) (hp:pwP l) (hw:0≤w) (c0:Int):∀ (d i:Nat) (f:List Bool) (g:Bool),i+d=l.length→P.sml l f≤o→(P.cnt f=c0∨0<o)→m*o*(P.cnt f-c0)≤w*(o-P.sml l f) →
  P.sml l (P.stp m w o l i d f g).1≤o∧(P.cnt (P.stp m w o l i d f g).1=c0∨0<o)∧m*o*(P.cnt (P.stp m w o l i d f g).1-c0)≤w*(o-P.sml l (P.stp m w o l i d f g).1)
 | 0,i,f,g,hd,h1,h2,h3=>by simp only[P.stp];exact⟨h1,h2,h3⟩
 | d+1,i,f,g,hd,h1,h2,h3=>by
  have hk:i<l.length:=by omega
  unfold P.stp;split
  ·rename_i h
   obtain⟨ha,hb⟩:=h;have e1:=cnt_set f i ha;have e2:=sm_set l f i hk ha;have e3:=sml_one l f i hk hp ha;have e4:=hp l[i] (List.getElem_mem hk);rw[show l.getD i 0=l[i] by simp[hk]] at hb
   refine stp_left m w o l hp hw c0 d (i+1) (f.set i true) true (by omega) (by omega) (.inr (by omega)) ?_
   rw[e1,e2,show P.cnt f+1-c0=P.cnt f-c0+1 by omega,show o-(P.sml l f-l[i])=o-P.sml l f+l[i] by omega,Int.mul_add,Int.mul_add,Int.mul_one]
   omega
  ·exact stp_left m w o l hp hw c0 d (i+1) f g (by omega) h1 h2 h3
theorem one_left {m t0:Int} {l:List Int} {f:List Bool} (hp:pwP l) (h:0≤t0-m*P.cnt f):0≤t0-m*P.cnt (P.one m t0 l f):=by
 obtain⟨h1,h2,h3⟩:=stp_left m (t0-m*P.cnt f) (P.sml l f) l hp h (P.cnt f) l.length 0 f false (by omega) (by omega) (.inl rfl) (by rw[show P.cnt f-P.cnt f=0 by omega,show P.sml l f-P.sml l f=0 by omega];simp)
 have hz:=sm_le l (P.one m t0 l f) hp
 change P.sml l (P.one m t0 l f)≤_ at h1
 change P.cnt (P.one m t0 l f)=_∨_ at h2
 change m*P.sml l f*(P.cnt (P.one m t0 l f)-P.cnt f)≤_*(P.sml l f-P.sml l (P.one m t0 l f)) at h3
 generalize P.one m t0 l f=f' at *;rcases h2 with h2 | h2
 ·rw[h2];exact h
 ·generalize P.sml l f=o at *
  generalize hD:P.cnt f' - P.cnt f=D at *;have e:t0-m*P.cnt f'=(t0-m*P.cnt f)-m*D:=by rw[←hD,Int.mul_sub];omega
  rw[e];generalize t0-m*P.cnt f=w at *;have k1:w*(o-P.sml l f')≤w*o:=Int.mul_le_mul_of_nonneg_left (by omega) h
  by_cases hc:w-m*D<0
  ·have k2:w*o<m*D*o:=Int.mul_lt_mul_of_pos_right (by omega) h2
   rw[show m*o*D=m*D*o by rw[Int.mul_assoc,Int.mul_assoc,Int.mul_comm o D]] at h3
   omega
  ·omega
theorem its_left {m t0:Int} {l:List Int} (hp:pwP l):∀ (k:Nat) (f:List Bool),0≤t0-m*P.cnt f→0≤t0-m*P.cnt (P.its m t0 l k f)
 | 0,f,h=>h
 | k+1,f,h=>its_left hp k _ (one_left hp h)
theorem its_length (m t0:Int) (l:List Int):∀ (k:Nat) (f:List Bool),(P.its m t0 l k f).length=f.length
 | 0,f=>rfl
 | k+1,f=>by unfold P.its;rw[its_length];exact stp_length ..
theorem isort_length:∀ (m i:Nat) (d:List Shr),(P.isort d i m).length=d.length
 | 0,i,d=>rfl
 | m+1,i,d=>by unfold P.isort;rw[isort_length,ins_length]
theorem ins_mem:∀ (j:Nat) {d:List Shr} {s:Shr},s∈P.ins d j→s∈d
 | 0,d,s,h=>h
 | j+1,d,s,h=>by
  unfold P.ins at h;split at h
  ·split at h
   ·exact sw_mem (ins_mem j h)
   ·exact h
  ·exact h
theorem isort_mem:∀ (m i:Nat) {d:List Shr} {s:Shr},s∈P.isort d i m→s∈d
 | 0,i,d,s,h=>h
 | m+1,i,d,s,h=>ins_mem i (isort_mem m (i+1) h)
theorem part_b {t s x:Int} (ht:0≤t∧t≤1000000) (hx:1≤x∧x≤100000000000) (hs:0≤s):0≤t*x∧0≤(t*x).tdiv s∧(t*x).tdiv s≤100000000000000000∧0≤(t*x).tmod s:=by
 have m1:=mulb (x:=t) (y:=x) (A:=1000000) (B:=100000000000) ⟨by omega,by omega⟩ ⟨by omega,by omega⟩
 have m2:0≤t*x:=Int.mul_nonneg ht.1 (by omega)
 have v1:0≤(t*x).tdiv s:=Int.tdiv_nonneg m2 hs;have v2:(t*x).tdiv s≤t*x:=Int.tdiv_le_self _ m2;exact⟨m2,v1,by omega,Int.tmod_nonneg _ m2⟩
theorem shs_length (t s:Int):∀ (l:List Int) (f:List Bool) (i:Int),(P.shs t s i l f).length≤l.length
 | [],f,i=>by simp[P.shs]
 | x::l,[],i=>by simp[P.shs]
 | x::l,b::f,i=>by
  have:=shs_length t s l f (i+1)
  cases b<;>simp only[P.shs,if_true,Bool.false_eq_true,if_false,List.length_cons]<;>omega
theorem shs_at (t s:Int):∀ (l:List Int) (f:List Bool) (i:Int),∀ x∈P.shs t s i l f,i≤x.at_∧x.at_<i+l.length
 | [],f,i,x,h=>by simp[P.shs] at h
 | y::l,[],i,x,h=>by simp[P.shs] at h
 | y::l,b::f,i,x,h=>by
  have ih:=shs_at t s l f (i+1);cases b
  ·simp only[P.shs,Bool.false_eq_true,if_false,List.mem_cons] at h
   rcases h with rfl | h
   ·simp only[List.length_cons];omega
   ·have:=ih x h;simp only[List.length_cons];omega
  ·simp only[P.shs,if_true] at h
   have:=ih x h;simp only[List.length_cons];omega
theorem shs_ok {t s:Int} (ht:0≤t∧t≤1000000) (hs:0≤s∧s≤2000000000000):∀ (l:List Int) (f:List Bool) (i:Int),pwP l→(false∈f→0<s)→OkR (P.shs t s i l f)
 | [],f,i,_,_=>by simp[P.shs,OkR]
 | x::l,[],i,_,_=>by simp[P.shs,OkR]
 | x::l,b::f,i,hp,h0=>by
  have ih:=shs_ok ht hs l f (i+1) (fun y hy=>hp y (by simp[hy])) (fun h=>h0 (by simp[h]))
  obtain⟨p1,p2,p3,p4⟩:=part_b ht (hp x (by simp)) hs.1
  cases b
  ·simp only[P.shs,Bool.false_eq_true,if_false]
   intro y hy;rcases List.mem_cons.1 hy with rfl | hy
   ·have:=Int.tmod_lt_of_pos (t*x) (h0 (by simp))
    exact⟨p4,by simp only;omega⟩
   ·exact ih y hy
  ·simp only[P.shs,if_true];exact ih
theorem shs_pts {t s:Int} (ht:0≤t∧t≤1000000) (hs:0≤s):∀ (l:List Int) (f:List Bool) (i:Int),pwP l→0≤P.pts (P.shs t s i l f)∧P.pts (P.shs t s i l f)≤l.length*100000000000000000
 | [],f,i,_=>by simp[P.shs,P.pts]
 | x::l,[],i,_=>by simp only[P.shs,P.pts,List.length_cons];omega
 | x::l,b::f,i,hp=>by
  have ih:=shs_pts ht hs l f (i+1) (fun y hy=>hp y (by simp[hy]))
  obtain⟨p1,p2,p3,p4⟩:=part_b ht (hp x (by simp)) hs
  cases b<;>simp only[P.shs,P.pts,if_true,Bool.false_eq_true,if_false,List.length_cons]<;>omega
theorem ous_length (t s m:Int):∀ (l:List Int) (f:List Bool),f.length=l.length→(P.ous t s m l f).length=l.length
 | [],[],_=>rfl
 | x::l,b::f,h=>by simp only[P.ous,List.length_cons];rw[ous_length t s m l f (by simpa using h)]
theorem ous_b {t s m:Int} (ht:0≤t∧t≤1000000) (hm:0≤m∧m≤1000000) (hs:0≤s):∀ (l:List Int) (f:List Bool),pwP l→∀ x∈P.ous t s m l f,0≤x∧x≤100000000000000000
 | [],f,_,x,h=>by simp[P.ous] at h
 | y::l,[],_,x,h=>by simp[P.ous] at h
 | y::l,b::f,hp,x,h=>by
  have ih:=ous_b ht hm hs l f (fun y hy=>hp y (by simp[hy]))
  obtain⟨p1,p2,p3,p4⟩:=part_b ht (hp y (by simp)) hs
  simp only[P.ous,List.mem_cons] at h;rcases h with rfl | h
  ·cases b<;>simp only[if_true,Bool.false_eq_true,if_false]<;>omega
  ·exact ih x h
namespace P
def app (l:List Int) (t m:Int):List Int :=
 let f:=its m t l (l.length+1) (List.replicate l.length false)
 let t':=t-m*cnt f
 let d:=shs t' (sml l f) 0 l f
 (hnd m (isort d 1 (d.length-1)) (ous t' (sml l f) m l f) (t' - pts d)).1
def bad (l:List Int) (t m:Int):Int :=
 if 16<l.length then 2 else if pw l=true∧0≤t∧t≤1000000∧0≤m∧m≤1000000 then (if m*l.length<t then 40 else 0) else 6
end P
theorem app_loops (n:Bool) (l:List Int) (t m s0:Int) (f0 f:List Bool) (t' s':Int) (o0 o:List Int) (z z2:Bool) (d d2:List Shr) (e e2:Int) (o2:List Int)
  (h0:LRuns (vstep T (vlim T F) lplim fi11.cx 0 (lb fi11 0)) (uSt n l f0 t m 0 0) (.exit 1,⟨(uSt n l f0 t m s0 l.length).env++[(57,.bool false)],[]⟩))
  (h1:LRuns (vstep T (vlim T F) lplim fi11.cx 0 (lb fi11 1)) (aSt n l f0 m t s0 true) (aEnd n l f m t' s'))
  (h3:LRuns (vstep T (vlim T F) lplim fi11.cx 0 (lb fi11 3)) (cSt n l f m t' s' o0 true [] t' 0) (.exit 7,⟨(cSt n l f m t' s' o z d e l.length).env++[(105,.bool false)],[]⟩))
  (h4:LRuns (vstep T (vlim T F) lplim fi11.cx 0 (lb fi11 4)) (dSt z2 m o d2 e 0) (.exit 9,⟨[(2,.int .i64 m),(18,.ex 1 false (o2.map encI)),(19,.ex 3 z2 (d2.map encR)),(20,.int .i64 e2),(145,.lent (.slot 19)),(146,.int .i64 d2.length),(147,.int .i64 d2.length),(148,.bool false),(19,.ex 3 z2 (d2.map encR))],[]⟩)) :
  LGood T (vlim T F) lplim fi11.cx (loopsIs [(10,uSt n l f0 t m 0 0,(.exit 1,⟨(uSt n l f0 t m s0 l.length).env++[(57,.bool false)],[]⟩)),(15,aSt n l f0 m t s0 true,aEnd n l f m t' s'),(30,cSt n l f m t' s' o0 true [] t' 0,(.exit 7,⟨(cSt n l f m t' s' o z d e l.length).env++[(105,.bool false)],[]⟩)),
 (41,dSt z2 m o d2 e 0,(.exit 9,⟨[(2,.int .i64 m),(18,.ex 1 false (o2.map encI)),(19,.ex 3 z2 (d2.map encR)),(20,.int .i64 e2),(145,.lent (.slot 19)),(146,.int .i64 d2.length),(147,.int .i64 d2.length),(148,.bool false),(19,.ex 3 z2 (d2.map encR))],[]⟩))]) fi11.body:=LGood.is fun b hb x hx hf=>by
 have hl:loopsOf fi11.body=[lb fi11 0,lb fi11 1,lb fi11 2,lb fi11 3,lb fi11 4]:=by kernel_rfl
 have r0:firstRegion (lb fi11 0)=10:=by kernel_rfl
 have r1:firstRegion (lb fi11 1)=15:=by kernel_rfl
 have r2:firstRegion (lb fi11 2)=19:=by kernel_rfl
 have r3:firstRegion (lb fi11 3)=30:=by kernel_rfl
 have r4:firstRegion (lb fi11 4)=41:=by kernel_rfl
 rw[hl] at hb;simp only[List.mem_cons,List.not_mem_nil,or_false] at hb hx;rcases hx with rfl | rfl | rfl | rfl<;>rcases hb with rfl | rfl | rfl | rfl | rfl<;>simp only[r0,r1,r2,r3,r4] at hf<;>first | exact h0 | exact h1 | exact h3 | exact h4 | omega
namespace P
def outs (l:List Int) (t m:Int):List Int:=if bad l t m=0 then app l t m else []
end P
noncomputable def appS:List V→Heap→Tr (V×Heap):=fun a H=>match a,H with
 | [.sl _ xs,.int .i64 t,.int .i64 m],[]=>.must (xs.all isI) (.must (decide (xs.length<2 ^ 62)) (.ret (.tup [.ex 1 (!decide (P.bad (xs.map intOf) t m=0)) ((P.outs (xs.map intOf) t m).map encI),.int .i64 (P.bad (xs.map intOf) t m)],[])))
 | _,_=>.fail
theorem app_bad (n:Bool) (l:List Int) (t m:Int) (hl:l.length<2 ^ 62) (hb:P.bad l t m≠0):Runs T F 11 [.sl n (l.map encI),.int .i64 t,.int .i64 m] [] (.tup [.ex 1 true [],.int .i64 (P.bad l t m)],[]):=by
 unfold P.bad at hb ⊢;by_cases h1:16<l.length
 ·rw[if_pos h1]
  exact Runs.way (F:=F) (sh:=Sh) (S:=Y40) Y40_ok (fi:=fi11) (L:=fun _ _=>.fail) (by kernel_rfl) (fun _ _ _ _ h=>by cases h) [(decide ((↑(List.map encI l).length:Int)>16),true)] [2] (by kernel_rfl) (by
   refine⟨?_,trivial⟩
   all_goals first|exact isI_enc l|(simp;done)|(simp;omega)|(rw[ints_enc];simp[hp];done)|(rw[hwm];simp;omega)|(simp[rooms,maxRoom];omega))
 ·rw[if_neg h1] at hb ⊢
  by_cases hp:P.pw l=true
  ·by_cases ht0:0≤t
   ·by_cases ht1:t≤1000000
    ·by_cases hm0:0≤m
     ·by_cases hm1:m≤1000000
      ·rw[if_pos ⟨hp,ht0,ht1,hm0,hm1⟩] at hb ⊢
       by_cases hw:m*l.length<t
       ·rw[if_pos hw]
        have m1:=mulb (x:=m) (y:=l.length) (A:=1000000) (B:=16) ⟨by omega,by omega⟩ ⟨by omega,by omega⟩
        have hwm:IntKind.i64.wrap (m*((l.map encI).length:Int))=m*l.length:=by rw[List.length_map,i64in (by omega) (by omega)]
        exact Runs.way (F:=F) (sh:=Sh) (S:=Y40) Y40_ok (fi:=fi11) (L:=fun _ _=>.fail) (by kernel_rfl) (fun _ _ _ _ h=>by cases h) [(decide ((↑(List.map encI l).length:Int)>16),false),((List.map encI l).all isI,true),(decide ((List.map encI l).length<4611686018427387904),true),(!P.pw (List.map intOf (List.map encI l)),false),(decide (t≥0),true),(!decide (t≤1000000),false),(decide (m≥0),true),(!decide (m≤1000000),false),(decide (IntKind.i64.wrap (m*(↑(List.map encI l).length:Int))<t),true)] [2,3,4,5,5,6,6,6,6,5,5,7,7,8,8,8,8,7,7,9,10] (by kernel_rfl) (by
         refine⟨?_,?_,?_,?_,?_,?_,?_,?_,?_,trivial⟩
         all_goals first|exact isI_enc l|(simp;done)|(simp;omega)|(rw[ints_enc];simp[hp];done)|(rw[hwm];simp;omega)|(simp[rooms,maxRoom];omega))
       ·rw[if_neg hw] at hb;exact absurd rfl hb
      ·rw[if_neg (by omega)]
       exact Runs.way (F:=F) (sh:=Sh) (S:=Y40) Y40_ok (fi:=fi11) (L:=fun _ _=>.fail) (by kernel_rfl) (fun _ _ _ _ h=>by cases h) [(decide ((↑(List.map encI l).length:Int)>16),false),((List.map encI l).all isI,true),(decide ((List.map encI l).length<4611686018427387904),true),(!P.pw (List.map intOf (List.map encI l)),false),(decide (t≥0),true),(!decide (t≤1000000),false),(decide (m≥0),true),(!decide (m≤1000000),true)] [2,3,4,5,5,6,6,6,6,5,5,7,7,8,8,8,8,7,7,9] (by kernel_rfl) (by
        refine⟨?_,?_,?_,?_,?_,?_,?_,?_,trivial⟩
        all_goals first|exact isI_enc l|(simp;done)|(simp;omega)|(rw[ints_enc];simp[hp];done)|(rw[hwm];simp;omega)|(simp[rooms,maxRoom];omega))
     ·rw[if_neg (by omega)]
      exact Runs.way (F:=F) (sh:=Sh) (S:=Y40) Y40_ok (fi:=fi11) (L:=fun _ _=>.fail) (by kernel_rfl) (fun _ _ _ _ h=>by cases h) [(decide ((↑(List.map encI l).length:Int)>16),false),((List.map encI l).all isI,true),(decide ((List.map encI l).length<4611686018427387904),true),(!P.pw (List.map intOf (List.map encI l)),false),(decide (t≥0),true),(!decide (t≤1000000),false),(decide (m≥0),false)] [2,3,4,5,5,6,6,6,6,5,5,7,7,8,8,8,8,7,7,0] (by kernel_rfl) (by
       refine⟨?_,?_,?_,?_,?_,?_,?_,trivial⟩
       all_goals first|exact isI_enc l|(simp;done)|(simp;omega)|(rw[ints_enc];simp[hp];done)|(rw[hwm];simp;omega)|(simp[rooms,maxRoom];omega))
    ·rw[if_neg (by omega)]
     exact Runs.way (F:=F) (sh:=Sh) (S:=Y40) Y40_ok (fi:=fi11) (L:=fun _ _=>.fail) (by kernel_rfl) (fun _ _ _ _ h=>by cases h) [(decide ((↑(List.map encI l).length:Int)>16),false),((List.map encI l).all isI,true),(decide ((List.map encI l).length<4611686018427387904),true),(!P.pw (List.map intOf (List.map encI l)),false),(decide (t≥0),true),(!decide (t≤1000000),true)] [2,3,4,5,5,6,6,6,6,5,5,7,7,7,7,0] (by kernel_rfl) (by
      refine⟨?_,?_,?_,?_,?_,?_,trivial⟩
      all_goals first|exact isI_enc l|(simp;done)|(simp;omega)|(rw[ints_enc];simp[hp];done)|(rw[hwm];simp;omega)|(simp[rooms,maxRoom];omega))
   ·rw[if_neg (by omega)]
    exact Runs.way (F:=F) (sh:=Sh) (S:=Y40) Y40_ok (fi:=fi11) (L:=fun _ _=>.fail) (by kernel_rfl) (fun _ _ _ _ h=>by cases h) [(decide ((↑(List.map encI l).length:Int)>16),false),((List.map encI l).all isI,true),(decide ((List.map encI l).length<4611686018427387904),true),(!P.pw (List.map intOf (List.map encI l)),false),(decide (t≥0),false)] [2,3,4,5,5,6,6,6,6,5,5,0,0,0,0,0] (by kernel_rfl) (by
     refine⟨?_,?_,?_,?_,?_,trivial⟩
     all_goals first|exact isI_enc l|(simp;done)|(simp;omega)|(rw[ints_enc];simp[hp];done)|(rw[hwm];simp;omega)|(simp[rooms,maxRoom];omega))
  ·rw[if_neg (by simp[hp])]
   exact Runs.way (F:=F) (sh:=Sh) (S:=Y40) Y40_ok (fi:=fi11) (L:=fun _ _=>.fail) (by kernel_rfl) (fun _ _ _ _ h=>by cases h) [(decide ((↑(List.map encI l).length:Int)>16),false),((List.map encI l).all isI,true),(decide ((List.map encI l).length<4611686018427387904),true),(!P.pw (List.map intOf (List.map encI l)),true)] [2,3,4,5,5,5,5,0,0,0,0,0] (by kernel_rfl) (by
    refine⟨?_,?_,?_,?_,trivial⟩
    all_goals first|exact isI_enc l|(simp;done)|(simp;omega)|(rw[ints_enc];simp[hp];done)|(rw[hwm];simp;omega)|(simp[rooms,maxRoom];omega))
theorem sml_none:∀ l:List Int,P.sml l (List.replicate l.length false)=P.tot l
 | []=>rfl
 | x::l=>by simp only[List.length_cons,List.replicate_succ,P.sml,P.tot,Bool.false_eq_true,if_false,sml_none l]
theorem cnt_none:∀ n:Nat,P.cnt (List.replicate n false)=0
 | 0=>rfl
 | n+1=>by rw[List.replicate_succ];simp only[P.cnt,cnt_none n,Bool.false_eq_true,if_false];rfl
theorem app_good (n:Bool) (l:List Int) (t m:Int) (hl:l.length≤16) (hpw:P.pw l=true) (ht:0≤t∧t≤1000000) (hm:0≤m∧m≤1000000) (hw:t≤m*l.length) :
  Runs T F 11 [.sl n (l.map encI),.int .i64 t,.int .i64 m] [] (.tup [.ex 1 false ((P.app l t m).map encI),.int .i64 0],[]):=by
 have hp:=pw_iff.1 hpw;have m1:=mulb (x:=m) (y:=l.length) (A:=1000000) (B:=16) ⟨by omega,by omega⟩ ⟨by omega,by omega⟩
 have hwm:IntKind.i64.wrap (m*((l.map encI).length:Int))=m*l.length:=by rw[List.length_map,i64in (by omega) (by omega)]
 have htot:=tot_le l hp;obtain⟨f0,hf0⟩:∃ f0,f0=List.replicate l.length false:=⟨_,rfl⟩;obtain⟨o0,ho0⟩:∃ o0:List Int,o0=List.replicate l.length 0:=⟨_,rfl⟩;have h0:=u_loop n l f0 t m hl hp l.length 0 0 (by omega) (by omega) (by rw[List.drop_zero];omega)
 rw[List.drop_zero,Int.zero_add] at h0;have h1:=a_loop n l m t hl hp hm ht (l.length+1) f0 (by simp[hf0]) (by rw[hf0,cnt_none];omega)
 have e1:P.cnt f0=0:=by rw[hf0,cnt_none]
 have e2:P.sml l f0=P.tot l:=by rw[hf0,sml_none]
 rw[e2,e1,Int.mul_zero,Int.sub_zero] at h1;have hleft:=its_left (m:=m) (t0:=t) hp (l.length+1) f0 (by rw[e1];omega)
 have hfl:(P.its m t l (l.length+1) f0).length=l.length:=by rw[its_length,hf0];simp
 unfold P.app
 dsimp only
 rw[←hf0];generalize P.its m t l (l.length+1) f0=f at *;have hcf:=cnt_le f;have hmc:0≤m*P.cnt f:=Int.mul_nonneg hm.1 hcf.1;have hle:t-m*P.cnt f≤t:=by omega
 have hsm:=sm_le l f hp;have hz:∀ i,f.getD i true=false→0<P.sml l f:=by
  intro i hi;have hil:i<l.length:=by
   rcases Nat.lt_or_ge i f.length with h | h
   ·omega
   ·simp[h] at hi
  have:=sml_one l f i hil hp hi
  have:=hp l[i] (List.getElem_mem hil);omega
 have hz':false∈f→0<P.sml l f:=by
  intro h;obtain⟨i,hi,he⟩:=List.mem_iff_getElem.1 h;exact hz i (by simp[hi,he])
 generalize t-m*P.cnt f=t' at *;generalize P.sml l f=s' at *;have h3:=c_loop n l f m t' s' hl hp hfl ⟨hleft,by omega⟩ ⟨hsm.1,by omega⟩ hz l.length 0 o0 true [] t' (by omega) (by simp[ho0]) (by simp) (by omega) (by omega)
 simp only[List.drop_zero,List.take_zero,List.nil_append,Bool.true_and] at h3;have hob:=ous_b (m:=m) ⟨hleft,by omega⟩ hm hsm.1 l f hp
 have hpb:=shs_pts ⟨hleft,by omega⟩ hsm.1 l f 0 hp
 have hol:=ous_length t' s' m l f hfl;have hok:=shs_ok ⟨hleft,by omega⟩ ⟨hsm.1,by omega⟩ l f 0 hp hz'
 have hsl:=shs_length t' s' l f 0;have hat:=shs_at t' s' l f 0;generalize P.shs t' s' 0 l f=d at *;generalize P.ous t' s' m l f=o at *;have hsp:(P.isort d 1 (d.length-1)).length=d.length:=isort_length _ _ _;have h4:=fun z2=>d_loop z2 m (P.isort d 1 (d.length-1)) (by omega) l.length hl (fun s hs=>by have:=hat s (isort_mem _ _ hs);omega) d.length 0 o (t' - P.pts d) (by omega) hol (fun x hx=>by have:=hob x hx;omega) (by omega) (by omega)
 simp only[List.drop_zero] at h4;by_cases hd:d=[]
 ·subst hd
  have hL:=fun z2=>app_loops n l t m (P.tot l) f0 f t' s' o0 o true z2 [] (P.isort [] 1 (List.length ([]:List Shr)-1)) (t' - P.pts []) _ _ h0 h1 (by simpa [P.shs] using h3) (h4 z2)
  exact Runs.way (F:=F) (sh:=Sh) (S:=Y40) Y40_ok (fi:=fi11) (by kernel_rfl) (hL true) [(decide ((↑(List.map encI l).length:Int)>16),false),((List.map encI l).all isI,true),(decide ((List.map encI l).length<4611686018427387904),true),(!P.pw (List.map intOf (List.map encI l)),false),(decide (t≥0),true),(!decide (t≤1000000),false),(decide (m≥0),true),(!decide (m≤1000000),false),(decide (IntKind.i64.wrap (m*(↑(List.map encI l).length:Int))<t),false),(decide ((↑(List.map encI l).length:Int)≤(↑(List.map encI l).length:Int)),true),(rooms (↑(List.map encI l).length:Int).toNat 1,true),(decide ((↑(List.map encI l).length:Int).toNat<4611686018427387904),true),(is {env:=[(0,V.sl n (List.map encI l)),(2,.int .i64 m),(8,V.ex 1 false (List.replicate (↑(List.map encI l).length:Int).toNat (V.bool false))),(9,.int .i64 t),(10,.int .i64 0),(54,V.sl n (List.map encI l)),(55,.int .i64 (↑(List.map encI l).length:Int)),(56,.int .i64 0)],heap:=[]} {env:=[(0,V.sl n (List.map encI l)),(2,.int .i64 m),(8,V.ex 1 false (List.map encB f0)),(9,.int .i64 t),(10,.int .i64 0),(54,V.sl n (List.map encI l)),(55,.int .i64 (↑l.length:Int)),(56,.int .i64 0)],heap:=[]},true),(is {env:=[(0,V.sl n (List.map encI l)),(2,.int .i64 m),(8,V.ex 1 false (List.map encB f0)),(9,.int .i64 t),(10,.int .i64 (P.tot l)),(13,V.bool true)],heap:=[]} {env:=[(0,V.sl n (List.map encI l)),(2,.int .i64 m),(8,V.ex 1 false (List.map encB f0)),(9,.int .i64 t),(10,.int .i64 (P.tot l)),(13,V.bool true)],heap:=[]},true),(rooms (↑(List.map encI l).length:Int).toNat 8,true),(is {env:=[(2,.int .i64 m),(8,V.ex 1 false (List.map encB f)),(9,.int .i64 t'),(10,.int .i64 s'),(18,V.ex 1 false (List.replicate (↑(List.map encI l).length:Int).toNat (V.int IntKind.i64 0))),(19,V.ex 3 true []),(20,.int .i64 t'),(102,V.sl n (List.map encI l)),(103,.int .i64 (↑(List.map encI l).length:Int)),(104,.int .i64 0)],heap:=[]} {env:=[(2,.int .i64 m),(8,V.ex 1 false (List.map encB f)),(9,.int .i64 t'),(10,.int .i64 s'),(18,V.ex 1 false (List.map encI o0)),(19,V.ex 3 true []),(20,.int .i64 t'),(102,V.sl n (List.map encI l)),(103,.int .i64 (↑l.length:Int)),(104,.int .i64 0)],heap:=[]},true),((List.map encR (([]:List Shr))).isEmpty,true),(is {env:=[(2,.int .i64 m),(18,V.ex 1 false (List.map encI o)),(19,V.ex 3 (true) (List.map encR (([]:List Shr)))),(20,.int .i64 (t' - P.pts [])),(145,V.lent (Place.slot 19)),(146,.int .i64 (↑(List.map encR (([]:List Shr))).length:Int)),(147,.int .i64 0),(19,V.ex 3 (true) (List.map encR (([]:List Shr))))],heap:=[]} {env:=[(2,.int .i64 m),(18,V.ex 1 false (List.map encI o)),(19,V.ex 3 (true) (List.map encR (P.isort [] 1 (([]:List Shr).length-1)))),(20,.int .i64 (t' - P.pts [])),(145,V.lent (Place.slot 19)),(146,.int .i64 (↑(P.isort [] 1 (([]:List Shr).length-1)).length:Int)),(147,.int .i64 0),(19,V.ex 3 (true) (List.map encR (P.isort [] 1 (([]:List Shr).length-1))))],heap:=[]},true)] [2,3,4,5,5,6,6,6,6,5,5,7,7,8,8,8,8,7,7,9,10,0,11,12,13,14,15,0,11,16,13,17,18,18,0,19] (by kernel_rfl) (by
   refine⟨?_,?_,?_,?_,?_,?_,?_,?_,?_,?_,?_,?_,?_,?_,?_,?_,?_,?_,trivial⟩
   all_goals first|exact isI_enc l|exact flat_dat _|exact hie|exact hq|exact eqB_self _|(rw[hwm];simp;omega)|(rw[hfj,dec_flat];exact eqB_self _)|(rw[hfj,dec_flat];refine eqB_eq ?_;simp;done)|(rw[hfj,dec_flat,List.length_map,regroup_flat _ _ hsp.symm];refine is_eq ?_;simp;done)|(rw[hfj,dec_flat];exact okRb_iff.2 hok)|(rw[hfj,dec_flat];simp[flat_length,hsp];done)|(rw[ints_enc];simp[hpw];done)|(refine is_eq ?_;simp[hf0,encB];done)|(refine is_eq ?_;simp[ho0,encI];done)|(refine is_eq ?_;simp[P.isort];done)|(rw[hfj];exact flat_dat _)|(refine is_eq ?_;rw[hfe];simp;done)|(simp[rooms,maxRoom];omega)|(simp;done)|(simp;omega)|done)
 ·have hL:=fun z2=>app_loops n l t m (P.tot l) f0 f t' s' o0 o (d.isEmpty) z2 d (P.isort d 1 (d.length-1)) (t' - P.pts d) _ _ h0 h1 h3 (h4 z2)
  have hfj:(List.map V.cells (List.map encR d)).flatten=P.flat d:=flat_join d;have hie:(List.map encR d).isEmpty=false:=by cases d;exact absurd rfl hd;rfl
  cases hq:eqB (P.flat (P.isort (P.dec (List.map V.cells (List.map encR d)).flatten) 1 ((List.map encR d).length-1))) (List.map V.cells (List.map encR d)).flatten
  ·exact Runs.way (F:=F) (sh:=Sh) (S:=Y40) Y40_ok (fi:=fi11) (by kernel_rfl) (hL false) [(decide ((↑(List.map encI l).length:Int)>16),false),((List.map encI l).all isI,true),(decide ((List.map encI l).length<4611686018427387904),true),(!P.pw (List.map intOf (List.map encI l)),false),(decide (t≥0),true),(!decide (t≤1000000),false),(decide (m≥0),true),(!decide (m≤1000000),false),(decide (IntKind.i64.wrap (m*(↑(List.map encI l).length:Int))<t),false),(decide ((↑(List.map encI l).length:Int)≤(↑(List.map encI l).length:Int)),true),(rooms (↑(List.map encI l).length:Int).toNat 1,true),(decide ((↑(List.map encI l).length:Int).toNat<4611686018427387904),true),(is {env:=[(0,V.sl n (List.map encI l)),(2,.int .i64 m),(8,V.ex 1 false (List.replicate (↑(List.map encI l).length:Int).toNat (V.bool false))),(9,.int .i64 t),(10,.int .i64 0),(54,V.sl n (List.map encI l)),(55,.int .i64 (↑(List.map encI l).length:Int)),(56,.int .i64 0)],heap:=[]} {env:=[(0,V.sl n (List.map encI l)),(2,.int .i64 m),(8,V.ex 1 false (List.map encB f0)),(9,.int .i64 t),(10,.int .i64 0),(54,V.sl n (List.map encI l)),(55,.int .i64 (↑l.length:Int)),(56,.int .i64 0)],heap:=[]},true),(is {env:=[(0,V.sl n (List.map encI l)),(2,.int .i64 m),(8,V.ex 1 false (List.map encB f0)),(9,.int .i64 t),(10,.int .i64 (P.tot l)),(13,V.bool true)],heap:=[]} {env:=[(0,V.sl n (List.map encI l)),(2,.int .i64 m),(8,V.ex 1 false (List.map encB f0)),(9,.int .i64 t),(10,.int .i64 (P.tot l)),(13,V.bool true)],heap:=[]},true),(rooms (↑(List.map encI l).length:Int).toNat 8,true),(is {env:=[(2,.int .i64 m),(8,V.ex 1 false (List.map encB f)),(9,.int .i64 t'),(10,.int .i64 s'),(18,V.ex 1 false (List.replicate (↑(List.map encI l).length:Int).toNat (V.int IntKind.i64 0))),(19,V.ex 3 true []),(20,.int .i64 t'),(102,V.sl n (List.map encI l)),(103,.int .i64 (↑(List.map encI l).length:Int)),(104,.int .i64 0)],heap:=[]} {env:=[(2,.int .i64 m),(8,V.ex 1 false (List.map encB f)),(9,.int .i64 t'),(10,.int .i64 s'),(18,V.ex 1 false (List.map encI o0)),(19,V.ex 3 true []),(20,.int .i64 t'),(102,V.sl n (List.map encI l)),(103,.int .i64 (↑l.length:Int)),(104,.int .i64 0)],heap:=[]},true),((List.map encR (d)).isEmpty,false),(eqB (List.map V.cells (List.map encR (d))).flatten (P.flat (P.dec (List.map V.cells (List.map encR (d))).flatten)),true),(eqB (↑(List.map encR (d)).length:Int) (↑(List.map encR (d)).length:Int),true),(eqB (List.map encR (d)).length (P.dec (List.map V.cells (List.map encR (d))).flatten).length,true),(decide ((List.map encR (d)).length≤16),true),((P.dec (List.map V.cells (List.map encR (d))).flatten).all fun s=>decide (0≤s.3)&&decide (s.3≤2000000000000),true),(eqB (P.flat (P.isort (P.dec (List.map V.cells (List.map encR (d))).flatten) 1 ((List.map encR (d)).length-1))) (List.map V.cells (List.map encR (d))).flatten,false),((P.flat (P.isort (P.dec (List.map V.cells (List.map encR (d))).flatten) 1 ((List.map encR (d)).length-1))).all cellDat,true),((P.flat (P.isort (P.dec (List.map V.cells (List.map encR (d))).flatten) 1 ((List.map encR (d)).length-1))).length==(List.map V.cells (List.map encR (d))).flatten.length,true),(is {env:=[(2,.int .i64 m),(18,V.ex 1 false (List.map encI o)),(19,V.ex 3 false (regroup (List.map encR (d)) (P.flat (P.isort (P.dec (List.map V.cells (List.map encR (d))).flatten) 1 ((List.map encR (d)).length-1))))),(20,.int .i64 (t' - P.pts d)),(145,V.lent (Place.slot 19)),(146,.int .i64 (↑(regroup (List.map encR (d)) (P.flat (P.isort (P.dec (List.map V.cells (List.map encR (d))).flatten) 1 ((List.map encR (d)).length-1)))).length:Int)),(147,.int .i64 0),(19,V.ex 3 false (regroup (List.map encR (d)) (P.flat (P.isort (P.dec (List.map V.cells (List.map encR (d))).flatten) 1 ((List.map encR (d)).length-1)))))],heap:=[]} {env:=[(2,.int .i64 m),(18,V.ex 1 false (List.map encI o)),(19,V.ex 3 (false) (List.map encR (P.isort (d) 1 ((d).length-1)))),(20,.int .i64 (t' - P.pts d)),(145,V.lent (Place.slot 19)),(146,.int .i64 (↑(P.isort (d) 1 ((d).length-1)).length:Int)),(147,.int .i64 0),(19,V.ex 3 (false) (List.map encR (P.isort (d) 1 ((d).length-1))))],heap:=[]},true)] [2,3,4,5,5,6,6,6,6,5,5,7,7,8,8,8,8,7,7,9,10,0,11,12,13,14,15,0,11,16,13,17,18,0,19,20,21,22,23,24,25,26,27] (by kernel_rfl) (by
    refine⟨?_,?_,?_,?_,?_,?_,?_,?_,?_,?_,?_,?_,?_,?_,?_,?_,?_,?_,?_,?_,?_,?_,?_,?_,?_,?_,trivial⟩
    all_goals first|exact isI_enc l|exact flat_dat _|exact hie|exact hq|exact eqB_self _|(rw[hwm];simp;omega)|(rw[hfj,dec_flat];exact eqB_self _)|(rw[hfj,dec_flat];refine eqB_eq ?_;simp;done)|(rw[hfj,dec_flat,List.length_map,regroup_flat _ _ hsp.symm];refine is_eq ?_;simp;done)|(rw[hfj,dec_flat];exact okRb_iff.2 hok)|(rw[hfj,dec_flat];simp[flat_length,hsp];done)|(rw[ints_enc];simp[hpw];done)|(refine is_eq ?_;simp[hf0,encB];done)|(refine is_eq ?_;simp[ho0,encI];done)|(refine is_eq ?_;simp[P.isort];done)|(rw[hfj];exact flat_dat _)|(refine is_eq ?_;rw[hfe];simp;done)|(simp[rooms,maxRoom];omega)|(simp;done)|(simp;omega)|done)
  ·have hfe:P.isort d 1 (d.length-1)=d:=by
    have h:=of_eqB hq;rw[hfj,dec_flat,List.length_map] at h;have:=congrArg P.dec h
    rwa [dec_flat,dec_flat] at this
   exact Runs.way (F:=F) (sh:=Sh) (S:=Y40) Y40_ok (fi:=fi11) (by kernel_rfl) (hL false) [(decide ((↑(List.map encI l).length:Int)>16),false),((List.map encI l).all isI,true),(decide ((List.map encI l).length<4611686018427387904),true),(!P.pw (List.map intOf (List.map encI l)),false),(decide (t≥0),true),(!decide (t≤1000000),false),(decide (m≥0),true),(!decide (m≤1000000),false),(decide (IntKind.i64.wrap (m*(↑(List.map encI l).length:Int))<t),false),(decide ((↑(List.map encI l).length:Int)≤(↑(List.map encI l).length:Int)),true),(rooms (↑(List.map encI l).length:Int).toNat 1,true),(decide ((↑(List.map encI l).length:Int).toNat<4611686018427387904),true),(is {env:=[(0,V.sl n (List.map encI l)),(2,.int .i64 m),(8,V.ex 1 false (List.replicate (↑(List.map encI l).length:Int).toNat (V.bool false))),(9,.int .i64 t),(10,.int .i64 0),(54,V.sl n (List.map encI l)),(55,.int .i64 (↑(List.map encI l).length:Int)),(56,.int .i64 0)],heap:=[]} {env:=[(0,V.sl n (List.map encI l)),(2,.int .i64 m),(8,V.ex 1 false (List.map encB f0)),(9,.int .i64 t),(10,.int .i64 0),(54,V.sl n (List.map encI l)),(55,.int .i64 (↑l.length:Int)),(56,.int .i64 0)],heap:=[]},true),(is {env:=[(0,V.sl n (List.map encI l)),(2,.int .i64 m),(8,V.ex 1 false (List.map encB f0)),(9,.int .i64 t),(10,.int .i64 (P.tot l)),(13,V.bool true)],heap:=[]} {env:=[(0,V.sl n (List.map encI l)),(2,.int .i64 m),(8,V.ex 1 false (List.map encB f0)),(9,.int .i64 t),(10,.int .i64 (P.tot l)),(13,V.bool true)],heap:=[]},true),(rooms (↑(List.map encI l).length:Int).toNat 8,true),(is {env:=[(2,.int .i64 m),(8,V.ex 1 false (List.map encB f)),(9,.int .i64 t'),(10,.int .i64 s'),(18,V.ex 1 false (List.replicate (↑(List.map encI l).length:Int).toNat (V.int IntKind.i64 0))),(19,V.ex 3 true []),(20,.int .i64 t'),(102,V.sl n (List.map encI l)),(103,.int .i64 (↑(List.map encI l).length:Int)),(104,.int .i64 0)],heap:=[]} {env:=[(2,.int .i64 m),(8,V.ex 1 false (List.map encB f)),(9,.int .i64 t'),(10,.int .i64 s'),(18,V.ex 1 false (List.map encI o0)),(19,V.ex 3 true []),(20,.int .i64 t'),(102,V.sl n (List.map encI l)),(103,.int .i64 (↑l.length:Int)),(104,.int .i64 0)],heap:=[]},true),((List.map encR (d)).isEmpty,false),(eqB (List.map V.cells (List.map encR (d))).flatten (P.flat (P.dec (List.map V.cells (List.map encR (d))).flatten)),true),(eqB (↑(List.map encR (d)).length:Int) (↑(List.map encR (d)).length:Int),true),(eqB (List.map encR (d)).length (P.dec (List.map V.cells (List.map encR (d))).flatten).length,true),(decide ((List.map encR (d)).length≤16),true),((P.dec (List.map V.cells (List.map encR (d))).flatten).all fun s=>decide (0≤s.3)&&decide (s.3≤2000000000000),true),(eqB (P.flat (P.isort (P.dec (List.map V.cells (List.map encR (d))).flatten) 1 ((List.map encR (d)).length-1))) (List.map V.cells (List.map encR (d))).flatten,true),(dataC (P.flat (P.isort (P.dec (List.map V.cells (List.map encR (d))).flatten) 1 ((List.map encR (d)).length-1))),true),(is {env:=[(2,.int .i64 m),(18,V.ex 1 false (List.map encI o)),(19,V.ex 3 false (List.map encR (d))),(20,.int .i64 (t' - P.pts d)),(145,V.lent (Place.slot 19)),(146,.int .i64 (↑(List.map encR (d)).length:Int)),(147,.int .i64 0),(19,V.ex 3 false (List.map encR (d)))],heap:=[]} {env:=[(2,.int .i64 m),(18,V.ex 1 false (List.map encI o)),(19,V.ex 3 (false) (List.map encR (P.isort (d) 1 ((d).length-1)))),(20,.int .i64 (t' - P.pts d)),(145,V.lent (Place.slot 19)),(146,.int .i64 (↑(P.isort (d) 1 ((d).length-1)).length:Int)),(147,.int .i64 0),(19,V.ex 3 (false) (List.map encR (P.isort (d) 1 ((d).length-1))))],heap:=[]},true)] [2,3,4,5,5,6,6,6,6,5,5,7,7,8,8,8,8,7,7,9,10,0,11,12,13,14,15,0,11,16,13,17,18,0,19,20,21,22,23,24,25,26] (by kernel_rfl) (by
    refine⟨?_,?_,?_,?_,?_,?_,?_,?_,?_,?_,?_,?_,?_,?_,?_,?_,?_,?_,?_,?_,?_,?_,?_,?_,?_,trivial⟩
    all_goals first|exact isI_enc l|exact flat_dat _|exact hie|exact hq|exact eqB_self _|(rw[hwm];simp;omega)|(rw[hfj,dec_flat];exact eqB_self _)|(rw[hfj,dec_flat];refine eqB_eq ?_;simp;done)|(rw[hfj,dec_flat,List.length_map,regroup_flat _ _ hsp.symm];refine is_eq ?_;simp;done)|(rw[hfj,dec_flat];exact okRb_iff.2 hok)|(rw[hfj,dec_flat];simp[flat_length,hsp];done)|(rw[ints_enc];simp[hpw];done)|(refine is_eq ?_;simp[hf0,encB];done)|(refine is_eq ?_;simp[ho0,encI];done)|(refine is_eq ?_;simp[P.isort];done)|(rw[hfj];exact flat_dat _)|(refine is_eq ?_;rw[hfe];simp;done)|(simp[rooms,maxRoom];omega)|(simp;done)|(simp;omega)|done)
theorem bad_ok {l:List Int} {t m:Int} (h:P.bad l t m=0):l.length≤16∧P.pw l=true∧(0≤t∧t≤1000000)∧(0≤m∧m≤1000000)∧t≤m*l.length:=by
 unfold P.bad at h;by_cases h1:16<l.length
 ·rw[if_pos h1] at h;omega
 ·rw[if_neg h1] at h
  by_cases h2:P.pw l=true∧0≤t∧t≤1000000∧0≤m∧m≤1000000
  ·rw[if_pos h2] at h
   by_cases h3:m*l.length<t
   ·rw[if_pos h3] at h;omega
   ·exact⟨by omega,h2.1,⟨h2.2.1,h2.2.2.1⟩,h2.2.2.2,by omega⟩
  ·rw[if_neg h2] at h;omega
theorem appS_ok:∀ a H r,(appS a H).run=some r→Runs T F 11 a H r:=by
 intro a H r h;unfold appS at h;split at h
 ·rename_i n xs t m
  obtain⟨h1,h⟩:=Tr.must_some h;obtain⟨h2,h⟩:=Tr.must_some h;have hr:=ret_some h;clear h;subst hr;simp only[decide_eq_true_eq] at h2;have hx:=isI_all h1;rw[←List.length_map (f:=intOf)] at h2;generalize xs.map intOf=l at *;subst hx;by_cases hb:P.bad l t m=0
  ·obtain⟨g1,g2,g3,g4,g5⟩:=bad_ok hb
   simp only[P.outs,hb,if_true,decide_true,Bool.not_true];exact app_good n l t m g1 g2 g3 g4 g5
  ·simp only[P.outs,hb,if_false,decide_false,Bool.not_false,List.map_nil]
   exact app_bad n l t m h2 hb
 ·cases h
noncomputable def Y11:Vm.Spec:=Y40.add 11 appS
theorem Y11_ok:Vm.Good (vlim T F) Y11:=Y40_ok.add appS_ok
end Go.Proofs.Ytnijkhcmjpfjeaa
