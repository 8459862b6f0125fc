/- S6: what the reference apportions is what is apportioned (plain). -/
import Derived.Test.YtnijkhcmjpfjeaaS5
namespace Go.Proofs.Ytnijkhcmjpfjeaa
open Go Go.Vm
def bef (a b:Shr):Prop:=b.rest<a.rest∨(a.rest=b.rest∧a.at_<b.at_)
def insB:List Shr→Shr→List Shr
 | [],x=>[x]
 | y::r,x=>if y.rest<x.rest then y::insB r x else x::y::r
theorem sw_mid (r b:List Shr) (y x:Shr):sw (r++y::x::b) r.length=r++x::y::b:=by
 unfold sw;have e1:(r++y::x::b)[r.length]?=some y:=by simp
 have e2:(r++y::x::b)[r.length+1]?=some x:=by simp
 rw[e1,e2];simp only;rw[List.set_append_right _ _ (by omega),List.set_append_right _ _ (by omega)]
 simp
theorem ins_insB:∀ (a b:List Shr) (x:Shr),P.ins (a.reverse++x::b) a.length=(insB a x).reverse++b
 | [],b,x=>by simp[P.ins,insB]
 | y::r,b,x=>by
  have e:(y::r).reverse++x::b=r.reverse++y::x::b:=by simp
  rw[e,List.length_cons];have hl:r.length=r.reverse.length:=by simp
  unfold P.ins;have e1:(r.reverse++y::x::b)[r.length]?=some y:=by rw[hl];simp
  have e2:(r.reverse++y::x::b)[r.length+1]?=some x:=by rw[hl];simp
  rw[e1,e2];simp only[insB];by_cases h:y.rest<x.rest
  ·rw[if_pos h,if_pos h]
   rw[show sw (r.reverse++y::x::b) r.length=r.reverse++x::y::b by rw[hl];exact sw_mid ..]
   rw[ins_insB r (y::b) x];simp
  ·rw[if_neg h,if_neg h];simp
theorem insB_mem {z x:Shr}:∀ {r:List Shr},z∈insB r x↔z=x∨z∈r
 | []=>by simp[insB]
 | y::r=>by
  unfold insB;split
  ·rw[List.mem_cons,insB_mem (r:=r),List.mem_cons]
   constructor
   ·rintro (h | h | h)<;>simp[h]
   ·rintro (h | h | h)<;>simp[h]
  ·simp
theorem insB_perm (x:Shr):∀ r:List Shr,(insB r x).Perm (x::r)
 | []=>.refl _
 | y::r=>by
  unfold insB;split
  ·exact (List.Perm.cons y (insB_perm x r)).trans (List.Perm.swap x y r)
  ·exact .refl _
theorem insB_sorted {x:Shr}:∀ {r:List Shr},r.Pairwise (fun a b=>bef b a)→(∀ y∈r,y.at_<x.at_)→(insB r x).Pairwise (fun a b=>bef b a)
 | [],_,_=>by simp[insB]
 | y::r,h,hx=>by
  rw[List.pairwise_cons] at h;unfold insB;have hy:=hx y (by simp)
  split
  ·rename_i hlt
   refine List.Pairwise.cons (fun z hz=>?_) (insB_sorted h.2 (fun y hy=>hx y (by simp[hy])))
   rcases insB_mem.1 hz with rfl | hz
   ·exact .inl hlt
   ·exact h.1 z hz
  ·rename_i hge
   refine List.Pairwise.cons (fun z hz=>?_) (List.Pairwise.cons h.1 h.2)
   rcases List.mem_cons.1 hz with rfl | hz
   ·unfold bef;omega
   ·have h1:=h.1 z hz
    have h2:=hx z (by simp[hz])
    unfold bef at h1 ⊢;omega
theorem isort_foldl:∀ (b a:List Shr),P.isort (a.reverse++b) a.length b.length=(b.foldl insB a).reverse
 | [],a=>by simp[P.isort]
 | x::b,a=>by
  rw[List.length_cons];unfold P.isort;rw[ins_insB,List.foldl_cons,←isort_foldl b (insB a x)];rw[show (insB a x).length=a.length+1 by rw[(insB_perm x a).length_eq];simp]
theorem foldl_perm:∀ (b a:List Shr),(b.foldl insB a).Perm (a++b)
 | [],a=>by simp
 | x::b,a=>by
  rw[List.foldl_cons];refine (foldl_perm b _).trans ?_;refine (List.Perm.append_right b (insB_perm x a)).trans ?_;rw[List.cons_append];exact List.perm_middle.symm
theorem foldl_sorted:∀ (b a:List Shr),a.Pairwise (fun a b=>bef b a)→(∀ y∈a,∀ z∈b,y.at_<z.at_)→b.Pairwise (fun a b=>a.at_<b.at_)→(b.foldl insB a).Pairwise (fun a b=>bef b a)
 | [],a,h,_,_=>h
 | x::b,a,h,hab,hb=>by
  rw[List.pairwise_cons] at hb;rw[List.foldl_cons];refine foldl_sorted b _ (insB_sorted h (fun y hy=>hab y hy x (by simp))) (fun y hy z hz=>?_) hb.2
  rcases insB_mem.1 hy with rfl | hy
  ·exact hb.1 z hz
  ·exact hab y hy z (by simp[hz])
theorem isort_good (d:List Shr) (h:d.Pairwise (fun a b=>a.at_<b.at_)):(P.isort d 1 (d.length-1)).Pairwise bef∧(P.isort d 1 (d.length-1)).Perm d:=by
 cases d with
 | nil=>simp[P.isort]
 | cons x b =>
  have e:=isort_foldl b [x];simp only[List.reverse_cons,List.reverse_nil,List.nil_append,List.singleton_append,List.length_singleton] at e;rw[List.length_cons,Nat.add_sub_cancel,e];rw[List.pairwise_cons] at h;refine⟨List.pairwise_reverse.2 (foldl_sorted b [x] (by simp) (fun y hy z hz=>?_) h.2),(List.reverse_perm _).trans (foldl_perm b [x])⟩
  rw[List.mem_singleton] at hy;subst hy;exact h.1 z hz
theorem shs_pair (t s:Int):∀ (l:List Int) (f:List Bool) (i:Int),(P.shs t s i l f).Pairwise (fun a b=>a.at_<b.at_)
 | [],f,i=>by simp[P.shs]
 | x::l,[],i=>by simp[P.shs]
 | x::l,b::f,i=>by
  cases b
  ·simp only[P.shs,Bool.false_eq_true,if_false]
   refine List.Pairwise.cons (fun z hz=>?_) (shs_pair t s l f (i+1))
   have:=shs_at t s l f (i+1) z hz
   simp only;omega
  ·simp only[P.shs,if_true];exact shs_pair t s l f (i+1)
theorem shs_mem (t s:Int):∀ (l:List Int) (f:List Bool) (i:Int) (x:Shr),f.length=l.length →
  (x∈P.shs t s i l f↔∃ k:Nat,k<l.length∧f.getD k true=false∧x=⟨i+k,(t*l.getD k 0).tdiv s,(t*l.getD k 0).tmod s⟩)
 | [],f,i,x,h=>by simp[P.shs]
 | y::l,[],i,x,h=>by simp at h
 | y::l,b::f,i,x,h=>by
  have ih:=shs_mem t s l f (i+1) x (by simpa using h)
  have key:(∃ k:Nat,k<(y::l).length∧(b::f).getD k true=false∧x=⟨i+k,(t*(y::l).getD k 0).tdiv s,(t*(y::l).getD k 0).tmod s⟩) ↔
    (b=false∧x=⟨i,(t*y).tdiv s,(t*y).tmod s⟩)∨(∃ k:Nat,k<l.length∧f.getD k true=false∧x=⟨i+1+k,(t*l.getD k 0).tdiv s,(t*l.getD k 0).tmod s⟩):=by
   constructor
   ·rintro ⟨k,h1,h2,h3⟩
    cases k with
    | zero=>left;exact⟨by simpa using h2,by simpa using h3⟩
    | succ k =>
     right
     refine⟨k,by simpa using h1,by simpa using h2,?_⟩
     rw[h3];simp only[List.getD_cons_succ,Shr.mk.injEq,and_self,and_true];omega
   ·rintro (⟨h1,h2⟩ | ⟨k,h1,h2,h3⟩)
    ·exact⟨0,by simp,by simpa using h1,by simpa using h2⟩
    ·refine⟨k+1,by simpa using h1,by simpa using h2,?_⟩
     rw[h3];simp only[List.getD_cons_succ,Shr.mk.injEq,and_self,and_true];omega
  rw[key];cases b
  ·simp only[P.shs,Bool.false_eq_true,if_false,List.mem_cons,true_and,ih]
  ·simp only[P.shs,if_true,ih];simp
namespace P
def rem (t s:Int) (l:List Int) (i:Nat):Int:=(t*l.getD i 0).tmod s
def elig (m:Int) (f dn:List Bool) (o:List Int) (i:Nat):Bool:=!f.getD i true&&!dn.getD i true&&decide (o.getD i 0<m)
def bst (m t s:Int) (l:List Int) (f dn:List Bool) (o:List Int):Nat→Nat→Int→Int→Int
 | _,0,b,_=>b
 | i,d+1,b,v=>if elig m f dn o i=true∧rem t s l i>v then bst m t s l f dn o (i+1) d i (rem t s l i) else bst m t s l f dn o (i+1) d b v
def giv (m t s:Int) (l:List Int) (f:List Bool):Nat→List Bool→List Int→Int→List Int
 | 0,_,o,_=>o
 | k+1,dn,o,e=>if e>0 then
   let b:=(bst m t s l f dn o 0 l.length (-1) (-1)).toNat
   giv m t s l f k (dn.set b true) (o.set b (o.getD b 0+1)) (e-1) else o
end P
theorem bst_stay {m t s:Int} {l:List Int} {f dn:List Bool} {o:List Int}:∀ (d i:Nat) (b v:Int),(∀ j,i≤j→j<i+d→P.elig m f dn o j=true→P.rem t s l j≤v)→P.bst m t s l f dn o i d b v=b
 | 0,i,b,v,h=>rfl
 | d+1,i,b,v,h=>by
  unfold P.bst;rw[if_neg (by rintro ⟨h1,h2⟩;have:=h i (by omega) (by omega) h1;omega)]
  exact bst_stay d (i+1) b v (fun j h1 h2=>h j (by omega) (by omega))
theorem bst_find {m t s:Int} {l:List Int} {f dn:List Bool} {o:List Int} {j:Nat} (he:P.elig m f dn o j=true):∀ (d i:Nat) (b v:Int),i≤j→j<i+d→v<P.rem t s l j →
  (∀ j',i≤j'→j'<j→P.elig m f dn o j'=true→P.rem t s l j'<P.rem t s l j)→(∀ j',j<j'→j'<i+d→P.elig m f dn o j'=true→P.rem t s l j'≤P.rem t s l j) →
  P.bst m t s l f dn o i d b v=j
 | 0,i,b,v,h1,h2,_,_,_=>by omega
 | d+1,i,b,v,h1,h2,h3,h4,h5=>by
  unfold P.bst;rcases Nat.lt_or_ge i j with hij | hij
  ·split
   ·rename_i h
    exact bst_find he d (i+1) i _ (by omega) (by omega) (h4 i (by omega) hij h.1) (fun j' a b=>h4 j' (by omega) b) (fun j' a b=>h5 j' a (by omega))
   ·exact bst_find he d (i+1) b v (by omega) (by omega) h3 (fun j' a b=>h4 j' (by omega) b) (fun j' a b=>h5 j' a (by omega))
  ·have:i=j:=by omega
   subst this;rw[if_pos ⟨he,h3⟩];exact bst_stay d (i+1) i _ (fun j' a b c=>h5 j' (by omega) (by omega) c)
namespace P
def fine (m t s:Int) (l:List Int) (f:List Bool):Nat→List Bool→List Int→Int→Prop
 | 0,_,_,e=>e≤0
 | k+1,dn,o,e=>e≤0∨∃ b:Nat,bst m t s l f dn o 0 l.length (-1) (-1)=b∧b<l.length∧0≤o.getD b 0∧o.getD b 0<m∧fine m t s l f k (dn.set b true) (o.set b (o.getD b 0+1)) (e-1)
end P
theorem fine_none (m t s:Int) (l:List Int) (f:List Bool) (k:Nat) (dn:List Bool) (o:List Int) (e:Int) (h:e≤0):P.fine m t s l f k dn o e:=by
 cases k with
 | zero=>exact h
 | succ k=>exact .inl h
theorem hnd_none (m:Int):∀ (d:List Shr) (o:List Int) (e:Int),e≤0→(P.hnd m d o e).1=o
 | [],o,e,_=>rfl
 | x::d,o,e,h=>by unfold P.hnd;rw[if_neg (by omega)];exact hnd_none m d o e h
def can (m:Int) (d:List Shr):Nat:=d.countP fun x=>decide (x.part<m)
theorem giv_none (m t s:Int) (l:List Int) (f:List Bool) (k:Nat) (dn:List Bool) (o:List Int) (e:Int) (h:e≤0):P.giv m t s l f k dn o e=o:=by
 cases k with
 | zero=>rfl
 | succ k=>unfold P.giv;rw[if_neg (by omega)]
theorem giv_hnd (m t s:Int) (l:List Int) (f:List Bool):∀ (d:List Shr) (dn:List Bool) (o:List Int) (e:Int) (k:Nat),d.Pairwise bef→d.Pairwise (fun a b=>a.at_≠b.at_) →
  (∀ i,P.elig m f dn o i=true↔∃ x∈d,x.at_=i∧x.part<m)→(∀ x∈d,0≤x.at_∧x.at_<l.length∧o.getD x.at_.toNat 0=x.part∧x.rest=P.rem t s l x.at_.toNat∧0≤x.rest∧0≤x.part) →
  o.length=l.length→dn.length=l.length→e≤can m d→e≤k→P.giv m t s l f k dn o e=(P.hnd m d o e).1∧P.fine m t s l f k dn o e
 | [],dn,o,e,k,_,_,_,_,_,_,hc,_=>by
  have:e≤0:=by simpa [can] using hc
  rw[giv_none _ _ _ _ _ _ _ _ _ this];exact⟨rfl,fine_none _ _ _ _ _ _ _ _ _ this⟩
 | x::d,dn,o,e,k,hp,hq,hi,hx,ho,hdn,hc,hk=>by
  rcases Int.lt_or_le 0 e with h0 | h0
  ·rw[List.pairwise_cons] at hp hq
   obtain⟨x1,x2,x3,x4,x5,x6⟩:=hx x (by simp)
   unfold P.hnd;by_cases hm:x.part<m
   ·rw[if_pos ⟨h0,hm⟩]
    obtain⟨j,hj⟩:∃ j:Nat,x.at_=j:=⟨x.at_.toNat,by omega⟩
    have hjn:x.at_.toNat=j:=by omega
    rw[hjn] at x3 x4 ⊢;have he:P.elig m f dn o j=true:=(hi j).2 ⟨x,by simp,hj,hm⟩
    have hb:P.bst m t s l f dn o 0 l.length (-1) (-1)=j:=by
     have oth:∀ j',P.elig m f dn o j'=true→j'≠j→P.rem t s l j'<P.rem t s l j∨(P.rem t s l j'=P.rem t s l j∧j<j'):=fun j' h hne=>by
      obtain⟨y,hy,e1,e2⟩:=(hi j').1 h;rcases List.mem_cons.1 hy with rfl | hy
      ·omega
      ·obtain⟨y1,y2,y3,y4,y5,y6⟩:=hx y (by simp[hy])
       have hb:=hp.1 y hy;rw[show y.at_.toNat=j' by omega] at y4
       unfold bef at hb;omega
     refine bst_find he l.length 0 _ _ (by omega) (by omega) (by omega) (fun j' _ h2 h3=>?_) (fun j' h1 _ h3=>?_)
     ·have:=oth j' h3 (by omega);omega
     ·have:=oth j' h3 (by omega);omega
    cases k with
    | zero=>omega
    | succ k =>
     unfold P.giv P.fine;rw[if_pos h0,hb];simp only[Int.toNat_natCast];have hc':can m (x::d)=can m d+1:=by simp[can,hm]
     rw[hc'] at hc;refine (fun z=>⟨z.1,.inr ⟨j,rfl,by omega,by omega,by omega,z.2⟩⟩) (giv_hnd m t s l f d _ _ (e-1) k hp.2 hq.2 (fun i=>?_) (fun y hy=>?_) (by simpa using ho) (by simpa using hdn) (by omega) (by omega))
     ·by_cases hij:i=j
      ·subst hij
       have:P.elig m f (dn.set i true) (o.set i (o.getD i 0+1)) i=false:=by simp[P.elig,show i<dn.length by omega]
       rw[this];refine⟨fun h=>(by cases h),?_⟩
       rintro ⟨y,hy,e1,_⟩
       have:=hq.1 y hy;omega
      ·have:P.elig m f (dn.set j true) (o.set j (o.getD j 0+1)) i=P.elig m f dn o i:=by
        simp only[P.elig,List.getD_eq_getElem?_getD];rw[List.getElem?_set_ne (by omega),List.getElem?_set_ne (by omega)]
       rw[this,hi i];constructor
       ·rintro ⟨y,hy,e1,e2⟩
        rcases List.mem_cons.1 hy with rfl | hy
        ·omega
        ·exact⟨y,hy,e1,e2⟩
       ·rintro ⟨y,hy,e1,e2⟩;exact⟨y,by simp[hy],e1,e2⟩
     ·obtain⟨y1,y2,y3,y4,y5,y6⟩:=hx y (by simp[hy])
      have:=hq.1 y hy
      refine⟨y1,y2,?_,y4,y5,y6⟩;rw[←y3];simp only[List.getD_eq_getElem?_getD];rw[List.getElem?_set_ne (by omega)]
   ·rw[if_neg (by omega)]
    have hc':can m (x::d)=can m d:=by simp[can,hm]
    rw[hc'] at hc;refine giv_hnd m t s l f d _ _ e k hp.2 hq.2 (fun i=>?_) (fun y hy=>hx y (by simp[hy])) ho hdn hc hk
    rw[hi i];constructor
    ·rintro ⟨y,hy,e1,e2⟩
     rcases List.mem_cons.1 hy with rfl | hy
     ·exact absurd e2 hm
     ·exact⟨y,hy,e1,e2⟩
    ·rintro ⟨y,hy,e1,e2⟩;exact⟨y,by simp[hy],e1,e2⟩
  ·rw[giv_none _ _ _ _ _ _ _ _ _ h0,hnd_none _ _ _ _ h0];exact⟨rfl,fine_none _ _ _ _ _ _ _ _ _ h0⟩
theorem its_succ (m t0:Int) (l:List Int):∀ (k:Nat) (f:List Bool),P.its m t0 l (k+1) f=P.one m t0 l (P.its m t0 l k f)
 | 0,f=>rfl
 | k+1,f=>by
  rw[show P.its m t0 l (k+1+1) f=P.its m t0 l (k+1) (P.one m t0 l f) from rfl,its_succ m t0 l k];rfl
theorem one_cnt (m t0:Int) (l:List Int) (f:List Bool) (h:f.length=l.length):P.one m t0 l f=f∨P.cnt f<P.cnt (P.one m t0 l f):=by
 obtain⟨h1,h2,h3⟩:=stp_cnt m (t0-m*P.cnt f) (P.sml l f) l l.length 0 f false;cases hg:(P.stp m (t0-m*P.cnt f) (P.sml l f) l 0 l.length f false).2
 ·exact .inl (h2 hg).1
 ·rcases h3 hg with h3 | h3
  ·cases h3
  ·exact .inr h3
theorem its_stop (m t0:Int) (l:List Int):∀ (k:Nat) (f:List Bool),f.length=l.length→l.length≤P.cnt f+k→P.one m t0 l (P.its m t0 l k f)=P.its m t0 l k f
 | 0,f,hf,hk=>by
  rcases one_cnt m t0 l f hf with h | h
  ·exact h
  ·have:=cnt_le (P.one m t0 l f)
   have hl:(P.one m t0 l f).length=f.length:=stp_length ..;omega
 | k+1,f,hf,hk=>by
  rcases one_cnt m t0 l f hf with h | h
  ·rw[its_fix h];exact h
  ·exact its_stop m t0 l k _ ((stp_length ..).trans hf) (by omega)
theorem stp_fix (m w o:Int) (l:List Int):∀ (d i:Nat) (f:List Bool) (g:Bool),(P.stp m w o l i d f g).1=f→∀ j,i≤j→j<i+d→f.getD j true=false→w*l.getD j 0≤m*o
 | 0,i,f,g,h,j,h1,h2,_=>by omega
 | d+1,i,f,g,h,j,h1,h2,hj=>by
  unfold P.stp at h;split at h
  ·rename_i hc
   have:=(stp_cnt m w o l d (i+1) (f.set i true) true).1
   rw[h,cnt_set f i hc.1] at this;omega
  ·rename_i hc
   rcases Nat.lt_or_ge i j with hij | hij
   ·exact stp_fix m w o l d (i+1) f g h j (by omega) (by omega) hj
   ·have:i=j:=by omega
    subst this;rcases Int.lt_or_le (m*o) (w*l.getD i 0) with hlt | hle
    ·exact absurd ⟨hj,hlt⟩ hc
    ·exact hle
theorem enough (m t s o:Int) (hs:0<s):∀ (l:List Int) (f:List Bool) (i:Int),f.length=l.length→(∀ k:Nat,k<l.length→f.getD k true=false→0≤t*l.getD k 0∧t*l.getD k 0≤m*s) →
  t*P.sml l f-s*P.pts (P.shs t s i l f)≤(s-1)*can m (P.shs t s i l f)
 | [],f,i,h,_=>by simp[P.sml,P.shs,P.pts,can]
 | x::l,[],i,h,_=>by simp at h
 | x::l,b::f,i,h,hx=>by
  have ih:=enough m t s o hs l f (i+1) (by simpa using h) (fun k hk hf=>by simpa using hx (k+1) (by simpa using hk) (by simpa using hf))
  cases b
  ·simp only[P.shs,P.sml,P.pts,Bool.false_eq_true,if_false]
   obtain⟨h1,h2⟩:=hx 0 (by simp) (by simp)
   simp only[List.getD_cons_zero] at h1 h2;have e:=Int.mul_tdiv_add_tmod (t*x) s;have r1:=Int.tmod_lt_of_pos (t*x) hs;have r0:=Int.tmod_nonneg s h1;generalize (t*x).tdiv s=q at *;generalize (t*x).tmod s=r at *;rw[Int.mul_add,Int.mul_add,←e];by_cases hq:q<m
   ·have:can m (⟨i,q,r⟩::P.shs t s (i+1) l f)=can m (P.shs t s (i+1) l f)+1:=by simp[can,hq]
    rw[this];rw[show ((can m (P.shs t s (i+1) l f)+1:Nat):Int)=(can m (P.shs t s (i+1) l f):Int)+1 from rfl,Int.mul_add,Int.mul_one];omega
   ·have:can m (⟨i,q,r⟩::P.shs t s (i+1) l f)=can m (P.shs t s (i+1) l f):=by simp[can,hq]
    rw[this];have:m*s≤q*s:=Int.mul_le_mul_of_nonneg_right (by omega) (by omega)
    rw[Int.mul_comm q s] at this;omega
  ·simp only[P.shs,P.sml,P.pts,if_true]
   rw[Int.zero_add];exact ih
namespace P
def rapp (l:List Int) (t m:Int):List Int :=
 let f:=its m t l l.length (List.replicate l.length false)
 let t':=t-m*cnt f
 giv m t' (sml l f) l f 16 (List.replicate l.length false) (ous t' (sml l f) m l f) (t' - pts (shs t' (sml l f) 0 l f))
def rfine (l:List Int) (t m:Int):Prop :=
 let f:=its m t l l.length (List.replicate l.length false)
 let t':=t-m*cnt f
 fine m t' (sml l f) l f 16 (List.replicate l.length false) (ous t' (sml l f) m l f) (t' - pts (shs t' (sml l f) 0 l f))
end P
theorem ous_at (t s m:Int):∀ (l:List Int) (f:List Bool) (k:Nat),f.length=l.length→k<l.length→(P.ous t s m l f).getD k 0=if f.getD k true=true then m else (t*l.getD k 0).tdiv s
 | [],f,k,_,hk=>by simp at hk
 | x::l,[],k,h,_=>by simp at h
 | x::l,b::f,0,h,_=>by simp[P.ous]
 | x::l,b::f,k+1,h,hk=>by
  have:=ous_at t s m l f k (by simpa using h) (by simpa using hk)
  simpa [P.ous] using this
theorem all_full:∀ (f:List Bool),(∀ k,k<f.length→f.getD k true=true)→P.cnt f=f.length
 | [],_=>rfl
 | b::f,h=>by
  have hb:b=true:=by simpa using h 0 (by simp)
  subst hb;have:=all_full f (fun k hk=>by simpa using h (k+1) (by simpa using hk))
  simp only[P.cnt,this,if_true,List.length_cons];omega
theorem ous_len2 {t s m:Int}:∀ {l:List Int} {f:List Bool},f.length=l.length→(P.ous t s m l f).length=l.length
 | [],[],_=>rfl
 | x::l,b::f,h=>by simp only[P.ous,List.length_cons];rw[ous_len2 (l:=l) (f:=f) (by simpa using h)]
theorem tot_ous (t s m:Int):∀ (l:List Int) (f:List Bool) (i:Int),f.length=l.length→P.tot (P.ous t s m l f)=m*P.cnt f+P.pts (P.shs t s i l f)
 | [],[],i,_=>by simp[P.ous,P.tot,P.cnt,P.shs,P.pts]
 | x::l,b::f,i,h=>by
  have ih:=tot_ous t s m l f (i+1) (by simpa using h)
  cases b
  ·simp only[P.ous,P.tot,P.cnt,P.shs,P.pts,Bool.false_eq_true,if_false,ih,Int.zero_add];omega
  ·simp only[P.ous,P.tot,P.cnt,P.shs,if_true,ih,Int.mul_add,Int.mul_one];omega
theorem rapp_app (l:List Int) (t m:Int) (hp:pwP l) (ht:0≤t∧t≤1000000) (hm:0≤m∧m≤1000000) (hn:l.length≤16) (hw:t≤m*l.length):P.rapp l t m=P.app l t m∧P.rfine l t m:=by
 unfold P.rapp P.app P.rfine;dsimp only;have hst:=its_stop m t l l.length (List.replicate l.length false) (by simp) (by rw[cnt_none];omega)
 rw[show P.its m t l (l.length+1) (List.replicate l.length false)=P.its m t l l.length (List.replicate l.length false) by rw[its_succ];exact hst]
 have hfl:(P.its m t l l.length (List.replicate l.length false)).length=l.length:=by rw[its_length];simp
 have h0:=its_left (m:=m) (t0:=t) hp l.length (List.replicate l.length false) (by rw[cnt_none];omega)
 generalize P.its m t l l.length (List.replicate l.length false)=f at *;have hc:=cnt_le f;have hmc:0≤m*P.cnt f:=Int.mul_nonneg hm.1 hc.1;have hle:t-m*P.cnt f≤t:=by omega
 generalize ht':t-m*P.cnt f=t' at *;have hsm:=sm_le l f hp;have hfix:∀ k:Nat,k<l.length→f.getD k true=false→t'*l.getD k 0≤m*P.sml l f:=by
  intro k hk hf;have:=stp_fix m t' (P.sml l f) l l.length 0 f false (by rw[←ht'];exact hst) k (by omega) (by omega) hf
  exact this
 have hpk:∀ k:Nat,k<l.length→1≤l.getD k 0:=by
  intro k hk;have:=hp l[k] (List.getElem_mem hk)
  simp only[List.getD_eq_getElem?_getD,List.getElem?_eq_getElem hk,Option.getD_some];omega
 obtain⟨g1,g2⟩:=isort_good _ (shs_pair t' (P.sml l f) l f 0);have hnd:(P.isort (P.shs t' (P.sml l f) 0 l f) 1 ((P.shs t' (P.sml l f) 0 l f).length-1)).Pairwise (fun a b=>a.at_≠b.at_):=by
  refine (g2.pairwise_iff (fun {a b} h=>Ne.symm h)).2 ((shs_pair t' (P.sml l f) l f 0).imp (fun h=>by omega))
 have hcan:can m (P.isort (P.shs t' (P.sml l f) 0 l f) 1 ((P.shs t' (P.sml l f) 0 l f).length-1))=can m (P.shs t' (P.sml l f) 0 l f):=g2.countP_eq _;have hmem:∀ x,x∈P.isort (P.shs t' (P.sml l f) 0 l f) 1 ((P.shs t' (P.sml l f) 0 l f).length-1)↔x∈P.shs t' (P.sml l f) 0 l f:=fun x=>g2.mem_iff
 have hsp:∀ k:Nat,k<l.length→f.getD k true=false→0<P.sml l f:=by
  intro k hk hf;have h1:=sml_one l f k hk hp hf;have:=hp l[k] (List.getElem_mem hk);omega
 have hen:t' - P.pts (P.shs t' (P.sml l f) 0 l f)≤can m (P.shs t' (P.sml l f) 0 l f):=by
  by_cases hall:∀ k,k<f.length→f.getD k true=true
  ·have hcn:=all_full f hall
   have hs0:P.shs t' (P.sml l f) 0 l f=[]:=by
    rw[List.eq_nil_iff_forall_not_mem];intro x hx;obtain⟨k,k1,k2,_⟩:=(shs_mem t' (P.sml l f) l f 0 x hfl).1 hx;rw[hall k (by omega)] at k2;cases k2
   rw[hs0];simp only[P.pts,can,List.countP_nil];rw[←ht',hcn,hfl];omega
  ·obtain⟨k,hk⟩:∃ k,¬(k<f.length→f.getD k true=true):=Classical.not_forall.1 hall
   have hkf:k<f.length:=by
    rcases Nat.lt_or_ge k f.length with h | h
    ·exact h
    ·exact absurd (fun h'=>absurd h' (by omega)) hk
   have hk2:f.getD k true=false:=by
    cases hq:f.getD k true
    ·rfl
    ·exact absurd (fun _=>hq) hk
   have hs:=hsp k (by omega) hk2
   have:=enough m t' (P.sml l f) 0 hs l f 0 hfl (fun k hk hf=>⟨Int.mul_nonneg h0 (by have:=hpk k hk;omega),hfix k hk hf⟩)
   generalize P.pts (P.shs t' (P.sml l f) 0 l f)=p at *;generalize can m (P.shs t' (P.sml l f) 0 l f)=c at *;generalize P.sml l f=s at *;rw[Int.sub_mul,Int.one_mul,Int.mul_comm t' s,←Int.mul_sub] at this;rcases Int.lt_or_le (c:Int) (t' - p) with hlt | hle
   ·have h2:s*((c:Int)+1)≤s*(t' - p):=Int.mul_le_mul_of_nonneg_left (by omega) (by omega)
    rw[Int.mul_add] at h2;omega
   ·exact hle
 refine giv_hnd m t' (P.sml l f) l f _ _ _ _ _ g1 hnd (fun i=>?_) (fun x hx=>?_) (ous_len2 hfl) List.length_replicate (by rw[hcan];exact hen) (by
  have hcl:can m (P.shs t' (P.sml l f) 0 l f)≤l.length:=Nat.le_trans List.countP_le_length (shs_length ..);omega)
 ·simp only[hmem]
  constructor
  ·intro h
   simp only[P.elig,Bool.and_eq_true,Bool.not_eq_true',decide_eq_true_eq] at h;obtain⟨⟨h1,h2⟩,h3⟩:=h;have hi:i<l.length:=by
    rcases Nat.lt_or_ge i f.length with h | h
    ·omega
    ·simp[h] at h1
   rw[ous_at _ _ _ _ _ _ hfl hi,h1] at h3;exact⟨_,(shs_mem t' (P.sml l f) l f 0 _ hfl).2 ⟨i,hi,h1,rfl⟩,by simp,by simpa using h3⟩
  ·rintro ⟨x,hx,e1,e2⟩
   obtain⟨k,k1,k2,rfl⟩:=(shs_mem t' (P.sml l f) l f 0 x hfl).1 hx;have:k=i:=by simp only at e1;omega
   subst this;simp only[P.elig,Bool.and_eq_true,Bool.not_eq_true',decide_eq_true_eq];refine⟨⟨k2,by simp[k1]⟩,?_⟩
   rw[ous_at _ _ _ _ _ _ hfl k1,k2];simpa using e2
 ·rw[hmem] at hx
  obtain⟨k,k1,k2,rfl⟩:=(shs_mem t' (P.sml l f) l f 0 x hfl).1 hx;simp only[Int.zero_add,Int.toNat_natCast];refine⟨by omega,by omega,?_,rfl,Int.tmod_nonneg _ (Int.mul_nonneg h0 (by have:=hpk k k1;omega)),Int.tdiv_nonneg (Int.mul_nonneg h0 (by have:=hpk k k1;omega)) hsm.1⟩
  rw[ous_at _ _ _ _ _ _ hfl k1,k2];simp
end Go.Proofs.Ytnijkhcmjpfjeaa
