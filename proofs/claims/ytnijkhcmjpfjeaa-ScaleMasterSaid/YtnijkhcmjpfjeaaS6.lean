/- S6: what the reference apportions is what is apportioned (plain). -/
import Derived.Test.YtnijkhcmjpfjeaaS5
namespace Go.Proofs.Ytnijkhcmjpfjeaa
open Go Go.Vm
def bef (a b:Shr):Prop:=b.rest<a.rest∨(a.rest=b.rest∧a.at_<b.at_)
def insB:List Shr→Shr→List Shr
 | [],x=>[x]
 | y::r,x=>if y.rest<x.rest then y::insB r x else x::y::r
theorem sw_mid (r b:List Shr) (y x:Shr):sw (r++y::x::b) r.length=r++x::y::b:=by
 unfold sw;have e1:(r++y::x::b)[r.length]?=some y:=by simp
 have e2:(r++y::x::b)[r.length+1]?=some x:=by simp
 rw[e1,e2];simp only;rw[List.set_append_right _ _ (by omega),List.set_append_right _ _ (by omega)]
 simp
theorem ins_insB:∀ (a b:List Shr) (x:Shr),P.ins (a.reverse++x::b) a.length=(insB a x).reverse++b
 | [],b,x=>by simp[P.ins,insB]
 | y::r,b,x=>by
  have e:(y::r).reverse++x::b=r.reverse++y::x::b:=by simp
  rw[e,List.length_cons];have hl:r.length=r.reverse.length:=by simp
  unfold P.ins;have e1:(r.reverse++y::x::b)[r.length]?=some y:=by rw[hl];simp
  have e2:(r.reverse++y::x::b)[r.length+1]?=some x:=by rw[hl];simp
  rw[e1,e2];simp only[insB];by_cases h:y.rest<x.rest
  ·rw[if_pos h,if_pos h]
   rw[show sw (r.reverse++y::x::b) r.length=r.reverse++x::y::b by rw[hl];exact sw_mid ..]
   rw[ins_insB r (y::b) x];simp
  ·rw[if_neg h,if_neg h];simp
theorem insB_mem {z x:Shr}:∀ {r:List Shr},z∈insB r x↔z=x∨z∈r
 | []=>by simp[insB]
 | y::r=>by
  unfold insB;split
  ·rw[List.mem_cons,insB_mem (r:=r),List.mem_cons]
   constructor
   ·rintro (h | h | h)<;>simp[h]
   ·rintro (h | h | h)<;>simp[h]
  ·simp
theorem insB_perm (x:Shr):∀ r:List Shr,(insB r x).Perm (x::r)
 | []=>.refl _
 | y::r=>by
  unfold insB;split
  ·exact (List.Perm.cons y (insB_perm x r)).trans (List.Perm.swap x y r)
  ·exact .refl _
theorem insB_sorted {x:Shr}:∀ {r:List Shr},r.Pairwise (fun a b=>bef b a)→(∀ y∈r,y.at_<x.at_)→(insB r x).Pairwise (fun a b=>bef b a)
 | [],_,_=>by simp[insB]
 | y::r,h,hx=>by
  rw[List.pairwise_cons] at h;unfold insB;have hy:=hx y (by simp)
  split
  ·rename_i hlt
   refine List.Pairwise.cons (fun z hz=>?_) (insB_sorted h.2 (fun y hy=>hx y (by simp[hy])))
   rcases insB_mem.1 hz with rfl | hz
   ·exact .inl hlt
   ·exact h.1 z hz
  ·rename_i hge
   refine List.Pairwise.cons (fun z hz=>?_) (List.Pairwise.cons h.1 h.2)
   rcases List.mem_cons.1 hz with rfl | hz
   ·unfold bef;omega
   ·have h1:=h.1 z hz
    have h2:=hx z (by simp[hz])
    unfold bef at h1 ⊢;omega
theorem isort_foldl:∀ (b a:List Shr),P.isort (a.reverse++b) a.length b.length=(b.foldl insB a).reverse
 | [],a=>by simp[P.isort]
 | x::b,a=>by
  rw[List.length_cons];unfold P.isort;rw[ins_insB,List.foldl_cons,←isort_foldl b (insB a x)];rw[show (insB a x).length=a.length+1 by rw[(insB_perm x a).length_eq];simp]
theorem foldl_perm:∀ (b a:List Shr),(b.foldl insB a).Perm (a++b)
 | [],a=>by simp
 | x::b,a=>by
  rw[List.foldl_cons];refine (foldl_perm b _).trans ?_;refine (List.Perm.append_right b (insB_perm x a)).trans ?_;rw[List.cons_append];exact List.perm_middle.symm
theorem foldl_sorted:∀ (b a:List Shr),a.Pairwise (fun a b=>bef b a)→(∀ y∈a,∀ z∈b,y.at_<z.at_)→b.Pairwise (fun a b=>a.at_<b.at_)→(b.foldl insB a).Pairwise (fun a b=>bef b a)
 | [],a,h,_,_=>h
 | x::b,a,h,hab,hb=>by
  rw[List.pairwise_cons] at hb;rw[List.foldl_cons];refine foldl_sorted b _ (insB_sorted h (fun y hy=>hab y hy x (by simp))) (fun y hy z hz=>?_) hb.2
  rcases insB_mem.1 hy with rfl | hy
  ·exact hb.1 z hz
  ·exact hab y hy z (by simp[hz])
theorem isort_good (d:List Shr) (h:d.Pairwise (fun a b=>a.at_<b.at_)):(P.isort d 1 (d.length-1)).Pairwise bef∧(P.isort d 1 (d.length-1)).Perm d:=by
 cases d with
 | nil=>simp[P.isort]
 | cons x b =>
  have e:=isort_foldl b [x];simp only[List.reverse_cons,List.reverse_nil,List.nil_append,List.singleton_append,List.length_singleton] at e;rw[List.length_cons,Nat.add_sub_cancel,e];rw[List.pairwise_cons] at h;refine⟨List.pairwise_reverse.2 (foldl_sorted b [x] (by simp) (fun y hy z hz=>?_) h.2),(List.reverse_perm _).trans (foldl_perm b [x])⟩
  rw[List.mem_singleton] at hy;subst hy;exact h.1 z hz
theorem shs_pair (t s:Int):∀ (l:List Int) (f:List Bool) (i:Int),(P.shs t s i l f).Pairwise (fun a b=>a.at_<b.at_)
 | [],f,i=>by simp[P.shs]
 | x::l,[],i=>by simp[P.shs]
 | x::l,b::f,i=>by
  cases b
  ·simp only[P.shs,Bool.false_eq_true,if_false]
   refine List.Pairwise.cons (fun z hz=>?_) (shs_pair t s l f (i+1))
   have:=shs_at t s l f (i+1) z hz
   simp only;omega
  ·simp only[P.shs,if_true];exact shs_pair t s l f (i+1)
theorem shs_mem (t s:Int):∀ (l:List Int) (f:List Bool) (i:Int) (x:Shr),f.length=l.length →
  (x∈P.shs t s i l f↔∃ k:Nat,k<l.length∧f.getD k true=false∧x=⟨i+k,(t*l.getD k 0).tdiv s,(t*l.getD k 0).tmod s⟩)
 | [],f,i,x,h=>by simp[P.shs]
 | y::l,[],i,x,h=>by simp at h
 | y::l,b::f,i,x,h=>by
  have ih:=shs_mem t s l f (i+1) x (by simpa using h)
  have key:(∃ k:Nat,k<(y::l).length∧(b::f).getD k true=false∧x=⟨i+k,(t*(y::l).getD k 0).tdiv s,(t*(y::l).getD k 0).tmod s⟩) ↔
    (b=false∧x=⟨i,(t*y).tdiv s,(t*y).tmod s⟩)∨(∃ k:Nat,k<l.length∧f.getD k true=false∧x=⟨i+1+k,(t*l.getD k 0).tdiv s,(t*l.getD k 0).tmod s⟩):=by
   constructor
   ·rintro ⟨k,h1,h2,h3⟩
    cases k with
    | zero=>left;exact⟨by simpa using h2,by simpa using h3⟩
    | succ k =>
     right
     refine⟨k,by simpa using h1,by simpa using h2,?_⟩
     rw[h3];simp only[List.getD_cons_succ,Shr.mk.injEq,and_self,and_true];omega
   ·rintro (⟨h1,h2⟩ | ⟨k,h1,h2,h3⟩)
    ·exact⟨0,by simp,by simpa using h1,by simpa using h2⟩
    ·refine⟨k+1,by simpa using h1,by simpa using h2,?_⟩
     rw[h3];simp only[List.getD_cons_succ,Shr.mk.injEq,and_self,and_true];omega
  rw[key];cases b
  ·simp only[P.shs,Bool.false_eq_true,if_false,List.mem_cons,true_and,ih]
  ·simp only[P.shs,if_true,ih];simp
namespace P
def rem (t s:Int) (l:List Int) (i:Nat):Int:=(t*l.getD i 0).tmod s
def elig (m:Int) (f dn:List Bool) (o:List Int) (i:Nat):Bool:=!f.getD i true&&!dn.getD i true&&decide (o.getD i 0<m)
def bst (m t s:Int) (l:List Int) (f dn:List Bool) (o:List Int):Nat→Nat→Int→Int→Int
 | _,0,b,_=>b
 | i,d+1,b,v=>if elig m f dn o i=true∧rem t s l i>v then bst m t s l f dn o (i+1) d i (rem t s l i) else bst m t s l f dn o (i+1) d b v
def giv (m t s:Int) (l:List Int) (f:List Bool):Nat→List Bool→List Int→Int→List Int
 | 0,_,o,_=>o
 | k+1,dn,o,e=>if e>0 then
   let b:=(bst m t s l f dn o 0 l.length (-1) (-1)).toNat
   giv m t s l f k (dn.set b true) (o.set b (o.getD b 0+1)) (e-1) else o
end P
namespace P
def fine (m t s:Int) (l:List Int) (f:List Bool):Nat→List Bool→List Int→Int→Prop
 | 0,_,_,e=>e≤0
 | k+1,dn,o,e=>e≤0∨∃ b:Nat,bst m t s l f dn o 0 l.length (-1) (-1)=b∧b<l.length∧0≤o.getD b 0∧o.getD b 0<m∧fine m t s l f k (dn.set b true) (o.set b (o.getD b 0+1)) (e-1)
end P
theorem hnd_none (m:Int):∀ (d:List Shr) (o:List Int) (e:Int),e≤0→(P.hnd m d o e).1=o
 | [],o,e,_=>rfl
 | x::d,o,e,h=>by unfold P.hnd;rw[if_neg (by omega)];exact hnd_none m d o e h
def can (m:Int) (d:List Shr):Nat:=d.countP fun x=>decide (x.part<m)
theorem its_succ (m t0:Int) (l:List Int):∀ (k:Nat) (f:List Bool),P.its m t0 l (k+1) f=P.one m t0 l (P.its m t0 l k f)
 | 0,f=>rfl
 | k+1,f=>by
  rw[show P.its m t0 l (k+1+1) f=P.its m t0 l (k+1) (P.one m t0 l f) from rfl,its_succ m t0 l k];rfl
theorem one_cnt (m t0:Int) (l:List Int) (f:List Bool) (h:f.length=l.length):P.one m t0 l f=f∨P.cnt f<P.cnt (P.one m t0 l f):=by
 obtain⟨h1,h2,h3⟩:=stp_cnt m (t0-m*P.cnt f) (P.sml l f) l l.length 0 f false;cases hg:(P.stp m (t0-m*P.cnt f) (P.sml l f) l 0 l.length f false).2
 ·exact .inl (h2 hg).1
 ·rcases h3 hg with h3 | h3
  ·cases h3
  ·exact .inr h3
theorem its_stop (m t0:Int) (l:List Int):∀ (k:Nat) (f:List Bool),f.length=l.length→l.length≤P.cnt f+k→P.one m t0 l (P.its m t0 l k f)=P.its m t0 l k f
 | 0,f,hf,hk=>by
  rcases one_cnt m t0 l f hf with h | h
  ·exact h
  ·have:=cnt_le (P.one m t0 l f)
   have hl:(P.one m t0 l f).length=f.length:=stp_length ..;omega
 | k+1,f,hf,hk=>by
  rcases one_cnt m t0 l f hf with h | h
  ·rw[its_fix h];exact h
  ·exact its_stop m t0 l k _ ((stp_length ..).trans hf) (by omega)
theorem stp_fix (m w o:Int) (l:List Int):∀ (d i:Nat) (f:List Bool) (g:Bool),(P.stp m w o l i d f g).1=f→∀ j,i≤j→j<i+d→f.getD j true=false→w*l.getD j 0≤m*o
 | 0,i,f,g,h,j,h1,h2,_=>by omega
 | d+1,i,f,g,h,j,h1,h2,hj=>by
  unfold P.stp at h;split at h
  ·rename_i hc
   have:=(stp_cnt m w o l d (i+1) (f.set i true) true).1
   rw[h,cnt_set f i hc.1] at this;omega
  ·rename_i hc
   rcases Nat.lt_or_ge i j with hij | hij
   ·exact stp_fix m w o l d (i+1) f g h j (by omega) (by omega) hj
   ·have:i=j:=by omega
    subst this;rcases Int.lt_or_le (m*o) (w*l.getD i 0) with hlt | hle
    ·exact absurd ⟨hj,hlt⟩ hc
    ·exact hle
theorem enough (m t s o:Int) (hs:0<s):∀ (l:List Int) (f:List Bool) (i:Int),f.length=l.length→(∀ k:Nat,k<l.length→f.getD k true=false→0≤t*l.getD k 0∧t*l.getD k 0≤m*s) →
  t*P.sml l f-s*P.pts (P.shs t s i l f)≤(s-1)*can m (P.shs t s i l f)
 | [],f,i,h,_=>by simp[P.sml,P.shs,P.pts,can]
 | x::l,[],i,h,_=>by simp at h
 | x::l,b::f,i,h,hx=>by
  have ih:=enough m t s o hs l f (i+1) (by simpa using h) (fun k hk hf=>by simpa using hx (k+1) (by simpa using hk) (by simpa using hf))
  cases b
  ·simp only[P.shs,P.sml,P.pts,Bool.false_eq_true,if_false]
   obtain⟨h1,h2⟩:=hx 0 (by simp) (by simp)
   simp only[List.getD_cons_zero] at h1 h2;have e:=Int.mul_tdiv_add_tmod (t*x) s;have r1:=Int.tmod_lt_of_pos (t*x) hs;have r0:=Int.tmod_nonneg s h1;generalize (t*x).tdiv s=q at *;generalize (t*x).tmod s=r at *;rw[Int.mul_add,Int.mul_add,←e];by_cases hq:q<m
   ·have:can m (⟨i,q,r⟩::P.shs t s (i+1) l f)=can m (P.shs t s (i+1) l f)+1:=by simp[can,hq]
    rw[this];rw[show ((can m (P.shs t s (i+1) l f)+1:Nat):Int)=(can m (P.shs t s (i+1) l f):Int)+1 from rfl,Int.mul_add,Int.mul_one];omega
   ·have:can m (⟨i,q,r⟩::P.shs t s (i+1) l f)=can m (P.shs t s (i+1) l f):=by simp[can,hq]
    rw[this];have:m*s≤q*s:=Int.mul_le_mul_of_nonneg_right (by omega) (by omega)
    rw[Int.mul_comm q s] at this;omega
  ·simp only[P.shs,P.sml,P.pts,if_true]
   rw[Int.zero_add];exact ih
namespace P
def rapp (l:List Int) (t m:Int):List Int :=
 let f:=its m t l l.length (List.replicate l.length false)
 let t':=t-m*cnt f
 giv m t' (sml l f) l f 16 (List.replicate l.length false) (ous t' (sml l f) m l f) (t' - pts (shs t' (sml l f) 0 l f))
def rfine (l:List Int) (t m:Int):Prop :=
 let f:=its m t l l.length (List.replicate l.length false)
 let t':=t-m*cnt f
 fine m t' (sml l f) l f 16 (List.replicate l.length false) (ous t' (sml l f) m l f) (t' - pts (shs t' (sml l f) 0 l f))
end P
theorem ous_at (t s m:Int):∀ (l:List Int) (f:List Bool) (k:Nat),f.length=l.length→k<l.length→(P.ous t s m l f).getD k 0=if f.getD k true=true then m else (t*l.getD k 0).tdiv s
 | [],f,k,_,hk=>by simp at hk
 | x::l,[],k,h,_=>by simp at h
 | x::l,b::f,0,h,_=>by simp[P.ous]
 | x::l,b::f,k+1,h,hk=>by
  have:=ous_at t s m l f k (by simpa using h) (by simpa using hk)
  simpa [P.ous] using this
theorem all_full:∀ (f:List Bool),(∀ k,k<f.length→f.getD k true=true)→P.cnt f=f.length
 | [],_=>rfl
 | b::f,h=>by
  have hb:b=true:=by simpa using h 0 (by simp)
  subst hb;have:=all_full f (fun k hk=>by simpa using h (k+1) (by simpa using hk))
  simp only[P.cnt,this,if_true,List.length_cons];omega
theorem ous_len2 {t s m:Int}:∀ {l:List Int} {f:List Bool},f.length=l.length→(P.ous t s m l f).length=l.length
 | [],[],_=>rfl
 | x::l,b::f,h=>by simp only[P.ous,List.length_cons];rw[ous_len2 (l:=l) (f:=f) (by simpa using h)]
theorem tot_ous (t s m:Int):∀ (l:List Int) (f:List Bool) (i:Int),f.length=l.length→P.tot (P.ous t s m l f)=m*P.cnt f+P.pts (P.shs t s i l f)
 | [],[],i,_=>by simp[P.ous,P.tot,P.cnt,P.shs,P.pts]
 | x::l,b::f,i,h=>by
  have ih:=tot_ous t s m l f (i+1) (by simpa using h)
  cases b
  ·simp only[P.ous,P.tot,P.cnt,P.shs,P.pts,Bool.false_eq_true,if_false,ih,Int.zero_add];omega
  ·simp only[P.ous,P.tot,P.cnt,P.shs,if_true,ih,Int.mul_add,Int.mul_one];omega
end Go.Proofs.Ytnijkhcmjpfjeaa
