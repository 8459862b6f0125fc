/- E1: what is apportioned,together,and each part (plain). -/
import Derived.Test.YtnijkhcmjpfjeaaS6
namespace Go.Proofs.Ytnijkhcmjpfjeaa
open Go Go.Vm
theorem tot_set:∀ (o:List Int) (i:Nat) (v:Int) (h:i<o.length),P.tot (o.set i v)=P.tot o+v-o.getD i 0
 | x::o,0,v,_=>by simp only[List.set_cons_zero,P.tot,List.getD_cons_zero];omega
 | x::o,i+1,v,h=>by
  have:=tot_set o i v (by simpa using h)
  simp only[List.set_cons_succ,P.tot,List.getD_cons_succ,this];omega
theorem getD_set (o:List Int) (i j:Nat) (v:Int) (h:i≠j):(o.set i v).getD j 0=o.getD j 0:=by
 simp only[List.getD_eq_getElem?_getD];rw[List.getElem?_set_ne h]
theorem hnd_all (m:Int) (N:Nat):∀ (d:List Shr) (o:List Int) (e:Int),d.Pairwise (fun a b=>a.at_≠b.at_)→(∀ x∈d,0≤x.at_∧x.at_<N∧o.getD x.at_.toNat 0=x.part)→o.length=N→(∀ x∈o,0≤x∧x≤m)→0≤e→e≤can m d →
  P.tot (P.hnd m d o e).1=P.tot o+e∧(∀ x∈(P.hnd m d o e).1,0≤x∧x≤m)∧(P.hnd m d o e).1.length=N
 | [],o,e,_,_,hl,ho,h0,hc=>by
  have:e=0:=by simp[can] at hc;omega
  subst this;exact⟨by simp[P.hnd],ho,hl⟩
 | x::d,o,e,hp,hx,hl,ho,h0,hc=>by
  rw[List.pairwise_cons] at hp;obtain⟨x1,x2,x3⟩:=hx x (by simp)
  unfold P.hnd;by_cases h:e>0∧x.part<m
  ·rw[if_pos h]
   have hi:x.at_.toNat<o.length:=by omega
   have hc':can m (x::d)=can m d+1:=by simp[can,h.2]
   rw[hc'] at hc;have hov:0≤o.getD x.at_.toNat 0:=by
    have:o.getD x.at_.toNat 0=o[x.at_.toNat]:=by simp[hi]
    rw[this];exact (ho _ (List.getElem_mem hi)).1
   obtain⟨g1,g2,g3⟩:=hnd_all m N d (o.set x.at_.toNat (o.getD x.at_.toNat 0+1)) (e-1) hp.2 (fun y hy=>by
    obtain⟨y1,y2,y3⟩:=hx y (by simp[hy])
    have:=hp.1 y hy
    exact⟨y1,y2,by rw[getD_set _ _ _ _ (by omega)];exact y3⟩) (by simpa using hl) (fun y hy=>by
    rcases List.mem_or_eq_of_mem_set hy with hy | rfl
    ·exact ho y hy
    ·omega) (by omega) (by omega)
   refine⟨?_,g2,g3⟩;rw[g1,tot_set _ _ _ hi];omega
  ·rw[if_neg h]
   by_cases he:e=0
   ·subst he
    rw[hnd_none _ _ _ _ (by omega)]
    exact⟨by omega,ho,hl⟩
   ·have hm:¬x.part<m:=fun hm=>h ⟨by omega,hm⟩
    have hc':can m (x::d)=can m d:=by simp[can,hm]
    rw[hc'] at hc;exact hnd_all m N d o e hp.2 (fun y hy=>hx y (by simp[hy])) hl ho h0 hc
theorem pts_le {t s:Int} (hs:0<s):∀ (l:List Int) (f:List Bool) (i:Int),f.length=l.length→(∀ k:Nat,k<l.length→f.getD k true=false→0≤t*l.getD k 0)→s*P.pts (P.shs t s i l f)≤t*P.sml l f
 | [],f,i,h,_=>by simp[P.sml,P.shs,P.pts]
 | x::l,[],i,h,_=>by simp at h
 | x::l,b::f,i,h,hx=>by
  have ih:=pts_le hs l f (i+1) (by simpa using h) (fun k hk hf=>by simpa using hx (k+1) (by simpa using hk) (by simpa using hf))
  cases b
  ·simp only[P.shs,P.sml,P.pts,Bool.false_eq_true,if_false]
   have h1:=hx 0 (by simp) (by simp)
   simp only[List.getD_cons_zero] at h1;have e:=Int.mul_tdiv_add_tmod (t*x) s;have r0:=Int.tmod_nonneg s h1;rw[Int.mul_add,Int.mul_add];omega
  ·simp only[P.shs,P.sml,P.pts,if_true,Int.zero_add];exact ih
theorem app_plain (l:List Int) (t m:Int) (hb:P.bad l t m=0):P.tot (P.app l t m)=t∧(∀ x∈P.app l t m,0≤x∧x≤m)∧(P.app l t m).length=l.length:=by
 obtain⟨hn,hpw,ht,hm,hw⟩:=bad_ok hb;have hp:=pw_iff.1 hpw;unfold P.app;dsimp only;have hst:=its_stop m t l l.length (List.replicate l.length false) (by simp) (by rw[cnt_none];omega)
 rw[show P.its m t l (l.length+1) (List.replicate l.length false)=P.its m t l l.length (List.replicate l.length false) by rw[its_succ];exact hst]
 have hfl:(P.its m t l l.length (List.replicate l.length false)).length=l.length:=by rw[its_length];simp
 have h0:=its_left (m:=m) (t0:=t) hp l.length (List.replicate l.length false) (by rw[cnt_none];omega)
 generalize P.its m t l l.length (List.replicate l.length false)=f at *;have hc:=cnt_le f;have hmc:0≤m*P.cnt f:=Int.mul_nonneg hm.1 hc.1;generalize ht':t-m*P.cnt f=t' at *;have hsm:=sm_le l f hp;have hfix:∀ k:Nat,k<l.length→f.getD k true=false→t'*l.getD k 0≤m*P.sml l f:=by
  intro k hk hf;exact stp_fix m t' (P.sml l f) l l.length 0 f false (by rw[←ht'];exact hst) k (by omega) (by omega) hf
 have hpk:∀ k:Nat,k<l.length→1≤l.getD k 0:=by
  intro k hk;have:=hp l[k] (List.getElem_mem hk)
  simp only[List.getD_eq_getElem?_getD,List.getElem?_eq_getElem hk,Option.getD_some];omega
 obtain⟨g1,g2⟩:=isort_good _ (shs_pair t' (P.sml l f) l f 0);have hnd:(P.isort (P.shs t' (P.sml l f) 0 l f) 1 ((P.shs t' (P.sml l f) 0 l f).length-1)).Pairwise (fun a b=>a.at_≠b.at_):=by
  refine (g2.pairwise_iff (fun {a b} h=>Ne.symm h)).2 ((shs_pair t' (P.sml l f) l f 0).imp (fun h=>by omega))
 have hcan:can m (P.isort (P.shs t' (P.sml l f) 0 l f) 1 ((P.shs t' (P.sml l f) 0 l f).length-1))=can m (P.shs t' (P.sml l f) 0 l f):=g2.countP_eq _;have hmem:∀ x,x∈P.isort (P.shs t' (P.sml l f) 0 l f) 1 ((P.shs t' (P.sml l f) 0 l f).length-1)↔x∈P.shs t' (P.sml l f) 0 l f:=fun x=>g2.mem_iff
 have hsp:∀ k:Nat,k<l.length→f.getD k true=false→0<P.sml l f:=by
  intro k hk hf;have h1:=sml_one l f k hk hp hf;have:=hp l[k] (List.getElem_mem hk);omega
 have hen:t' - P.pts (P.shs t' (P.sml l f) 0 l f)≤can m (P.shs t' (P.sml l f) 0 l f)∧0≤t' - P.pts (P.shs t' (P.sml l f) 0 l f):=by
  by_cases hall:∀ k,k<f.length→f.getD k true=true
  ·have hcn:=all_full f hall
   have hs0:P.shs t' (P.sml l f) 0 l f=[]:=by
    rw[List.eq_nil_iff_forall_not_mem];intro x hx;obtain⟨k,k1,k2,_⟩:=(shs_mem t' (P.sml l f) l f 0 x hfl).1 hx;rw[hall k (by omega)] at k2;cases k2
   rw[hs0];simp only[P.pts,can,List.countP_nil];rw[hcn,hfl] at ht';exact⟨by omega,by omega⟩
  ·obtain⟨k,hk⟩:∃ k,¬(k<f.length→f.getD k true=true):=Classical.not_forall.1 hall
   have hkf:k<f.length:=by
    rcases Nat.lt_or_ge k f.length with h | h
    ·exact h
    ·exact absurd (fun h'=>absurd h' (by omega)) hk
   have hk2:f.getD k true=false:=by
    cases hq:f.getD k true
    ·rfl
    ·exact absurd (fun _=>hq) hk
   have hs:=hsp k (by omega) hk2
   have hz:∀ k:Nat,k<l.length→f.getD k true=false→0≤t'*l.getD k 0:=fun k hk _=>Int.mul_nonneg h0 (by have:=hpk k hk;omega)
   have:=enough m t' (P.sml l f) 0 hs l f 0 hfl (fun k hk hf=>⟨hz k hk hf,hfix k hk hf⟩)
   have hpl:=pts_le (t:=t') hs l f 0 hfl hz;generalize P.pts (P.shs t' (P.sml l f) 0 l f)=p at *;generalize can m (P.shs t' (P.sml l f) 0 l f)=c at *;generalize P.sml l f=s at *;rw[Int.sub_mul,Int.one_mul,Int.mul_comm t' s,←Int.mul_sub] at this;refine⟨?_,?_⟩
   ·rcases Int.lt_or_le (c:Int) (t' - p) with hlt | hle
    ·have h2:s*((c:Int)+1)≤s*(t' - p):=Int.mul_le_mul_of_nonneg_left (by omega) (by omega)
     rw[Int.mul_add] at h2;omega
    ·exact hle
   ·rw[Int.mul_comm t' s] at hpl
    have:=Int.le_of_mul_le_mul_left hpl hs
    omega
 have hob:∀ x∈P.ous t' (P.sml l f) m l f,0≤x∧x≤m:=by
  intro x hx;obtain⟨k,hk,rfl⟩:=List.mem_iff_getElem.1 hx;have hk':k<l.length:=by rw[ous_len2 hfl] at hk;exact hk
  have e:(P.ous t' (P.sml l f) m l f)[k]=(P.ous t' (P.sml l f) m l f).getD k 0:=by simp[hk]
  rw[e,ous_at _ _ _ _ _ _ hfl hk'];split
  ·exact⟨hm.1,by omega⟩
  ·rename_i hf
   have hf:f.getD k true=false:=by simpa using hf
   have hs:=hsp k hk' hf;refine⟨Int.tdiv_nonneg (Int.mul_nonneg h0 (by have:=hpk k hk';omega)) (by omega),?_⟩
   have h1:=hfix k hk' hf;have h2:=Int.mul_tdiv_add_tmod (t'*l.getD k 0) (P.sml l f);have h3:=Int.tmod_nonneg (P.sml l f) (Int.mul_nonneg h0 (show 0≤l.getD k 0 by have:=hpk k hk';omega))
   have h4:P.sml l f*(t'*l.getD k 0).tdiv (P.sml l f)≤P.sml l f*m:=by rw[Int.mul_comm (P.sml l f) m];omega
   exact Int.le_of_mul_le_mul_left h4 hs
 obtain⟨r1,r2,r3⟩:=hnd_all m l.length _ (P.ous t' (P.sml l f) m l f) (t' - P.pts (P.shs t' (P.sml l f) 0 l f)) hnd (fun x hx=>by
  rw[hmem] at hx;obtain⟨k,k1,k2,rfl⟩:=(shs_mem t' (P.sml l f) l f 0 x hfl).1 hx;simp only[Int.zero_add,Int.toNat_natCast];exact⟨by omega,by omega,by rw[ous_at _ _ _ _ _ _ hfl k1,k2];simp⟩) (ous_len2 hfl) hob hen.2 (by rw[hcan];exact hen.1)
 refine⟨?_,r2,r3⟩;rw[r1,tot_ous t' (P.sml l f) m l f 0 hfl];omega
end Go.Proofs.Ytnijkhcmjpfjeaa
