/- H4: arguments of layer 4: setups,readings,deeds. -/
import Derived.Test.YtnijkhcmjpfjeaaH
import Derived.Test.YtnijkhcmjpfjeaaDF
namespace Go.Proofs.Ytnijkhcmjpfjeaa
open Go Go.Vm
theorem t3:T 3=some {kind:=.int .i64,size:=1,bytes:=8,zero:=.int .i64 0,leaves:=[]}:=by kernel_rfl
theorem wf_b {n:Int} (h:(Lit.int .i64 n).wf=true):-9223372036854775808≤n∧n≤9223372036854775807:=by
 simp only[Lit.wf,decide_eq_true_eq,Bool.and_eq_true] at h;have h1:IntKind.i64.min=-9223372036854775808:=by decide +kernel
 have h2:IntKind.i64.max=9223372036854775807:=by decide +kernel
 rw[h1,h2] at h;exact h
theorem hasC_list {α:Type} (enc:α→V) (Q:α→Prop) {m t e:Nat} {v:V} {i:TI} (hi:T t=some i) (hk:i.kind=.slice e) (he:∀ x,HasV T m e x→∃ a,x=enc a∧Q a) (h:HasC T (m+1) t [v]) :
  ∃ b,∃ ys:List α,v=.sl b (ys.map enc)∧(∀ a∈ys,Q a)∧ys.length≤maxLen∧(b=true→ys=[]):=by
 simp only[HasC,hi,hk] at h;obtain⟨b,xs,hv,hb,hl,hx⟩:=h;injection hv with hv _;have key:∀ (xs:List V),(∀ x∈xs,∃ a,x=enc a∧Q a)→∃ ys:List α,xs=ys.map enc∧∀ a∈ys,Q a:=by
  intro xs
  induction xs with
  | nil=>intro _;exact⟨[],rfl,by simp⟩
  | cons x xs ih =>
   intro hx;obtain⟨n,hn,hw⟩:=hx x (by simp)
   obtain⟨ns,hns,hws⟩:=ih (fun y hy=>hx y (by simp[hy]))
   refine⟨n::ns,by rw[hn,hns];rfl,fun z hz=>?_⟩
   rcases List.mem_cons.1 hz with rfl | hz
   ·exact hw
   ·exact hws z hz
 obtain⟨ys,hys,hq⟩:=key xs fun x hx'=>by
  obtain⟨ei,h1,h2,h3⟩:=hx x hx';exact he x ⟨ei,h1,h2,h3⟩
 subst hys;exact⟨b,ys,hv,hq,by simpa using hl,fun h=>by simpa using hb h⟩
theorem fld3 {m:Nat} {cs:List V} {k:Nat} (h:∃ fi,T ((k,3):Nat×Nat).2=some fi∧HasC T (m+1) ((k,3):Nat×Nat).2 ((cs.drop ((k,3):Nat×Nat).1).take fi.size)) {x:V} (hx:(cs.drop k).take 1=[x]):∃ n,x=.int .i64 n∧(Lit.int .i64 n).wf=true:=by
 obtain⟨fi,e,c⟩:=h;rw[show T ((k,3):Nat×Nat).2=_ from t3] at e;injection e with e;subst e;exact hasC_int t3 rfl (by rw[←hx];exact c)
theorem arg_setup {m:Nat} {v:V} (h:HasV T (m+2) 24 v):∃ s:Set4,v=.agg (encS4 s):=by
 obtain⟨cs,rfl,hcl,hc⟩:=hasV_struct (fs:=[(0,3),(1,3),(2,3),(3,3)]) (i:=(T 24).get (by kernel_rfl)) (by kernel_rfl) (by kernel_rfl) h
 have hcl:cs.length=4:=hcl
 match cs,hcl with
 | [x0,x1,x2,x3],_ =>
  obtain⟨a,rfl,_⟩:=fld3 (hc (0,3) (by simp)) rfl
  obtain⟨b,rfl,_⟩:=fld3 (hc (1,3) (by simp)) rfl
  obtain⟨c,rfl,_⟩:=fld3 (hc (2,3) (by simp)) rfl
  obtain⟨d,rfl,_⟩:=fld3 (hc (3,3) (by simp)) rfl
  exact⟨⟨a,b,c,d⟩,rfl⟩
def wfI (n:Int):Prop:=-9223372036854775808≤n∧n≤9223372036854775807
theorem arg_int {m:Nat} {v:V} (h:HasV T (m+1) 3 v):∃ n,v=.int .i64 n∧wfI n:=by
 obtain⟨n,h1,h2⟩:=hasV_int t3 rfl h;exact⟨n,h1,wf_b h2⟩
theorem arg_rd {m:Nat} {v:V} (h:HasV T (m+2) 64 v):∃ r:Rd,v=encD r∧(wfI r.id∧wfI r.df):=by
 obtain⟨cs,rfl,hcl,hc⟩:=hasV_struct (fs:=[(0,3),(1,3)]) (i:=(T 64).get (by kernel_rfl)) (by kernel_rfl) (by kernel_rfl) h
 have hcl:cs.length=2:=hcl
 match cs,hcl with
 | [x0,x1],_ =>
  obtain⟨a,rfl,ha⟩:=fld3 (hc (0,3) (by simp)) rfl
  obtain⟨b,rfl,hb⟩:=fld3 (hc (1,3) (by simp)) rfl
  exact⟨⟨a,b⟩,rfl,wf_b ha,wf_b hb⟩
theorem arg_rds {m:Nat} {v:V} (h:HasV T (m+3) 36 v):∃ b,∃ l:List Rd,v=.sl b (l.map encD)∧(∀ r∈l,wfI r.id∧wfI r.df)∧l.length≤maxLen∧(b=true→l=[]) :=
 hasV_list encD (fun r=>wfI r.id∧wfI r.df) (i:=(T 36).get (by kernel_rfl)) (e:=64) (by kernel_rfl) (by kernel_rfl) (fun _ h=>arg_rd h) h
theorem arg_dd {m:Nat} {v:V} (h:HasV T (m+4) 55 v):∃ d:Dd,v=encDd d∧(wfI d.id∧wfI d.diff∧wfI d.rate∧wfI d.mem∧d.rds.length≤maxLen):=by
 obtain⟨cs,rfl,hcl,hc⟩:=hasV_struct (fs:=[(0,3),(1,3),(2,3),(3,3),(4,3),(5,36)]) (i:=(T 55).get (by kernel_rfl)) (by kernel_rfl) (by kernel_rfl) h
 have hcl:cs.length=6:=hcl
 match cs,hcl with
 | [x0,x1,x2,x3,x4,x5],_ =>
  obtain⟨a,rfl,_⟩:=fld3 (hc (0,3) (by simp)) rfl
  obtain⟨b,rfl,hb⟩:=fld3 (hc (1,3) (by simp)) rfl
  obtain⟨c,rfl,hc'⟩:=fld3 (hc (2,3) (by simp)) rfl
  obtain⟨d,rfl,hd⟩:=fld3 (hc (3,3) (by simp)) rfl
  obtain⟨e,rfl,he⟩:=fld3 (hc (4,3) (by simp)) rfl
  obtain⟨fi,e5,c5⟩:=hc (5,36) (by simp)
  have hs:fi.size=1:=by
   have:(T 36)=some fi:=e5
   have h2:(T 36).map (fun i=>i.size)=some 1:=by kernel_rfl
   rw[this] at h2;simpa using h2
  rw[hs] at c5;obtain⟨z,l,rfl,hl,hm,_⟩:=hasC_list encD (fun r=>wfI r.id∧wfI r.df) (i:=(T 36).get (by kernel_rfl)) (e:=64) (by kernel_rfl) (by kernel_rfl) (fun _ h=>arg_rd h) (show HasC T (m+2+1) 36 [x5] from c5)
  exact⟨⟨a,b,c,d,e,z,l⟩,rfl,wf_b hb,wf_b hc',wf_b hd,wf_b he,hm⟩
theorem arg_dds {m:Nat} {v:V} (h:HasV T (m+5) 35 v):∃ b,∃ l:List Dd,v=.sl b (l.map encDd)∧(∀ d∈l,wfI d.id∧wfI d.diff∧wfI d.rate∧wfI d.mem∧d.rds.length≤maxLen)∧l.length≤maxLen∧(b=true→l=[]) :=
 hasV_list encDd (fun d=>wfI d.id∧wfI d.diff∧wfI d.rate∧wfI d.mem∧d.rds.length≤maxLen) (i:=(T 35).get (by kernel_rfl)) (e:=55) (by kernel_rfl) (by kernel_rfl) (fun _ h=>arg_dd h) h
end Go.Proofs.Ytnijkhcmjpfjeaa
