/- H: arguments: numbers,lists,structs. -/
import Derived.Test.YtnijkhcmjpfjeaaW4
import Derived.Test.YtnijkhcmjpfjeaaVT
namespace Go.Proofs.Ytnijkhcmjpfjeaa
open Go Go.Vm
theorem hasV_int {m t:Nat} {v:V} {i:TI} {k:IntKind} (hi:T t=some i) (hk:i.kind=.int k) (h:HasV T (m+1) t v):∃ n,v=.int k n∧(Lit.int k n).wf=true:=by
 obtain⟨i',hi',ha,hc⟩:=h;rw[hi] at hi';injection hi' with hi';subst hi';simp only[HasC,hi,hk] at hc;obtain⟨n,hv,hw⟩:=hc;refine⟨n,?_,hw⟩;unfold asType at ha;rw[hv] at ha;split at ha
 ·rw[hk] at ha
  simp[TK.isAgg] at ha;exact ha.symm
 ·cases ha
theorem allV_nil {T:Types} {m:Nat} {xs:List V} (h:AllV T m [] xs):xs=[]:=by
 cases xs with
 | nil=>rfl
 | cons v vs=>exact h.elim
theorem hasV_list {α:Type} (enc:α→V) (Q:α→Prop) {m t e:Nat} {v:V} {i:TI} (hi:T t=some i) (hk:i.kind=.slice e) (he:∀ x,HasV T m e x→∃ a,x=enc a∧Q a) (h:HasV T (m+1) t v) :
  ∃ b,∃ ys:List α,v=.sl b (ys.map enc)∧(∀ a∈ys,Q a)∧ys.length≤maxLen∧(b=true→ys=[]):=by
 obtain⟨i',hi',ha,hc⟩:=h;rw[hi] at hi';injection hi' with hi';subst hi';simp only[HasC,hi,hk] at hc;obtain⟨b,xs,hv,hb,hl,hx⟩:=hc;have hv':v=.sl b xs:=by
  unfold asType at ha;rw[hv] at ha;split at ha
  ·rw[hk] at ha
   simp[TK.isAgg] at ha;exact ha.symm
  ·cases ha
 have key:∀ (xs:List V),(∀ x∈xs,∃ a,x=enc a∧Q a)→∃ ys:List α,xs=ys.map enc∧∀ a∈ys,Q a:=by
  intro xs
  induction xs with
  | nil=>intro _;exact⟨[],rfl,by simp⟩
  | cons x xs ih =>
   intro hx;obtain⟨n,hn,hw⟩:=hx x (by simp)
   obtain⟨ns,hns,hws⟩:=ih (fun y hy=>hx y (by simp[hy]))
   refine⟨n::ns,by rw[hn,hns];rfl,fun z hz=>?_⟩
   rcases List.mem_cons.1 hz with rfl | hz
   ·exact hw
   ·exact hws z hz
 obtain⟨ys,hys,hq⟩:=key xs fun x hx'=>by
  obtain⟨ei,h1,h2,h3⟩:=hx x hx';exact he x ⟨ei,h1,h2,h3⟩
 subst hys;exact⟨b,ys,hv',hq,by simpa using hl,fun h=>by simpa using hb h⟩
theorem hasV_struct {m t:Nat} {v:V} {i:TI} {fs:List (Nat×Nat)} (hi:T t=some i) (hk:i.kind=.struct fs) (h:HasV T (m+1) t v) :
  ∃ cs,v=.agg cs∧cs.length=i.size∧∀ f∈fs,∃ fi,T f.2=some fi∧HasC T m f.2 ((cs.drop f.1).take fi.size):=by
 obtain⟨i',hi',ha,hc⟩:=h;rw[hi] at hi';injection hi' with hi';subst hi';simp only[HasC,hi,hk] at hc;refine⟨v.cells,?_,hc.1,hc.2⟩;unfold asType at ha;split at ha
 ·rw[hk] at ha
  simp[TK.isAgg] at ha;exact ha.symm
 ·cases ha
theorem hasC_int {m t:Nat} {x:V} {i:TI} {k:IntKind} (hi:T t=some i) (hk:i.kind=.int k) (h:HasC T (m+1) t [x]):∃ n,x=.int k n∧(Lit.int k n).wf=true:=by
 simp only[HasC,hi,hk] at h;obtain⟨n,h1,h2⟩:=h;injection h1 with h1 _;exact⟨n,h1,h2⟩
end Go.Proofs.Ytnijkhcmjpfjeaa
