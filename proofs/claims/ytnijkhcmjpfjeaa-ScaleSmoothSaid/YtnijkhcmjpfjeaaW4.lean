/- W4: V,an evaluator that carries contents (V35,V36,V37,V38). No conditions. -/
import Derived.IntWalk
import Derived.Shelf.SlBodiesN
import Derived.Shelf.SlGeneric
import Derived.Shelf.RegionOpenPlain
import Derived.WalkKit
import Derived.Deep.RegionLaw
import Derived.Lib.Walk
import Derived.Deep.LoopGhost
import Derived.Sort.WalkB12
import Derived.Lib.SliceRun
import Derived.Test.YtnijkhcmjpfjeaaW3
section
namespace Go.Vm
open Go
def Ev (p:Nat→Prop):Prop:=∃ k0,∀ k,k0≤k→p k
theorem Ev.all {p:Nat→Prop} (h:∀ k,p k):Ev p:=⟨0,fun k _=>h k⟩
theorem Ev.and {p q:Nat→Prop} (h:Ev p) (g:Ev q):Ev fun k=>p k∧q k:=by
 obtain⟨a,ha⟩:=h;obtain⟨b,hb⟩:=g;exact⟨max a b,fun k hk=>⟨ha k (by omega),hb k (by omega)⟩⟩
theorem Ev.mono {p q:Nat→Prop} (h:Ev p) (f:∀ k,p k→q k):Ev q:=by
 obtain⟨a,ha⟩:=h;exact⟨a,fun k hk=>f k (ha k hk)⟩
theorem Ev.of_and {p q:Nat→Prop} (h:Ev p) (g:Ev q) {r:Nat→Prop} (f:∀ k,p k→q k→r k):Ev r:=(h.and g).mono fun k x=>f k x.1 x.2
section
variable {T:Types} {call:CallF} {calls:Nat→CallF} {lp:Step→Step} {lps:Nat→Step→Step} {cx:Cx} {ops:Array Oper}
theorem ev_callGo (hc:∀ f a H r,call f a H=some r→Ev fun k=>calls k f a H=some r) {σ:St} {f:FuncId} {vs:List V} {ids:List Nat} {ps:List (Place×V)} {e:Eff} (h:callGo call σ f vs ids ps=some e) :
  Ev fun k=>callGo (calls k) σ f vs ids ps=some e:=by
 unfold callGo at h;by_cases hp:(vs.all noPtr&&ids.isEmpty)=true
 ·rw[if_pos hp] at h
  cases hcall:call f vs [] with
  | none=>rw[hcall] at h;cases h
  | some x =>
   refine (hc _ _ _ _ hcall).mono fun k hk=>?_
   unfold callGo;simp only[if_pos hp,hk];rw[hcall] at h;exact h
 ·rw[if_neg hp] at h
  simp only at h;split at h
  ·rename_i hcl
   cases hcall:call f vs (maskH (reach (setPlaces σ ps).heap (setPlaces σ ps).heap.length (ids++argIds vs)) (setPlaces σ ps).heap) with
   | none=>rw[hcall] at h;cases h
   | some x =>
    refine (hc _ _ _ _ hcall).mono fun k hk=>?_
    unfold callGo;simp only[if_neg hp,if_pos hcl,hk];rw[hcall] at h;exact h
  ·cases h
theorem ev_callAt (hc:∀ f a H r,call f a H=some r→Ev fun k=>calls k f a H=some r) {σ:St} {f:V} {args:List V} {ps:List (Place×V)} {e:Eff} (h:callAt call σ f args ps=some e) :
  Ev fun k=>callAt (calls k) σ f args ps=some e:=by
 unfold callAt at h ⊢;split at h
 ·rename_i fid first captured
  split at h
  ·rename_i hl;simp only[hl,if_true];exact ev_callGo hc h
  ·cases h
 ·exact ev_callGo hc h
 ·cases h
theorem ev_lendAt (hc:∀ f a H r,call f a H=some r→Ev fun k=>calls k f a H=some r) {σ:St} {f:FuncId} {ka:Nat} {p:Place} {sz:Nat} {xs:List V} {rest:List Operand} {e:Eff} (h:lendAt call σ f ka p sz xs rest=some e) :
  Ev fun k=>lendAt (calls k) σ f ka p sz xs rest=some e:=by
 unfold lendAt at h ⊢;cases hv:views (setPlace σ p .undef) rest with
 | none=>simp[hv] at h
 | some vp =>
  obtain⟨vs,ps⟩:=vp;simp only[hv] at h ⊢;split at h
  ·rename_i hcl
   simp only[if_pos hcl];split at h
   ·rename_i r H' hcall
    refine (hc _ _ _ _ hcall).mono fun k hk=>?_
    simp only[hk];exact h
   ·cases h
  ·cases h
theorem ev_eff (hc:∀ f a H r,call f a H=some r→Ev fun k=>calls k f a H=some r) {fr:Nat} {o:Oper} {σ:St} {e:Eff} (h:eff T call cx fr o σ=some e):Ev fun k=>eff T (calls k) cx fr o σ=some e:=by
 cases ho:o.op
 case call c =>
  simp only[eff,ho] at h ⊢;cases hcal:c.callee with
  | value f =>
   simp only[hcal] at h ⊢;cases ht:toldOf cx (opd σ.env f) with
   | some sz=>simp only[ht] at h ⊢;exact .all fun _=>h
   | none =>
   simp only[ht] at h ⊢;have other:∀ {e:Eff},(match views σ c.args.toList with | some (vs,ps)=>callAt call σ (opd σ.env f) vs ps | none=>none)=some e →
     Ev fun k=>(match views σ c.args.toList with | some (vs,ps)=>callAt (calls k) σ (opd σ.env f) vs ps | none=>none)=some e:=fun {e} h=>by
    cases hv:views σ c.args.toList with
    | none=>simp[hv] at h
    | some x =>
     simp only[hv] at h;exact (ev_callAt hc h).mono fun k hk=>by simpa only [hv] using hk
   cases hg:glanceOf cx (opd σ.env f) with
   | some g =>
    simp only[hg] at h ⊢;unfold glanceAt at h ⊢;cases hv:glances σ c.args.toList with
    | none=>simp[hv] at h
    | some vk =>
     obtain⟨vs,ks⟩:=vk;simp only[hv] at h ⊢;cases hcall:call g vs [] with
     | none=>simp[hcall] at h
     | some x=>exact (hc _ _ _ _ hcall).mono fun k hk=>by rw[hcall] at h;simp only[hk];exact h
   | none =>
   cases hl:lendOf cx σ (opd σ.env f) c.args.toList with
   | none=>simp only[hg,hl] at h ⊢;exact other h
   | some q =>
    obtain⟨g,ka,p,sz,xs,rest⟩:=q;cases xs with
    | nil=>simp only[hg,hl] at h ⊢;exact other h
    | cons x xs=>simp only[hg,hl] at h ⊢;exact ev_lendAt hc h
  | builtin b=>simp only[hcal] at h ⊢;exact .all fun _=>h
  | invoke x m=>simp only[hcal] at h;cases h
 all_goals exact .all fun k=>by simpa only [eff,ho] using h
theorem ev_effG (hc:∀ f a H r,call f a H=some r→Ev fun k=>calls k f a H=some r) {fr:Nat} {o:Oper} {σ:St} {e:Eff} (h:effG T call cx ops fr o σ=some e):Ev fun k=>effG T (calls k) cx ops fr o σ=some e:=by
 unfold effG at h ⊢;cases hw:wants ops σ.env o with
 | none=>simp[hw] at h
 | some b =>
  cases b with
  | false=>exact .all fun k=>by simpa [hw] using h
  | true =>
   simp only[hw] at h ⊢;cases he:eff T call cx fr o σ with
   | none=>simp[he] at h
   | some x =>
    rw[he] at h;exact (ev_eff hc he).mono fun k hk=>by simp only[hk];exact h
theorem ev_vops (hc:∀ f a H r,call f a H=some r→Ev fun k=>calls k f a H=some r):∀ (l:List Oper) (fr:Nat) (σ τ:St),vops T call cx ops fr l σ=some τ→Ev fun k=>vops T (calls k) cx ops fr l σ=some τ
 | [],fr,σ,τ,h=>.all fun _=>h
 | o::l,fr,σ,τ,h=>by
  simp only[vops,Option.bind_eq_some_iff] at h ⊢;obtain⟨σ1,h1,h2⟩:=h;unfold vop at h1 ⊢;rw[Option.map_eq_some_iff] at h1;obtain⟨e,h3,h4⟩:=h1;refine (ev_effG hc h3).of_and (ev_vops hc l _ _ _ h2) fun k g1 g2=>⟨σ1,by rw[g1];simp[h4],g2⟩
theorem ev_draw (hc:∀ f a H r,call f a H=some r→Ev fun k=>calls k f a H=some r):∀ (l:List Oper) (fr:Nat) (σ:St) (r:St×List (List Res×List Res)),drawRun T call cx ops fr l σ=some r→Ev fun k=>drawRun T (calls k) cx ops fr l σ=some r
 | [],fr,σ,τ,h=>.all fun _=>h
 | o::l,fr,σ,τ,h=>by
  simp only[drawRun] at h ⊢;cases he:effG T call cx ops fr o σ with
  | none=>simp[he] at h
  | some e =>
   simp only[he] at h;split at h
   ·rename_i hb
    rw[Option.map_eq_some_iff] at h;obtain⟨x,h1,h2⟩:=h;exact (ev_effG hc he).of_and (ev_draw hc l _ _ _ h1) fun k g1 g2=>by simp only[g1,if_pos hb,g2];simp[←h2]
   ·rename_i hb
    split at h
    ·rename_i hw
     rw[Option.map_eq_some_iff] at h;obtain⟨x,h1,h2⟩:=h;exact (ev_effG hc he).of_and (ev_draw hc l _ _ _ h1) fun k g1 g2=>by simp only[g1,if_neg hb,if_pos hw,g2];simp[←h2]
    ·cases h
theorem ev_region (hc:∀ f a H r,call f a H=some r→Ev fun k=>calls k f a H=some r) {id:Nat} {draw:Bool} {σ τ:St} (h:vregion T call cx id ops draw σ=some τ):Ev fun k=>vregion T (calls k) cx id ops draw σ=some τ:=by
 unfold vregion at h ⊢;cases draw with
 | false =>
  simp only[Option.map_eq_some_iff] at h ⊢;obtain⟨x,h1,h2⟩:=h;exact (ev_vops hc _ _ _ _ h1).mono fun k g=>⟨x,g,h2⟩
 | true =>
  simp only at h ⊢;cases hr:drawRun T call cx ops σ.heap.length ops.toList (reserve ops σ) with
  | none=>simp[hr] at h
  | some x=>exact (ev_draw hc _ _ _ _ hr).mono fun k g=>by rw[g];rw[hr] at h;exact h
def EvStep (step:Step) (steps:Nat→Step):Prop:=∀ σ r,step σ=some r→Ev fun k=>steps k σ=some r
theorem ev_code (hc:∀ f a H r,call f a H=some r→Ev fun k=>calls k f a H=some r) (hl:∀ step steps,EvStep step steps→EvStep (lp step) fun k=>lps k (steps k)) :
  ∀ (c:Code),EvStep (vcode T call lp cx c) fun k=>vcode T (calls k) (lps k) cx c
 | .skip=>fun σ r h=>.all fun _=>h
 | .region id ops draw=>fun σ r h=>by
  simp only[vcode,Option.map_eq_some_iff] at h ⊢;obtain⟨x,h1,h2⟩:=h;exact (ev_region hc h1).mono fun k g=>⟨x,g,h2⟩
 | .seq a b=>fun σ r h=>by
  simp only[vcode] at h ⊢;cases ha:vcode T call lp cx a σ with
  | none=>simp[ha] at h
  | some x =>
   obtain⟨ex,σ1⟩:=x;have h1:=ev_code hc hl a σ _ ha;cases ex with
   | normal =>
    simp only[ha] at h;exact h1.of_and (ev_code hc hl b _ _ h) fun k (g1:vcode T (calls k) (lps k) cx a σ=_) g2=>by rw[g1];exact g2
   | exit i=>rw[ha] at h;exact h1.mono fun k (g:vcode T (calls k) (lps k) cx a σ=_)=>by rw[g];exact h
   | ret=>rw[ha] at h;exact h1.mono fun k (g:vcode T (calls k) (lps k) cx a σ=_)=>by rw[g];exact h
 | .cond c a b=>fun σ r h=>by
  simp only[vcode] at h ⊢;cases hv:opd σ.env c<;>simp only[hv] at h ⊢<;>try (cases h;done)
  rename_i t;cases t
  ·simp only[Bool.false_eq_true,if_false] at h ⊢;exact ev_code hc hl b σ r h
  ·simp only[if_true] at h ⊢;exact ev_code hc hl a σ r h
 | .block id b=>fun σ r h=>by
  simp only[vcode] at h ⊢;cases ha:vcode T call lp cx b σ with
  | none=>simp[ha] at h
  | some x=>exact (ev_code hc hl b σ _ ha).mono fun k (g:vcode T (calls k) (lps k) cx b σ=_)=>by rw[g];rw[ha] at h;exact h
 | .loop b=>fun σ r h=>by
  simp only[vcode] at h ⊢;refine hl _ _ (fun τ r h=>?_) _ _ h
  cases ha:vcode T call lp cx b τ with
  | none=>simp[ha] at h
  | some x=>exact (ev_code hc hl b τ _ ha).mono fun k (g:vcode T (calls k) (lps k) cx b τ=_)=>by rw[g];rw[ha] at h;exact h
 | .exit id=>fun σ r h=>.all fun _=>h
 | .ret=>fun σ r h=>.all fun _=>h
 | .rangeFunc g ps asg body=>fun σ r h=>by
  simp only[vcode] at h ⊢;split at h
  ·rename_i f first captured hr hg
   split at h
   ·rename_i hcl
    cases hcall:call f (first++[.ref .yld σ.heap.length]++captured) (maskH (reach (rangeIn cx ps.toList asg body σ) (rangeIn cx ps.toList asg body σ).length (argIds (first++[.ref .yld σ.heap.length]++captured))) (rangeIn cx ps.toList asg body σ)) with
    | none=>rw[hcall] at h;cases h
    | some x =>
     refine (hc _ _ _ _ hcall).mono fun k hk=>?_
     simp only[hcl,if_true,hk];rw[hcall] at h;exact h
   ·cases h
  ·cases h
 | .scope x=>fun σ r h=>by
  simp only[vcode] at h ⊢;exact ev_code hc hl x σ r h
 | .label _=>fun σ r h=>.all fun _=>h
 | .goto _=>fun σ r h=>by cases h
 | .refuse _=>fun σ r h=>by cases h
theorem ev_rounds {step:Step} {steps:Nat→Step} (h:EvStep step steps):∀ (n:Nat) (σ:St) (r:Ex×St),rounds step n σ=some r→Ev fun k=>∀ m,n≤m→rounds (steps k) m σ=some r
 | 0,σ,r,hr=>by simp[rounds] at hr
 | n+1,σ,r,hr=>by
  simp only[rounds] at hr;cases hs:step σ with
  | none=>simp[hs] at hr
  | some x =>
   obtain⟨ex,σ1⟩:=x;cases ex with
   | normal =>
    simp only[hs] at hr;refine (h _ _ hs).of_and (ev_rounds h n σ1 r hr) fun k g1 g2 m hm=>?_
    match m,hm with
    | m+1,hm=>simp only[rounds,g1];exact g2 m (by omega)
   | exit i =>
    refine (h _ _ hs).mono fun k g1 m hm=>?_
    match m,hm with
    | m+1,hm=>simp only[rounds,g1];simpa [hs] using hr
   | ret =>
    refine (h _ _ hs).mono fun k g1 m hm=>?_
    match m,hm with
    | m+1,hm=>simp only[rounds,g1];simpa [hs] using hr
theorem rounds_mono {step:Step} {n m:Nat} (hn:n≤m) {σ:St} {r:Ex×St} (h:rounds step n σ=some r):rounds step m σ=some r:=by
 obtain⟨k0,hk⟩:=ev_rounds (steps:=fun _=>step) (fun σ r h=>.all fun _=>h) n σ r h
 exact hk k0 (Nat.le_refl _) m hn
theorem ev_any {F:Fns} (hc:∀ f a H r,call f a H=some r→Ev fun k=>calls k f a H=some r) (hl:∀ step steps,EvStep step steps→EvStep (lp step) fun k=>lps k (steps k)) {f:FuncId} {a:List V} {H:Heap} {r:V×Heap}
  (h:vany T F call lp f a H=some r):Ev fun k=>vany T F (calls k) (lps k) f a H=some r:=by
 unfold vany at h ⊢;cases hf:F f with
 | some fi =>
  simp only[hf] at h ⊢;unfold vfun at h ⊢;simp only[hf] at h ⊢;cases hv:vcode T call lp fi.cx fi.body (enter a H) with
  | none=>simp[hv] at h
  | some x=>exact (ev_code hc hl fi.body _ _ hv).mono fun k (g:vcode T (calls k) (lps k) fi.cx fi.body (enter a H)=_)=>by rw[g];rw[hv] at h;exact h
 | none =>
  simp only[hf] at h ⊢;split at h
  ·rename_i hb
   simp only[hb,if_true];unfold vround at h ⊢;split at h
   ·rename_i ts vs ps asg body cx hbc
    split at h
    ·rename_i fi hfi
     split at h
     ·rename_i hcond
      cases h1:vcode T call lp {cx with rnd:=true} asg {env:=(ps.zip a).reverse++ts.zip vs,heap:=H} with
      | none=>simp[h1] at h
      | some x =>
       obtain⟨ex,σ1⟩:=x;have e1:=ev_code (cx:={cx with rnd:=true}) hc hl asg _ _ h1;simp only[h1] at h;cases ex with
       | normal =>
        simp only at h;split at h
        ·rename_i ts1 vs1 ps1 asg1 body1 cx1 hb1
         cases h2:vcode T call lp {cx with rnd:=true} body (setMem σ1 (.set (f-yB) 0 [.lp ts1 vs1 ps1 asg1 body1 cx1 .busy])) with
         | none=>simp[h2] at h
         | some y =>
          have e2:=ev_code (cx:={cx with rnd:=true}) hc hl body _ _ h2;refine e1.of_and e2 fun k (g1:vcode T (calls k) (lps k) {cx with rnd:=true} asg {env:=(ps.zip a).reverse++ts.zip vs,heap:=H}=_) (g2:vcode T (calls k) (lps k) {cx with rnd:=true} body (setMem σ1 (.set (f-yB) 0 [.lp ts1 vs1 ps1 asg1 body1 cx1 .busy]))=_)=>?_
          simp only[if_pos hcond,g1,hb1,g2];rw[h2] at h;exact h
        ·cases h
       | exit i=>cases h
       | ret=>cases h
     ·cases h
    ·cases h
   ·cases h
  ·cases h
theorem vcall_succ {F:Fns}:∀ (k:Nat) (f:FuncId) (a:List V) (H:Heap) (r:V×Heap),vcall T F k f a H=some r→vcall T F (k+1) f a H=some r
 | 0,f,a,H,r,h=>by simp[vcall] at h
 | k+1,f,a,H,r,h=>by
  obtain⟨k0,hk⟩:=ev_any (calls:=fun _=>sq (vcall T F (k+1))) (lps:=fun _ s=>rounds s (k+1)) (fun f a H r h=>.all fun _=>sq_mono (fun f a H r h=>vcall_succ k f a H r h) h)
   (fun step steps hs σ r h=>by
    obtain⟨k0,hk⟩:=ev_rounds hs k σ r h;exact⟨k0,fun j hj=>hk j hj (k+1) (by omega)⟩) h
  exact hk k0 (Nat.le_refl _)
theorem vcall_mono {F:Fns} {f:FuncId} {a:List V} {H:Heap} {r:V×Heap} {k m:Nat} (hk:k≤m) (h:vcall T F k f a H=some r):vcall T F m f a H=some r:=by
 induction hk with
 | refl=>exact h
 | step _ ih=>exact vcall_succ _ f a H r ih
def Runs (T:Types) (F:Fns) (f:FuncId) (a:List V) (H:Heap) (r:V×Heap):Prop:=∃ k,vcall T F k f a H=some r
theorem Runs.det {F:Fns} {f:FuncId} {a:List V} {H:Heap} {r s:V×Heap} (h:Runs T F f a H r) (g:Runs T F f a H s):r=s:=by
 obtain⟨k,h⟩:=h;obtain⟨m,g⟩:=g;have h1:=vcall_mono (Nat.le_max_left k m) h;rw[vcall_mono (Nat.le_max_right k m) g] at h1;exact (Option.some.inj h1).symm
open Classical in
noncomputable def vlim0 (T:Types) (F:Fns):CallF:=fun f a H=>if h:∃ r,Runs T F f a H r then some h.choose else none
theorem vlim_iff {F:Fns} {f:FuncId} {a:List V} {H:Heap} {r:V×Heap}:vlim0 T F f a H=some r↔Runs T F f a H r:=by
 unfold vlim0;split
 ·rename_i h
  have hc:=h.choose_spec;constructor
  ·intro g;injection g with g;rw[←g];exact hc
  ·intro g;rw[hc.det g]
 ·rename_i h
  exact⟨fun g=>(by cases g),fun g=>absurd ⟨r,g⟩ h⟩
noncomputable def vlim (T:Types) (F:Fns):CallF:=sq (vlim0 T F)
theorem sq_ev {call:CallF} {calls:Nat→CallF} (hc:∀ f a H r,call f a H=some r→Ev fun k=>calls k f a H=some r) {f:FuncId} {a:List V} {H:Heap} {r:V×Heap} (h:sq call f a H=some r):Ev fun k=>sq (calls k) f a H=some r:=by
 unfold sq at h ⊢;cases hb:Nat.beq (liveB H).length H.length with
 | true=>rw[hb] at h;exact hc _ _ _ _ h
 | false =>
  rw[hb] at h;simp only at h ⊢;cases hf:sqF (liveB H) f with
  | none=>rw[hf] at h;cases h
  | some f' =>
   rw[hf] at h;simp only at h ⊢;cases hcl:call f' (a.map (map1 (downG (liveB H)))) (packH (liveB H) H) with
   | none=>rw[hcl] at h;cases h
   | some x =>
    rw[hcl] at h;exact (hc _ _ _ _ hcl).mono fun k hk=>by rw[hk];exact h
def LRuns (step:Step) (σ:St) (r:Ex×St):Prop:=∃ n,rounds step n σ=some r
theorem LRuns.det {step:Step} {σ:St} {r s:Ex×St} (h:LRuns step σ r) (g:LRuns step σ s):r=s:=by
 obtain⟨k,h⟩:=h;obtain⟨m,g⟩:=g;have h1:=rounds_mono (Nat.le_max_left k m) h;rw[rounds_mono (Nat.le_max_right k m) g] at h1;exact (Option.some.inj h1).symm
open Classical in
noncomputable def lplim (step:Step):Step:=fun σ=>if h:∃ r,LRuns step σ r then some h.choose else none
theorem lplim_iff {step:Step} {σ:St} {r:Ex×St}:lplim step σ=some r↔LRuns step σ r:=by
 unfold lplim;split
 ·rename_i h
  have hc:=h.choose_spec;constructor
  ·intro g;injection g with g;rw[←g];exact hc
  ·intro g;rw[hc.det g]
 ·rename_i h
  exact⟨fun g=>(by cases g),fun g=>absurd ⟨r,g⟩ h⟩
theorem runs_of_any {F:Fns} {f:FuncId} {a:List V} {H:Heap} {r:V×Heap} (h:vany T F (vlim T F) lplim f a H=some r):Runs T F f a H r:=by
 obtain⟨k0,hk⟩:=ev_any (calls:=fun k=>sq (vcall T F k)) (lps:=fun k s=>rounds s k)
  (fun f a H r h=>sq_ev (fun f a H r h=>by
   obtain⟨k,hk⟩:=vlim_iff.1 h;exact⟨k,fun m hm=>vcall_mono hm hk⟩) h)
  (fun step steps hs σ r h=>by
   obtain⟨n,hn⟩:=lplim_iff.1 h;obtain⟨k0,hk⟩:=ev_rounds hs n σ r hn;exact⟨max k0 n,fun k hkk=>hk k (by omega) k (by omega)⟩) h
 exact⟨k0+1,hk k0 (Nat.le_refl _)⟩
theorem runs_of_lim {F:Fns} {f:FuncId} {a:List V} {H:Heap} {r:V×Heap} (h:vfun T F (vlim T F) lplim f a H=some r):Runs T F f a H r:=by
 refine runs_of_any ?_;unfold vany;cases hf:F f with
 | none=>simp[vfun,hf] at h
 | some fi=>exact h
end
end Go.Vm
end
section
namespace Go.Vm
open Go
section
variable {T:Types} {sh:Nat→List TK} {S:Spec} {L:LSpec} {call:CallF} {cx:Cx} {ops:Array Oper} {fr:Nat} {o:Oper} {σ:St}
def Good (call:CallF) (S:Spec):Prop:=∀ f a H r,(S f a H).run=some r→call f a H=some r
theorem if_fail {α:Type} {c:Prop} [Decidable c] {x:Tr α} {r:α} (h:(if c then x else .fail).run=some r):c∧x.run=some r:=by
 split at h
 ·rename_i hc;exact⟨hc,h⟩
 ·cases h
theorem eff_none {e:Eff} (h:eff T (fun _ _ _=>none) cx fr o σ=some e):eff T call cx fr o σ=some e:=by
 obtain⟨k0,hk⟩:=ev_eff (calls:=fun _=>call) (fun _ _ _ _ h=>by cases h) h
 exact hk k0 (Nat.le_refl _)
theorem getD_some {α:Type} {l:List α} {k:Nat} (h:k<l.length) (d:α):l[k]?=some (l.getD k d):=by
 rw[List.getD_eq_getElem?_getD,List.getElem?_eq_getElem h];rfl
theorem ask_some' {α:Type} {b:Bool} {x y:Tr α} {r:α} (h:(Tr.ask b x y).run=some r):(b=true∧x.run=some r)∨(b=false∧y.run=some r):=by
 cases b
 ·exact .inr ⟨rfl,h⟩
 ·exact .inl ⟨rfl,h⟩
theorem goT_ok (hS:Good call S) {f:FuncId} {vs:List V} {ids:List Nat} {ps:List (Place×V)} {e:Eff} {arr:Bool} (h:(goT S arr σ f vs ids ps).run=some e):callGo call σ f vs ids ps=some e:=by
 unfold goT at h;unfold callGo;by_cases hp:(vs.all noPtr&&ids.isEmpty)=true
 ·rw[if_pos hp] at h ⊢
  obtain⟨x,h1,h2⟩:=Tr.bind_some h;rw[hS _ _ _ _ h1];obtain⟨r,H1⟩:=x;cases H1 with
  | nil =>
   simp only at h2 ⊢;cases ps with
   | nil=>simpa [Tr.run] using h2
   | cons p ps =>
    simp only[Tr.run] at h2;cases ha:apart r<;>simpa [ha,Tr.run] using h2
  | cons b H1=>simpa [Tr.run] using h2
 ·rw[if_neg hp] at h ⊢
  simp only at h ⊢;generalize reach (setPlaces σ ps).heap (setPlaces σ ps).heap.length (ids++argIds vs)=ks at h ⊢;have hk:(closedK ks (setPlaces σ ps).heap&&(ids++argIds vs).all ks.contains)=true∧(goK S f vs ps (setPlaces σ ps).heap ks).run=some e:=by
   cases arr with
   | true =>
    obtain⟨h1,ha⟩:=Tr.must_some h;obtain⟨h2,hb⟩:=Tr.must_some ha;obtain⟨h3,hc⟩:=if_fail hb;simp only[decide_eq_true_eq] at h1;rw[h1];exact⟨by rw[h2,h3];rfl,hc⟩
   | false =>
    obtain⟨hcl,h⟩:=if_fail h;exact⟨hcl,h⟩
  obtain⟨hcl,h⟩:=hk;rw[if_pos hcl];unfold goK at h;obtain⟨x,h1,h2⟩:=Tr.bind_some h;rw[hS _ _ _ _ h1];obtain⟨hd,h2⟩:=if_fail h2;simp only;rw[if_pos hd];split at h2
  ·rename_i hl
   rw[if_pos hl];cases ps with
   | nil =>
    have:staysB ks [] x.1 x.2=false:=rfl
    simp only[this];simpa [Tr.run] using h2
   | cons p ps =>
    rcases ask_some' h2 with ⟨hb,h2⟩ | ⟨hb,h2⟩
    ·simp only[hb,if_true];simpa [Tr.run] using h2
    ·simp only[hb];simpa [Tr.run] using h2
  ·rename_i hl;rw[if_neg hl];simpa [Tr.run] using h2
theorem callT_ok (hS:Good call S) {f:V} {args:List V} {ps:List (Place×V)} {e:Eff} {arr:Bool} (h:(callT S arr σ f args ps).run=some e):callAt call σ f args ps=some e:=by
 unfold callT at h;unfold callAt;split at h
 ·obtain⟨hl,h⟩:=if_fail h
  simp only[hl,if_true];exact goT_ok hS h
 ·exact goT_ok hS h
 ·cases h
theorem ask_some {α:Type} {b:Bool} {x y:Tr α} {r:α} (h:(Tr.ask b x y).run=some r):(b=true∧x.run=some r)∨(b=false∧y.run=some r):=by
 cases b
 ·exact .inr ⟨rfl,h⟩
 ·exact .inl ⟨rfl,h⟩
theorem updateT_ok {t:Nat} {m k x:Operand} {e:Eff} (h:(updateT T σ t m k x).run=some e):updateAt T σ t m k x=some e:=by
 unfold updateT at h;unfold updateAt;cases hk:kindOf T t with
 | none=>simp only[hk] at h;cases h
 | some kk =>
  cases kk<;>simp only[hk] at h ⊢<;>try (cases h;done)
  rename_i kt et;cases hm:mapOf σ (opd σ.env m) with
  | none=>simp only[hm] at h;cases h
  | some mm =>
   obtain⟨id,ks,vs⟩:=mm;cases hx:takeMap σ x with
   | none=>simp only[hm,hx] at h;cases h
   | some vp =>
    obtain⟨v,ps⟩:=vp;simp only[hm,hx] at h ⊢;cases h1:T kt with
    | none=>simp only[h1] at h;cases h
    | some ki =>
     cases h2:T et with
     | none=>simp only[h1,h2] at h;cases h
     | some ei =>
      simp only[h1,h2] at h ⊢;obtain⟨c1,h⟩:=Tr.must_some h;obtain⟨c2,h⟩:=Tr.must_some h;obtain⟨c3,h⟩:=Tr.must_some h;obtain⟨c4,h⟩:=if_fail h;rw[if_pos ⟨c1,c2,c4.1,c3,c4.2⟩];rcases ask_some h with ⟨hb,h⟩ | ⟨hb,h⟩
      ·obtain⟨j,hj⟩:=Option.isSome_iff_exists.1 hb
       have h:=(show some _=some _ from h);rw[←h];simp only[mapPut,hj,Option.getD_some]
      ·have hn:findK (opd σ.env k) ks=none:=by simpa using hb
       have h:=(show some _=some _ from h);rw[←h];simp only[mapPut,hn]
theorem canon_all {v:V} {l:List TK} {i:TI} (hl:l.length=i.size) (hc:v.cells.length=i.size) (hf:fitP l 0 v=true) (ha:isAggV v=i.kind.isAgg):asType i (canonP l 0 v)=some v:=by
 have h:=canonP_eq l 0 v hf;rw[List.drop_zero,hl,←hc,List.take_length] at h;rw[←h];unfold asType;rw[if_pos hc];cases hk:i.kind.isAgg<;>rw[hk] at ha<;>simp only[Bool.false_eq_true,if_false,if_true]
 ·cases v<;>first | rfl | (simp[isAggV] at ha)
 ·cases v<;>first | rfl | (simp[isAggV] at ha)
theorem lookupT_ok {t:Nat} {m k:Operand} {ok:Bool} {v:V} (h:(lookupT T sh σ t m k ok).run=some v):lookupAt T σ t m k ok=some v:=by
 unfold lookupT at h;unfold lookupAt;cases hk:kindOf T t with
 | none=>simp only[hk] at h;cases h
 | some kk =>
  cases kk<;>simp only[hk] at h ⊢<;>try (cases h;done)
  rename_i kt et;cases h1:T kt with
  | none=>simp only[h1] at h;cases h
  | some ki =>
   cases h2:T et with
   | none=>simp only[h1,h2] at h;cases h
   | some ei =>
    simp only[h1,h2] at h ⊢;cases hm:mapView σ (opd σ.env m) with
    | none=>simp only[hm] at h;cases h
    | some mm =>
     obtain⟨ks,vs⟩:=mm;simp only[hm] at h ⊢;obtain⟨c1,h⟩:=Tr.must_some h;obtain⟨c2,h⟩:=Tr.must_some h;rw[if_pos ⟨c1,c2⟩];rcases ask_some h with ⟨hb,h⟩ | ⟨hb,h⟩
     ·obtain⟨j,hj⟩:=Option.isSome_iff_exists.1 hb
      simp only[hj,Option.getD_some] at h ⊢;split at h
      ·rename_i hs
       simp only[Bool.and_eq_true,decide_eq_true_eq] at hs;obtain⟨d1,h⟩:=Tr.must_some h;obtain⟨d2,h⟩:=Tr.must_some h;obtain⟨d3,h⟩:=Tr.must_some h;simp only[decide_eq_true_eq,Bool.and_eq_true,beq_iff_eq] at d1 d2 d3;rw[canon_all hs.1 d2.1 d2.2 d3] at h;obtain⟨x,g1,g2⟩:=Tr.bind_some h;rw[Tr.run_ofO] at g1;injection g1 with g1;subst g1;rw[getD_some d1 .undef];simpa [Tr.run] using g2
      ·obtain⟨x,g1,g2⟩:=Tr.bind_some h
       rw[Tr.run_ofO] at g1;rw[g1];simpa [Tr.run] using g2
     ·have hn:findK (opd σ.env k) ks=none:=by simpa using hb
      simp only[hn];simpa [Tr.run] using h
theorem indexT_ok {i:TI} {x:Operand} {k:Int} {v:V} (h:(indexT T sh i σ x k).run=some v):indexAt T i σ x k=some v:=by
 unfold indexT at h;unfold indexAt;cases hk:i.kind<;>simp only[hk] at h ⊢<;>try (cases h;done)
 ·rename_i e
  cases he:T e<;>simp only[he] at h ⊢
  ·cases h
  rename_i ei;cases hx:opd σ.env x<;>simp only[hx] at h ⊢<;>try (cases h;done)
  ·rename_i n xs
   obtain⟨hs,h⟩:=if_fail h;obtain⟨h1,h⟩:=Tr.must_some h;obtain⟨h2,h⟩:=Tr.must_some h;obtain⟨h3,h⟩:=Tr.must_some h;simp only[decide_eq_true_eq,Bool.and_eq_true,beq_iff_eq] at h1 h2 h3;have hc:=canonP_eq _ 0 _ h3.2;rw[List.drop_zero,hs,←h3.1,List.take_length] at hc;rw[if_pos ⟨h1,h2,h3.1⟩,hc];simpa [Tr.run] using h
  ·cases ht:tmpOf x<;>simp only[ht] at h ⊢
   ·cases h
   obtain⟨hs,h⟩:=if_fail h;obtain⟨h1,h⟩:=Tr.must_some h;obtain⟨h2,h⟩:=Tr.must_some h;simp only[decide_eq_true_eq] at h1 h2;rw[if_pos ⟨h1,h2,hs⟩];simpa [Tr.run] using h
  ·rename_i p
   cases hl:look σ p<;>simp only[hl] at h ⊢<;>try (cases h;done)
   obtain⟨hs,h⟩:=if_fail h;obtain⟨h1,h⟩:=Tr.must_some h;obtain⟨h2,h⟩:=Tr.must_some h;simp only[decide_eq_true_eq] at h1 h2;rw[if_pos ⟨h1,h2,hs⟩];simpa [Tr.run] using h
  ·rename_i q id
   cases q<;>simp only at h ⊢<;>try (cases h;done)
   obtain⟨h1,h⟩:=Tr.must_some h;obtain⟨h2,h⟩:=Tr.must_some h;simp only[decide_eq_true_eq] at h1 h2;rw[if_pos ⟨h1,h2⟩];simpa [Tr.run] using h
 ·rename_i n e
  cases he:T e<;>simp only[he] at h ⊢
  ·cases h
  obtain⟨h1,h⟩:=Tr.must_some h;obtain⟨h2,h⟩:=Tr.must_some h;simp only[decide_eq_true_eq] at h1 h2;rw[if_pos ⟨h1,h2⟩];cases hx:opd σ.env x<;>simp only[hx] at h ⊢<;>first | (cases h;done) | simpa [Tr.run] using h
theorem ncells_of {H:Heap} {id:Nat} {cs:List V} (h:bcells H id=some cs) (hs:(!specB cs)=true):ncells H id=some cs:=by
 unfold ncells;rw[h];simp only;rw[if_neg (by simpa using hs)]
theorem canonP_plain:∀ (l:List TK) (off:Nat) (v:V),l.all simpleK=true→∀ d∈canonP l off v,notEx d=true∧∀ es,d≠.agg es
 | [],_,_,_,d,hd=>by cases hd
 | k::ks,off,v,h,d,hd=>by
  simp only[List.all_cons,Bool.and_eq_true] at h;simp only[canonP,List.mem_cons] at hd;rcases hd with rfl | hd
  ·cases k<;>first | exact⟨rfl,fun es he=>by cases he⟩ | (simp[simpleK] at h)
  ·exact canonP_plain ks (off+1) v h.2 d hd
theorem loadT_ok {arr:Bool} {t:Nat} {i:TI} {p:V} {v:V×List (Place×V)} (h:(loadT sh arr t i σ p).run=some v):loadAt i σ p=some v:=by
 unfold loadT at h;split at h
 ·rename_i id off
  split at h
  ·rename_i harr
   simp only[Bool.and_eq_true] at harr;have hs:=Nat.eq_of_beq_eq_true harr.2;unfold loadAt;cases hb:bcells σ.heap id<;>simp only[hb] at h
   ·cases h
   rename_i cs;obtain⟨h0,h⟩:=Tr.must_some h;have hn:ncells σ.heap id=some cs:=ncells_of hb h0;simp only[hn];obtain⟨h1,h⟩:=Tr.must_some h;rw[Tr.run_ofO] at h;have hc:=canonP_eq (sh t) off (.agg cs) h1;simp only[V.cells] at hc;rw[hs] at hc;rw[hc];have hne:=canonP_plain (sh t) off (.agg cs) (simple_of_plain harr.1.2);generalize canonP (sh t) off (.agg cs)=ds at h hne;unfold noPl at h;cases ha:asType i ds<;>rw[ha] at h
   ·cases h
   rename_i u;have hu:notEx u=true∧∀ es,u=.agg es→es.all notEx=true:=by
    unfold asType at ha;split at ha
    ·cases hk:i.kind.isAgg<;>rw[hk] at ha<;>simp only[Bool.false_eq_true,if_false,if_true] at ha
     ·have hm:=hne u (List.mem_of_getElem? ha)
      exact⟨hm.1,fun es he=>absurd he (hm.2 es)⟩
     ·injection ha with ha;subst ha
      refine⟨rfl,fun es he=>?_⟩
      injection he with he;subst he;exact List.all_eq_true.2 fun d hd=>(hne d hd).1
    ·cases ha
   cases u<;>first
    | (simp[notEx] at hu;done)
    | (simp only;rw[if_pos (hu.2 _ rfl)];simpa using h)
    | exact h
  ·rwa [Tr.run_ofO] at h
 ·rename_i q k off
  unfold loadAt;cases hl:look σ q<;>simp only[hl] at h ⊢<;>try (cases h;done)
  rename_i sz n xs;obtain⟨hs,h⟩:=if_fail h;obtain⟨h1,h⟩:=Tr.must_some h;obtain⟨h2,h⟩:=Tr.must_some h;simp only[decide_eq_true_eq] at h1;rw[getD_some h1 .undef];simp only;rw[←hs,canonP_eq _ _ _ h2]
  rwa [Tr.run_ofO] at h
 ·rwa [Tr.run_ofO] at h
theorem storeT_ok {arr:Bool} {i:TI} {p:V} {x:Operand} {e:Eff} (h:(storeT arr i σ p x).run=some e):storeAt i σ p x=some e:=by
 unfold storeT at h;split at h
 ·rename_i id off
  split at h
  ·split at h
   ·rename_i v ps cs h1 h2
    unfold storeAt;obtain⟨hs,h⟩:=if_fail h;obtain⟨h0,h⟩:=Tr.must_some h;simp only[h1,ncells_of h2 h0];obtain⟨h3,h⟩:=Tr.must_some h;simp only[decide_eq_true_eq] at h3;rw[if_pos ⟨hs.1,h3,hs.2⟩];simpa [Tr.run] using h
   ·cases h
  ·rwa [Tr.run_ofO] at h
 ·rename_i q k off
  unfold storeAt;simp only;split at h
  ·rename_i v ps sz n xs h1 h2
   simp only[h1,h2];obtain⟨hs,h⟩:=if_fail h;obtain⟨h3,h⟩:=Tr.must_some h;obtain⟨h4,h⟩:=Tr.must_some h;simp only[decide_eq_true_eq] at h3 h4;rw[getD_some h3 .undef];simp only;rw[if_pos ⟨hs.1,h4,hs.2⟩];simpa [Tr.run] using h
  ·cases h
 ·rwa [Tr.run_ofO] at h
theorem contentQ_ok {i:TI} {v:V} {r:Bool×List V} (h:(contentQ i σ v).run=some r):contentT i σ v=some r:=by
 unfold contentQ at h;unfold contentT;split at h
 ·rename_i n id
  cases hb:bcells σ.heap id<;>simp only[hb] at h
  ·cases h
  rename_i cs;obtain⟨h0,h⟩:=Tr.must_some h;simp only[ncells_of hb h0];obtain⟨h1,h⟩:=Tr.must_some h;obtain⟨h2,h⟩:=Tr.must_some h;obtain⟨h3,h⟩:=Tr.must_some h;simp only[decide_eq_true_eq] at h2;rw[if_pos ⟨h1,h2⟩];obtain⟨xs,hx⟩:=Option.isSome_iff_exists.1 h3;rw[hx] at h ⊢;simpa [Tr.run] using h
 ·rename_i hno
  rw[Tr.run_ofO] at h;split
  ·rename_i n id;exact absurd rfl (hno n id)
  ·exact h
theorem appendT_ok {c:Call} {e:Eff} (h:(appendT T σ c).run=some e):appendAt T σ c=some e:=by
 unfold appendT at h;unfold appendAt;split at h<;>try (cases h;done)
 rename_i s x t tx ha ht;simp only[ha,ht];split at h<;>try (cases h;done)
 rename_i el el' k1 k2;simp only[k1,k2];cases hel:T el<;>simp only[hel] at h ⊢
 ·cases h
 rename_i ei;cases hb:base ei.size σ s<;>simp only[hb] at h ⊢
 ·cases h
 obtain⟨hs,h⟩:=if_fail h;obtain⟨⟨_,ys⟩,hy,h⟩:=Tr.bind_some h;rw[contentQ_ok hy];simp only;obtain⟨h1,h⟩:=Tr.must_some h;obtain⟨h2,h⟩:=Tr.must_some h;obtain⟨h3,h⟩:=Tr.must_some h;simp only[decide_eq_true_eq] at h2;rw[if_pos ⟨h1,hs,h2,h3⟩];simpa [Tr.run] using h
theorem regroup_self:∀ xs:List V,regroup xs (xs.flatMap V.cells)=xs
 | []=>rfl
 | x::xs=>by
  rw[List.flatMap_cons];simp only[regroup];rw[List.take_left,List.drop_left,regroup_self xs]
  congr 1
  cases x<;>rfl
theorem lendT_ok (hS:Good call S) {f:FuncId} {k:Nat} {p:Place} {sz:Nat} {xs:List V} {rest:List Operand} {e:Eff} (h:(lendT S σ f k p sz xs rest).run=some e):lendAt call σ f k p sz xs rest=some e:=by
 unfold lendT at h;unfold lendAt;cases hv:views (setPlace σ p .undef) rest with
 | none=>simp only[hv] at h;cases h
 | some vp =>
  obtain⟨vs,ps⟩:=vp;simp only[hv] at h ⊢;obtain⟨hcl,h⟩:=if_fail h;rw[if_pos hcl];obtain⟨x,h1,h⟩:=Tr.bind_some h;rw[hS _ _ _ _ h1];obtain⟨hd,h⟩:=if_fail h;simp only;rw[if_pos hd];split at h
  ·rename_i cs hcs
   rw[hcs];simp only;cases hq:eqB cs (xs.flatMap V.cells) with
   | true =>
    rw[hq] at h;obtain⟨h2,h'⟩:=Tr.must_some h;clear h;have:=of_eqB hq;subst this
    unfold dataC at h2;rw[if_pos (by rw[h2];simp),regroup_self]
    exact h'
   | false =>
    rw[hq] at h;obtain⟨h2,h⟩:=Tr.must_some h;obtain⟨h3,h⟩:=Tr.must_some h;rw[if_pos (by rw[h2,h3];rfl)]
    simpa [Tr.run] using h
  ·cases h
theorem viewT_ok (hS:Good call S) {f:V} {args:List Operand} {e:Eff} {arr:Bool} (h:(viewT S arr σ f args).run=some e):(match views σ args with | some (vs,ps)=>callAt call σ f vs ps | none=>none)=some e:=by
 unfold viewT at h;split at h
 ·rename_i vs ps hv;simp only[hv];exact callT_ok hS h
 ·cases h
theorem lentT_ok (hS:Good call S) {f:V} {args:List Operand} {e:Eff} (h:(lentT S cx σ f args).run=some e) :
  (match lendOf cx σ f args with
   | some ⟨g,k,p,sz,x::xs,rest⟩=>lendAt call σ g k p sz (x::xs) rest
   | _=>match views σ args with
    | some (vs,ps)=>callAt call σ f vs ps
    | none=>none)=some e:=by
 unfold lentT at h;unfold lendOf;cases hf:lendFn cx f with
 | none=>simp only[hf] at h ⊢;exact viewT_ok hS h
 | some gk =>
  obtain⟨g,k⟩:=gk;simp only[hf] at h ⊢;cases hd:args.drop k with
  | nil=>simp only[hd] at h ⊢;exact viewT_ok hS h
  | cons x post =>
   simp only[hd] at h ⊢;cases hp:placeOf σ x with
   | none=>simp only[hp] at h ⊢;exact viewT_ok hS h
   | some p =>
    simp only[hp] at h ⊢;split at h
    ·rename_i sz n xs hl
     simp only[hl];rcases ask_some h with ⟨hb,h⟩ | ⟨hb,h⟩
     ·cases xs with
      | nil=>exact viewT_ok hS h
      | cons y ys=>cases hb
     ·cases xs with
      | nil=>cases hb
      | cons y ys=>exact lendT_ok hS h
    ·rename_i hl
     cases hq:look σ p<;>first
      | exact viewT_ok hS h
      | exact absurd hq (hl _ _ _)
theorem glanceT_ok (hS:Good call S) {f:FuncId} {args:List Operand} {e:Eff} (h:(glanceT S σ f args).run=some e):glanceAt call σ f args=some e:=by
 unfold glanceT at h;unfold glanceAt;split at h
 ·rename_i vs ks hv
  simp only[hv];obtain⟨x,h1,h⟩:=Tr.bind_some h;rw[hS _ _ _ _ h1];obtain⟨r,H1⟩:=x;cases H1 with
  | nil=>simpa [Tr.run] using h
  | cons _ _=>cases h
 ·cases h
theorem deleteT_ok {sz:Nat} {args:List Operand} {e:Eff} (h:(deleteT sz σ args).run=some e):deleteAt sz σ args=some e:=by
 unfold deleteT at h;unfold deleteAt;split at h<;>try (cases h;done)
 split at h<;>try (cases h;done)
 rename_i n xs ps i' j' k1 k2 k3;simp only[k1,k2,k3];obtain⟨h1,h⟩:=Tr.must_some h;obtain⟨h2,h⟩:=Tr.must_some h;obtain⟨h3,h⟩:=Tr.must_some h;obtain⟨h4,h⟩:=Tr.must_some h;simp only[decide_eq_true_eq] at h1 h2 h3 h4;rw[if_pos ⟨h1,h2,h3,h4⟩];simpa [Tr.run] using h
theorem sliceT_ok {t:Nat} {x:Operand} {lo hi mx:Option Operand} {e:Eff} (h:(sliceT T σ t x lo hi mx).run=some e):sliceAt T σ t x lo hi mx=some e:=by
 unfold sliceT at h;unfold sliceAt;split at h<;>try (cases h;done)
 rename_i el k1;simp only[k1];split at h<;>try (cases h;done)
 rename_i n xs k2;simp only[k2];split at h<;>try (cases h;done)
 rename_i ei l u k3 k4 k5;simp only[k3,k4,k5];obtain⟨h1,h⟩:=Tr.must_some h;obtain⟨h2,h⟩:=Tr.must_some h;obtain⟨h3,h⟩:=Tr.must_some h;obtain⟨h4,h⟩:=Tr.must_some h;simp only[decide_eq_true_eq] at h1 h2 h3;rw[if_pos ⟨h1,h2,h3,h4⟩];cases mx with
 | none=>simpa [Tr.run] using h
 | some m =>
  obtain⟨h5,h⟩:=Tr.must_some h;simp only[decide_eq_true_eq] at h5;simp only;rw[if_pos h5];simpa [Tr.run] using h
theorem makeT_ok {t:Nat} {l c:Operand} {e:Eff} (ho:o.op=.makeSlice t l c) (h:(makeT T t σ l c).run=some e):eff T call cx fr o σ=some e:=by
 unfold makeT at h;simp only[eff,ho];split at h<;>try (cases h;done)
 rename_i el k l' k' c' k1 k2 k3;simp only[k1,k2,k3];cases hel:T el<;>simp only[hel] at h ⊢
 ·cases h
 obtain⟨hs,h⟩:=if_fail h;obtain⟨h1,h⟩:=Tr.must_some h;obtain⟨h2,h⟩:=Tr.must_some h;obtain⟨h3,h⟩:=Tr.must_some h;obtain⟨h4,h⟩:=Tr.must_some h;simp only[decide_eq_true_eq] at h1 h2 h4;rw[if_pos ⟨h1,h2,h3,by omega,hs⟩]
 simpa [Tr.run] using h
theorem binT_ok {op:BinOp} {i:TI} {one:Bool} {x y v:V} (h:(binT op i one σ x y).run=some v):vbinop op i one σ x y=some v:=by
 unfold binT at h;split at h
 ·rename_i k a k' b hk
  obtain⟨hs,h⟩:=if_fail h;obtain⟨h1,h⟩:=Tr.must_some h;simp only[Bool.not_eq_true',decide_eq_false_iff_not] at h1;simp only[vbinop,hk,vbin,if_pos hs,if_neg h1];simpa [Tr.run] using h
 ·rename_i k a k' b hk
  obtain⟨hs,h⟩:=if_fail h;obtain⟨h1,h⟩:=Tr.must_some h;simp only[Bool.not_eq_true',decide_eq_false_iff_not] at h1;simp only[vbinop,hk,vbin,if_pos hs,if_neg h1];simpa [Tr.run] using h
 ·rename_i k a k' b hk
  obtain⟨h1,h⟩:=Tr.must_some h;simp only[Bool.not_eq_true',decide_eq_false_iff_not] at h1;simp only[vbinop,hk,vbin,if_neg h1];simpa [Tr.run] using h
 ·rename_i k a k' b hk
  obtain⟨h1,h⟩:=Tr.must_some h;simp only[Bool.not_eq_true',decide_eq_false_iff_not] at h1;simp only[vbinop,hk,vbin,if_neg h1];simpa [Tr.run] using h
 ·rwa [Tr.run_ofO] at h
theorem ret_some {α:Type} {a r:α} (h:(Tr.ret a).run=some r):a=r:=by simpa [Tr.run] using h
theorem effT_ok (hS:Good call S) {e:Eff} {l:List Operand} (h:(effT T sh S cx fr o σ).run=some (e,l)):eff T call cx fr o σ=some e∧rd σ.env o=l:=by
 have dflt:rd σ.env o=o.op.operands.toList→((Tr.ofO (eff T (fun _ _ _=>none) cx fr o σ)).bind fun e=>Tr.ret (e,o.op.operands.toList)).run=some (e,l)→eff T call cx fr o σ=some e∧rd σ.env o=l:=by
  intro hr h;obtain⟨e',h1,h2⟩:=Tr.bind_some h;rw[Tr.run_ofO] at h1;have h2:=ret_some h2;injection h2 with e1 e2;subst e1;subst e2;exact⟨eff_none h1,hr⟩
 cases ho:o.op<;>simp only[effT,ho] at h
 case pick c a b =>
  cases hc:opd σ.env c<;>simp only[hc] at h<;>try (cases h;done)
  rename_i t;simp only[eff,rd,ho,hc];cases t
  ·simp only[Tr.run,Bool.false_eq_true,if_false] at h ⊢
   cases ha:opd σ.env b<;>simp only[ha] at h ⊢<;>first | (cases h;done) | (have h:=ret_some h;injection h with e1 e2;subst e1;subst e2;exact⟨rfl,rfl⟩)
  ·simp only[Tr.run,if_true] at h ⊢
   cases ha:opd σ.env a<;>simp only[ha] at h ⊢<;>first | (cases h;done) | (have h:=ret_some h;injection h with e1 e2;subst e1;subst e2;exact⟨rfl,rfl⟩)
 case load t p =>
  cases hT:T t<;>simp only[hT] at h
  ·cases h
  obtain⟨v,h1,h2⟩:=Tr.bind_some h;have h2:=ret_some h2;injection h2 with e1 e2;subst e1;subst e2;simp only[eff,rd,ho,hT];exact⟨by rw[loadT_ok h1];rfl,trivial⟩
 case store t p x =>
  cases hT:T t<;>simp only[hT] at h
  ·cases h
  obtain⟨e',h1,h2⟩:=Tr.bind_some h;simp only[eff,rd,ho,hT];rw[storeT_ok h1];simp only;cases hm:e'.mem<;>simp only[hm] at h2 ⊢
  case set id off cs =>
   obtain⟨h3,h2⟩:=if_fail h2;have h2:=ret_some h2;injection h2 with e1 e2;subst e1;subst e2;exact⟨by rw[if_pos h3],rfl⟩
  all_goals
   have h2:=ret_some h2;injection h2 with e1 e2;subst e1;subst e2;exact⟨rfl,rfl⟩
 case binOp op t x y g =>
  cases hT:T t<;>simp only[hT] at h
  ·cases h
  obtain⟨v,h1,h2⟩:=Tr.bind_some h;have h2:=ret_some h2;injection h2 with e1 e2;subst e1;subst e2;simp only[eff,rd,ho,hT];exact⟨by rw[binT_ok h1];rfl,trivial⟩
 case slice t x lo hi mx =>
  obtain⟨v,h1,h2⟩:=Tr.bind_some h;have h2:=ret_some h2;injection h2 with e1 e2;subst e1;subst e2;simp only[eff,rd,ho];exact⟨sliceT_ok h1,trivial⟩
 case indexAddr t x k =>
  split at h<;>try (cases h;done)
  rename_i i kk k' hT hk;obtain⟨v,h1,h2⟩:=Tr.bind_some h;have h2:=ret_some h2;injection h2 with e1 e2;subst e1;subst e2;simp only[eff,rd,ho,hT,hk];exact⟨by rw[indexT_ok h1];rfl,trivial⟩
 case makeSlice t l c =>
  obtain⟨v,h1,h2⟩:=Tr.bind_some h;have h2:=ret_some h2;injection h2 with e1 e2;subst e1;subst e2;exact⟨makeT_ok ho h1,by simp only[rd,ho]⟩
 case insert t m k x =>
  obtain⟨v,h1,h2⟩:=Tr.bind_some h;have h2:=ret_some h2;injection h2 with e1 e2;subst e1;subst e2;refine⟨?_,by simp only[rd,ho]⟩
  simp only[eff,ho];exact updateT_ok h1
 case mapUpdate t m k x =>
  obtain⟨v,h1,h2⟩:=Tr.bind_some h;have h2:=ret_some h2;injection h2 with e1 e2;subst e1;subst e2;refine⟨?_,by simp only[rd,ho]⟩
  simp only[eff,ho];exact updateT_ok h1
 case lookup t m k ok =>
  obtain⟨v,h1,h2⟩:=Tr.bind_some h;have h2:=ret_some h2;injection h2 with e1 e2;subst e1;subst e2;refine⟨?_,by simp only[rd,ho]⟩
  simp only[eff,ho,lookupT_ok h1,Option.map_some]
 case call c =>
  have hrd:rd σ.env o=o.op.operands.toList:=by simp only[rd,ho]
  cases hcal:c.callee with
  | value f =>
   simp only[hcal] at h;cases ht:toldOf cx (opd σ.env f) with
   | some sz =>
    simp only[ht] at h;obtain⟨v,h1,h2⟩:=Tr.bind_some h;have h2:=ret_some h2;injection h2 with e1 e2;subst e1;subst e2;refine⟨?_,by simp only[rd,ho]⟩
    simp only[eff,ho,hcal,ht];exact deleteT_ok h1
   | none =>
   simp only[ht] at h;cases hg:glanceOf cx (opd σ.env f) with
   | some g =>
    simp only[hg] at h;obtain⟨v,h1,h2⟩:=Tr.bind_some h;have h2:=ret_some h2;injection h2 with e1 e2;subst e1;subst e2;refine⟨?_,by simp only[rd,ho]⟩
    simp only[eff,ho,hcal,ht,hg];exact glanceT_ok hS h1
   | none =>
   simp only[hg] at h;obtain⟨v,h1,h2⟩:=Tr.bind_some h;have h2:=ret_some h2;injection h2 with e1 e2;subst e1;subst e2;refine⟨?_,by simp only[rd,ho]⟩
   simp only[eff,ho,hcal,ht,hg];have:=lentT_ok hS h1
   split at this
   ·rename_i hl;simp only[hl];exact this
   ·rename_i hl
    split
    ·rename_i q;cases q
    ·rename_i g k p sz x xs rest _ hl';exact absurd hl' (hl g k p sz x xs rest)
    ·exact this
  | builtin b =>
   simp only[hcal] at h;cases b
   case append =>
    obtain⟨v,h1,h2⟩:=Tr.bind_some h;have h2:=ret_some h2;injection h2 with e1 e2;subst e1;subst e2;refine⟨?_,by simp only[rd,ho]⟩
    simp only[eff,ho,hcal,builtinAt];exact appendT_ok h1
   all_goals exact dflt hrd (by rw[ho];exact h)
  | invoke x m =>
   simp only[hcal] at h;exact dflt hrd (by rw[ho];exact h)
 all_goals exact dflt (by simp only[rd,ho]) (by rw[ho];exact h)
theorem effG1_ok (hS:Good call S) {e:Eff} {l:List Operand} (h:(effG1 T sh S cx fr o σ).run=some (e,l)):eff T call cx fr o σ=some e∧rd σ.env o=l∧(match o.dst with | some d=>e.val.refsTo (.slot d) | none=>false)=false:=by
 unfold effG1 at h;obtain⟨⟨e',l'⟩,h1,h2⟩:=Tr.bind_some h;cases hd:o.dst with
 | none =>
  simp only[hd,Bool.false_eq_true,if_false] at h2;have h2:=ret_some h2;injection h2 with e1 e2;subst e1;subst e2;obtain⟨q1,q2⟩:=effT_ok hS h1;exact⟨q1,q2,rfl⟩
 | some d =>
  simp only[hd] at h2;cases hr:e'.val.refsTo (.slot d)<;>simp only[hr,Bool.false_eq_true,if_false,if_true] at h2
  ·have h2:=ret_some h2
   injection h2 with e1 e2;subst e1;subst e2;obtain⟨q1,q2⟩:=effT_ok hS h1;exact⟨q1,q2,hr⟩
  ·cases h2
theorem effGT_ok (hS:Good call S) {e:Eff} {l:List Operand} (h:(effGT T sh S cx ops fr o σ).run=some (e,l)):effG T call cx ops fr o σ=some e∧rdG ops σ.env o=l:=by
 have run:wants ops σ.env o=some true→(effG1 T sh S cx fr o σ).run=some (e,l)→effG T call cx ops fr o σ=some e∧rdG ops σ.env o=l:=by
  intro hw h;obtain⟨h1,h2,h3⟩:=effG1_ok hS h;unfold effG rdG;simp only[hw,h1,h2,and_true];cases hd:o.dst with
  | none=>simp
  | some d=>simp only[hd] at h3;simp[h3]
 have skip:wants ops σ.env o=some false→(Tr.ret (({val:=.tup []}:Eff),([]:List Operand))).run=some (e,l)→effG T call cx ops fr o σ=some e∧rdG ops σ.env o=l:=by
  intro hw h;have h:=ret_some h;injection h with e1 e2;subst e1;subst e2;unfold effG rdG;simp only[hw,and_self]
 unfold effGT at h;cases hg:o.guard with
 | none=>simp only[hg] at h;exact run (by simp[wants,hg]) h
 | some jw =>
  obtain⟨j,want⟩:=jw;simp only[hg] at h;cases ht:(ops[j]?).bind (·.dst) with
  | none=>simp only[ht] at h;cases h
  | some t =>
   simp only[ht] at h;cases hv:get σ.env t<;>simp only[hv] at h<;>try (cases h;done)
   case tup us =>
    cases us with
    | nil=>exact skip (by simp[wants,hg,ht,hv]) h
    | cons u us=>cases h
   rename_i b;have hw:wants ops σ.env o=some (b==want):=by simp[wants,hg,ht,hv]
   cases want<;>cases b<;>simp only[Tr.run] at h
   ·exact run hw h
   ·exact skip hw h
   ·exact skip hw h
   ·exact run hw h
theorem vopsT_ok (hS:Good call S):∀ (l:List Oper) (fr:Nat) (σ τ:St),(vopsT T sh S cx ops fr l σ).run=some τ→vops T call cx ops fr l σ=some τ
 | [],fr,σ,τ,h=>by simpa [vopsT,vops,Tr.run] using h
 | o::l,fr,σ,τ,h=>by
  simp only[vopsT] at h;obtain⟨⟨e,rl⟩,h1,h2⟩:=Tr.bind_some h;simp only[vops,vop,(effGT_ok hS h1).1,Option.map_some,Option.bind_some];exact vopsT_ok hS l _ _ _ h2
theorem drawT_ok (hS:Good call S):∀ (l:List Oper) (fr:Nat) (σ:St) (r:St×List (List Res×List Res)),(drawRunT T sh S cx ops fr l σ).run=some r→drawRun T call cx ops fr l σ=some r
 | [],fr,σ,r,h=>by simpa [drawRunT,drawRun,Tr.run] using h
 | o::l,fr,σ,r,h=>by
  simp only[drawRunT] at h;obtain⟨⟨e,rl⟩,h1,h2⟩:=Tr.bind_some h;obtain⟨g1,g2⟩:=effGT_ok hS h1;have hrd:readsL ops fr o σ.env e rl=reads ops fr o σ.env e:=by unfold readsL reads;rw[g2];rfl
  simp only[drawRun,g1];simp only[hrd] at h2;rw[g2];by_cases hb:(tameB e&&calm o e&&rl.all (seen σ)&&(refRes e.val).all (fun r=>(reads ops fr o σ.env e).contains r))=true
  ·rw[if_pos hb] at h2 ⊢
   obtain⟨y,h3,h4⟩:=Tr.bind_some h2;rw[drawT_ok hS l _ _ _ h3];have h4:=ret_some h4;simp[←h4]
  ·rw[if_neg hb] at h2 ⊢
   obtain⟨hw,h2⟩:=if_fail h2;rw[if_pos hw];obtain⟨y,h3,h4⟩:=Tr.bind_some h2;rw[drawT_ok hS l _ _ _ h3];have h4:=ret_some h4;simp[←h4]
theorem regionT_ok (hS:Good call S) {id:Nat} {draw:Bool} {τ:St} (h:(regionT T sh S cx id ops draw σ).run=some τ):vregion T call cx id ops draw σ=some τ:=by
 unfold regionT at h;unfold vregion;cases draw with
 | false =>
  simp only at h ⊢;obtain⟨x,h1,h2⟩:=Tr.bind_some h;rw[vopsT_ok hS _ _ _ _ h1];have h2:=ret_some h2;simp[h2]
 | true =>
  simp only at h ⊢;obtain⟨x,h1,h2⟩:=Tr.bind_some h;rw[drawT_ok hS _ _ _ _ h1];obtain⟨h3,h2⟩:=if_fail h2;have h2:=ret_some h2;simp only[if_pos h3,h2]
def vstep (T:Types) (call:CallF) (lp:Step→Step) (cx:Cx) (n:Nat) (b:Code):Step:=fun τ=>match vcode T call lp cx b τ with
 | some (.normal,τ')=>some (.normal,back n (prune (cx.head (firstRegion b)) τ'))
 | r=>r
def LGood (T:Types) (call:CallF) (lp:Step→Step) (cx:Cx) (L:LSpec) (c:Code):Prop:=∀ b∈loopsOf c,∀ σ r,(L (firstRegion b) σ).run=some r→lp (vstep T call lp cx σ.heap.length b) σ=some r
theorem prune_heap (k:Option (List Nat)) (σ:St):(prune k σ).heap=σ.heap:=by cases k<;>rfl
theorem codeT_ok {lp:Step→Step} (hS:Good call S):∀ (c:Code) (σ:St) (r:Ex×St),LGood T call lp cx L c→(codeT T sh S L cx c σ).run=some r→vcode T call lp cx c σ=some r
 | .skip,σ,r,hL,h=>by simpa [codeT,vcode,Tr.run] using h
 | .region id ops draw,σ,r,hL,h=>by
  simp only[codeT] at h;obtain⟨x,h1,h2⟩:=Tr.bind_some h;simp only[vcode,regionT_ok hS h1];simpa [Tr.run] using h2
 | .seq a b,σ,r,hL,h=>by
  simp only[codeT] at h;obtain⟨⟨ex,σ1⟩,h1,h2⟩:=Tr.bind_some h;have ha:=codeT_ok hS a σ _ (fun b hb=>hL b (by simp[loopsOf,hb])) h1
  simp only[vcode,ha];cases ex with
  | normal=>exact codeT_ok hS b _ _ (fun b hb=>hL b (by simp[loopsOf,hb])) h2
  | exit i=>simpa [Tr.run] using h2
  | ret=>simpa [Tr.run] using h2
 | .cond c a b,σ,r,hL,h=>by
  simp only[codeT] at h;simp only[vcode];cases hv:opd σ.env c<;>simp only[hv] at h ⊢<;>try (cases h;done)
  rename_i t;cases t
  ·simp only[Tr.run,Bool.false_eq_true,if_false] at h ⊢
   exact codeT_ok hS b σ r (fun b hb=>hL b (by simp[loopsOf,hb])) h
  ·simp only[Tr.run,if_true] at h ⊢
   exact codeT_ok hS a σ r (fun b hb=>hL b (by simp[loopsOf,hb])) h
 | .block id b,σ,r,hL,h=>by
  simp only[codeT] at h;obtain⟨⟨ex,σ1⟩,h1,h2⟩:=Tr.bind_some h;have ha:=codeT_ok hS b σ _ (fun b hb=>hL b (by simp[loopsOf,hb])) h1
  simp only[vcode,ha];cases ex with
  | normal=>simpa [Tr.run] using h2
  | exit i =>
   simp only at h2 ⊢;split at h2<;>rename_i hi
   ·rw[if_pos hi];simpa [Tr.run] using h2
   ·rw[if_neg hi];simpa [Tr.run] using h2
  | ret=>simpa [Tr.run] using h2
 | .exit id,σ,r,hL,h=>by simpa [codeT,vcode,Tr.run] using h
 | .ret,σ,r,hL,h=>by simpa [codeT,vcode,Tr.run] using h
 | .loop b,σ,r,hL,h=>by
  simp only[codeT] at h;have:=hL b (by simp[loopsOf]) _ _ h
  rw[prune_heap] at this;exact this
 | .rangeFunc g ps asg body,σ,r,hL,h=>by
  simp only[codeT] at h;simp only[vcode];split at h
  ·rename_i f first captured hr hg
   obtain⟨hcl,h⟩:=if_fail h;obtain⟨x,h1,h2⟩:=Tr.bind_some h;rw[Tr.run_ofO] at h2;simp only[hr,hg];rw[if_pos hcl,hS _ _ _ _ h1];exact h2
  ·cases h
 | .scope x,σ,r,hL,h=>by
  simp only[codeT] at h;simp only[vcode];exact codeT_ok hS x σ r (fun b hb=>hL b (by simpa [loopsOf] using hb)) h
 | .label _,σ,r,hL,h=>by simpa [codeT,vcode,Tr.run] using h
 | .goto _,σ,r,hL,h=>by cases h
 | .refuse _,σ,r,hL,h=>by cases h
theorem roundT_ok {lp:Step→Step} (hS:Good call S) {n:Nat} {b:Code} {τ:St} {r:Ex×St} (hL:LGood T call lp cx L b) (h:(roundT T sh S L cx n b τ).run=some r):vstep T call lp cx n b τ=some r:=by
 unfold roundT at h;obtain⟨⟨ex,σ1⟩,h1,h2⟩:=Tr.bind_some h;unfold vstep;rw[codeT_ok hS b τ _ hL h1];cases ex<;>simpa [Tr.run] using h2
theorem LRuns.step {step:Step} {σ τ:St} {r:Ex×St} (h:step σ=some (.normal,τ)) (g:LRuns step τ r):LRuns step σ r:=by
 obtain⟨n,hn⟩:=g;exact⟨n+1,by simp only[rounds,h];exact hn⟩
theorem LRuns.stop {step:Step} {σ τ:St} {ex:Ex} (h:step σ=some (ex,τ)) (hx:ex≠.normal):LRuns step σ (ex,τ) :=
 ⟨1,by cases ex<;>simp_all [rounds]⟩
theorem unrollT_ok {lp:Step→Step} (hS:Good call S) {n:Nat} {b:Code} (hL:LGood T call lp cx L b):∀ (m:Nat) (τ:St) (r:Ex×St),(unrollT T sh S L cx b n m τ).run=some r→LRuns (vstep T call lp cx n b) τ r
 | 0,τ,r,h=>by cases h
 | m+1,τ,r,h=>by
  simp only[unrollT] at h;obtain⟨⟨ex,σ1⟩,h1,h2⟩:=Tr.bind_some h;have h3:=roundT_ok hS hL h1;cases ex with
  | normal=>exact LRuns.step h3 (unrollT_ok hS hL m _ _ h2)
  | exit i =>
   have h2:=ret_some h2;subst h2;exact LRuns.stop h3 (by simp)
  | ret =>
   have h2:=ret_some h2;subst h2;exact LRuns.stop h3 (by simp)
theorem funT_ok {F:Fns} {f:FuncId} {fi:FI} {a:List V} {H:Heap} {r:V×Heap} (hS:Good (vlim T F) S) (hf:F f=some fi) (hL:LGood T (vlim T F) lplim fi.cx L fi.body)
  (h:(funT T sh S L fi a H).run=some r):Runs T F f a H r:=by
 refine runs_of_lim ?_;unfold funT at h;obtain⟨⟨ex,σ1⟩,h1,h2⟩:=Tr.bind_some h;unfold vfun;simp only[hf];rw[codeT_ok hS fi.body _ _ hL h1];cases ex with
 | normal=>rwa [Tr.run_ofO] at h2
 | ret=>rwa [Tr.run_ofO] at h2
 | exit i=>cases h2
theorem yldT_ok {F:Fns} (hF:∀ id,F (yB+id)=none) {id:Nat} {a:List V} {H:Heap} {r:V×Heap} (hS:Good (vlim T F) S) (hL:∀ cx c,LGood T (vlim T F) lplim cx L c)
  (h:(yldT T sh S L F id a H).run=some r):Runs T F (yB+id) a H r:=by
 refine runs_of_any ?_;unfold vany;rw[hF];simp only;rw[if_pos (by rw[Nat.ble_eq];exact Nat.le_add_right _ _),Nat.add_sub_cancel_left]
 unfold yldT at h;unfold vround;split at h
 ·rename_i ts vs ps asg body cx hb
  split at h
  ·rename_i fi hfi
   obtain⟨hc,h⟩:=if_fail h;simp only[hb,hfi];rw[if_pos hc];obtain⟨⟨ex,σ1⟩,h1,h⟩:=Tr.bind_some h;rw[codeT_ok hS asg _ _ (hL _ _) h1];cases ex with
   | normal =>
    simp only at h ⊢;split at h
    ·rename_i ts1 vs1 ps1 asg1 body1 cx1 hb1
     obtain⟨⟨ex,σ2⟩,h2,h⟩:=Tr.bind_some h;simp only[hb1];rw[codeT_ok hS body _ _ (hL _ _) h2];simp only at h ⊢;split at h
     ·rename_i hb2
      simp only[hb2];cases ex<;>simpa [Tr.run] using h
     ·cases h
    ·cases h
   | exit i=>cases h
   | ret=>cases h
  ·cases h
 ·cases h
def noSpec:Spec:=fun _ _ _=>.fail
theorem Good.no:Good call noSpec:=fun _ _ _ _ h=>by cases h
def dataX:V→Bool
 | .ptr _ _ | .ref _ _ | .clo _ _ _ | .mp _ _ | .lp _ _ _ _ _ _ _=>false
 | _=>true
def dataB (cs:List V):Bool:=cs.all dataX
theorem dataB_map {cs:List V} (h:dataB cs=true) (g:Nat→Nat):cs.map (mapX g)=cs:=by
 induction cs with
 | nil=>rfl
 | cons c cs ih =>
  simp only[dataB,List.all_cons,Bool.and_eq_true] at h ih;rw[List.map_cons,ih h.2]
  congr 1
  cases c<;>first | rfl | (simp[dataX] at h)
def renT (g:Nat→Nat) (b:B):Tr B:=match b with
 | .dead=>.ret .dead
 | .cells cs=>.ask (dataB cs) (.ret (.cells cs)) (.ret (.cells (cs.map (mapX g))))
theorem renT_run {g:Nat→Nat} {b b':B} (h:(renT g b).run=some b'):b'=mapB g b:=by
 cases b with
 | dead=>exact (ret_some h).symm
 | cells cs =>
  unfold renT at h;simp only at h;cases hd:dataB cs with
  | true =>
   rw[hd] at h;have:=ret_some (show (Tr.ret (B.cells cs)).run=some b' from h);subst this
   simp only[mapB,dataB_map hd]
  | false =>
   rw[hd] at h;exact (ret_some (show (Tr.ret (B.cells (cs.map (mapX g)))).run=some b' from h)).symm
def mapsT {α:Type} (f:α→Tr B):List α→Tr Heap
 | []=>.ret []
 | a::l=>(f a).bind fun b=>(mapsT f l).bind fun t=>.ret (b::t)
theorem mapsT_run {α:Type} {f:α→Tr B} {h:α→B} (hf:∀ a b,(f a).run=some b→b=h a):∀ {l:List α} {r:Heap},(mapsT f l).run=some r→r=l.map h
 | [],r,hr=>(ret_some hr).symm
 | a::l,r,hr=>by
  obtain⟨b,h1,h2⟩:=Tr.bind_some hr;obtain⟨t,h3,h4⟩:=Tr.bind_some h2;have:=ret_some h4;subst this
  rw[hf a b h1,mapsT_run hf h3];rfl
noncomputable def sqT (g:List V→Heap→Tr (V×Heap)):List V→Heap→Tr (V×Heap):=fun a H=>match Nat.beq (liveB H).length H.length with
 | true=>g a H
 | false=>(mapsT (fun i=>renT (downG (liveB H)) (H.getD i .dead)) (liveB H)).bind fun H0=>(g (a.map (map1 (downG (liveB H)))) H0).bind fun x =>
   (mapsT (fun i=>match (liveB H).contains i with | true=>renT (upG (liveB H) H.length) (x.2.getD (downG (liveB H) i) .dead) | false=>.ret .dead) (List.range H.length)).bind fun H1 =>
   (mapsT (renT (upG (liveB H) H.length)) (x.2.drop (liveB H).length)).bind fun H2=>.ret (mapT (upG (liveB H) H.length) x.1,H1++H2)
theorem sqT_out {g:List V→Heap→Tr (V×Heap)} {a:List V} {H:Heap} {r:V×Heap} (hb:Nat.beq (liveB H).length H.length=false) (h:(sqT g a H).run=some r) :
  ∃ x,(g (a.map (map1 (downG (liveB H)))) (packH (liveB H) H)).run=some x∧r=(mapT (upG (liveB H) H.length) x.1,openH (liveB H) H.length x.2):=by
 unfold sqT at h;rw[hb] at h;simp only at h;obtain⟨H0,h0,h⟩:=Tr.bind_some h;obtain⟨x,h1,h⟩:=Tr.bind_some h;obtain⟨H1,h2,h⟩:=Tr.bind_some h;obtain⟨H2,h3,h⟩:=Tr.bind_some h;have:=ret_some h;subst this
 have e0:H0=packH (liveB H) H:=mapsT_run (fun i b hb=>renT_run hb) h0
 have e1:=mapsT_run (h:=fun i=>match (liveB H).contains i with | true=>mapB (upG (liveB H) H.length) (x.2.getD (downG (liveB H) i) .dead) | false=>.dead) (fun i b hb=>by
  cases hc:(liveB H).contains i<;>rw[hc] at hb
  ·exact (ret_some hb).symm
  ·exact renT_run hb) h2
 have e2:=mapsT_run (fun b b' hb=>renT_run hb) h3
 exact⟨x,by rw[←e0];exact h1,by rw[e1,e2];rfl⟩
theorem sqT_ok {c:CallF} {f f':FuncId} {g:List V→Heap→Tr (V×Heap)} (h0:∀ a H r,(g a H).run=some r→c f a H=some r) (h1:∀ a H r,(g a H).run=some r→c f' a H=some r) {a:List V} {H:Heap} {r:V×Heap} (hq:∀ _:Nat.beq (liveB H).length H.length=false,sqF (liveB H) f=some f')
  (h:(sqT g a H).run=some r):sq c f a H=some r:=by
 cases hb:Nat.beq (liveB H).length H.length with
 | true =>
  unfold sqT at h;unfold sq;rw[hb] at h ⊢;exact h0 _ _ _ h
 | false =>
  obtain⟨x,h2,h3⟩:=sqT_out hb h;subst h3;unfold sq;rw[hb];simp only;rw[hq hb];simp only;rw[h1 _ _ _ h2]
noncomputable def Spec.add (S:Spec) (f:FuncId) (g:List V→Heap→Tr (V×Heap)):Spec:=fun f' a H=>match Nat.beq f' f with
 | true=>sqT g a H
 | false=>S f' a H
theorem Good.add {F:Fns} (hS:Good (vlim T F) S) {f:FuncId} {g:List V→Heap→Tr (V×Heap)} (h:∀ a H r,(g a H).run=some r→Runs T F f a H r) (hf:Nat.blt f yB=true:=by decide):Good (vlim T F) (S.add f g):=by
 intro f' a H r hr;unfold Spec.add at hr;cases hb:Nat.beq f' f<;>simp only[hb] at hr
 ·exact hS _ _ _ _ hr
 ·have:=Nat.eq_of_beq_eq_true hb;subst this
  have h0:∀ a H r,(g a H).run=some r→vlim0 T F f' a H=some r:=fun a H r hr=>vlim_iff.2 (h _ _ _ hr)
  exact sqT_ok h0 h0 (fun _=>by unfold sqF;rw[hf]) hr
noncomputable def Spec.yields (S:Spec) (g:Nat→List V→Heap→Tr (V×Heap)):Spec:=fun f a H=>match Nat.ble yB f with
 | true=>match Nat.beq (liveB H).length H.length with
  | true=>g (f-yB) a H
  | false=>match (liveB H).contains (f-yB) with
   | true=>sqT (g (downG (liveB H) (f-yB))) a H
   | false=>.fail
 | false=>S f a H
def noLoop:LSpec:=fun _ _=>.fail
theorem LGood.no {lp:Step→Step} {c:Code}:LGood T call lp cx noLoop c:=fun _ _ _ _ h=>by cases h
theorem Good.yields {F:Fns} (hS:Good (vlim T F) S) (hF:∀ id,F (yB+id)=none):Good (vlim T F) (S.yields (yldT T sh S noLoop F)):=by
 intro f a H r hr;unfold Spec.yields at hr;cases hb:Nat.ble yB f<;>simp only[hb] at hr
 ·exact hS _ _ _ _ hr
 ·rw[Nat.ble_eq] at hb
  have e:yB+(f-yB)=f:=Nat.add_sub_cancel' hb;have hy:∀ id a H r,(yldT T sh S noLoop F id a H).run=some r→vlim0 T F (yB+id) a H=some r:=fun id a H r h=>vlim_iff.2 (yldT_ok hF hS (fun _ _=>LGood.no) h)
  unfold vlim;cases hl:Nat.beq (liveB H).length H.length with
  | true =>
   rw[hl] at hr;unfold sq;rw[hl];have:=hy _ _ _ _ hr
   rwa [e] at this
  | false =>
   rw[hl] at hr;simp only at hr;cases hc:(liveB H).contains (f-yB) with
   | false=>rw[hc] at hr;cases hr
   | true =>
    rw[hc] at hr;simp only at hr;obtain⟨x,h2,h3⟩:=sqT_out hl hr;subst h3;unfold sq sqF;rw[hl,show Nat.blt f yB=false by cases hq:Nat.blt f yB;rfl;rw[Nat.blt_eq] at hq;omega,hc]
    simp only;rw[hy _ _ _ _ h2]
theorem LGood.none {lp:Step→Step} {c:Code} (h:loopsOf c=[]):LGood T call lp cx L c:=fun b hb=>by rw[h] at hb;cases hb
theorem LGood.of_list {lp:Step→Step} {c:Code} {l:List Code} (h:loopsOf c=l) (hl:∀ b∈l,∀ σ r,(L (firstRegion b) σ).run=some r→lp (vstep T call lp cx σ.heap.length b) σ=some r):LGood T call lp cx L c:=fun b hb=>hl b (h▸hb)
noncomputable def unrolled (T:Types) (sh:Nat→List TK) (S:Spec) (cx:Cx) (m:Nat) (l:List Code):Nat→LSpec
 | 0=>fun _ _=>.fail
 | d+1=>fun id σ=>match l.find? (fun b=>Nat.beq (firstRegion b) id) with
  | some b=>unrollT T sh S (unrolled T sh S cx m l d) cx b σ.heap.length m σ
  | none=>.fail
theorem loopsOf_sub:∀ (c:Code) {b:Code},b∈loopsOf c→∀ x∈loopsOf b,x∈loopsOf c
 | .seq p q,b,hb,x,hx=>by
  simp only[loopsOf,List.mem_append] at hb ⊢;rcases hb with hb | hb
  ·exact .inl (loopsOf_sub p hb x hx)
  ·exact .inr (loopsOf_sub q hb x hx)
 | .cond _ p q,b,hb,x,hx=>by
  simp only[loopsOf,List.mem_append] at hb ⊢;rcases hb with hb | hb
  ·exact .inl (loopsOf_sub p hb x hx)
  ·exact .inr (loopsOf_sub q hb x hx)
 | .block _ p,b,hb,x,hx=>loopsOf_sub p (by simpa [loopsOf] using hb) x hx
 | .loop p,b,hb,x,hx=>by
  simp only[loopsOf,List.mem_cons] at hb ⊢;rcases hb with rfl | hb
  ·exact .inr hx
  ·exact .inr (loopsOf_sub p hb x hx)
 | .skip,b,hb,x,hx=>by simp[loopsOf] at hb
 | .region _ _ _,b,hb,x,hx=>by simp[loopsOf] at hb
 | .exit _,b,hb,x,hx=>by simp[loopsOf] at hb
 | .ret,b,hb,x,hx=>by simp[loopsOf] at hb
 | .rangeFunc _ _ _ _,b,hb,x,hx=>by simp[loopsOf] at hb
 | .scope p,b,hb,x,hx=>by
  simp only[loopsOf] at hb ⊢;exact loopsOf_sub p hb x hx
 | .label _,b,hb,x,hx=>by simp[loopsOf] at hb
 | .goto _,b,hb,x,hx=>by simp[loopsOf] at hb
 | .refuse _,b,hb,x,hx=>by simp[loopsOf] at hb
def apartL:List Code→Bool
 | []=>true
 | b::l=>(l.all fun x=>!Nat.beq (firstRegion x) (firstRegion b))&&apartL l
theorem apartL_find:∀ {l:List Code},apartL l=true→∀ b∈l,l.find? (fun x=>Nat.beq (firstRegion x) (firstRegion b))=some b
 | [],_,b,hb=>by cases hb
 | y::l,h,b,hb=>by
  simp only[apartL,Bool.and_eq_true,List.all_eq_true,Bool.not_eq_true'] at h;rcases List.mem_cons.1 hb with rfl | hb
  ·rw[List.find?_cons_of_pos (by simp)]
  ·rw[List.find?_cons_of_neg,apartL_find h.2 b hb]
   intro hq;have:=h.1 b hb
   rw[Nat.eq_of_beq_eq_true hq] at this;simp at this
theorem unrolled_ok {F:Fns} {cx:Cx} (hS:Good (vlim T F) S) {m:Nat} {c0:Code} (ha:apartL (loopsOf c0)=true):∀ (d:Nat) (c:Code),(∀ b∈loopsOf c,b∈loopsOf c0)→LGood T (vlim T F) lplim cx (unrolled T sh S cx m (loopsOf c0) d) c
 | 0,c,_,b,hb,σ,r,h=>by cases h
 | d+1,c,hc,b,hb,σ,r,h=>by
  simp only[unrolled,apartL_find ha b (hc b hb)] at h;exact lplim_iff.2 (unrollT_ok hS (unrolled_ok hS ha d b (fun x hx=>loopsOf_sub c0 (hc b hb) x hx)) m σ r h)
noncomputable def inl (T:Types) (sh:Nat→List TK) (S:Spec) (m d:Nat) (fi:FI):List V→Heap→Tr (V×Heap) :=
 funT T sh S (unrolled T sh S fi.cx m (loopsOf fi.body) d) fi
theorem inl_ok {F:Fns} (hS:Good (vlim T F) S) {f:FuncId} {fi:FI} (hf:F f=some fi) (m d:Nat) (ha:apartL (loopsOf fi.body)=true):∀ a H r,(inl T sh S m d fi a H).run=some r→Runs T F f a H r :=
 fun _ _ _ h=>funT_ok hS hf (unrolled_ok hS ha d fi.body (fun _ hb=>hb)) h
theorem Good.inl {F:Fns} (hS:Good (vlim T F) S) {f:FuncId} {fi:FI} (hf:F f=some fi) (m d:Nat) (ha:apartL (loopsOf fi.body)=true) (hfl:Nat.blt f yB=true:=by decide):Good (vlim T F) (S.add f (Vm.inl T sh S m d fi)) :=
 hS.add (inl_ok hS hf m d ha) hfl
end
end Go.Vm
end
section
namespace Go.Vm
open Go
noncomputable def is (σ σ0:St):Bool:=@decide (σ=σ0) (Classical.propDecidable _)
theorem is_self (σ:St):is σ σ=true:=by unfold is;exact @decide_eq_true _ (Classical.propDecidable _) rfl
theorem is_eq {σ σ0:St} (h:σ=σ0):is σ σ0=true:=by rw[h];exact is_self σ0
theorem of_is {σ σ0:St} (h:is σ σ0=true):σ=σ0:=@of_decide_eq_true _ (Classical.propDecidable _) h
noncomputable def loopsIs:List (Nat×St×(Ex×St))→LSpec
 | [],_,_=>.fail
 | x::l,id,σ=>match Nat.beq id x.1 with
  | true=>.must (is σ x.2.1) (.ret x.2.2)
  | false=>loopsIs l id σ
section
variable {T:Types} {sh:Nat→List TK} {S:Spec} {L:LSpec} {F:Fns} {cx:Cx} {c:Code}
theorem LGood.is:∀ {l:List (Nat×St×(Ex×St))},(∀ b∈loopsOf c,∀ x∈l,firstRegion b=x.1→LRuns (vstep T (vlim T F) lplim cx x.2.1.heap.length b) x.2.1 x.2.2)→LGood T (vlim T F) lplim cx (loopsIs l) c
 | [],_,b,hb,σ,r,h=>by cases h
 | x::l,hl,b,hb,σ,r,h=>by
  unfold loopsIs at h;cases hbq:Nat.beq (firstRegion b) x.1<;>simp only[hbq] at h
  ·exact LGood.is (l:=l) (fun b hb y hy=>hl b hb y (by simp[hy])) b hb σ r h
  ·obtain⟨h1,h2⟩:=Tr.must_some h
   have:=of_is h1;subst this
   have h2:=ret_some h2;subst h2;exact lplim_iff.2 (hl b hb x (by simp) (Nat.eq_of_beq_eq_true hbq))
theorem LGood.one {b:Code} {k:Nat} {σ0:St} {r:Ex×St} (h:loopsOf c=[b]) (hr:LRuns (vstep T (vlim T F) lplim cx σ0.heap.length b) σ0 r):LGood T (vlim T F) lplim cx (loopsIs [(k,σ0,r)]) c:=by
 refine LGood.is fun b' hb x hx _=>?_
 rw[h] at hb;simp at hb hx;subst hb;subst hx;exact hr
theorem LGood.two {b0 b1:Code} {k0 k1:Nat} {σ0 σ1:St} {r0 r1:Ex×St} (h:loopsOf c=[b0,b1]) (e0:Nat.beq (firstRegion b0) k1=false) (e1:Nat.beq (firstRegion b1) k0=false)
  (h0:LRuns (vstep T (vlim T F) lplim cx σ0.heap.length b0) σ0 r0) (h1:LRuns (vstep T (vlim T F) lplim cx σ1.heap.length b1) σ1 r1):LGood T (vlim T F) lplim cx (loopsIs [(k0,σ0,r0),(k1,σ1,r1)]) c:=by
 refine LGood.is fun b' hb x hx hf=>?_
 rw[h] at hb;simp at hb hx;rcases hb with rfl | rfl<;>rcases hx with rfl | rfl
 ·exact h0
 ·simp only at hf;rw[hf] at e0;simp at e0
 ·simp only at hf;rw[hf] at e1;simp at e1
 ·exact h1
def spread (cs:List (Bool×Bool)):List Nat→List (Bool×Bool)
 | []=>[]
 | 0::l=>(true,true)::spread cs l
 | 1::l=>(false,false)::spread cs l
 | (j+2)::l=>cs.getD j (true,true)::spread cs l
def AllOk:List (Bool×Bool)→Prop
 | []=>True
 | c::l=>c.1=c.2∧AllOk l
theorem AllOk.get:∀ {cs:List (Bool×Bool)},AllOk cs→∀ j,(cs.getD j (true,true)).1=(cs.getD j (true,true)).2
 | [],_,j=>by simp
 | c::l,h,0=>h.1
 | c::l,h,j+1=>by simpa using AllOk.get (cs:=l) h.2 j
theorem spread_ok {cs:List (Bool×Bool)} (h:AllOk cs):∀ (l:List Nat),∀ c∈spread cs l,c.1=c.2
 | [],c,hc=>by cases hc
 | 0::l,c,hc=>by
  rcases List.mem_cons.1 hc with rfl | hc
  ·rfl
  ·exact spread_ok h l c hc
 | 1::l,c,hc=>by
  rcases List.mem_cons.1 hc with rfl | hc
  ·rfl
  ·exact spread_ok h l c hc
 | (j+2)::l,c,hc=>by
  rcases List.mem_cons.1 hc with rfl | hc
  ·exact h.get j
  ·exact spread_ok h l c hc
def answers (cs:List (Bool×Bool)) (l:List Nat):List Bool:=(spread cs l).map (·.2)
theorem LRuns.next (hS:Good (vlim T F) S) {n:Nat} {b:Code} {τ τ':St} {r:Ex×St} (hL:LGood T (vlim T F) lplim cx L b) (cs:List (Bool×Bool)) (l:List Nat)
  (h:(roundT T sh S L cx n b τ).follow (answers cs l)=some (spread cs l,some (.normal,τ'))) (hc:AllOk cs) (hr:LRuns (vstep T (vlim T F) lplim cx n b) τ' r):LRuns (vstep T (vlim T F) lplim cx n b) τ r :=
 LRuns.step (roundT_ok hS hL (Tr.follow_run h (spread_ok hc l))) hr
theorem LRuns.last (hS:Good (vlim T F) S) {n:Nat} {b:Code} {τ:St} {r:Ex×St} (hL:LGood T (vlim T F) lplim cx L b) (cs:List (Bool×Bool)) (l:List Nat)
  (h:(roundT T sh S L cx n b τ).follow (answers cs l)=some (spread cs l,some r)) (hx:r.1≠.normal) (hc:AllOk cs):LRuns (vstep T (vlim T F) lplim cx n b) τ r :=
 LRuns.stop (roundT_ok hS hL (Tr.follow_run h (spread_ok hc l))) hx
theorem Runs.way (hS:Good (vlim T F) S) {f:FuncId} {fi:FI} (hf:F f=some fi) (hL:LGood T (vlim T F) lplim fi.cx L fi.body) (cs:List (Bool×Bool)) (l:List Nat) {a:List V} {H:Heap} {r:V×Heap}
  (h:(funT T sh S L fi a H).follow (answers cs l)=some (spread cs l,some r)) (hc:AllOk cs):Runs T F f a H r:=funT_ok hS hf hL (Tr.follow_run h (spread_ok hc l))
theorem Good.way {call:CallF} (hS:Good call S) {f:FuncId} (cs:List (Bool×Bool)) (l:List Nat) {a:List V} {H:Heap} {r:V×Heap}
  (h:(S f a H).follow (answers cs l)=some (spread cs l,some r)) (hc:AllOk cs):call f a H=some r:=hS _ _ _ _ (Tr.follow_run h (spread_ok hc l))
end
theorem i64in {n:Int} (h1:-9223372036854775808≤n) (h2:n≤9223372036854775807):IntKind.i64.wrap n=n:=Go.IntWalk.i64_in n ⟨h1,h2⟩
@[simp] theorem getD_map {α:Type} (f:α→V) (l:List α) (i:Nat) (h:i<l.length):(l.map f).getD i .undef=f l[i]:=by
 rw[List.getD_eq_getElem?_getD];simp[h]
@[simp] theorem fld_agg (j:Nat) (cs:List V):fld j (.agg cs)=cs.getD j .undef:=rfl
@[simp] theorem intOf_int (k:IntKind) (n:Int):intOf (.int k n)=n:=rfl
@[simp] theorem boolOf_bool (b:Bool):boolOf (.bool b)=b:=rfl
@[simp] theorem cells_agg (cs:List V):(V.agg cs).cells=cs:=rfl
@[simp] theorem fld_int (k:IntKind) (n:Int):fld 0 (.int k n)=.int k n:=rfl
@[simp] theorem fld_bool (b:Bool):fld 0 (.bool b)=.bool b:=rfl
end Go.Vm
end
section
namespace Go.Vm
open Go Go.Shelf Go.RowKit Go.Lib Go.Proofs
theorem step_append_row {P:Program} {ops:Array Oper} {o:Oper} {a:Act} {w:World} {K:Act→World→Prop} {Q:Exit→Act→World→Prop} {E:Prop}
  (hg:o.guard=none) (s x:Operand) (t:TypeId) (hop:o.op=Op.call {callee:=Callee.builtin Builtin.append,args:=#[s,x],argTypes:=#[t,t]})
  (e:TypeId) (i:TypeInfo) (h1:P.underlying t=some (.slice e)) (h2:P.info? e=some i) (b n cap:Nat) (hs:a.eval s=.slice (some ⟨b,0,none⟩) n cap)
  (X:Value) (hx:a.eval x=X) (m:Nat) (news:List Value) (hsrc:Src P i.size t X m news w) (hroom:n+m≤cap) (T:TypeId) (arr:Array Value)
  (hb:w.heap[b]?=some (.cells arr T (0,0))) (hfit:n*i.size+news.length≤arr.size)
  (hK:K (a.put o.dst (.slice (some ⟨b,0,none⟩) (n+m) cap)) (w.setRow b (patch arr (n*i.size) news))) :
  if Region.wanted o (yielded ops a.tmps)=true then Oper.wp P o a w K Q else E:=by
 have hw:Region.wanted o (yielded ops a.tmps)=true:=by simp[Region.wanted,hg]
 rw[if_pos hw];have hrun:=append_room (P:=P) w t t o.type e T i h1 h2 b n cap arr X m news hsrc hroom hb hfit;unfold Oper.wp;simp[execOp,hop,resolve,invoke,builtin,hs,hx,hrun,Result.andThen];exact hK
set_option maxHeartbeats 4000000 in
set_option maxRecDepth 1000000 in
theorem del_ok {P:Program} {ρ:Ren} (mixed:P.follows .mixedOrders=true) (FG:Bears P (ρ.f 45) (SlBodyN.n45 ρ))
  (t3:P.underlying (ρ.t 3)=some (TypeDesc.int IntKind.i64)) (a3:∀ w,(isAgg (ρ.t 3)).run P w=.ok false w) (z3:∀ w,(Go.sizeOf (ρ.t 3)).run P w=.ok 1 w)
  (t4:P.underlying (ρ.t 4)=some (TypeDesc.bool)) (a4:∀ w,(isAgg (ρ.t 4)).run P w=.ok false w) (z4:∀ w,(Go.sizeOf (ρ.t 4)).run P w=.ok 1 w)
  (t22:P.underlying (ρ.t 22)=some (TypeDesc.slice (ρ.t 23))) (a22:∀ w,(isAgg (ρ.t 22)).run P w=.ok false w) (z22:∀ w,(Go.sizeOf (ρ.t 22)).run P w=.ok 1 w)
  (k:Nat) (i0:TypeInfo) (hi0:P.info? (ρ.t 23)=some i0) (hz:i0.size=k) (z:Value) (hv:i0.zero=some z) (hzs:z.cells.size=k) (hz1:∀ c∈z.cells.toList,c.oneCell'=true) :
  DelOk P (ρ.f 45) k:=by
 have z23:∀ w,(Go.sizeOf (ρ.t 23)).run P w=.ok k w:=fun w=>by simp[sizeOf,typeInfo,hi0,hz]
 refine⟨?_,?_⟩
 ·obtain⟨nm,hn,hf⟩:=FG
  exact⟨_,hf,by simpa using hn,rfl⟩
 intro w b n cap T arr i j hb hncap hsz hone hij hj;by_cases heq:i=j
 ·subst heq
  have h0:Calls P (ρ.f 45) #[.slice (some ⟨b,0,none⟩) n cap,.int .i64 i,.int .i64 i] w fun e w'=>e=.returned (.slice (some ⟨b,0,none⟩) n cap)∧w'=w:=by
   clear hb hone;obtain⟨_,_,FG⟩:=FG
   go_enter FG,SlBodyN.n45_ntmps ρ
   go_wp2
   all_goals (go_ret;exact⟨rfl,rfl⟩)
  refine h0.mono ?_
  rintro e w' ⟨rfl,rfl⟩
  exact⟨by rw[Nat.sub_self,Nat.sub_zero],arr,hb,rfl,fun m _=>by simp,fun _ _=>rfl,rfl,rfl,rfl,rfl,Nat.le_refl _⟩
 ·have hlt:i<j:=by omega
  obtain⟨news,hnews⟩:∃ news,news=(arr.toList.drop (j*k)).take ((n-j)*k):=⟨_,rfl⟩;have hnk:n*k≤arr.size:=by rw[hsz];exact Nat.mul_le_mul_right _ hncap
  have hjk:j*k+(n-j)*k=n*k:=by rw[←Nat.add_mul];congr 1;omega
  have hik:i*k+(n-j)*k≤n*k:=by rw[←Nat.add_mul];exact Nat.mul_le_mul_right _ (by omega)
  have hlen:news.length=(n-j)*k:=by rw[hnews];simp;omega
  have hget:∀ t,t<(n-j)*k→news[t]?=arr[j*k+t]?:=by
   intro t ht;rw[hnews,List.getElem?_take,if_pos ht,List.getElem?_drop,Array.getElem?_toList]
  have hone':∀ u∈news,u.oneCell'=true:=by
   intro u hu;obtain⟨t,ht⟩:=List.getElem?_of_mem hu;have htl:t<(n-j)*k:=by rw[←hlen];exact (List.getElem?_eq_some_iff.1 ht).1
   exact hone (j*k+t) u (by omega) (by rw[←hget t htl];exact ht)
  obtain⟨A,hA,hsrc⟩:∃ A:Addr,(if cap=j then (some ⟨b,0,none⟩:Option Addr) else some ⟨b,j*k,none⟩)=some A∧Hid (∀ t u,news[t]?=some u→w.drew.cell? (A.add t)=some u):=by
   by_cases h:cap=j
   ·refine⟨⟨b,0,none⟩,by simp[h],fun t u hu=>?_⟩
    have h0:news.length=0:=by rw[hlen,show n-j=0 by omega,Nat.zero_mul]
    rw[List.length_eq_zero_iff.1 h0] at hu;simp at hu
   ·refine⟨⟨b,j*k,none⟩,by simp[h],fun t u hu=>?_⟩
    have ht:t<(n-j)*k:=by
     have:=(List.getElem?_eq_some_iff.1 hu).1
     rwa [hlen] at this
    rw[hget t ht] at hu;rw[Addr.add_lit];rw[cell_of_row w.drew b (j*k+t) arr T _ hb];exact hu
  have hsr:Hid (∀ cp,Src P i0.size (ρ.t 22) (.slice (some A) (n-j) cp) (n-j) news w.drew):=fun cp =>
   Src.ofSlice w.drew t22 A (n-j) cp news (by rw[hlen,hz]) hsrc.out hone'
  obtain⟨W1,hW1⟩:∃ W1,W1=w.drew.setRow b (patch arr (i*i0.size) news):=⟨_,rfl⟩;have hfit:i*k+news.length≤arr.size:=by rw[hlen];omega
  have hb1:W1.heap[b]?=some (.cells (patch arr (i*k) news) T (0,0)):=by rw[hW1,hz];exact setRow_at w.drew b arr _ T _ hb
  obtain⟨zs,hzl⟩:∃ zs,zs=(Builtin.zeroCells z.cells (n-(i+(n-j)))).toList:=⟨_,rfl⟩;have hzsl:zs.length=(n-(i+(n-j)))*k:=by rw[hzl];simp[Builtin.zeroCells,hzs]
  have hcl:∀ ty,(Builtin.clear_ #[ρ.t 22] ty #[.slice (some ⟨b,(i+(n-j))*k,none⟩) (n-(i+(n-j))) (cap-(i+(n-j)))]).run P W1 =
    .ok (.tuple #[]) (W1.setRow b (patch (patch arr (i*k) news) ((i+(n-j))*k) zs)):=by
   intro ty;have hzone:∀ u∈zs,u.oneCell'=true:=by
    intro u hu;rw[hzl] at hu;simp only[Builtin.zeroCells,Array.toList_map,List.mem_map,Array.toList_range,List.mem_range] at hu;obtain⟨m,hm,rfl⟩:=hu;have hk0:0<z.cells.size:=by
     rcases Nat.eq_zero_or_pos z.cells.size with h0 | h0
     ·rw[h0] at hm;simp at hm
     ·exact h0
    have hml:m % z.cells.size<z.cells.size:=Nat.mod_lt _ hk0;rw[getElem!_pos z.cells _ hml];exact hz1 _ (by simp)
   have hst:=run_storeCells_at P b ((i+(n-j))*k) T zs 0 _ W1 hb1 (by rw[patch_size _ _ _ hfit,hzsl,Nat.add_zero,←Nat.add_mul];refine Nat.le_trans (Nat.mul_le_mul_right k ?_) hnk;omega) hzone
   simp only[Nat.add_zero] at hst;obtain⟨m,hm⟩:∃ m,n-(i+(n-j))=m+1:=⟨n-(i+(n-j))-1,by omega⟩
   rw[hm] at hzl ⊢;simp[Builtin.clear_,run_underlying t22,zeroValue,typeInfo,hi0,hv,←hzl,hst,patch]
  have hW:Hid (W1=w.drew.setRow b (patch arr (i*i0.size) news)):=hW1;have hic:i≤cap:=by omega
  have hjc:j≤cap:=by omega
  have HB:Hid (w.heap[b]?=some (.cells arr T (0,0))):=hb;have HF:Hid (i*i0.size+news.length≤arr.size):=by rw[hz];exact hfit
  have HG:Hid (∀ t,t<(n-j)*k→news[t]?=arr[j*k+t]?):=hget;have HL:Hid (news.length=(n-j)*k):=hlen;have HZ:Hid (zs.length=(n-(i+(n-j)))*k):=hzsl;have HN:Hid (n*k≤arr.size):=hnk;have HI:Hid (i*k+(n-j)*k≤n*k):=hik;have HJ:Hid (j*k+(n-j)*k=n*k):=hjk;have HB1:Hid (W1.heap[b]?=some (.cells (patch arr (i*k) news) T (0,0))):=hb1;clear hW1 hb hone hget hnews hlen hzl hzsl hfit hb1 hnk hik hjk hone';obtain⟨_,_,FG⟩:=FG
  go_enter FG,SlBodyN.n45_ntmps ρ
  go_wp2_with fail
  go_region_law_o (refine step_append_row rfl (.tmp 22) (.tmp 25) (ρ.t 22) rfl (ρ.t 23) i0 t22 hi0 b i cap (by simp[Act.eval,Act.put]) (.slice (some A) (n-j) (cap-j)) (by simp[Act.eval,Act.put]) (n-j) news (hsr.out _) (by omega) T arr HB.out HF.out ?_;rw[←hW.out])
  go_wp2
  go_ret
  have hb:=HB.out;have hf:=HF.out;have hg:=HG.out;have hl:=HL.out;have hzl:=HZ.out;have hn:=HN.out;have hi:=HI.out;have hjj:=HJ.out;have hb1:=HB1.out;have hw:=hW.out;rw[hz] at hf hw;have e1:n-(j-i)=i+(n-j):=by omega
  have hle:(i+(n-j))*k=i*k+(n-j)*k:=Nat.add_mul _ _ _;have hfit2:(i+(n-j))*k+zs.length≤(patch arr (i*k) news).size:=by
   rw[patch_size _ _ _ hf,hzl,←Nat.add_mul];exact Nat.le_trans (Nat.mul_le_mul_right k (by omega)) hn
  refine⟨by rw[e1];rfl,patch (patch arr (i*k) news) ((i+(n-j))*k) zs,setRow_at W1 b _ _ T _ hb1,?_,fun m hm=>?_,fun q hq=>?_,?_,?_,?_,?_,?_⟩
  ·rw[patch_size _ _ _ hfit2,patch_size _ _ _ hf]
  ·rw[e1] at hm
   rw[patch_get _ _ _ hfit2,if_neg (by omega),patch_get _ _ _ hf]
   by_cases hmi:m<i*k
   ·rw[if_neg (by omega),if_pos hmi]
   ·rw[if_pos (by omega),if_neg hmi,hg _ (by omega)]
    have:(j-i)*k+i*k=j*k:=by rw[←Nat.add_mul];congr 1;omega
    congr 1;omega
  ·rw[setRow_other W1 b q _ hq,hw,setRow_other w.drew b q _ hq];rfl
  ·rw[hw];simp only[World.setRow,Array.size_modify];rfl
  ·rw[hw];rfl
  ·rw[hw];rfl
  ·rw[hw];rfl
  ·rw[hw];exact Nat.le_succ _
theorem del_of_rows {P:Program} {T:Types} (hT:TOk P T) (ρ:Ren) (FG:Bears P (ρ.f 45) (SlBodyN.n45 ρ)) {i3 i4 i22 i23:TI} (h3:T (ρ.t 3)=some i3) (k3:i3.kind=.int .i64)
  (h4:T (ρ.t 4)=some i4) (k4:i4.kind=.bool) (h22:T (ρ.t 22)=some i22) (k22:i22.kind=.slice (ρ.t 23)) (h23:T (ρ.t 23)=some i23) (s3:i3.size=1) (s4:i4.size=1) (s22:i22.size=1) :
  DelOk P (ρ.f 45) i23.size:=by
 obtain⟨r3⟩:=Row.of hT h3;obtain⟨r4⟩:=Row.of hT h4;obtain⟨r22⟩:=Row.of hT h22;obtain⟨r23⟩:=Row.of hT h23;have u3:P.underlying (ρ.t 3)=some (TypeDesc.int IntKind.i64):=by
  have h:=r3.hkind;rw[r3.hd];rw[k3] at h;cases hd:r3.d<;>simp[hd,kindB] at h
  rw[h]
 have u4:P.underlying (ρ.t 4)=some TypeDesc.bool:=by
  have h:=r4.hkind;rw[r4.hd];rw[k4] at h;cases hd:r4.d<;>simp[hd,kindB] at h
  rfl
 refine del_ok hT.mixed FG u3 (fun w=>by rw[r3.isAgg,k3];rfl) (fun w=>by rw[run_sizeOf_row r3,s3]) u4 (fun w=>by rw[r4.isAgg,k4];rfl) (fun w=>by rw[run_sizeOf_row r4,s4])
  (kind_slice r22 k22) (fun w=>by rw[r22.isAgg,k22];rfl) (fun w=>by rw[run_sizeOf_row r22,s22]) i23.size r23.info r23.hinfo r23.hsize r23.z r23.hz r23.hzs (fun c hc=>?_)
 obtain⟨j,hj⟩:=List.getElem?_of_mem hc;have hjl:j<i23.zero.cells.length:=by
  have:=(List.getElem?_eq_some_iff.1 hj).1
  rw[r23.hzl,←r23.hzs];simpa using this
 exact (r23.hzc (fun _=>.other) default j _ c (List.getElem?_eq_getElem hjl) (by simpa using hj)).one
end Go.Vm
end
