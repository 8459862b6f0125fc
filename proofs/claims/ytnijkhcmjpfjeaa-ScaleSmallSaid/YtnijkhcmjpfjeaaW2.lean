/- W2: V,an evaluator that carries contents (V11,V12,V13,V13E,V14,V15,V16,V17,V18,V18M). No conditions. -/
import Derived.DeepKeys
import Derived.RangeFuncRecord
import Derived.MapKept
import Derived.Test.YtnijkhcmjpfjeaaW1
section
namespace Go.Vm
open Go
theorem foldl_set (off:Nat):∀ (l:List Value) (s:Nat) (arr:Array Value),off+s+l.length≤arr.size →
  ((l.zipIdx s).foldl (fun cs x=>cs.setIfInBounds (off+x.2) x.1) arr).size=arr.size ∧
    ∀ k,((l.zipIdx s).foldl (fun cs x=>cs.setIfInBounds (off+x.2) x.1) arr)[k]?=if off+s≤k∧k<off+s+l.length then l[k-(off+s)]? else arr[k]?
 | [],s,arr,_=>⟨rfl,fun k=>by simp;intro h1 h2;omega⟩
 | v::l,s,arr,h=>by
  simp only[List.length_cons] at h;obtain⟨h1,h2⟩:=foldl_set off l (s+1) (arr.setIfInBounds (off+s) v) (by simp;omega)
  simp only[List.zipIdx_cons,List.foldl_cons];refine⟨by rw[h1];simp,fun k=>?_⟩
  rw[h2];simp only[List.length_cons];by_cases hk:k=off+s
  ·subst hk
   rw[if_neg (by omega),if_pos (by omega)]
   simp[Array.getElem?_setIfInBounds];omega
  ·rw[Array.getElem?_setIfInBounds_ne (Ne.symm hk)]
   by_cases h3:off+(s+1)≤k∧k<off+(s+1)+l.length
   ·rw[if_pos h3,if_pos (by omega)]
    have:k-(off+s)=(k-(off+(s+1)))+1:=by omega
    rw[this,List.getElem?_cons_succ]
   ·rw[if_neg h3,if_neg (by omega)]
def PartsR (R:Nat→V→Value→Prop) (place:Nat→Option (Nat×Nat)):List (Nat×V)→List (Nat×Value)→Prop
 | [],[]=>True
 | (i,v)::vs,(j,c)::cs=>i=j∧c.cells.size=v.cells.length∧(∀ off size,place i=some (off,size)→∀ (k:Nat) (d:V) (u:Value),v.cells[k]?=some d→c.cells[k]?=some u→R (off+k) d u)∧PartsR R place vs cs
 | _,_=>False
theorem PartsR.mono {R R':Nat→V→Value→Prop} {place:Nat→Option (Nat×Nat)} (h:∀ k d u,R k d u→R' k d u):∀ {vs:List (Nat×V)} {cs:List (Nat×Value)},PartsR R place vs cs→PartsR R' place vs cs
 | [],[],_=>trivial
 | (i,v)::vs,(j,c)::cs,hp=>⟨hp.1,hp.2.1,fun off size hpl k d u hd hu=>h _ _ _ (hp.2.2.1 off size hpl k d u hd hu),hp.2.2.2.mono h⟩
 | [],_::_,hp=>hp.elim
 | _::_,[],hp=>hp.elim
theorem fill_rel (R:Nat→V→Value→Prop) (place place':Nat→Option (Nat×Nat)) (hpp:∀ i x,place i=some x→place' i=some x):∀ (vs:List (Nat×V)) (cvs:List (Nat×Value)) (cs cs':List V) (arr:Array Value),PartsR R place vs cvs →
  arr.size=cs.length→(∀ (k:Nat) (d:V) (u:Value),cs[k]?=some d→arr[k]?=some u→R k d u)→fill cs place vs=some cs' →
  ∃ arr',Instr.fill place' arr cvs=some arr'∧arr'.size=cs'.length∧cs'.length=cs.length∧∀ (k:Nat) (d:V) (u:Value),cs'[k]?=some d→arr'[k]?=some u→R k d u
 | [],[],cs,cs',arr,_,hs,hR,hf=>by
  simp only[fill] at hf;injection hf with hf;subst hf;exact⟨arr,rfl,hs,rfl,hR⟩
 | (i,v)::vs,(j,c)::cvs,cs,cs',arr,hp,hs,hR,hf=>by
  obtain⟨rfl,h2,h3,h4⟩:=hp;simp only[fill] at hf;cases hpl:place i<;>simp only[hpl] at hf
  ·cases hf
  rename_i os;obtain⟨off,size⟩:=os;simp only at hf;split at hf
  ·rename_i hc
   have hfit:off+0+c.cells.toList.length≤arr.size:=by simp;omega
   obtain⟨g1,g2⟩:=foldl_set off c.cells.toList 0 arr hfit;have hconv:c.cells.zipIdx.foldl (fun cs x=>cs.setIfInBounds (off+x.2) x.1) arr=(c.cells.toList.zipIdx 0).foldl (fun cs x=>cs.setIfInBounds (off+x.2) x.1) arr:=by
    rw[←Array.foldl_toList,Array.toList_zipIdx]
   obtain⟨arr',e1,e2,e3,e4⟩:=fill_rel R place place' hpp vs cvs (setCells cs off v.cells) cs' (c.cells.zipIdx.foldl (fun cs x=>cs.setIfInBounds (off+x.2) x.1) arr) h4
    (by rw[hconv,g1,setCells_length];exact hs)
    (fun k d u hd hu=>by
     rw[setCells_get _ _ _ _ (by omega)] at hd
     rw[hconv,g2 k] at hu;simp only[Nat.add_zero,Array.length_toList] at hu;by_cases hin:off≤k∧k<off+v.cells.length
     ·rw[if_pos hin] at hd
      rw[if_pos (by omega)] at hu
      have:=h3 off size hpl (k-off) d u hd (by simpa using hu)
      rwa [show off+(k-off)=k from by omega] at this
     ·rw[if_neg hin] at hd
      rw[if_neg (by omega)] at hu
      exact hR k d u hd hu) hf
   refine⟨arr',?_,e2,by rw[e3,setCells_length],e4⟩
   simp only[Instr.fill,hpp _ _ hpl];have:(c.cells.size != size || decide (off+c.cells.size>arr.size))=false:=by simp;omega
   simp only[ne_eq,decide_not];rw[if_neg (by simp;omega)]
   exact e1
  ·cases hf
 | [],_::_,_,_,_,hp,_,_,_=>hp.elim
 | _::_,[],_,_,_,hp,_,_,_=>hp.elim
section
variable {P:Program} {o:Oper} {own:Own} {β:Nat→Nat} {w:World} {σ:St} {a:Act}
def stage (off:Nat) (l:Loc):Loc:=match l with | .res 0 j=>.res 1 (off+j) | l=>l
theorem stage_reloc (off:Nat):Reloc (stage off):=by
 refine⟨rfl,rfl,fun _=>rfl,fun l i hl=>?_,fun l hl=>?_⟩
 ·cases l<;>simp only[stage] at hl<;>first | rfl | exact hl | (split at hl<;>first | cases hl | exact hl)
 ·cases l<;>simp only[stage] at hl<;>first | rfl | exact hl | (split at hl<;>first | cases hl | exact hl)
def unstage (l:Loc):Loc:=match l with | .res 1 j=>.res 0 j | l=>l
theorem unstage_reloc:Reloc unstage:=by
 refine⟨rfl,rfl,fun _=>rfl,fun l i hl=>?_,fun l hl=>?_⟩
 ·cases l<;>simp only[unstage] at hl<;>first | rfl | exact hl | (split at hl<;>first | cases hl | exact hl)
 ·cases l<;>simp only[unstage] at hl<;>first | rfl | exact hl | (split at hl<;>first | cases hl | exact hl)
theorem takes_ok (place:Nat→Option (Nat×Nat)):∀ (l:List (Nat×Operand)) (own:Own) (σ:St) (vs:List (Nat×V)) (ps:List (Place×V)),SR own β w σ a.tmps→takes take σ l=some (vs,ps) →
  (∀ x∈l,(place x.1).isSome=true) →
  ∃ o1 ρ,Nxt own β w σ a o1 β w (setPlaces σ ps) a∧PartsR (fun k d u=>CR o1 β w (.res 1 k) d u) place vs (l.map fun x=>(x.1,a.eval x.2))∧Reloc ρ∧(∀ j,ρ (.res 1 j)=.res 1 j)∧o1=fun b=>ρ (own b)
 | [],own,σ,vs,ps,h,ht,_=>by
  simp only[takes] at ht;injection ht with ht;injection ht with h1 h2;subst h1;subst h2;exact⟨own,id,Nxt.refl h,trivial,reloc_id,fun _=>rfl,rfl⟩
 | (i,x)::rest,own,σ,vs,ps,h,ht,hpl=>by
  simp only[takes] at ht;cases hx:take σ x<;>simp only[hx] at ht
  ·cases ht
  rename_i vp;obtain⟨v,ps1⟩:=vp;simp only at ht;cases hr:takes take (setPlaces σ ps1) rest<;>simp only[hr] at ht
  ·cases ht
  rename_i vq;obtain⟨vs',qs⟩:=vq;injection ht with ht;injection ht with h1 h2;subst h1;subst h2;obtain⟨o1,n1,⟨c1,c2⟩,ρ1,r1,r2,r3⟩:=take_ok h hx;have hp:=hpl (i,x) (by simp)
  cases hpi:place i with
  | none=>simp[hpi] at hp
  | some os =>
   obtain⟨off,size⟩:=os;have n2:=n1.restage (stage_reloc off) (fun _ _ _=>rfl) (fun _ _=>rfl)
   obtain⟨o2,ρ2,n3,p3,s1,s2,s3⟩:=takes_ok place rest _ _ vs' qs n2.sr hr (fun y hy=>hpl y (by simp[hy]))
   have hcr:∀ (k:Nat) (d:V) (u:Value),v.cells[k]?=some d→(a.eval x).cells[k]?=some u→CR o2 β w (.res 1 (off+k)) d u:=by
    intro k d u hd hu;have h1:=(c2 k d u hd hu).reloc (stage_reloc off);have h2:=h1.reloc s1;simp only[stage] at h2;rw[s2] at h2;rw[s3];exact h2
   refine⟨o2,fun l=>ρ2 (stage off (ρ1 l)),by rw[setPlaces_append];exact n2.trans n3,⟨rfl,c1,fun off' size' hq k d u hd hu=>?_,p3⟩,?_,fun j=>?_,?_⟩
   ·rw[hpi] at hq;injection hq with hq;injection hq with h1 h2;subst h1
    exact hcr k d u hd hu
   ·exact⟨by simp only[r1.im,(stage_reloc off).im,s1.im],by simp only[r1.other,(stage_reloc off).other,s1.other],fun id=>by simp only[r1.blk,(stage_reloc off).blk,s1.blk],
     fun l id hl=>r1.noblk _ _ ((stage_reloc off).noblk _ _ (s1.noblk _ _ hl)),fun l hl=>r1.noother _ ((stage_reloc off).noother _ (s1.noother _ hl))⟩
   ·show ρ2 (stage off (ρ1 (.res 1 j)))=_
    rw[show ρ1 (.res 1 j)=.res 1 j from r2 0 j];simp only[stage];exact s2 j
   ·rw[s3,r3]
theorem fill_places {cs cs':List V} {place:Nat→Option (Nat×Nat)}:∀ {vs:List (Nat×V)},fill cs place vs=some cs'→∀ x∈vs,(place x.1).isSome=true
 | [],_,x,hx=>by simp at hx
 | (i,v)::vs,hf,x,hx=>by
  simp only[fill] at hf;cases hpl:place i<;>simp only[hpl] at hf
  ·cases hf
  rename_i os;obtain⟨off,size⟩:=os;simp only at hf;split at hf
  ·rcases List.mem_cons.1 hx with rfl | hx
   ·simp[hpl]
   ·exact fill_places hf x hx
  ·cases hf
theorem takes_keys {f:St→Operand→Option (V×List (Place×V))}:∀ {l:List (Nat×Operand)} {σ:St} {vs:List (Nat×V)} {ps:List (Place×V)},takes f σ l=some (vs,ps)→vs.map (·.1)=l.map (·.1)
 | [],σ,vs,ps,h=>by simp only[takes] at h;injection h with h;injection h with h1 h2;subst h1;rfl
 | (i,x)::rest,σ,vs,ps,h=>by
  simp only[takes] at h;cases hx:f σ x<;>simp only[hx] at h
  ·cases h
  rename_i vp;obtain⟨v,ps1⟩:=vp;simp only at h;cases hr:takes f (setPlaces σ ps1) rest<;>simp only[hr] at h
  ·cases h
  rename_i vq;obtain⟨vs',qs⟩:=vq;injection h with h;injection h with h1 h2;subst h1;simp[takes_keys hr]
theorem mapM_places {T:Types} (hT:TOk P T):∀ {fs:List Field} {gs:List (Nat×Nat)},fieldsB fs gs=true→(∀ g∈gs,(T g.2).isSome=true) →
  ∃ places,fs.mapM (fun f=>(P.info? f.type).map fun i=>(f.offset,i.size))=some places∧places.length=gs.length ∧
   ∀ (j off t:Nat),gs[j]?=some (off,t)→∃ ti,T t=some ti∧places[j]?=some (off,ti.size)
 | [],[],_,_=>⟨[],rfl,rfl,fun j off t h=>by simp at h⟩
 | f::fs,(o,t)::gs,hb,hg=>by
  simp only[fieldsB,Bool.and_eq_true,beq_iff_eq] at hb;obtain⟨places,h1,h2,h3⟩:=mapM_places hT hb.2 (fun g hg'=>hg g (by simp[hg']))
  have ht:=hg (o,t) (by simp)
  cases hti:T t with
  | none=>simp[hti] at ht
  | some ti =>
   obtain⟨r⟩:=Row.of hT hti;refine⟨(o,ti.size)::places,?_,by simp[h2],fun j off t' hj=>?_⟩
   ·simp only[List.mapM_cons,hb.1.2,r.hinfo,Option.map_some,h1,hb.1.1,r.hsize];rfl
   ·cases j with
    | zero=>simp at hj;obtain⟨rfl,rfl⟩:=hj;exact⟨ti,hti,rfl⟩
    | succ j=>simpa using h3 j off t' (by simpa using hj)
 | [],_::_,hb,_=>by simp[fieldsB] at hb
 | _::_,[],hb,_=>by simp[fieldsB] at hb
theorem CR.unstage {o1:Own} {k:Nat} {d:V} {u:Value} (h:CR o1 β w (.res 1 k) d u):CR (fun b=>unstage (o1 b)) β w (.res 0 k) d u:=h.reloc unstage_reloc
theorem ok_build {T:Types} {call:CallF} {cx:Cx} {fr:Nat} (h:Hyp P T o own β w σ a) {t:TypeId} {parts:Array (Nat×Operand)} (ho:o.op=.build t parts) {e:Eff}
  (he:eff T call cx fr o σ=some e):OpOk P o own β w σ a (apply σ o.dst e):=by
 simp only[eff,ho] at he;cases hT:T t<;>simp only[hT] at he
 ·cases he
 rename_i i;obtain⟨r⟩:=Row.of h.T hT;cases htk:takes take σ parts.toList<;>simp only[htk] at he
 ·cases he
 rename_i vp;obtain⟨vs,ps⟩:=vp;simp only at he;have hparts:(parts.map fun (j,x)=>(j,a.eval x)).toList=parts.toList.map fun x=>(x.1,a.eval x.2):=by simp
 have key:∀ (place place':Nat→Option (Nat×Nat)) (cs:List V),(∀ i x,place i=some x→place' i=some x)→fill i.zero.cells place vs=some cs →
   (∀ cells,Instr.fill place' r.z.cells (parts.map fun (j,x)=>(j,a.eval x)).toList=some cells→P.built t (parts.map fun (j,x)=>(j,a.eval x)).toList=some cells) →
   OpOk P o own β w σ a (apply σ o.dst {val:=.agg cs,places:=ps}):=by
  intro place place' cs hpp hf hbuilt;have hkeys:=takes_keys htk;obtain⟨o1,ρ,n1,p1,_,_,_⟩:=takes_ok (a:=a) place parts.toList own σ vs ps h.sr htk (fun x hx=>by
   have:x.1∈vs.map (·.1):=by rw[hkeys];exact List.mem_map_of_mem hx
   obtain⟨y,hy,he⟩:=List.mem_map.1 this;have:=fill_places hf y hy
   rwa [he] at this)
  obtain⟨arr',f1,f2,f3,f4⟩:=fill_rel (fun k d u=>CR o1 β w (.res 1 k) d u) place place' hpp vs (parts.toList.map fun x=>(x.1,a.eval x.2)) i.zero.cells cs r.z.cells p1
   (by rw[r.hzs,r.hzl]) (fun k d u hd hu=>CR_of_FR (r.hzc o1 w k d u hd hu)) hf
  rw[←hparts] at f1;have hrun:(execOp a.eval o).run P w=.ok (.value (.agg arr')) w:=by
   have:=run_build (P:=P) w t _ arr' (hbuilt arr' f1)
   simp[execOp,ho,this]
  have n2:=n1.restage unstage_reloc (fun _ _ _=>rfl) (fun _ _=>rfl)
  exact OpOk.value hrun n2 h.dst rfl ⟨arr',rfl,f2,fun j v c hv hc=>(f4 j v c hv hc).unstage⟩
 cases hk:i.kind<;>simp only[hk] at he<;>try (cases he;done)
 ·
  rename_i n el;have hu:=kind_array r hk;cases hel:T el<;>simp only[hel] at he
  ·cases he
  rename_i ei;obtain⟨re⟩:=Row.of h.T hel;split at he
  ·rename_i cs hf
   injection he with he;subst he;refine key _ (fun j=>some (j*ei.size,ei.size)) cs (fun _ _ hx=>hx) hf (fun cells hc=>?_)
   simp only[Program.built,r.hinfo,hu,r.hz,re.hinfo,re.hsize];exact hc
  ·cases he
 ·
  rename_i gs;obtain⟨fields,hu,hfb⟩:=kind_struct r hk;split at he
  ·cases he
  rename_i hall;split at he
  ·rename_i cs hf
   injection he with he;subst he;have hall':∀ g∈gs,(T g.2).isSome=true:=by
    intro g hg;have:gs.all (fun g=>(T g.2).isSome)=true:=by
     cases hq:gs.all (fun g=>(T g.2).isSome)
     ·rw[hq] at hall;simp at hall
     ·rfl
    exact List.all_eq_true.1 this g hg
   obtain⟨places,m1,m2,m3⟩:=mapM_places h.T hfb hall';refine key _ (fun j=>places.toArray[j]?) cs (fun j x hx=>?_) hf (fun cells hc=>?_)
   ·cases hg:gs[j]?<;>simp only[hg] at hx
    ·cases hx
    rename_i g;obtain⟨off,ft⟩:=g;obtain⟨ti,q1,q2⟩:=m3 j off ft hg;simp only[q1,Option.map_some,Option.some.injEq] at hx;subst hx;simpa using q2
   ·simp only[Program.built,r.hinfo,hu,r.hz,m1]
    exact hc
  ·cases he
def PartsD (own:Own) (w:World) (sz len:Nat):List (Nat×V)→List (Nat×Value)→Prop
 | [],[]=>True
 | (i,v)::vs,(j,c)::cs=>i=j∧i<len∧v.cells.length=sz∧c.cells.size=sz∧(∀ (k:Nat) (d:V) (u:Value),v.cells[k]?=some d→c.cells[k]?=some u→FR own w d u)∧PartsD own w sz len vs cs
 | _,_=>False
theorem PartsD.mono {own own':Own} {sz len:Nat} (hk:∀ b,own b=.im→own' b=.im):∀ {vs:List (Nat×V)} {cs:List (Nat×Value)},PartsD own w sz len vs cs→PartsD own' w sz len vs cs
 | [],[],_=>trivial
 | (i,v)::vs,(j,c)::cs,hp=>⟨hp.1,hp.2.1,hp.2.2.1,hp.2.2.2.1,fun k d u hd hu=>(hp.2.2.2.2.1 k d u hd hu).mono fun b hb=>⟨hk b hb,rfl⟩,hp.2.2.2.2.2.mono hk⟩
 | [],_::_,hp=>hp.elim
 | _::_,[],hp=>hp.elim
theorem fill_lay {own:Own} {sz len:Nat}:∀ (vs:List (Nat×V)) (cvs:List (Nat×Value)) (xs:List V) (arr:Array Value),PartsD own w sz len vs cvs→xs.length=len→arr.size=len*sz→Lay own w sz xs arr →
  ∃ arr',Instr.fill (fun i=>some (i*sz,sz)) arr cvs=some arr'∧arr'.size=len*sz∧Lay own w sz (vs.foldl (fun l x=>l.set x.1 x.2) xs) arr'∧(vs.foldl (fun l x=>l.set x.1 x.2) xs).length=len
 | [],[],xs,arr,_,hx,hs,hl=>⟨arr,rfl,hs,hl,hx⟩
 | (i,v)::vs,(j,c)::cvs,xs,arr,hp,hx,hs,hl=>by
  obtain⟨rfl,h1,h2,h3,h4,h5⟩:=hp;have hfit0:i*sz+sz≤len*sz:=by
   have:=Nat.mul_le_mul_right sz (show i+1≤len from h1);rw[Nat.succ_mul] at this;exact this
  have hfit:i*sz+0+c.cells.toList.length≤arr.size:=by simp;omega
  obtain⟨g1,g2⟩:=foldl_set (i*sz) c.cells.toList 0 arr hfit;have hconv:c.cells.zipIdx.foldl (fun cs x=>cs.setIfInBounds (i*sz+x.2) x.1) arr=(c.cells.toList.zipIdx 0).foldl (fun cs x=>cs.setIfInBounds (i*sz+x.2) x.1) arr:=by
   rw[←Array.foldl_toList,Array.toList_zipIdx]
  obtain⟨arr',e1,e2,e3,e4⟩:=fill_lay vs cvs (xs.set i v) (c.cells.zipIdx.foldl (fun cs x=>cs.setIfInBounds (i*sz+x.2) x.1) arr) h5 (by simpa using hx) (by rw[hconv,g1];exact hs)
   (fun i' y hy=>by
    by_cases hi:i'=i
    ·subst hi
     rw[List.getElem?_set_self (by omega)] at hy
     injection hy with hy;subst hy;refine⟨h2,fun j d u hd hu=>?_⟩
     have hjs:j<sz:=by rw[←h2];exact (List.getElem?_eq_some_iff.1 hd).1
     rw[hconv,g2,if_pos (by simp;omega)] at hu
     have:i'*sz+j-(i'*sz+0)=j:=by omega
     rw[this] at hu;exact h4 j d u hd (by simpa using hu)
    ·rw[List.getElem?_set_ne (Ne.symm hi)] at hy
     obtain⟨f1,f2⟩:=hl i' y hy;refine⟨f1,fun j d u hd hu=>?_⟩
     have hjs:j<sz:=by rw[←f1];exact (List.getElem?_eq_some_iff.1 hd).1
     have:=sep (off:=0) (n:=sz) hi hjs (by omega)
     rw[hconv,g2,if_neg (by simp;omega)] at hu
     exact f2 j d u hd hu)
  refine⟨arr',?_,e2,e3,e4⟩;simp only[Instr.fill];rw[if_neg (by simp;omega)]
  exact e1
 | [],_::_,_,_,hp,_,_,_=>hp.elim
 | _::_,[],_,_,hp,_,_,_=>hp.elim
theorem rep_get {n k:Nat} {z y:V} (h:(List.replicate n z)[k]?=some y):k<n∧y=z:=by
 rw[List.getElem?_replicate] at h;split at h
 ·injection h with h;exact⟨‹_›,h.symm⟩
 ·cases h
theorem get_rep {n k:Nat} (z:V) (h:k<n):(List.replicate n z)[k]?=some z:=by rw[List.getElem?_replicate,if_pos h]
theorem lay_zeros {i:TI} {t:Nat} (r:Row P t i) (own:Own) (w:World) (len:Nat) (hz:0<i.size) :
  Lay own w i.size (List.replicate len i.zero) ((Array.range (len*i.size)).map (r.z.cells[· % r.z.cells.size]!)):=by
 intro k y hy;obtain⟨hk,rfl⟩:=rep_get hy;refine⟨r.hzl,fun j d u hd hu=>?_⟩
 have hj:j<i.size:=by rw[←r.hzl];exact (List.getElem?_eq_some_iff.1 hd).1
 have hlt:k*i.size+j<len*i.size:=idx_lt hk hj;have hmod:(k*i.size+j) % r.z.cells.size=j:=by rw[r.hzs];exact (div_mod_idx hz k j hj).2
 have hu':u=r.z.cells[(k*i.size+j) % r.z.cells.size]!:=by
  simp[Array.getElem?_range,hlt] at hu;exact hu.symm
 rw[hmod] at hu';have hjz:j<r.z.cells.size:=by rw[r.hzs];exact hj
 refine r.hzc own w j d u hd ?_;rw[hu',Array.getElem?_eq_getElem hjz];simp[hjz]
theorem takesDat_ok (sz len:Nat):∀ (l:List (Nat×Operand)) (own:Own) (σ:St) (vs:List (Nat×V)) (ps:List (Place×V)),SR own β w σ a.tmps→takes takeDat σ l=some (vs,ps) →
  (∀ y∈vs,y.1<len∧y.2.cells.length=sz) →
  ∃ o1,Nxt own β w σ a o1 β w (setPlaces σ ps) a∧PartsD o1 w sz len vs (l.map fun x=>(x.1,a.eval x.2))
 | [],own,σ,vs,ps,h,ht,_=>by
  simp only[takes] at ht;injection ht with ht;injection ht with h1 h2;subst h1;subst h2;exact⟨own,Nxt.refl h,trivial⟩
 | (i,x)::rest,own,σ,vs,ps,h,ht,hv=>by
  simp only[takes] at ht;cases hx:takeDat σ x<;>simp only[hx] at ht
  ·cases ht
  rename_i vp;obtain⟨v,ps1⟩:=vp;simp only at ht;cases hr:takes takeDat (setPlaces σ ps1) rest<;>simp only[hr] at ht
  ·cases ht
  rename_i vq;obtain⟨vs',qs⟩:=vq;injection ht with ht;injection ht with h1 h2;subst h1;subst h2;obtain⟨o1,n1,⟨c1,_,c2⟩,_⟩:=takeDat_ok h hx;obtain⟨o2,n2,p2⟩:=takesDat_ok sz len rest o1 _ vs' qs n1.sr hr (fun y hy=>hv y (by simp[hy]))
  obtain⟨e1,e2⟩:=hv (i,v) (by simp)
  simp only at e1 e2;exact⟨o2,by rw[setPlaces_append];exact n1.trans n2,rfl,e1,e2,by rw[c1];exact e2,fun k d u hd hu=>(c2 k d u hd hu).mono n2.stay.im,p2⟩
theorem takeMap_nil (h:SR own β w σ a.tmps) {x:Operand} {v:V} (ht:takeMap σ x=some (v,[])):VR own β w (fun _=>.im) v (a.eval x)∧noEx v=true:=by
 unfold takeMap at ht;split at ht
 ·split at ht<;>cases ht
 ·split at ht<;>cases ht
 ·rename_i cs hv
  split at ht
  ·rename_i hc
   injection ht with ht;injection ht with h1 _;subst h1;have:=opd_TR h x (by rw[hv];rfl)
   rw[hv] at this;have hn:noEx (.agg cs)=true:=by
    simp only[noEx,List.all_eq_true] at hc ⊢;intro y hy;have:=hc y hy
    cases y<;>first | rfl | (simp[plainM] at this)
   exact⟨VR.place (L:=opL x 0) this hn,hn⟩
  ·cases ht
 ·split at ht
  ·rename_i hp
   injection ht with ht;injection ht with h1 _;subst h1;cases hv:opd σ.env x<;>rw[hv] at hp<;>simp only[plainM] at hp<;>try (cases hp;done)
   all_goals
    have:=opd_TR h x (by rw[hv];rfl)
    rw[hv] at this;exact⟨VR.place (L:=opL x 0) this rfl,rfl⟩
  ·cases ht
theorem cellsR_one {l0:Loc} {v:V} {c:Value} (hv:v.cells=[v]) (hc:CR own β w l0 v c) (hn:∀ sz n xs,v≠.ex sz n xs) :
  c.cells.size=v.cells.length∧∀ (j:Nat) (d:V) (u:Value) (l:Loc),v.cells[j]?=some d→c.cells[j]?=some u→CR own β w l d u:=by
 have hone:=hc.one;have hcells:c.cells=#[c]:=by cases c<;>first | rfl | (simp[Value.oneCell'] at hone)
 refine⟨by rw[hcells,hv];rfl,fun j d u l hd hu=>?_⟩
 cases j with
 | zero=>rw[hcells] at hu;rw[hv] at hd;simp at hd hu;subst hd;subst hu;exact hc.place hn
 | succ j=>rw[hv] at hd;simp at hd
theorem VR.cellsR {L:Nat→Loc} {v:V} {c:Value} (h:VR own β w L v c) (hn:noEx v=true) (hp:∀ cs off,v≠.rptr cs off) (hu:v≠.undef):c.cells.size=v.cells.length∧∀ (j:Nat) (d:V) (u:Value) (l:Loc),v.cells[j]?=some d→c.cells[j]?=some u→CR own β w l d u:=by
 cases v with
 | agg cs =>
  obtain⟨arr,rfl,h2,h3⟩:=h;refine⟨h2,fun j d u l hd hu=>(h3 j d u hd hu).place fun sz n xs he=>?_⟩
  subst he;have:=List.all_eq_true.1 hn _ (List.mem_of_getElem? hd)
  simp[notEx] at this
 | undef=>exact absurd rfl hu
 | rptr cs off=>exact absurd rfl (hp _ _)
 | ex sz n xs=>simp[noEx] at hn
 | tup vs=>simp[noEx] at hn
 | _=>exact cellsR_one (l0:=L 0) rfl h (by intros;simp)
theorem fill_flat {l:Nat→Loc} {sz len:Nat} (hsz:0<sz):∀ (vs:List (Nat×V)) (cvs:List (Nat×Value)) (s:Nat) (arr:Array Value),vs.map (·.1)=List.range' s vs.length→cvs.map (·.1)=vs.map (·.1)→s+vs.length=len →
  arr.size=len*sz→(∀ (j:Nat) (x:Nat×V) (y:Nat×Value),vs[j]?=some x→cvs[j]?=some y→x.2.cells.length=sz∧y.2.cells.size=sz∧∀ (k:Nat) (d:V) (u:Value) (l:Loc),x.2.cells[k]?=some d→y.2.cells[k]?=some u→CR own β w l d u) →
  ∃ arr',Instr.fill (fun i=>some (i*sz,sz)) arr cvs=some arr'∧arr'.size=len*sz∧(∀ k,k<s*sz→arr'[k]?=arr[k]?) ∧
   ∀ (k:Nat) (d:V) (u:Value) (l:Loc),(vs.flatMap fun x=>x.2.cells)[k]?=some d→arr'[s*sz+k]?=some u→CR own β w l d u
 | [],cvs,s,arr,_,hk,_,hs,_=>by
  obtain rfl:cvs=[]:=by simpa using hk
  exact⟨arr,rfl,hs,fun _ _=>rfl,by simp⟩
 | (i,v)::vs,[],s,arr,_,hk,_,_,_=>by simp at hk
 | (i,v)::vs,(j,c)::cvs,s,arr,hr,hk,hl,hs,hp=>by
  simp only[List.map_cons,List.length_cons,List.range'_succ,List.cons.injEq] at hr hk;obtain⟨e1,hr⟩:=hr;obtain⟨e2,hk⟩:=hk;subst e1
  replace e2:=e2.symm
  subst e2;simp only[List.length_cons] at hl;obtain⟨h1,h2,h3⟩:=hp 0 _ _ rfl rfl;simp only at h1 h2 h3;have hfit0:i*sz+sz≤len*sz:=by
   have:=Nat.mul_le_mul_right sz (show i+1≤len by omega);rw[Nat.succ_mul] at this;exact this
  have hfit:i*sz+0+c.cells.toList.length≤arr.size:=by simp;omega
  obtain⟨g1,g2⟩:=foldl_set (i*sz) c.cells.toList 0 arr hfit;have hconv:c.cells.zipIdx.foldl (fun cs x=>cs.setIfInBounds (i*sz+x.2) x.1) arr=(c.cells.toList.zipIdx 0).foldl (fun cs x=>cs.setIfInBounds (i*sz+x.2) x.1) arr:=by
   rw[←Array.foldl_toList,Array.toList_zipIdx]
  obtain⟨arr',e1,e2,e3,e4⟩:=fill_flat (l:=l) (len:=len) hsz vs cvs (i+1) (c.cells.zipIdx.foldl (fun cs x=>cs.setIfInBounds (i*sz+x.2) x.1) arr) hr hk (by omega) (by rw[hconv,g1];exact hs) (fun j x y hx hy=>hp (j+1) x y (by simpa using hx) (by simpa using hy))
  refine⟨arr',?_,e2,fun k hk=>?_,fun k d u l hd hu=>?_⟩
  ·simp only[Instr.fill]
   rw[if_neg (by simp;omega)]
   exact e1
  ·rw[e3 k (by rw[Nat.succ_mul];omega),hconv,g2,if_neg (by omega)]
  ·simp only[List.flatMap_cons] at hd
   by_cases hks:k<sz
   ·rw[List.getElem?_append_left (by omega)] at hd
    rw[e3 _ (by rw[Nat.succ_mul];omega),hconv,g2,if_pos (by simp;omega)] at hu
    have:i*sz+k-(i*sz+0)=k:=by omega
    rw[this] at hu;exact h3 k d u l hd (by simpa using hu)
   ·rw[List.getElem?_append_right (by omega),h1] at hd
    refine e4 (k-sz) d u l hd ?_;rw[←hu];congr 1;rw[Nat.succ_mul];omega
theorem takes_all {f:St→Operand→Option (V×List (Place×V))}:∀ (l:List (Nat×Operand)) (σ:St) (vs:List (Nat×V)),takes f σ l=some (vs,[])→vs.length=l.length∧vs.map (·.1)=l.map (·.1)∧∀ (j:Nat) (x:Nat×Operand) (y:Nat×V),l[j]?=some x→vs[j]?=some y→f σ x.2=some (y.2,[])
 | [],σ,vs,h=>by simp only[takes] at h;injection h with h;injection h with h1 _;subst h1;simp
 | (i,x)::l,σ,vs,h=>by
  simp only[takes] at h;cases h1:f σ x with
  | none=>simp[h1] at h
  | some vp =>
   obtain⟨v,ps⟩:=vp;simp only[h1] at h;cases h2:takes f (setPlaces σ ps) l with
   | none=>simp[h2] at h
   | some vq =>
    obtain⟨us,qs⟩:=vq;simp only[h2] at h;injection h with h;injection h with e1 e2;subst e1;obtain⟨rfl,rfl⟩:=List.append_eq_nil_iff.1 e2;obtain⟨g1,g2,g3⟩:=takes_all l _ us h2;refine⟨by simp[g1],by simp[g2],fun j y z hy hz=>?_⟩
    cases j with
    | zero=>simp at hy hz;subst hy;subst hz;exact h1
    | succ j=>exact g3 j y z (by simpa using hy) (by simpa using hz)
theorem SR.deadB (h:SR own β w σ a.tmps):SR own β w {σ with heap:=σ.heap++[.dead]} a.tmps:=by
 have hb:∀ id,bcells (σ.heap++[.dead]) id=bcells σ.heap id:=fun id=>by
  unfold bcells;rcases Nat.lt_or_ge id σ.heap.length with hlt | hge
  ·rw[List.getElem?_append_left hlt]
  ·rw[List.getElem?_append_right hge,List.getElem?_eq_none hge]
   rcases Nat.eq_zero_or_pos (id-σ.heap.length) with h0 | h0
   ·rw[h0];rfl
   ·rw[List.getElem?_eq_none (by simp;omega)]
 refine⟨fun t=>?_,fun id cs hi=>h.heap.blk id cs (by rw[←hb];exact hi),fun b id hbk=>?_,h.heap.lt⟩
 ·have ht:=h.env t
  have lk:∀ p,look {σ with heap:=σ.heap++[.dead]} p=look σ p:=fun p=>by
   cases p with
   | slot x=>rfl
   | cell id off=>simp only[look];rw[hb]
  show ER own β w _ _ t (get σ.env t) _
  cases hv:get σ.env t with
  | lent p =>
   rw[hv] at ht;obtain⟨sz,n,xs,q1,q2⟩:=ht;exact⟨sz,n,xs,by rw[lk p];exact q1,q2⟩
  | xptr p i off =>
   rw[hv] at ht;obtain⟨sz,n,xs,b,len,cap,q1,q2⟩:=ht;exact⟨sz,n,xs,b,len,cap,by rw[lk p];exact q1,q2⟩
  | _=>rw[hv] at ht;exact ht
 ·obtain⟨e,cs,hc⟩:=h.heap.inv b id hbk
  exact⟨e,cs,by rw[hb];exact hc⟩
theorem SR.killB (h:SR own β w σ a.tmps):SR own β w {env:=σ.env.map (fun x=>(x.1,killCell x.2)),heap:=σ.heap} a.tmps:=by
 refine⟨fun u=>?_,h.heap⟩
 rw[get_map killCell rfl];have hu:=h.env u;cases hv:get σ.env u with
 | lent p =>
  cases p with
  | cell i j=>exact ER.undef _ _ _ _ _ _ _
  | slot t =>
   rw[hv] at hu;obtain⟨sz,n,xs,h1,h2⟩:=hu;refine⟨sz,n,xs,?_,h2⟩;simp only[look] at h1 ⊢;rw[get_map killCell rfl,h1];rfl
 | xptr p i off =>
  cases p with
  | cell i j=>exact ER.undef _ _ _ _ _ _ _
  | slot t =>
   rw[hv] at hu;obtain⟨sz,n,xs,b,len,cap,h1,h2⟩:=hu;refine⟨sz,n,xs,b,len,cap,?_,h2⟩;simp only[look] at h1 ⊢;rw[get_map killCell rfl,h1];rfl
 | _=>rw[hv] at hu;exact hu
theorem ok_buildRef {T:Types} (h:Hyp P T o own β w σ a) {t el:TypeId} {len:Nat} {parts:Array (Nat×Operand)} (ho:o.op=.buildSlice t len parts) (hu:P.underlying t=some (.slice el)) {e:Eff}
  (he:buildRef T σ el len parts.toList=some e):OpOk P o own β w σ a (apply σ o.dst e):=by
 unfold buildRef at he;split at he
 case h_2=>cases he
 rename_i vs ei htk hel;obtain⟨re⟩:=Row.of h.T hel;split at he
 case isFalse=>cases he
 rename_i hc;simp only[Bool.and_eq_true,decide_eq_true_eq,beq_iff_eq] at hc;obtain⟨⟨⟨⟨c1,c2⟩,c3⟩,c4⟩,c5⟩:=hc;injection he with he;subst he;obtain⟨t1,t2,t3⟩:=takes_all _ _ _ htk;have hlen:vs.length=len:=by have:=congrArg List.length c4;simpa using this
 have hcells:∀ x∈vs,x.2.cells.length=ei.size∧∀ y∈x.2.cells,okBelow (σ.heap.length+1) y=true:=fun x hx=>by
  have:=List.all_eq_true.1 c5 x hx
  simp only[Bool.and_eq_true,beq_iff_eq,List.all_eq_true] at this;exact this
 have hparts:(parts.map fun (j,x)=>(j,a.eval x)).toList=parts.toList.map fun x=>(x.1,a.eval x.2):=by simp
 obtain⟨arr,f1,f2,_,f4⟩:=fill_flat (own:=own) (β:=β) (w:=w) (l:=fun _=>.im) (len:=len) c1 vs (parts.toList.map fun x=>(x.1,a.eval x.2)) 0 ((Array.range (len*ei.size)).map (re.z.cells[· % re.z.cells.size]!))
  (by rw[hlen,←List.range_eq_range'];exact c4) (by rw[t2];simp) (by omega) (by simp) (fun j x y hx hy=>by
   rw[List.getElem?_map,Option.map_eq_some_iff] at hy;obtain⟨z,hz,rfl⟩:=hy;have ht:=t3 j z x hz hx;obtain⟨g1,g2⟩:=takeMap_nil h.sr ht;have hx2:=(hcells x (List.mem_of_getElem? hx)).1;obtain⟨g3,g4⟩:=g1.cellsR g2 (fun cs off hq=>by
    rw[hq] at ht;unfold takeMap at ht;split at ht
    ·split at ht<;>cases ht
    ·split at ht<;>cases ht
    ·split at ht<;>cases ht
    ·split at ht
     ·rename_i hp;injection ht with ht;injection ht with h1 _;rw[h1] at hp;simp[plainM] at hp
     ·cases ht) (fun hq=>by
    rw[hq] at ht;unfold takeMap at ht;split at ht
    ·split at ht<;>cases ht
    ·split at ht<;>cases ht
    ·split at ht<;>cases ht
    ·split at ht
     ·rename_i hp;injection ht with ht;injection ht with h1 _;rw[h1] at hp;simp[plainM] at hp
     ·cases ht)
   exact⟨hx2,by rw[g3];exact hx2,g4⟩)
 have hpos:¬ len*ei.size=0:=by
  intro hz;rcases Nat.mul_eq_zero.1 hz with hz | hz<;>omega
 have hrun:(execOp a.eval o).run P w=.ok (.value (.slice (some ⟨w.heap.size,0,none⟩) len len)) (w.alloc (.cells arr el)):=by
  have:=run_buildSlice (P:=P) w t el len (parts.map fun (j,x)=>(j,a.eval x)) arr re.info re.z hu re.hinfo re.hz (by rw[re.hsize];omega) (by rw[re.hsize];exact hpos) (by rw[re.hsize,hparts];exact f1)
  simp[execOp,ho,this]
 have hfl:(vs.flatMap fun x=>x.2.cells).length=len*ei.size:=by
  rw[←hlen];clear c4 c5 t1 t2 t3 htk f4 f1 hlen
  induction vs with
  | nil=>simp
  | cons x vs ih =>
   simp only[List.flatMap_cons,List.length_append,List.length_cons];rw[ih (fun y hy=>hcells y (by simp[hy])),(hcells x (by simp)).1,Nat.succ_mul];omega
 have hn:bcells (σ.heap++[B.dead]) σ.heap.length=none:=by unfold bcells;simp
 obtain⟨o1,β1,s1,st1,bx1,hβl,hol⟩:=h.sr.deadB.init (id:=σ.heap.length) (cs:=vs.flatMap fun x=>x.2.cells) (arr:=arr) (T:=el) (by simp) hn (by rw[hfl,f2]) (fun y hy=>by
   obtain⟨x,hx,hyx⟩:=List.mem_flatMap.1 hy;exact (hcells x hx).2 y hyx) (fun j d u hd hu=>f4 j d u _ hd (by simpa using hu))
 have hH:({σ with heap:=σ.heap++[.dead]}:St).heap.set σ.heap.length (.cells (vs.flatMap fun x=>x.2.cells))=σ.heap++[.cells (vs.flatMap fun x=>x.2.cells)]:=by simp
 rw[hH] at s1 bx1;have hbx:BX β β1 σ.heap (σ.heap++[.cells (vs.flatMap fun x=>x.2.cells)]):=by
  refine⟨by simp,fun id cs hi=>?_⟩
  have hlt:id<σ.heap.length:=bcells_lt hi;refine bx1.2 id cs ?_;simp only;unfold bcells at hi ⊢;rw[List.getElem?_append_left hlt];exact hi
 refine OpOk.value (v:=.ref (.arr len) σ.heap.length) (σ1:=setMem σ (.all (σ.heap++[.cells (vs.flatMap fun x=>x.2.cells)]))) hrun ⟨s1.killB,st1,hbx,rfl,rfl⟩ h.dst rfl ?_
 exact⟨⟨len,Nat.le_refl _,by rw[hβl]⟩,hol⟩
theorem ok_buildSlice {T:Types} {call:CallF} {cx:Cx} {fr:Nat} (h:Hyp P T o own β w σ a) {t:TypeId} {len:Nat} {parts:Array (Nat×Operand)} (ho:o.op=.buildSlice t len parts) {e:Eff}
  (he:eff T call cx fr o σ=some e):OpOk P o own β w σ a (apply σ o.dst e):=by
 simp only[eff,ho] at he;cases hk:kindOf T t<;>simp only[hk] at he
 ·cases he
 rename_i k;obtain⟨i,r,hki⟩:=kindOf_row h.T hk;cases htk:takes takeDat σ parts.toList<;>simp only[htk] at he
 ·cases k<;>simp only at he<;>try (cases he;done)
  rename_i el;exact ok_buildRef h ho (kind_slice r hki) he
 rename_i vp;obtain⟨vs,ps⟩:=vp;cases k<;>simp only at he<;>try (cases he;done)
 rename_i el;have hu:=kind_slice r hki;cases hel:T el<;>simp only[hel] at he
 ·cases he
 rename_i ei;obtain⟨re⟩:=Row.of h.T hel;split at he
 ·rename_i hc
  simp only[Bool.and_eq_true,decide_eq_true_eq,beq_iff_eq] at hc;obtain⟨⟨⟨⟨c1,c2⟩,c3⟩,c4⟩,c5⟩:=hc;injection he with he;subst he;have hvs:∀ y∈vs,y.1<len∧y.2.cells.length=ei.size:=by
   intro y hy;have:=List.all_eq_true.1 c3 y hy
   simpa using this
  obtain⟨o1,n1,p1⟩:=takesDat_ok (a:=a) ei.size len parts.toList own σ vs ps h.sr htk hvs;have hparts:(parts.map fun (j,x)=>(j,a.eval x)).toList=parts.toList.map fun x=>(x.1,a.eval x.2):=by simp
  obtain⟨arr,f1,f2,f3,f4⟩:=fill_lay vs _ (List.replicate len ei.zero) ((Array.range (len*ei.size)).map (re.z.cells[· % re.z.cells.size]!)) p1 (by simp) (by simp) (lay_zeros re o1 w len c2)
  by_cases hlen:len=0
  ·subst hlen
   have hrun:(execOp a.eval o).run P w=.ok (.value (.slice (some ⟨w.heap.size,0,none⟩) 0 0)) (w.alloc (.cells arr el)):=by
    have hvs0:vs=[]:=by
     cases vs with
     | nil=>rfl
     | cons y ys=>exact absurd (hvs y (by simp)).1 (by omega)
    have hp0:parts=#[]:=by
     have:=takes_keys htk
     rw[hvs0] at this;simp at this;exact this
    subst hp0;have hz0:∀ g:Nat→Value,(Array.range (0*ei.size)).map g=#[]:=fun g=>by rw[Nat.zero_mul];simp
    rw[hz0] at f1;simp only[List.map_nil,Instr.fill] at f1;injection f1 with f1;subst f1;simp[execOp,ho,Instr.buildSlice,run_underlying hu,run_sizeOf_row re,Instr.fill,newRow]
    congr 2
    exact Array.eq_empty_of_size_eq_zero (by simp)
   obtain⟨o2,s1,s2,s3,_⟩:=n1.sr.fresh (w':=w.alloc (.cells arr el)) (xs:=elems ei.zero 0 vs) (cap:=0) rfl rfl rfl rfl (Nat.le_refl _) (by rw[elems,f4];exact Nat.le_refl _) f2 f3
   rw[show (elems ei.zero 0 vs).length=0 from f4] at s3;exact OpOk.value hrun ⟨s1,n1.stay.trans s2,n1.bx,rfl,rfl⟩ h.dst rfl s3
  ·have hpos:¬ len*ei.size=0:=by
    intro hz;rcases Nat.mul_eq_zero.1 hz with hz | hz<;>omega
   have hrun:(execOp a.eval o).run P w=.ok (.value (.slice (some ⟨w.heap.size,0,none⟩) len len)) (w.alloc (.cells arr el)):=by
    have:=run_buildSlice (P:=P) w t el len (parts.map fun (j,x)=>(j,a.eval x)) arr re.info re.z hu re.hinfo re.hz (by rw[re.hsize];omega) (by rw[re.hsize];exact hpos) (by rw[re.hsize,hparts];exact f1)
    simp[execOp,ho,this]
   obtain⟨o2,s1,s2,s3,_⟩:=n1.sr.fresh (w':=w.alloc (.cells arr el)) (xs:=elems ei.zero len vs) (cap:=len) rfl rfl rfl rfl (Nat.le_refl _) (by rw[elems,f4];exact Nat.le_refl _) f2 f3
   rw[show (elems ei.zero len vs).length=len from f4] at s3;exact OpOk.value hrun ⟨s1,n1.stay.trans s2,n1.bx,rfl,rfl⟩ h.dst rfl s3
 ·cases he
theorem ok_makeSlice {T:Types} {call:CallF} {cx:Cx} {fr:Nat} (h:Hyp P T o own β w σ a) {t:TypeId} {l c:Operand} (ho:o.op=.makeSlice t l c) {e:Eff}
  (he:eff T call cx fr o σ=some e):OpOk P o own β w σ a (apply σ o.dst e):=by
 simp only[eff,ho] at he;split at he
 ·rename_i el kl ln kc cn hk hl hc
  obtain⟨i,r,hki⟩:=kindOf_row h.T hk;have hu:=kind_slice r hki;cases hel:T el<;>simp only[hel] at he
  ·cases he
  rename_i ei;obtain⟨re⟩:=Row.of h.T hel;split at he
  ·rename_i hcnd
   obtain⟨c1,c2,c3,c4,c5,c6,c7⟩:=hcnd;injection he with he;subst he;have hb:cn.toNat*ei.bytes≤2 ^ 47:=of_decide_eq_true c3;have hcc:((cn.toNat:Nat):Int)=cn:=Int.toNat_of_nonneg (by omega)
   have hbytes:(re.info.bytes:Int)*cn≤281474976710656:=by
    rw[re.hbytes,←hcc];have:((ei.bytes*cn.toNat:Nat):Int)≤281474976710656:=by rw[Nat.mul_comm];omega
    simpa using this
   have hrun:(execOp a.eval o).run P w=.ok (.value (.slice (some ⟨w.heap.size,0,none⟩) ln.toNat cn.toNat)) (w.alloc (.cells (madeCells re.z.cells (cn.toNat*re.info.size)) el)):=by
    have:=run_make (P:=P) w t el re.info re.z hu re.hinfo re.hz kl kc ln cn c1 c2 hbytes (by omega)
    simp[execOp,ho,opd_int h.sr hl,opd_int h.sr hc,this]
   rw[re.hsize] at hrun;have hlay:Lay own w ei.size (List.replicate ln.toNat ei.zero) (madeCells re.z.cells (cn.toNat*ei.size)):=by
    intro k y hy;obtain⟨hk',rfl⟩:=rep_get hy;refine⟨re.hzl,fun j d u hd hu'=>?_⟩
    have hj:j<ei.size:=by rw[←re.hzl];exact (List.getElem?_eq_some_iff.1 hd).1
    have hlt:k*ei.size+j<cn.toNat*ei.size:=idx_lt (by omega) hj
    have hz:=lay_zeros re own w cn.toNat c5 k ei.zero (get_rep _ (by omega))
    refine hz.2 j d u hd ?_;rw[←hu'];simp[madeCells]
   obtain⟨o2,s1,s2,s3,_⟩:=h.sr.fresh (w':=w.alloc (.cells (madeCells re.z.cells (cn.toNat*ei.size)) el)) (xs:=List.replicate ln.toNat ei.zero) (cap:=cn.toNat) rfl rfl rfl rfl (Nat.le_refl _) (by simp;omega)
    (by rw[size_madeCells]) hlay
   rw[List.length_replicate] at s3;exact OpOk.value hrun ⟨s1,s2,BX.refl _ _,rfl,rfl⟩ h.dst rfl s3
  ·cases he
 ·cases he
end
end Go.Vm
end
section
namespace Go.Vm
open Go
section
variable {P:Program} {o:Oper} {own:Own} {β:Nat→Nat} {w:World} {σ:St} {a:Act}
theorem numOf_eval (h:SR own β w σ a.tmps) {x:Option Operand} {d n:Int} (hn:numOf σ x d=some n) :
  (x=none∧n=d)∨∃ y k,x=some y∧a.eval y=.int k n:=by
 unfold numOf at hn;cases x with
 | none=>left;simp at hn;exact⟨rfl,hn.symm⟩
 | some y =>
  right
  simp only at hn;cases hy:opd σ.env y<;>simp only[hy] at hn<;>try (cases hn;done)
  injection hn with hn;subst hn;exact⟨y,_,rfl,opd_int h hy⟩
theorem run_bound {k:IntKind} {i:Int} {y:Nat} {code:BoundsCode} (h0:0≤i) (h1:i≤y) (w:World):(Instr.sliceBound (.int k i) y code).run P w=.ok i.toNat w:=by
 simp[Instr.sliceBound,asIntOf,h0,h1]
theorem run_bounds2 (h:SR own β w σ a.tmps) {lo hi:Option Operand} {l u:Int} {len cap:Nat} (hl:numOf σ lo 0=some l) (hu:numOf σ hi len=some u) (h0:0≤l) (h1:l≤u) (h2:u≤len) (hc:len≤cap) (w':World) :
  (Instr.sliceBounds true len cap (lo.map a.eval) (hi.map a.eval) none).run P w'=.ok (l.toNat,u.toNat,cap) w':=by
 rcases numOf_eval h hl with ⟨rfl,rfl⟩ | ⟨x,k,rfl,hx⟩<;>rcases numOf_eval h hu with ⟨rfl,rfl⟩ | ⟨y,k',rfl,hy⟩
 ·simp[Instr.sliceBounds]
 ·simp[Instr.sliceBounds,hy,run_bound (k:=k') (show (0:Int)≤u by omega) (show u≤(cap:Int) by omega)]
 ·simp[Instr.sliceBounds,hx,run_bound (k:=k) h0 (show l≤((len:Nat):Int) by omega)]
 ·have e:((u.toNat:Nat):Int)=u:=Int.toNat_of_nonneg (by omega)
  simp[Instr.sliceBounds,hx,hy,run_bound (k:=k') (show (0:Int)≤u by omega) (show u≤(cap:Int) by omega),run_bound (k:=k) h0 (show l≤((u.toNat:Nat):Int) by omega)]
theorem run_bounds3 (h:SR own β w σ a.tmps) {lo:Option Operand} {x y:Operand} {l:Int} {len cap:Nat} (hl:numOf σ lo 0=some l) (hx:numOf σ (some x) (len:Int)=some l) (hy:numOf σ (some y) 0=some l) (h0:0≤l) (h2:l≤len) (hc:len≤cap) (w':World) :
  (Instr.sliceBounds true len cap (lo.map a.eval) (some (a.eval x)) (some (a.eval y))).run P w'=.ok (l.toNat,l.toNat,l.toNat) w':=by
 have e:((l.toNat:Nat):Int)=l:=Int.toNat_of_nonneg h0;have hx':∃ k,a.eval x=.int k l:=by
  rcases numOf_eval h hx with ⟨h1,_⟩ | ⟨x',k',h1,h2⟩
  ·cases h1
  ·injection h1 with h1;subst h1;exact⟨k',h2⟩
 have hy':∃ k,a.eval y=.int k l:=by
  rcases numOf_eval h hy with ⟨h1,_⟩ | ⟨x',k',h1,h2⟩
  ·cases h1
  ·injection h1 with h1;subst h1;exact⟨k',h2⟩
 obtain⟨kx,hx'⟩:=hx';obtain⟨ky,hy'⟩:=hy';rcases numOf_eval h hl with ⟨rfl,rfl⟩ | ⟨z,k,rfl,hz⟩
 ·simp[Instr.sliceBounds,hx',hy',run_bound (k:=ky) (show (0:Int)≤0 by omega) (show (0:Int)≤(cap:Int) by omega),run_bound (k:=kx) (show (0:Int)≤0 by omega) (show (0:Int)≤((0:Nat):Int) by omega)]
 ·simp[Instr.sliceBounds,hx',hy',hz,run_bound (k:=ky) h0 (show l≤(cap:Int) by omega),run_bound (k:=kx) h0 (show l≤((l.toNat:Nat):Int) by omega),run_bound (k:=k) h0 (show l≤((l.toNat:Nat):Int) by omega)]
theorem ok_slice {T:Types} {call:CallF} {cx:Cx} {fr:Nat} (h:Hyp P T o own β w σ a) {t:TypeId} {x:Operand} {lo hi mx:Option Operand} (ho:o.op=.slice t x lo hi mx) {e:Eff}
  (he:eff T call cx fr o σ=some e):OpOk P o own β w σ a (apply σ o.dst e):=by
 have hsr:=h.sr;simp only[eff,ho] at he;unfold sliceAt at he;cases hk:kindOf T t<;>simp only[hk] at he
 ·cases he
 rename_i k;cases k<;>simp only at he<;>try (cases he;done)
 rename_i el;obtain⟨i,r,hki⟩:=kindOf_row h.T hk;have hu:=kind_slice r hki;cases hx:opd σ.env x<;>simp only[hx] at he<;>try (cases he;done)
 rename_i n xs;split at he
 ·rename_i ei l u hel hl hhi
  obtain⟨re⟩:=Row.of h.T hel;split at he
  ·rename_i hc
   obtain⟨c1,c2,c3,c4⟩:=hc;have hall:∀ y∈xs,y.cells.length=ei.size:=fun y hy=>by simpa using List.all_eq_true.1 c4 y hy
   have hf:=opd_sl hsr hx;obtain⟨base,cap,hval,hcap⟩:∃ base cap,a.eval x=.slice base xs.length cap∧xs.length≤cap:=by
    generalize a.eval x=c at hf;cases hf with
    | nil=>exact⟨none,0,rfl,Nat.le_refl _⟩
    | none aa cap=>exact⟨some aa,cap,rfl,Nat.zero_le _⟩
    | sl b oo cap sz _ cv him hcap hcells hfr=>exact⟨_,cap,rfl,hcap⟩
   cases mx with
   | none =>
    simp only at he;injection he with he;subst he;have hb:=run_bounds2 (P:=P) hsr hl hhi c1 c2 c3 hcap w;have hrun:(execOp a.eval o).run P w=.ok (.value (.slice (if cap=l.toNat then base else base.map (·.add (l.toNat*ei.size))) (u.toNat-l.toNat) (cap-l.toNat))) w:=by
     simp[execOp,ho,hval,Instr.sliceAt,run_underlying hu,Instr.slice,hb,run_sizeOf_row re]
    refine OpOk.value hrun (Nxt.refl hsr) h.dst rfl ?_;have hl':l.toNat≤u.toNat:=by omega
    have hu':u.toNat≤xs.length:=by omega
    have hlen:((xs.drop l.toNat).take (u.toNat-l.toNat)).length=u.toNat-l.toNat:=by simp;omega
    show FR own w _ _
    rw[hval] at hf;by_cases hemp:u.toNat-l.toNat=0
    ·rw[hemp]
     simp only[List.take_zero];generalize hbb:base=bb at hf;cases hf with
     | nil =>
      subst hbb;by_cases hc0:0=l.toNat
      ·rw[if_pos hc0,←hc0];exact .nil
      ·simp at hu';omega
     | none aa cap' =>
      subst hbb;split<;>exact .none _ _
     | sl b oo cap' sz _ cv him hcap' hcells hfr =>
      subst hbb;split<;>exact .none _ _
    ·generalize hbb:base=bb at hf
     cases hf with
     | nil=>simp at hu';omega
     | none aa cap'=>simp at hu';omega
     | sl b oo cap' sz _ cv him hcap' hcells hfr =>
      subst hbb;have hne:¬ cap=l.toNat:=by omega
      rw[if_neg hne];have hsz:sz=ei.size:=by
       have hx0:xs[0]?=some (xs[0]'(by omega)):=List.getElem?_eq_getElem _
       rw[←(hcells 0 _ hx0).1];exact hall _ (List.mem_of_getElem? hx0)
      simp only[Option.map_some,Addr.add_eq];have:=FR.sl (own:=own) (w:=w) b (oo+l.toNat*ei.size) (cap-l.toNat) sz ((xs.drop l.toNat).take (u.toNat-l.toNat)) (fun i j=>cv (l.toNat+i) j) him (by rw[hlen];omega)
       (fun i y hy=>by
        obtain⟨_,hy'⟩:=take_drop_get hy;obtain⟨g1,g2⟩:=hcells _ y hy';refine⟨g1,fun j hj=>?_⟩
        have:=g2 j hj
        rw[←this]
        congr 2
        rw[hsz,Nat.add_mul];omega)
       (fun i y j d hy hd=>by
        obtain⟨_,hy'⟩:=take_drop_get hy;exact hfr _ y j d hy' hd)
      rw[hlen] at this;exact this
   | some m =>
    simp only at he;split at he
    ·rename_i hm
     obtain⟨m1,m2,m3⟩:=hm;injection he with he;subst he;subst m3;cases hi with
     | none=>simp at m1
     | some y =>
     have hb:=run_bounds3 (P:=P) hsr hl hhi m2 c1 c3 hcap w;have hrun:(execOp a.eval o).run P w=.ok (.value (.slice base 0 0)) w:=by
      simp[execOp,ho,hval,Instr.sliceAt,run_underlying hu,Instr.slice,hb,run_sizeOf_row re]
     refine OpOk.value hrun (Nxt.refl hsr) h.dst rfl ?_
     show EXR own w (.res 0 0) ei.size n [] _
     rw[hval] at hf;generalize hbb:base=bb at hf ⊢;cases hf with
     | nil=>exact .inl ⟨rfl,rfl,rfl⟩
     | none aa cap'=>exact .inr (.inl ⟨rfl,rfl,_,rfl⟩)
     | sl b oo cap' sz _ cv him hcap' hcells hfr=>exact .inr (.inl ⟨rfl,rfl,_,rfl⟩)
    ·cases he
  ·cases he
 ·cases he
theorem run_part {t:Nat} {i:TI} (r:Row P t i) {arr:Array Value} {off:Nat} (hfit:off+i.size≤arr.size) (w:World) :
  (part t arr off).run P w=.ok (mkV i ((arr.toList.drop off).take i.size)) w:=by
 unfold part mkV;simp only[Sem.run_bind,r.isAgg,Result.andThen_ok];cases hk:i.kind.isAgg
 ·have h1:=r.one hk
  have hlt:off<arr.size:=by omega
  simp only[Bool.false_eq_true,if_false];rw[Array.getElem?_eq_getElem hlt];simp only[Sem.run_pure]
  congr 1
  rw[h1,List.getD_eq_getElem?_getD,List.getElem?_take_of_lt (by omega),List.getElem?_drop]
  simp[hlt]
 ·simp only[if_true,Sem.run_bind,run_sizeOf_row r,Result.andThen_ok,Sem.run_pure]
  congr 2
  apply Array.ext'
  simp[Array.toList_extract]
theorem OpOk.part {T:Types} (h:Hyp P T o own β w σ a) {x:Operand} {cs:List V} (hx:opd σ.env x=.agg cs) (hd:cs.all cellDat=true) {t:Nat} {i:TI} (r:Row P t i) {off:Nat} {v:V}
  (ha:asType i ((cs.drop off).take i.size)=some v) (hrun:∀ arr,a.eval x=.agg arr→(execOp a.eval o).run P w=((Go.part t arr off).run P w).andThen fun c w'=>.ok (.value c) w')
  (hpos:0<i.size):OpOk P o own β w σ a (put σ o.dst v):=by
 obtain⟨arr,q1,q2,q3⟩:=opd_agg h.sr hx hd;have hl:=asType_cells ha;have hfit:off+i.size≤cs.length:=take_drop_len hl hpos;have hr:=hrun arr q1;rw[run_part r (by omega) w] at hr
 have hlc:((arr.toList.drop off).take i.size).length=i.size:=by simp;omega
 have hget:∀ (j:Nat) (d:V) (c:Value),((cs.drop off).take i.size)[j]?=some d→((arr.toList.drop off).take i.size)[j]?=some c→FR own w d c:=by
  intro j d c hd' hc;obtain⟨_,e1⟩:=take_drop_get hd';obtain⟨_,e2⟩:=take_drop_get hc;exact q3 _ d c e1 (by simpa using e2)
 have hvr:=asType_VR (β:=β) (L:=fun _=>.res 0 0) r ha hlc (fun j d c hd' hc=>CR_of_FR (hget j d c hd' hc))
 obtain⟨hw,hn⟩:=asType_plain ha (fun d hd'=>by
  obtain⟨j,hj⟩:=List.getElem?_of_mem hd';obtain⟨_,e1⟩:=take_drop_get hj;have:=List.all_eq_true.1 hd d (List.mem_of_getElem? e1)
  cases d<;>first | rfl | (simp[cellDat] at this))
 exact OpOk.value hr (Nxt.refl h.sr) h.dst hw (TR_of_VR hvr hn)
theorem ok_field {T:Types} {call:CallF} {cx:Cx} {fr:Nat} (h:Hyp P T o own β w σ a) {t:TypeId} {x:Operand} {f:Nat} (ho:o.op=.field t x f) {e:Eff}
  (he:eff T call cx fr o σ=some e):OpOk P o own β w σ a (apply σ o.dst e):=by
 simp only[eff,ho] at he;split at he
 ·rename_i gs cs hk hx
  obtain⟨i,r,hki⟩:=kindOf_row h.T hk;obtain⟨fields,hu,hf⟩:=kind_struct r hki;cases hg:gs[f]?<;>simp only[hg] at he
  ·cases he
  rename_i g;obtain⟨off,ft⟩:=g;simp only at he;cases hft:T ft<;>simp only[hft] at he
  ·cases he
  rename_i fi;obtain⟨rf⟩:=Row.of h.T hft;obtain⟨fd,h1,h2,h3⟩:=fieldsB_get hf f off ft hg;have h1':fields[f]?=some fd:=by simpa using h1
  split at he
  ·rename_i hc
   rw[Option.map_eq_some_iff] at he;obtain⟨v,hv,rfl⟩:=he;refine OpOk.part h hx hc.1 rf hv (fun arr harr=>?_) hc.2
   simp only[execOp,ho,harr,Instr.field,Sem.run_bind,run_underlying hu,Result.andThen_ok,h1',asAgg,Sem.run_pure,h2,h3]
  ·cases he
 ·cases he
end
end Go.Vm
end
section
namespace Go.Vm
open Go
section
variable {P:Program} {o:Oper} {own:Own} {β:Nat→Nat} {w:World} {σ:St} {a:Act}
theorem ok_index {T:Types} {call:CallF} {cx:Cx} {fr:Nat} (h:Hyp P T o own β w σ a) {t:TypeId} {x k:Operand} (ho:o.op=.index t x k) {e:Eff}
  (he:eff T call cx fr o σ=some e):OpOk P o own β w σ a (apply σ o.dst e):=by
 simp only[eff,ho] at he;split at he
 ·rename_i i cs kk kn hT hx hk
  obtain⟨r⟩:=Row.of h.T hT;have hke:=opd_int h.sr hk;split at he
  ·rename_i n el hki
   have hu:=kind_array r hki;cases hel:T el<;>simp only[hel] at he
   ·cases he
   rename_i ei;obtain⟨re⟩:=Row.of h.T hel;split at he
   ·rename_i hc
    rw[Option.map_eq_some_iff] at he;obtain⟨v,hv,rfl⟩:=he;refine OpOk.part h hx hc.2.2.1 re hv (fun arr harr=>?_) hc.2.2.2
    simp[execOp,ho,harr,hke,Instr.index,asIntOf,run_underlying hu,hc.1,hc.2.1,run_sizeOf_row re]
   ·cases he
  ·cases he
 ·rename_i i s kk kn hT hx hk
  obtain⟨r⟩:=Row.of h.T hT;have hke:=opd_int h.sr hk;have hxe:=opd_str h.sr hx;split at he
  ·rename_i hki
   have hkk:=r.hkind;rw[hki] at hkk;have hd:r.d=.string:=by cases hd:r.d<;>simp[hd,kindB] at hkk ⊢
   have hu:=r.hd;rw[hd] at hu;split at he
   ·rename_i b hb
    injection he with he;subst he;exact OpOk.plain h (by simp[execOp,ho,hxe,hke,Instr.index,asIntOf,run_underlying hu,hb]) rfl (fun _=>.int _ _) rfl
   ·cases he
  ·cases he
 ·cases he
theorem run_extract {o:Oper} {x:Operand} {j:Nat} (ho:o.op=.extract x j) {arr:Array Value} (hx:a.eval x=.tuple arr) {c:Value} (hc:arr[j]?=some c) (w:World) :
  (execOp a.eval o).run P w=.ok (.value c) w:=by
 simp[execOp,ho,hx,Instr.extract,hc]
theorem noEx_of_dat {v:V} (h:v.dat=true):noEx v=true:=by
 cases v<;>first
  | rfl
  | (simp[V.dat,cellDat] at h;done)
  | exact noEx_dat h
theorem isWay_of_dat {v:V} (h:v.dat=true):isWay v=false:=by
 cases v<;>first
  | rfl
  | (simp[V.dat,cellDat] at h;done)
theorem run_builtin {b:Builtin} {c:Call} (ho:o.op=.call c) (hb:c.callee=.builtin b) (w:World) :
  ∃ cs,(execOp a.eval o).run P w=(builtin b c.argTypes o.type cs (c.args.map a.eval)).run P w:=by
 simp only[execOp,ho,resolve,hb,Sem.run_bind,Sem.run_pure,Result.andThen_ok,invoke];exact⟨_,rfl⟩
theorem content_shape (h:SR own β w σ a.tmps) {x:Operand} {n:Bool} {xs:List V} (hc:content σ (opd σ.env x)=some (n,xs)) :
  ∃ b cap,a.eval x=.slice b xs.length cap∧(n=true↔b=none):=by
 have viaEx:∀ l sz,EXR own w l sz n xs (a.eval x)→∃ b cap,a.eval x=.slice b xs.length cap∧(n=true↔b=none):=by
  rintro l sz (⟨rfl,rfl,e⟩ | ⟨rfl,rfl,aa,e⟩ | ⟨rfl,b,cap,T',arr,e,_⟩)
  ·exact⟨_,_,e,by simp⟩
  ·exact⟨_,_,e,by simp⟩
  ·exact⟨_,_,e,by simp⟩
 cases hv:opd σ.env x<;>simp only[hv,content] at hc<;>try (cases hc;done)
 ·injection hc with hc;injection hc with h1 h2;subst h1;subst h2
  have:=opd_sl h hv
  generalize a.eval x=c at this;cases this
  ·exact⟨_,_,rfl,by simp⟩
  ·exact⟨_,_,rfl,by simp⟩
  ·exact⟨_,_,rfl,by simp⟩
 ·injection hc with hc;injection hc with h1 h2;subst h1;subst h2
  have:=opd_TR h x (by rw[hv];rfl)
  rw[hv] at this;exact viaEx _ _ this
 ·rename_i p
  obtain⟨sz,m,ys,q1,q2⟩:=opd_lent h hv;simp only[q1] at hc;injection hc with hc;injection hc with h1 h2;subst h1;subst h2;obtain⟨c0,g1,g2⟩:=h.at_ q1;rw[q2] at g1;injection g1 with g1;rw[←g1] at g2;exact viaEx _ _ g2
theorem run_objMap {r:Nat} {es:Array MapEntry} {n:Nat} (hb:w.heap[r]?=some (.map es n)):(getObj r).run P w=.ok (.map es n) w:=by simp[getObj,Sem.run,hb]
theorem mapView_ok (h:SR own β w σ a.tmps) {x:Operand} {ks vs:List V} (hm:mapView σ (opd σ.env x)=some (ks,vs)) :
  (a.eval x=.map none∧ks=[]∧vs=[])∨∃ id,opd σ.env x=.ref .map id∧bcells σ.heap id=some [.mp ks vs]∧a.eval x=.map (some (β id))∧own (β id)=.blk id∧∃ o,w.heap[β id]?=some o∧OR own β w id (.mp ks vs) o:=by
 unfold mapView at hm;split at hm
 ·rename_i hv
  injection hm with hm;injection hm with h1 h2;exact .inl ⟨opd_nilm h hv,h1.symm,h2.symm⟩
 ·rename_i id hv
  obtain⟨q1,q2⟩:=opd_ref h hv;split at hm
  ·rename_i ks' vs' hb
   injection hm with hm;injection hm with h1 h2;subst h1;subst h2;obtain⟨g1,o,g2,g3⟩:=(h.heap.blk id _ hb).spec rfl;exact .inr ⟨id,hv,hb,q1,q2,o,g2,g3⟩
  ·cases hm
 ·cases hm
theorem kind_map {t:TypeId} {i:TI} (r:Row P t i) {k e:Nat} (hk:i.kind=.map k e):P.underlying t=some (.map k e):=by
 have hkk:=r.hkind;rw[hk] at hkk;have hd:=r.hd;cases hdd:r.d<;>simp[hdd,kindB] at hkk
 rw[hd,hdd,hkk.1,hkk.2]
theorem ok_len {T:Types} (h:Hyp P T o own β w σ a) {c:Call} (ho:o.op=.call c) (hb:c.callee=.builtin .len) {e:Eff}
  (he:lenAt T σ c=some e):OpOk P o own β w σ a (apply σ o.dst e):=by
 unfold lenAt at he;split at he
 ·rename_i x t hx ht
  have hx':c.args=#[x]:=by rw[←Array.toList_inj];simpa using hx
  have ht':c.argTypes=#[t]:=by rw[←Array.toList_inj];simpa using ht
  obtain⟨_,hrun⟩:=run_builtin (P:=P) (a:=a) ho hb w;simp only[hx',ht',builtin] at hrun;split at he
  ·rename_i hk
   obtain⟨i,r,hki⟩:=kindOf_row h.T hk;have hkk:=r.hkind;rw[hki] at hkk;have hd:r.d=.string:=by cases hd:r.d<;>simp[hd,kindB] at hkk ⊢
   have hu:=r.hd;rw[hd] at hu;split at he
   ·rename_i s hs
    injection he with he;subst he;have hxe:=opd_str h.sr hs;refine OpOk.plain h ?_ rfl (fun _=>.int _ _) rfl
    rw[hrun];simp[Builtin.len_,run_underlying hu,hxe,goInt]
   ·cases he
  ·rename_i n el hk
   obtain⟨i,r,hki⟩:=kindOf_row h.T hk;have hu:=kind_array r hki;injection he with he;subst he;refine OpOk.plain h ?_ rfl (fun _=>.int _ _) rfl
   rw[hrun];simp[Builtin.len_,run_underlying hu,goInt]
  ·rename_i el hk
   obtain⟨i,r,hki⟩:=kindOf_row h.T hk;have hu:=kind_slice r hki;cases hl:lenV σ (opd σ.env x) with
   | none=>simp[hl] at he
   | some n =>
    simp only[hl] at he;injection he with he;subst he;refine OpOk.plain h ?_ rfl (fun _=>.int _ _) rfl
    rw[hrun];have viaC:∀ b xs,content σ (opd σ.env x)=some (b,xs)→xs.length=n→(Builtin.len_ #[t] o.type #[a.eval x]).run P w=.ok (.int .i64 n) w:=fun b xs hc hn=>by
     obtain⟨b,cap,hxe,_⟩:=content_shape h.sr hc;simp[Builtin.len_,run_underlying hu,hxe,goInt,hn]
    have key:(Builtin.len_ #[t] o.type #[a.eval x]).run P w=.ok (.int .i64 n) w:=by
     unfold lenV at hl;split at hl
     ·rename_i m id hv
      injection hl with hl;subst hl;obtain⟨⟨cap,_,hxe⟩,_⟩:=opd_ref h.sr hv;simp[Builtin.len_,run_underlying hu,hxe,goInt]
     ·rw[Option.map_eq_some_iff] at hl
      obtain⟨⟨b,xs⟩,h1,h2⟩:=hl;exact viaC b xs h1 h2
    simp[key]
  ·rename_i kt et hk
   obtain⟨i,r,hki⟩:=kindOf_row h.T hk;have hu:=kind_map r hki;split at he
   ·rename_i ks vs hc
    injection he with he;subst he;refine OpOk.plain h ?_ rfl (fun _=>.int _ _) rfl
    rw[hrun];rcases mapView_ok h.sr hc with ⟨hxe,rfl,rfl⟩ | ⟨id,_,_,hxe,_,o,g2,es,rfl,g3,_⟩
    ·simp[Builtin.len_,run_underlying hu,hxe,goInt]
    ·simp[Builtin.len_,run_underlying hu,hxe,goInt,run_objMap g2,g3]
   ·cases he
  ·cases he
 ·cases he
theorem ok_mm {T:Types} (h:Hyp P T o own β w σ a) {c:Call} (ho:o.op=.call c) {big:Bool} (hb:c.callee=.builtin (if big then .max else .min)) {e:Eff}
  (he:mmAt big σ c=some e):OpOk P o own β w σ a (apply σ o.dst e):=by
 unfold mmAt at he;split at he
 ·rename_i x y hx
  have hx':c.args=#[x,y]:=by rw[←Array.toList_inj];simpa using hx
  obtain⟨_,hrun⟩:=run_builtin (P:=P) (a:=a) ho hb w;split at he
  ·rename_i k m k' n hm hn
   injection he with he;subst he;have h1:=opd_int h.sr hm;have h2:=opd_int h.sr hn;refine OpOk.plain h ?_ rfl (fun _=>.int _ _) rfl
   rw[hrun];cases big<;>simp[builtin,hx',Builtin.max_,Builtin.min_,h1,h2,Builtin.max2,Builtin.min2]
  ·cases he
 ·cases he
end
end Go.Vm
end
section
namespace Go.Vm
open Go
def leafB:TK→V→Value→Bool
 | .bool,.bool a,.bool b=>a==b
 | .int k,.int k1 a,.int k2 b=>decide (k1=k∧k2=k∧a=b)
 | .str,.str a,.string b=>decide (a=b)
 | _,_,_=>false
def Agree (ks:List TK) (as:List V) (xs:List Value):Prop:=as.length=ks.length∧xs.length=ks.length∧∀ (j:Nat) (k:TK) (a:V) (x:Value),ks[j]?=some k→as[j]?=some a→xs[j]?=some x→leafB k a x=true
theorem Agree.drop {ks ks':List TK} {as:List V} {xs:List Value} (h:Agree (ks++ks') as xs):Agree ks' (as.drop ks.length) (xs.drop ks.length):=by
 obtain⟨h1,h2,h3⟩:=h;refine⟨by simp[h1],by simp[h2],fun j k a x hk ha hx=>?_⟩
 rw[List.getElem?_drop] at ha hx;exact h3 (ks.length+j) k a x (by rw[List.getElem?_append_right (by omega)];simpa using hk) ha hx
theorem Agree.take {ks ks':List TK} {as:List V} {xs:List Value} (h:Agree (ks++ks') as xs):Agree ks (as.take ks.length) (xs.take ks.length):=by
 obtain⟨h1,h2,h3⟩:=h;refine⟨by simp[h1],by simp[h2],fun j k a x hk ha hx=>?_⟩
 have hj:j<ks.length:=(List.getElem?_eq_some_iff.1 hk).1;rw[List.getElem?_take_of_lt hj] at ha hx;exact h3 j k a x (by rw[List.getElem?_append_left hj];exact hk) ha hx
theorem cellsEqv_split:∀ (n:Nat) (as bs:List V),as.length=bs.length→cellsEqv as bs=(cellsEqv (as.take n) (bs.take n)&&cellsEqv (as.drop n) (bs.drop n))
 | 0,as,bs,_=>by simp[cellsEqv]
 | n+1,[],[],_=>by simp[cellsEqv]
 | n+1,a::as,b::bs,h=>by
  simp only[List.take_succ_cons,List.drop_succ_cons,cellsEqv];rw[cellsEqv_split n as bs (by simpa using h),Bool.and_assoc]
 | n+1,[],b::bs,h=>by simp at h
 | n+1,a::as,[],h=>by simp at h
section
variable {P:Program} (w:World)
theorem run_part_leaves {d:Nat} {e:TypeId} {ks:List TK} (hl:leavesP P d e=some ks) (hsz:P.cellsOf e=ks.length) {off:Nat} {xs:Array Value} {as:List V}
  (ha:Agree ks as ((xs.toList.drop off).take ks.length)) :
  ∃ a,(part e xs off).run P w=.ok a w∧a.formed P e=true∧a.cells.toList=(xs.toList.drop off).take ks.length:=by
 cases d with
 | zero=>simp[leavesP] at hl
 | succ d =>
  cases hu:P.underlying e with
  | none=>simp[leavesP,hu] at hl
  | some kd =>
   obtain⟨i,hi⟩:=info_of_underlying hu;have agg:(∃ n e',kd=.array n e')∨(∃ fs,kd=.struct fs)→∃ a,(part e xs off).run P w=.ok a w∧a.formed P e=true∧a.cells.toList=(xs.toList.drop off).take ks.length:=by
    intro hk;have hlen:((xs.toList.drop off).take ks.length).length=ks.length:=ha.2.1;have hx:(xs.extract off (off+P.cellsOf e)).toList=(xs.toList.drop off).take ks.length:=by
     rw[Array.toList_extract,hsz];simp[List.extract]
    refine⟨.agg (xs.extract off (off+P.cellsOf e)),?_,?_,hx⟩
    ·rcases hk with ⟨n,e',rfl⟩ | ⟨fs,rfl⟩<;>simp[part,isAgg,run_underlying hu,run_sizeOf w hi]
    ·have hs:(xs.extract off (off+P.cellsOf e)).size=P.cellsOf e:=by rw[←Array.length_toList,hx,hlen,hsz]
     rcases hk with ⟨n,e',rfl⟩ | ⟨fs,rfl⟩<;>simp[Value.formed,hu,hs]
   have plain:∀ k,ks=[k]→(∀ v a,leafB k a v=true→v.cells.toList=[v]∧v.formed P e=true)→(∀ w,(isAgg e).run P w=.ok false w)→∃ a,(part e xs off).run P w=.ok a w∧a.formed P e=true∧a.cells.toList=(xs.toList.drop off).take ks.length:=by
    intro k hk hform hagg;subst hk;obtain⟨h1,h2,h3⟩:=ha;obtain⟨a,rfl⟩:=List.length_eq_one_iff.1 (by simpa using h1)
    obtain⟨x,hm⟩:∃ x,(xs.toList.drop off).take 1=[x]:=List.length_eq_one_iff.1 h2;have hx:=h3 0 k a x rfl rfl (by show ((xs.toList.drop off).take 1)[0]?=_;rw[hm];rfl)
    obtain⟨g1,g2⟩:=hform x a hx;have hget:xs[off]?=some x:=by
     have h0:((xs.toList.drop off).take 1)[0]?=some x:=by rw[hm];rfl
     rw[List.getElem?_take_of_lt (by omega),List.getElem?_drop] at h0
     simpa using h0
    refine⟨x,by simp[part,hagg,hget],g2,?_⟩
    rw[g1];exact hm.symm
   cases kd
   case bool =>
    simp only[leavesP,hu] at hl;injection hl with hl;exact plain _ hl.symm (fun v a h=>by cases a<;>cases v<;>simp[leafB] at h<;>exact⟨rfl,by simp[Value.formed,hu]⟩) (fun w=>by simp[isAgg,run_underlying hu])
   case int q =>
    simp only[leavesP,hu] at hl;injection hl with hl;exact plain _ hl.symm (fun v a h=>by cases a<;>cases v<;>simp[leafB] at h<;>exact⟨rfl,by simp[Value.formed,hu]⟩) (fun w=>by simp[isAgg,run_underlying hu])
   case string =>
    simp only[leavesP,hu] at hl;injection hl with hl;exact plain _ hl.symm (fun v a h=>by cases a<;>cases v<;>simp[leafB] at h<;>exact⟨rfl,by simp[Value.formed,hu]⟩) (fun w=>by simp[isAgg,run_underlying hu])
   case array n e'=>exact agg (Or.inl ⟨n,e',rfl⟩)
   case struct fs=>exact agg (Or.inr ⟨fs,rfl⟩)
   all_goals (simp[leavesP,hu] at hl;done)
def EqOk (P:Program) (dd:Nat) (d:Nat) (e:TypeId):Prop :=
 ∀ (w:World) (ks:List TK) (as bs:List V) (a b:Value),leavesP P d e=some ks→Agree ks as a.cells.toList→Agree ks bs b.cells.toList→a.formed P e=true→b.formed P e=true →
  (Op.equalIn dd e a b).run P w=.ok (cellsEqv as bs) w
theorem eq_fields {dd d:Nat} (xs ys:Array Value) (IH:∀ e,EqOk P dd d e):∀ (fs:List Field) (o:Nat) (ks:List TK) (as bs:List V),leavesF (leavesP P d) P.cellsOf o fs=some ks →
  Agree ks as (xs.toList.drop o)→Agree ks bs (ys.toList.drop o)→(Op.eqFields dd xs ys fs).run P w=.ok (cellsEqv as bs) w
 | [],o,ks,as,bs,hl,ha,hb=>by
  simp only[leavesF] at hl;injection hl with hl;subst hl;obtain rfl:as=[]:=List.eq_nil_of_length_eq_zero ha.1
  simp[Op.eqFields,cellsEqv]
 | f::fs,o,ks,as,bs,hl,ha,hb=>by
  simp only[leavesF] at hl;cases hk:leavesP P d f.type with
  | none=>simp[hk] at hl
  | some k1 =>
   simp only[hk] at hl;split at hl
   ·rename_i hc
    obtain⟨c1,c2,c3⟩:=hc;rw[Option.map_eq_some_iff] at hl;obtain⟨k2,hl2,rfl⟩:=hl;subst c1;have a1:=ha.take;have b1:=hb.take;have a2:=ha.drop;have b2:=hb.drop;obtain⟨a,p1,p2,p3⟩:=run_part_leaves w hk c3 a1;obtain⟨b,q1,q2,q3⟩:=run_part_leaves w hk c3 b1;have he:=IH f.type w k1 _ _ a b hk (by rw[p3];exact a1) (by rw[q3];exact b1) p2 q2
    have hrest:=eq_fields xs ys IH fs _ k2 _ _ hl2 (by rw[List.drop_drop] at a2;exact a2) (by rw[List.drop_drop] at b2;exact b2)
    simp only[Op.eqFields,c2,ne_eq,not_false_eq_true,if_true,Sem.run_bind,p1,q1,he,Result.andThen_ok];rw[cellsEqv_split k1.length as bs (by rw[ha.1,hb.1])]
    cases hx:cellsEqv (as.take k1.length) (bs.take k1.length)
    ·simp
    ·simpa using hrest
   ·cases hl
theorem eq_items {dd d:Nat} {e:TypeId} {k1:List TK} (hk:leavesP P d e=some k1) (hs:P.cellsOf e=k1.length) (xs ys:Array Value) (IH:EqOk P dd d e):∀ (n s:Nat) (as bs:List V),
  Agree (List.replicate n k1).flatten as (xs.toList.drop (s*k1.length))→Agree (List.replicate n k1).flatten bs (ys.toList.drop (s*k1.length)) →
   (Op.eqItems dd e (P.cellsOf e) xs ys (List.range' s n)).run P w=.ok (cellsEqv as bs) w
 | 0,s,as,bs,ha,hb=>by
  obtain rfl:as=[]:=List.eq_nil_of_length_eq_zero (by simpa using ha.1)
  simp[Op.eqItems,cellsEqv]
 | n+1,s,as,bs,ha,hb=>by
  simp only[List.replicate_succ,List.flatten_cons] at ha hb;have a1:=ha.take;have b1:=hb.take;have a2:=ha.drop;have b2:=hb.drop;obtain⟨a,p1,p2,p3⟩:=run_part_leaves w hk hs a1;obtain⟨b,q1,q2,q3⟩:=run_part_leaves w hk hs b1;have he:=IH w k1 _ _ a b hk (by rw[p3];exact a1) (by rw[q3];exact b1) p2 q2
  have hrest:=eq_items hk hs xs ys IH n (s+1) _ _ (by rw[List.drop_drop] at a2;rw[Nat.succ_mul];exact a2) (by rw[List.drop_drop] at b2;rw[Nat.succ_mul];exact b2)
  rw[hs] at hrest ⊢;simp only[List.range'_succ,Op.eqItems,Sem.run_bind,p1,q1,he,Result.andThen_ok];rw[cellsEqv_split k1.length as bs (by rw[ha.1,hb.1])]
  cases hx:cellsEqv (as.take k1.length) (bs.take k1.length)
  ·simp
  ·simpa using hrest
theorem eq_ok (dd:Nat):∀ (d:Nat) (t:TypeId),EqOk P (dd+d) d t
 | 0,t=>fun w ks as bs a b hl=>by simp[leavesP] at hl
 | d+1,t=>fun w ks as bs a b hl ha hb fa fb=>by
  simp only[leavesP] at hl;cases hu:P.underlying t with
  | none=>simp[hu] at hl
  | some kd =>
   have one:∀ k,ks=[k]→∃ x y u v,as=[x]∧bs=[y]∧a.cells.toList=[u]∧b.cells.toList=[v]∧leafB k x u=true∧leafB k y v=true:=by
    rintro k rfl
    obtain⟨x,rfl⟩:=List.length_eq_one_iff.1 ha.1;obtain⟨y,rfl⟩:=List.length_eq_one_iff.1 hb.1;obtain⟨u,hu'⟩:=List.length_eq_one_iff.1 ha.2.1;obtain⟨v,hv'⟩:=List.length_eq_one_iff.1 hb.2.1;exact⟨x,y,u,v,rfl,rfl,hu',hv',ha.2.2 0 k x u rfl rfl (by rw[hu'];rfl),hb.2.2 0 k y v rfl rfl (by rw[hv'];rfl)⟩
   have self:∀ (c u:Value),c.formed P t=true→c.cells.toList=[u]→(match kd with | .struct _=>False | .array _ _=>False | _=>True)→c=u:=by
    intro c u hf hc hk;cases c<;>first
     | (simpa [Value.cells] using hc)
     | (cases kd<;>simp[Value.formed,hu] at hf hk)
   rw[show dd+(d+1)=(dd+d)+1 from rfl];cases kd<;>simp only[hu] at hl<;>try (cases hl;done)
   case bool =>
    injection hl with hl;obtain⟨x,y,u,v,rfl,rfl,e1,e2,l1,l2⟩:=one _ hl.symm;obtain rfl:=self a u fa e1 trivial
    obtain rfl:=self b v fb e2 trivial
    cases x<;>cases a<;>simp[leafB] at l1
    cases y<;>cases b<;>simp[leafB] at l2
    subst l1;subst l2;rw[run_equalIn_bool' w _ t _ _ hu];simp[cellsEqv,cellEqv]
   case int k =>
    injection hl with hl;obtain⟨x,y,u,v,rfl,rfl,e1,e2,l1,l2⟩:=one _ hl.symm;obtain rfl:=self a u fa e1 trivial
    obtain rfl:=self b v fb e2 trivial
    cases x<;>cases a<;>simp[leafB] at l1
    cases y<;>cases b<;>simp[leafB] at l2
    obtain⟨rfl,rfl,rfl⟩:=l1;obtain⟨rfl,rfl,rfl⟩:=l2;rw[run_equalIn_int w _ t _ _ _ _ hu];simp[cellsEqv,cellEqv]
   case string =>
    injection hl with hl;obtain⟨x,y,u,v,rfl,rfl,e1,e2,l1,l2⟩:=one _ hl.symm;obtain rfl:=self a u fa e1 trivial
    obtain rfl:=self b v fb e2 trivial
    cases x<;>cases a<;>simp[leafB] at l1
    cases y<;>cases b<;>simp[leafB] at l2
    subst l1;subst l2;rw[run_equalIn_string w _ t _ _ hu];simp[cellsEqv,cellEqv]
   case array n e =>
    cases hk:leavesP P d e with
    | none=>simp[hk] at hl
    | some k1 =>
     simp only[hk] at hl;split at hl
     ·rename_i hs
      injection hl with hl;subst hl;cases a<;>simp only[Value.formed,hu,Bool.false_eq_true] at fa
      cases b<;>simp only[Value.formed,hu,Bool.false_eq_true] at fb
      rename_i xs ys;obtain⟨i,hi⟩:∃ i,P.info? e=some i:=by
       cases hue:P.underlying e with
       | none=>cases d<;>simp[leavesP,hue] at hk
       | some _=>exact info_of_underlying hue
      rw[run_equalIn_array w (dd+d) xs ys hu hi,List.range_eq_range'];exact eq_items w hk hs xs ys (eq_ok dd d e) n 0 as bs (by simpa [Value.cells] using ha) (by simpa [Value.cells] using hb)
     ·cases hl
   case struct fs =>
    split at hl
    ·cases hl
    ·rename_i hst
     cases a<;>simp only[Value.formed,hu,Bool.false_eq_true] at fa
     cases b<;>simp only[Value.formed,hu,Bool.false_eq_true] at fb
     rename_i xs ys;have hfs:P.fieldsOf t=fs:=by simp[Program.fieldsOf,hu]
     rw[run_equalIn_struct w (dd+d) t xs ys (by rw[hfs];exact hu) (by simpa using hst),hfs]
     exact eq_fields w xs ys (fun e=>eq_ok dd d e) fs.toList 0 ks as bs hl (by simpa [Value.cells] using ha) (by simpa [Value.cells] using hb)
end
end Go.Vm
end
section
namespace Go.Vm
open Go
section
variable {P:Program} {o:Oper} {own:Own} {β:Nat→Nat} {w:World} {σ:St} {a:Act}
theorem SrcL.reloc {ρ:Loc→Loc} (hr:Reloc ρ) {sz:Nat} {ys:List V} {news:List Value} (h:SrcL own w sz ys news):SrcL (fun b=>ρ (own b)) w sz ys news :=
 ⟨h.len,h.cells,fun i x j y c hi hj hc=>(h.fr i x j y c hi hj hc).reloc hr⟩
theorem base_ok (h:SR own β w σ a.tmps) {sz:Nat} {x:Operand} {n:Bool} {xs:List V} {ps:List (Place×V)} (hb:base sz σ x=some (n,xs,ps)) :
  ∃ o1,Nxt own β w σ a o1 β w (setPlaces σ ps) a∧EXR o1 w (.res 0 0) sz n xs (a.eval x)∧∃ ρ,Reloc ρ∧o1=fun b=>ρ (own b):=by
 unfold base at hb;have give:∀ p m ys,look σ p=.ex sz m ys→conc β a.tmps w p=some (a.eval x) →
   ∃ o1,Nxt own β w σ a o1 β w (setPlaces σ [(p,.undef)]) a∧EXR o1 w (.res 0 0) sz m ys (a.eval x)∧∃ ρ,Reloc ρ∧o1=fun b=>ρ (own b):=by
  intro p m ys q1 q2;obtain⟨o1,c,h1,h2,h3,h4⟩:=Nxt.give h q1;rw[q2] at h2;injection h2 with h2;subst h2;refine⟨o1,h1,h3,_,moved_reloc ?_ ?_ ?_ ?_ ?_,h4⟩<;>cases p<;>simp[locOf]
 split at hb
 ·rename_i hv
  injection hb with hb;injection hb with h1 hb;injection hb with h2 h3;subst h1;subst h2;subst h3;have hf:=opd_sl h hv;refine⟨own,Nxt.refl h,?_,id,reloc_id,rfl⟩;generalize a.eval x=c at hf;cases hf;exact .inl ⟨rfl,rfl,rfl⟩
 ·rename_i sz' m ys hv
  split at hb
  ·rename_i t ht
   obtain rfl:=tmpOf_some ht
   split at hb
   ·rename_i hs;subst hs
    injection hb with hb;injection hb with h1 hb;injection hb with h2 h3;subst h1;subst h2;subst h3;exact give (.slot t) _ _ hv rfl
   ·cases hb
  ·cases hb
 ·rename_i p hv
  obtain⟨sz',m,ys,q1,q2⟩:=opd_lent h hv;simp only[q1] at hb;split at hb
  ·rename_i hs;subst hs
   injection hb with hb;injection hb with h1 hb;injection hb with h2 h3;subst h1;subst h2;subst h3;exact give p _ _ q1 q2
  ·cases hb
 ·cases hb
theorem content_src (h:SR own β w σ a.tmps) {x:Operand} {n:Bool} {ys:List V} (hc:content σ (opd σ.env x)=some (n,ys)) {sz:Nat} {tx e':TypeId} (hs:0<sz)
  (hk:P.underlying tx=some (.slice e')) (hcells:∀ y∈ys,y.cells.length=sz):∃ news,Src P sz tx (a.eval x) ys.length news w∧SrcL own w sz ys news:=by
 cases hv:opd σ.env x<;>simp only[hv,content] at hc<;>try (cases hc;done)
 ·injection hc with hc;injection hc with h1 h2;subst h1;subst h2
  exact src_of_FR hs hk (opd_sl h hv) hcells
 ·injection hc with hc;injection hc with h1 h2;subst h1;subst h2
  have:=opd_TR h x (by rw[hv];rfl)
  rw[hv] at this;exact src_of_EXR hs hk this hcells
 ·rename_i p
  obtain⟨sz,m,ys,q1,q2⟩:=opd_lent h hv;simp only[q1] at hc;injection hc with hc;injection hc with h1 h2;subst h1;subst h2;obtain⟨c0,g1,g2⟩:=h.at_ q1;rw[q2] at g1;injection g1 with g1;rw[←g1] at g2;exact src_of_EXR hs hk g2 hcells
theorem chunks_get {i:TI} (hone:i.kind.isAgg=false→i.size=1):∀ {n:Nat} {cs xs:List V},chunks i n cs=some xs→cs.all cellDat=true →
  xs.length=n∧∀ (k:Nat) (x:V),xs[k]?=some x→x.cells.length=i.size∧∀ j,j<i.size→x.cells[j]?=cs[k*i.size+j]?
 | 0,cs,xs,h,_=>by simp only[chunks,Option.some.injEq] at h;subst h;exact⟨rfl,by simp⟩
 | n+1,cs,xs,h,hd=>by
  simp only[chunks] at h;cases ha:asType i (cs.take i.size)<;>cases hc:chunks i n (cs.drop i.size)<;>simp only[ha,hc] at h<;>try (cases h;done)
  rename_i v vs;injection h with h;subst h;have hl:=asType_cells ha;have hd1:∀ y∈cs.take i.size,cellDat y=true:=fun y hy=>List.all_eq_true.1 hd y (List.mem_of_mem_take hy)
  have hcells:v.cells=cs.take i.size:=by
   unfold asType at ha;rw[if_pos hl] at ha;cases hk:i.kind.isAgg<;>rw[hk] at ha<;>simp only[Bool.false_eq_true,if_false,if_true] at ha
   ·have h1:=hone hk
    rw[h1] at hl ha ⊢
    match hq:cs.take 1,hl with
    | [y],_ =>
     rw[hq] at ha;simp at ha;subst ha;have:=hd1 y (by rw[h1,hq];simp)
     cases y<;>first | rfl | (simp[cellDat] at this)
   ·injection ha with ha;subst ha;rfl
  obtain⟨g1,g2⟩:=chunks_get hone hc (List.all_eq_true.2 fun y hy=>List.all_eq_true.1 hd y (List.mem_of_mem_drop hy))
  refine⟨by simp[g1],fun k x hx=>?_⟩
  cases k with
  | zero =>
   simp at hx;subst hx;refine⟨by rw[hcells,hl],fun j hj=>?_⟩
   rw[hcells,List.getElem?_take,if_pos hj];simp
  | succ k =>
   obtain⟨e1,e2⟩:=g2 k x (by simpa using hx)
   refine⟨e1,fun j hj=>?_⟩
   rw[e2 j hj,List.getElem?_drop]
   congr 1
   rw[Nat.succ_mul];omega
theorem contentT_src (h:SR own β w σ a.tmps) {i:TI} (hone:i.kind.isAgg=false→i.size=1) {x:Operand} {n:Bool} {ys:List V} (hc:contentT i σ (opd σ.env x)=some (n,ys)) {tx e':TypeId} (hs:0<i.size)
  (hk:P.underlying tx=some (.slice e')) (hcells:∀ y∈ys,y.cells.length=i.size):∃ news,Src P i.size tx (a.eval x) ys.length news w∧SrcL own w i.size ys news:=by
 unfold contentT at hc;split at hc
 ·rename_i m id hv
  obtain⟨⟨cap,hcap,q1⟩,q2⟩:=opd_ref h hv;split at hc
  ·rename_i cs hn
   split at hc
   ·rename_i hcond
    rw[Option.map_eq_some_iff] at hc;obtain⟨xs,hch,hq⟩:=hc;injection hq with hq1 hq2;subst hq1;subst hq2;obtain⟨hb,hsp⟩:=ncells_some hn;obtain⟨b1,b2,arr,T0,b3,b4,b5⟩:=(h.heap.blk id cs hb).cells hsp;obtain⟨l1,l2⟩:=chunks_get hone hch hcond.1;have hat:∀ k,k<m*i.size→∃ (x:V) (y:V),xs[k / i.size]?=some x∧x.cells[k % i.size]?=some y∧cs[k]?=some y:=fun k hk=>by
     have hi:k / i.size<xs.length:=by rw[l1];exact Nat.div_lt_of_lt_mul (by rw[Nat.mul_comm];exact hk)
     have hj:=Nat.mod_lt k hs;obtain⟨e1,e2⟩:=l2 (k / i.size) _ (List.getElem?_eq_getElem hi);have hjl:k % i.size<(xs[k / i.size]).cells.length:=by rw[e1];exact hj
     refine⟨_,_,List.getElem?_eq_getElem hi,List.getElem?_eq_getElem hjl,?_⟩;have:=e2 (k % i.size) hj
     rw[show k / i.size*i.size+k % i.size=k by rw[Nat.mul_comm,Nat.div_add_mod]] at this
     rw[←this,List.getElem?_eq_getElem hjl]
    have hle:m*i.size≤arr.size:=by
     rcases Nat.eq_zero_or_pos (m*i.size) with h0 | h0
     ·omega
     ·obtain⟨_,_,_,_,h3⟩:=hat (m*i.size-1) (by omega)
      have:=(List.getElem?_eq_some_iff.1 h3).1
      omega
    let news:List Value:=arr.toList.take (m*i.size)
    have hlen:news.length=m*i.size:=by simp[news];omega
    have hget:∀ (k:Nat) (u:Value),news[k]?=some u→k<m*i.size∧arr[k]?=some u:=fun k u hu=>by
     have hlt:=(List.getElem?_eq_some_iff.1 hu).1;rw[hlen] at hlt;refine⟨hlt,?_⟩;simp only[news,List.getElem?_take,if_pos hlt] at hu;simpa using hu
    have hfr:∀ (k:Nat) (y:V) (u:Value),cs[k]?=some y→arr[k]?=some u→FR own w y u:=fun k y u hy hu =>
     FR_of_CR (b5 k y u hy hu) (List.all_eq_true.1 hcond.1 y (List.mem_of_getElem? hy))
    refine⟨news,?_,⟨by rw[hlen,l1],fun k y hy=>(l2 k y hy).1,fun k x j y u hx hy hu=>?_⟩⟩
    ·rw[l1,q1]
     refine Src.ofSlice w hk ⟨β id,0,none⟩ m cap news hlen (fun k u hu=>?_) (fun u hu=>?_)
     ·rw[Addr.add_mid,Nat.zero_add,cell_of_row w (β id) k arr T0 _ b3];exact (hget k u hu).2
     ·obtain⟨k,hk'⟩:=List.getElem?_of_mem hu
      obtain⟨g1,g2⟩:=hget k u hk';obtain⟨_,y,_,_,h3⟩:=hat k g1;exact (hfr k y u h3 g2).one
    ·obtain⟨e1,e2⟩:=l2 k x hx
     have hj:j<i.size:=by rw[←e1];exact (List.getElem?_eq_some_iff.1 hy).1
     exact hfr _ y u (by rw[←e2 j hj];exact hy) (hget _ u hu).2
   ·cases hc
  ·cases hc
 ·exact content_src h hc hs hk hcells
theorem ok_append {T:Types} (h:Hyp P T o own β w σ a) {c:Call} (ho:o.op=.call c) (hb:c.callee=.builtin .append) {e:Eff}
  (he:appendAt T σ c=some e):OpOk P o own β w σ a (apply σ o.dst e):=by
 unfold appendAt at he;split at he
 ·rename_i s x t tx hx ht
  have hx':c.args=#[s,x]:=by rw[←Array.toList_inj];simpa using hx
  have ht':c.argTypes=#[t,tx]:=by rw[←Array.toList_inj];simpa using ht
  split at he
  ·rename_i el el' hk hk'
   obtain⟨i,r,hki⟩:=kindOf_row h.T hk;have hu:=kind_slice r hki;obtain⟨i',r',hki'⟩:=kindOf_row h.T hk';have hu':=kind_slice r' hki';cases hel:T el<;>simp only[hel] at he
   ·cases he
   rename_i ei;obtain⟨re⟩:=Row.of h.T hel;split at he
   ·rename_i n xs ps n' ys hbase hc
    split at he
    ·rename_i hcond
     obtain⟨c1,c2,c3,c4⟩:=hcond;injection he with he;subst he;obtain⟨o1,h1,h2,ρ,hr,rfl⟩:=base_ok h.sr hbase;obtain⟨news,hs1,hs2⟩:=contentT_src (P:=P) h.sr re.one hc c2 hu' (fun y hy=>by simpa using List.all_eq_true.1 c4 y hy)
     have hsz:=re.hsize;obtain⟨c',w',o2,g1,g2,g3,g4⟩:=SR.append (P:=P) (ty:=o.type) h1.sr hu re.hinfo re.hz (by rw[re.hzs,hsz]) (by rw[hsz];exact c2) (by rw[hsz];exact h2)
      (by rw[hsz];exact hs1) (by rw[hsz];exact hs2.reloc hr) (by rw[re.hbytes];simpa [rooms,maxRoom] using of_decide_eq_true c1) c3
     obtain⟨_,hrun⟩:=run_builtin (P:=P) (a:=a) ho hb w;have hrun':(execOp a.eval o).run P w=.ok (.value c') w':=by
      rw[hrun];simp[builtin,hx',ht',g1]
     rw[hsz] at g4;exact OpOk.value hrun' ⟨g2,h1.stay.trans g3,h1.bx,rfl,rfl⟩ h.dst rfl g4
    ·cases he
   ·cases he
  ·cases he
 ·cases he
theorem run_ptrs {t el:TypeId} (hu:P.underlying t=some (.pointer el)) (p q:Option Addr) (h:p=none∨q=none) (w:World) :
  (binOp .eql t (.pointer p) (.pointer q)).run P w=.ok (.bool (p.isNone&&q.isNone)) w∧(binOp .neq t (.pointer p) (.pointer q)).run P w=.ok (.bool (!(p.isNone&&q.isNone))) w:=by
 have he:∀ d,(Op.equalIn (d+1) t (.pointer p) (.pointer q)).run P w=.ok (p.isNone&&q.isNone) w:=by
  intro d;rcases h with rfl | rfl
  ·simp[Op.equalIn,run_underlying hu]
  ·cases p<;>simp[Op.equalIn,run_underlying hu]
 constructor<;>simp only[binOp,Op.equal,Op.maxDepth,Sem.run_bind]<;>rw[he 9999]<;>rfl
theorem run_slices {t el:TypeId} (hu:P.underlying t=some (.slice el)) (p q:Option Addr) (l c l' c':Nat) (h:p=none∨q=none) (w:World) :
  (binOp .eql t (.slice p l c) (.slice q l' c')).run P w=.ok (.bool (p.isNone&&q.isNone)) w∧(binOp .neq t (.slice p l c) (.slice q l' c')).run P w=.ok (.bool (!(p.isNone&&q.isNone))) w:=by
 have he:∀ d,(Op.equalIn (d+1) t (.slice p l c) (.slice q l' c')).run P w=.ok (p.isNone&&q.isNone) w:=by
  intro d;rcases h with rfl | rfl
  ·simp[Op.equalIn,run_underlying hu]
  ·cases p<;>simp[Op.equalIn,run_underlying hu]
 constructor<;>simp only[binOp,Op.equal,Op.maxDepth,Sem.run_bind]<;>rw[he 9999]<;>rfl
theorem run_maps {t k el:TypeId} (hu:P.underlying t=some (.map k el)) (p q:Option Nat) (h:p=none∨q=none) (w:World) :
  (binOp .eql t (.map p) (.map q)).run P w=.ok (.bool (p.isNone&&q.isNone)) w∧(binOp .neq t (.map p) (.map q)).run P w=.ok (.bool (!(p.isNone&&q.isNone))) w:=by
 have he:∀ d,(Op.equalIn (d+1) t (.map p) (.map q)).run P w=.ok (p.isNone&&q.isNone) w:=by
  intro d;rcases h with rfl | rfl
  ·simp[Op.equalIn,run_underlying hu]
  ·cases p<;>simp[Op.equalIn,run_underlying hu]
 constructor<;>simp only[binOp,Op.equal,Op.maxDepth,Sem.run_bind]<;>rw[he 9999]<;>rfl
theorem guard_none {op:BinOp} {t:TypeId} {x y:Operand} {c d:Value} (h1:c≠.nilIface) (h2:∀ arr,c≠.agg arr) (w:World):(eqGuard op t x y c d).run P w=.ok () w:=by
 unfold eqGuard;cases op<;>simp<;>(cases c<;>first | rfl | exact absurd rfl h1 | exact absurd rfl (h2 _))
theorem fits_get:∀ {ks:List TK} {as:List V},fits ks as=true→as.length=ks.length∧∀ (j:Nat) (k:TK) (a:V),ks[j]?=some k→as[j]?=some a→leafV k a=true
 | [],[],_=>⟨rfl,by simp⟩
 | k::ks,a::as,h=>by
  simp only[fits,Bool.and_eq_true] at h;obtain⟨h1,h2⟩:=fits_get h.2;refine⟨by simp[h1],fun j k' a' hk ha=>?_⟩
  cases j with
  | zero=>simp at hk ha;subst hk;subst ha;exact h.1
  | succ j=>exact h2 j k' a' (by simpa using hk) (by simpa using ha)
 | [],_::_,h=>by simp[fits] at h
 | _::_,[],h=>by simp[fits] at h
theorem fits_dat {ks:List TK} {as:List V} (h:fits ks as=true):as.all cellDat=true:=by
 obtain⟨h1,h2⟩:=fits_get h;rw[List.all_eq_true];intro a ha;obtain⟨j,hj⟩:=List.getElem?_of_mem ha;have hlt:=(List.getElem?_eq_some_iff.1 hj).1;have:=h2 j (ks[j]'(by omega)) a (List.getElem?_eq_getElem _) hj
 generalize ks[j]'(by omega)=k at this
 cases k<;>cases a<;>simp[leafV] at this<;>rfl
theorem agree_of {ks:List TK} {as:List V} {arr:Array Value} (h:fits ks as=true) (hs:arr.size=as.length) (hf:∀ (j:Nat) (v:V) (c:Value),as[j]?=some v→arr[j]?=some c→FR own w v c):Agree ks as arr.toList:=by
 obtain⟨h1,h2⟩:=fits_get h;refine⟨h1,by simp[hs,h1],fun j k a x hk ha hx=>?_⟩
 have hl:=h2 j k a hk ha;have hfr:=hf j a x ha (by simpa using hx)
 cases k<;>cases a<;>simp[leafV] at hl
 ·cases hfr;simp[leafB]
 ·cases hfr;simp[leafB,hl]
 ·cases hfr;simp[leafB]
theorem run_aggs (h:SR own β w σ a.tmps) {t:TypeId} {i:TI} (r:Row P t i) {x y:Operand} {as bs:List V} (hx:opd σ.env x=.agg as) (hy:opd σ.env y=.agg bs) (hne:i.leaves≠[])
  (f1:fits i.leaves as=true) (f2:fits i.leaves bs=true) :
  (∀ op,(eqGuard op t x y (a.eval x) (a.eval y)).run P w=.ok () w)∧(binOp .eql t (a.eval x) (a.eval y)).run P w=.ok (.bool (cellsEqv as bs)) w∧(binOp .neq t (a.eval x) (a.eval y)).run P w=.ok (.bool (!cellsEqv as bs)) w:=by
 obtain⟨xs,e1,s1,g1⟩:=opd_agg h hx (fits_dat f1);obtain⟨ys,e2,s2,g2⟩:=opd_agg h hy (fits_dat f2);have hl:=r.hleaves;unfold leavesB at hl;cases hk:i.leaves with
 | nil=>exact absurd hk hne
 | cons k ks =>
  simp only[hk,Bool.and_eq_true,decide_eq_true_eq,beq_iff_eq,Bool.not_eq_true'] at hl;obtain⟨⟨⟨l1,l2⟩,l3⟩,l4⟩:=hl;rw[hk] at f1 f2;have a1:=agree_of (own:=own) (w:=w) f1 s1 g1;have a2:=agree_of (own:=own) (w:=w) f2 s2 g2;have hcells:P.cellsOf t=i.size:=by simp[Program.cellsOf,r.hinfo,r.hsize]
  have hform:∀ (arr:Array Value) (cs:List V),arr.size=cs.length→fits (k::ks) cs=true→Value.formed P t (.agg arr)=true:=by
   intro arr cs hs hf;have hkk:=r.hkind;have hu:=r.hd;have hlen:=(fits_get hf).1;cases hki:i.kind<;>rw[hki] at l3 hkk<;>simp[TK.isAgg] at l3
   all_goals
    cases hd:r.d<;>simp only[hd,kindB] at hkk<;>try (cases hkk;done)
    rw[hd] at hu;simp only[Value.formed,hu,hcells,beq_iff_eq];omega
  have heq:=eq_ok (P:=P) 9992 8 t w (k::ks) as bs (.agg xs) (.agg ys) l1 (by simpa [Value.cells] using a1) (by simpa [Value.cells] using a2) (hform xs as s1 f1) (hform ys bs s2 f2)
  refine⟨fun op=>?_,?_,?_⟩
  ·rw[e1,e2];exact run_eqGuard_agg w op t x y xs ys l2
  ·rw[e1,e2,run_eql_struct,heq];rfl
  ·rw[e1,e2,run_neq_struct,heq];rfl
theorem ok_binOp {T:Types} {call:CallF} {cx:Cx} {fr:Nat} (h:Hyp P T o own β w σ a) {op:BinOp} {t:TypeId} {x y:Operand} {g:_} (ho:o.op=.binOp op t x y g) {e:Eff}
  (he:eff T call cx fr o σ=some e):OpOk P o own β w σ a (apply σ o.dst e):=by
 have hsr:=h.sr;simp only[eff,ho] at he;cases hT:T t<;>simp only[hT] at he
 ·cases he
 rename_i i;obtain⟨r⟩:=Row.of h.T hT;rw[Option.map_eq_some_iff] at he;obtain⟨v,hv,rfl⟩:=he;have key:∀ c,(eqGuard op t x y (a.eval x) (a.eval y)).run P w=.ok () w→(binOp op t (a.eval x) (a.eval y)).run P w=.ok c w→(execOp a.eval o).run P w=.ok (.value c) w:=by
  intro c hg hb;simp only[execOp,ho,Sem.run_bind,hg,Result.andThen_ok,hb,Sem.run_pure]
 have hkk:=r.hkind;have hdd:=r.hd;unfold vbinop at hv;cases hag:i.kind.isAgg<;>simp only[hag] at hv
 case true =>
  unfold vaggEq at hv;split at hv<;>try (cases hv;done)
  rename_i as bs hx hy;split at hv<;>try (cases hv;done)
  all_goals
   split at hv<;>try (cases hv;done)
   rename_i hc;injection hv with hv;subst hv;obtain⟨b1,b2,b3⟩:=run_aggs (P:=P) hsr r hx hy hc.1 hc.2.1 hc.2.2
   first
    | exact OpOk.plain h (key _ (b1 _) b2) rfl (fun _=>.bool _) rfl
    | exact OpOk.plain h (key _ (b1 _) b3) rfl (fun _=>.bool _) rfl
 unfold vbin at hv;split at hv
 ·rename_i k m k' n hx hy
  have h1:=opd_int hsr hx;have h2:=opd_int hsr hy;rw[h1,h2] at key;have hg:(eqGuard op t x y (.int k m) (.int k' n)).run P w=.ok () w:=guard_none (by simp) (by simp) w
  split at hv
  ·split at hv
   ·cases hv
   ·rename_i hn
    injection hv with hv;subst hv;exact OpOk.plain h (key _ hg (by simp[binOp,Op.shift,hn])) rfl (fun _=>.int _ _) rfl
  ·split at hv
   ·cases hv
   ·rename_i hn
    injection hv with hv;subst hv;exact OpOk.plain h (key _ hg (by simp[binOp,Op.shift,hn])) rfl (fun _=>.int _ _) rfl
  ·split at hv
   ·rename_i hkk';subst hkk'
    cases op<;>simp only at hv<;>try (cases hv;done)
    case quo =>
     split at hv
     ·cases hv
     ·rename_i hn
      injection hv with hv;subst hv;exact OpOk.plain h (key _ hg (by simp[binOp,Op.intDiv,hn])) rfl (fun _=>.int _ _) rfl
    case rem =>
     split at hv
     ·cases hv
     ·rename_i hn
      injection hv with hv;subst hv;exact OpOk.plain h (key _ hg (by simp[binOp,Op.intDiv,hn])) rfl (fun _=>.int _ _) rfl
    all_goals
     injection hv with hv;subst hv;refine OpOk.plain h (key _ hg (by simp only[binOp,Op.intArith,Op.intBits,Op.intCmp,ne_eq,not_true_eq_false,if_false,Sem.run_pure];rfl)) rfl (fun _=>?_) rfl
     first | exact .int _ _ | exact .bool _
   ·cases hv
 ·rename_i p q hx hy
  have h1:=opd_bool hsr hx;have h2:=opd_bool hsr hy;rw[h1,h2] at key;have hg:(eqGuard op t x y (.bool p) (.bool q)).run P w=.ok () w:=guard_none (by simp) (by simp) w
  split at hv<;>rename_i hki<;>try (cases hv;done)
  all_goals
   injection hv with hv;subst hv;rw[hki] at hkk;have hd:r.d=.bool:=by cases hd:r.d<;>simp[hd,kindB] at hkk ⊢
   rw[hd] at hdd;exact OpOk.plain h (key _ hg (by simp[binOp,Op.equal,Op.maxDepth,run_equalIn_bool w 9999 t p q hdd])) rfl (fun _=>.bool _) rfl
 ·rename_i p q hx hy
  have h1:=opd_str hsr hx;have h2:=opd_str hsr hy;rw[h1,h2] at key;have hg:(eqGuard op t x y (.string p) (.string q)).run P w=.ok () w:=guard_none (by simp) (by simp) w
  split at hv<;>try (cases hv;done)
  all_goals try
   injection hv with hv;subst hv;exact OpOk.plain h (key _ hg (by simp[binOp,Op.stringOp])) rfl (fun _=>.bool _) rfl
  split at hv
  ·rename_i hlt
   injection hv with hv;subst hv;have:¬ ((p.size+q.size:Nat):Int)>IntKind.i64.max:=by omega
   exact OpOk.plain h (key _ hg (by simp only[binOp,Op.stringOp,this,if_false,Sem.run_pure])) rfl (fun _=>.str _) rfl
  ·cases hv
 ·rename_i hx hy
  have h1:=opd_nilp hsr hx;have h2:=opd_nilp hsr hy;rw[h1,h2] at key;have hg:(eqGuard op t x y (.pointer none) (.pointer none)).run P w=.ok () w:=guard_none (by simp) (by simp) w
  split at hv<;>rename_i hki<;>try (cases hv;done)
  all_goals
   injection hv with hv;subst hv;rw[hki] at hkk;obtain⟨el,hd⟩:∃ el,r.d=.pointer el:=by cases hd:r.d<;>simp[hd,kindB] at hkk;exact⟨_,rfl⟩
   rw[hd] at hdd
   first | exact OpOk.plain h (key _ hg (run_ptrs hdd _ _ (by simp) w).1) rfl (fun _=>.bool _) rfl | exact OpOk.plain h (key _ hg (run_ptrs hdd _ _ (by simp) w).2) rfl (fun _=>.bool _) rfl
 ·rename_i id off hx hy
  obtain⟨h1,_⟩:=opd_ptr hsr hx;have h2:=opd_nilp hsr hy;rw[h1,h2] at key;have hg:(eqGuard op t x y (.pointer (some ⟨β id,off,none⟩)) (.pointer none)).run P w=.ok () w:=guard_none (by simp) (by simp) w
  split at hv<;>rename_i hki<;>try (cases hv;done)
  all_goals
   injection hv with hv;subst hv;rw[hki] at hkk;obtain⟨el,hd⟩:∃ el,r.d=.pointer el:=by cases hd:r.d<;>simp[hd,kindB] at hkk;exact⟨_,rfl⟩
   rw[hd] at hdd
   first | exact OpOk.plain h (key _ hg (run_ptrs hdd _ _ (by simp) w).1) rfl (fun _=>.bool _) rfl | exact OpOk.plain h (key _ hg (run_ptrs hdd _ _ (by simp) w).2) rfl (fun _=>.bool _) rfl
 ·rename_i id off hx hy
  have h1:=opd_nilp hsr hx;obtain⟨h2,_⟩:=opd_ptr hsr hy;rw[h1,h2] at key;have hg:(eqGuard op t x y (.pointer none) (.pointer (some ⟨β id,off,none⟩))).run P w=.ok () w:=guard_none (by simp) (by simp) w
  split at hv<;>rename_i hki<;>try (cases hv;done)
  all_goals
   injection hv with hv;subst hv;rw[hki] at hkk;obtain⟨el,hd⟩:∃ el,r.d=.pointer el:=by cases hd:r.d<;>simp[hd,kindB] at hkk;exact⟨_,rfl⟩
   rw[hd] at hdd
   first | exact OpOk.plain h (key _ hg (run_ptrs hdd _ _ (by simp) w).1) rfl (fun _=>.bool _) rfl | exact OpOk.plain h (key _ hg (run_ptrs hdd _ _ (by simp) w).2) rfl (fun _=>.bool _) rfl
 ·rename_i hx hy
  have h1:=opd_nilm hsr hx;have h2:=opd_nilm hsr hy;rw[h1,h2] at key;have hg:(eqGuard op t x y (.map none) (.map none)).run P w=.ok () w:=guard_none (by simp) (by simp) w
  split at hv<;>rename_i hki<;>try (cases hv;done)
  all_goals
   injection hv with hv;subst hv;have hd:=kind_map r hki
   first | exact OpOk.plain h (key _ hg (run_maps hd _ _ (by simp) w).1) rfl (fun _=>.bool _) rfl | exact OpOk.plain h (key _ hg (run_maps hd _ _ (by simp) w).2) rfl (fun _=>.bool _) rfl
 ·rename_i id hx hy
  obtain⟨h1,_⟩:a.eval x=.map (some (β id))∧_:=opd_ref hsr hx;have h2:=opd_nilm hsr hy;rw[h1,h2] at key;have hg:(eqGuard op t x y (.map (some (β id))) (.map none)).run P w=.ok () w:=guard_none (by simp) (by simp) w
  split at hv<;>rename_i hki<;>try (cases hv;done)
  all_goals
   injection hv with hv;subst hv;have hd:=kind_map r hki
   first | exact OpOk.plain h (key _ hg (run_maps hd _ _ (by simp) w).1) rfl (fun _=>.bool _) rfl | exact OpOk.plain h (key _ hg (run_maps hd _ _ (by simp) w).2) rfl (fun _=>.bool _) rfl
 ·rename_i id hx hy
  have h1:=opd_nilm hsr hx;obtain⟨h2,_⟩:a.eval y=.map (some (β id))∧_:=opd_ref hsr hy;rw[h1,h2] at key;have hg:(eqGuard op t x y (.map none) (.map (some (β id)))).run P w=.ok () w:=guard_none (by simp) (by simp) w
  split at hv<;>rename_i hki<;>try (cases hv;done)
  all_goals
   injection hv with hv;subst hv;have hd:=kind_map r hki
   first | exact OpOk.plain h (key _ hg (run_maps hd _ _ (by simp) w).1) rfl (fun _=>.bool _) rfl | exact OpOk.plain h (key _ hg (run_maps hd _ _ (by simp) w).2) rfl (fun _=>.bool _) rfl
 ·cases hv
 ·have shape:∀ {z:Operand} {n:Bool},nilness σ (opd σ.env z)=some n→∃ b len cap,a.eval z=.slice b len cap∧(n=true↔b=none):=by
   intro z n hn;unfold nilness at hn;split at hn
   ·rename_i m id hv
    obtain⟨⟨cap,_,q1⟩,_⟩:=opd_ref hsr hv;injection hn with hn;subst hn;exact⟨_,_,_,q1,by simp⟩
   ·rw[Option.map_eq_some_iff] at hn
    obtain⟨⟨b,xs⟩,h1,h2⟩:=hn;simp only at h2;subst h2;obtain⟨b,cap,q1,q2⟩:=content_shape hsr h1;exact⟨_,_,_,q1,q2⟩
  have nilOf:∀ z,isConst z=true→∀ n,nilness σ (opd σ.env z)=some n→n=true∧a.eval z=.slice none 0 0:=by
   intro z hz n hc;cases z<;>simp[isConst] at hz
   rename_i c;simp only[opd] at hc;unfold cellOf at hc;split at hc<;>simp only[nilness,content,Option.map_none,Option.map_some] at hc<;>try (cases hc;done)
   injection hc with hc;subst hc;exact⟨rfl,rfl⟩
  split at hv<;>try (cases hv;done)
  all_goals
   rename_i el hki hone;split at hv<;>try (cases hv;done)
   rename_i n m hcx hcy;injection hv with hv;subst hv;have hu:=kind_slice r hki;obtain⟨b1,l1,c1,e1,g1⟩:=shape hcx;obtain⟨b2,l2,c2,e2,g2⟩:=shape hcy;have hg:∀ op,(eqGuard op t x y (a.eval x) (a.eval y)).run P w=.ok () w:=fun op=>guard_none (by rw[e1];simp) (by rw[e1];simp) w
   have hor:b1=none∨b2=none:=by
    rcases Bool.or_eq_true_iff.1 hone with hz | hz
    ·exact .inl (g1.1 (nilOf x hz _ hcx).1)
    ·exact .inr (g2.1 (nilOf y hz _ hcy).1)
   have hval:(b1.isNone&&b2.isNone)=(n==m):=by
    have i1:b1.isNone=n:=by cases b1<;>cases n<;>simp at g1 ⊢
    have i2:b2.isNone=m:=by cases b2<;>cases m<;>simp at g2 ⊢
    rw[i1,i2];rcases Bool.or_eq_true_iff.1 hone with hz | hz
    ·rw[(nilOf x hz _ hcx).1];cases m<;>rfl
    ·rw[(nilOf y hz _ hcy).1];cases n<;>rfl
   have hb:=run_slices (P:=P) hu b1 b2 l1 c1 l2 c2 hor w;rw[←e1,←e2,hval] at hb
   first
    | exact OpOk.plain h (key _ (hg _) hb.1) rfl (fun _=>.bool _) rfl
    | exact OpOk.plain h (key _ (hg _) hb.2) rfl (fun _=>.bool _) rfl
end
end Go.Vm
end
section
namespace Go.Vm
open Go
section
variable {P:Program} {o:Oper} {own:Own} {β:Nat→Nat} {w:World} {σ:St} {a:Act}
theorem CR.notWay {l:Loc} {v:V} {c:Value} (h:CR own β w l v c):isWay v=false∧∀ vs,v≠.tup vs:=by
 cases v with
 | lent p=>simp only[CR] at h;cases h
 | xptr p i off=>simp only[CR] at h;cases h
 | tup vs=>simp only[CR] at h;cases h
 | _=>exact⟨rfl,fun _=>by simp⟩
theorem VR.notWay {L:Nat→Loc} {v:V} {c:Value} (h:VR own β w L v c):isWay v=false∧∀ vs,v≠.tup vs:=by
 cases v with
 | lent p=>exact CR.notWay (β:=β) (l:=L 0) h
 | xptr p i off=>exact CR.notWay (β:=β) (l:=L 0) h
 | tup vs=>exact CR.notWay (β:=β) (l:=L 0) h
 | _=>exact⟨rfl,fun _=>by simp⟩
theorem TR.notWay {L:Nat→Nat→Loc} {v:V} {c:Value} (h:TR own β w L v c):isWay v=false:=by
 cases v with
 | lent p=>simp only[TR,VR,CR] at h;cases h
 | xptr p i off=>simp only[TR,VR,CR] at h;cases h
 | _=>rfl
def compOut (t j:Nat) (l:Loc):Loc:=match l with | .slot u i k=>if u=t∧i=j then .res 0 k else l | l=>l
theorem compOut_reloc (t j:Nat):Reloc (compOut t j):=by
 refine⟨rfl,rfl,fun _=>rfl,fun l id h=>?_,fun l h=>?_⟩
 ·cases l<;>simp only[compOut] at h<;>first | rfl | exact h | (split at h<;>cases h)
 ·cases l<;>simp only[compOut] at h<;>first | rfl | exact h | (split at h<;>cases h)
theorem VR.to_TR {L:Nat→Loc} {L':Nat→Nat→Loc} {v:V} {c:Value} (h:VR own β w L v c) (he:L' 0=L):TR own β w L' v c:=by
 have:=h.notWay.2
 cases v<;>first
  | exact absurd rfl (this _)
  | (simp only[TR];rw[he];exact h)
theorem ok_extract {T:Types} {call:CallF} {cx:Cx} {fr:Nat} (h:Hyp P T o own β w σ a) {x:Operand} {j:Nat} (ho:o.op=.extract x j) {e:Eff}
  (he:eff T call cx fr o σ=some e):OpOk P o own β w σ a (apply σ o.dst e):=by
 simp only[eff,ho] at he;split at he
 ·rename_i vs t hx ht
  obtain rfl:=tmpOf_some ht
  cases hj:vs[j]?<;>simp only[hj] at he
  ·cases he
  rename_i v;have hE:=opd_TR h.sr (.tmp t) (by rw[hx];rfl)
  rw[hx] at hE;obtain⟨arr,h1,h2,h3⟩:=hE;have hjl:j<vs.length:=(List.getElem?_eq_some_iff.1 hj).1;have hja:arr[j]?=some arr[j]:=Array.getElem?_eq_getElem (by omega)
  have hv:=h3 j v _ hj hja;have hrun:=run_extract (P:=P) ho h1 hja w;split at he
  ·rename_i hd
   injection he with he;subst he;exact OpOk.value hrun (Nxt.refl h.sr) h.dst (isWay_of_dat hd) (TR_of_VR hv (noEx_of_dat hd))
  ·injection he with he;subst he
   have hr:=compOut_reloc t j;have hs:SR (fun b=>compOut t j (own b)) β w (setPlace σ (.slot t) (.tup (vs.set j .undef))) a.tmps:=by
    refine h.sr.slot hr (fun u i k hu=>by simp[compOut,hu]) (fun _ _=>rfl) rfl ?_
    rw[←eval_tmp,h1];refine⟨arr,rfl,by simpa using h2,fun i u c hu hc=>?_⟩
    rw[List.getElem?_set] at hu;split at hu
    ·injection hu with hu;subst hu;simp only[VR]
    ·rename_i hij
     have:=(h3 i u c hu hc).reloc hr
     simpa [compOut,opL,Ne.symm hij] using this
   have hv':VR (fun b=>compOut t j (own b)) β w (fun k=>.res 0 k) v arr[j]:=by
    have:=hv.reloc hr
    simpa [compOut,opL] using this
   exact OpOk.value hrun ⟨hs,Stay.reloc hr,BX.refl _ _,rfl,rfl⟩ h.dst hv'.notWay.1 (hv'.to_TR (L':=fun i k=>.res i k) rfl)
 ·cases he
theorem look_setPlace_eq {p:Place} {v:V} {sz:Nat} {n:Bool} {xs:List V} (hl:look σ p=.ex sz n xs):look (setPlace σ p v) p=v:=by
 cases p with
 | slot t=>simp only[look,setPlace,get_cons_same]
 | cell id off =>
  obtain⟨cs,hc,hcs⟩:=Place.cases_look hl;simp only[look,setPlace,hc];rw[bcells_set (bcells_lt hc),if_pos rfl];have:=(List.getElem?_eq_some_iff.1 hcs).1
  simp[List.getD_eq_getElem?_getD,this]
def Frozen (own:Own) (β:Nat→Nat) (w:World) (σ:St) (tmps:Array Value) (p:Place) (n:Bool) (xs:List V):Prop :=
 (∃ sz,look σ p=.ex sz n xs)∨(look σ p=.sl n xs∧∀ c,conc β tmps w p=some c→FR own w (.sl n xs) c)
theorem SR.same (h:SR own β w σ a.tmps) {p:Place} {n:Bool} {xs:List V} (hl:look σ p=.sl n xs):SR own β w (setPlace σ p (.sl n xs)) a.tmps∧BX β β σ.heap (setPlace σ p (.sl n xs)).heap∧look (setPlace σ p (.sl n xs)) p=.sl n xs:=by
 cases p with
 | slot t =>
  refine⟨h.slot reloc_id (fun _ _ _ _=>rfl) (fun _ _=>rfl) rfl ?_,BX.refl _ _,by simp only[look,setPlace,get_cons_same]⟩
  have:=h.env t
  simp only[look] at hl;rw[hl] at this;exact this
 | cell id off =>
  simp only[look] at hl;cases hc:bcells σ.heap id with
  | none=>simp[hc] at hl
  | some cs =>
   simp only[hc] at hl;have hlt:off<cs.length:=by
    rcases Nat.lt_or_ge off cs.length with h' | h'
    ·exact h'
    ·simp[List.getD_eq_getElem?_getD,List.getElem?_eq_none h'] at hl
   have hcs:cs[off]?=some (.sl n xs):=by
    rw[List.getD_eq_getElem?_getD,List.getElem?_eq_getElem hlt] at hl;rw[List.getElem?_eq_getElem hlt];simpa using hl
   refine⟨h.cell reloc_id hc (by
    match cs,hcs with
    | [],_=>rfl
    | [v],hcs =>
     cases off with
     | zero=>simp at hcs;subst hcs;rfl
     | succ j=>simp at hcs
    | _::_::_,_=>rfl) (fun _ _ _=>rfl) (fun _ _ _=>rfl) rfl (fun v c hv _ hcr=>?_),?_,?_⟩
   ·rw[hcs] at hv;injection hv with hv;subst hv;exact hcr
   ·simp only[setPlace,hc]
    refine⟨by simp,fun i ds hi=>⟨rfl,?_⟩⟩
    rw[bcells_set (bcells_lt hc)];split
    ·exact⟨_,rfl⟩
    ·exact⟨ds,hi⟩
   ·simp only[look,setPlace,hc]
    rw[bcells_set (bcells_lt hc),if_pos rfl];simp[List.getD_eq_getElem?_getD,hlt]
def Only (ρ:Loc→Loc):Prop:=∀ l,ρ l=l∨(ρ l=.im∧∃ p:Place,l=locOf p)
theorem only_moved (p:Place):Only (moved (locOf p) .im):=fun l=>by
 by_cases h:l=locOf p
 ·exact .inr ⟨by rw[h,moved_at],p,h⟩
 ·exact .inl (moved_ne h)
theorem Only.comp {ρ ρ':Loc→Loc} (h:Only ρ) (hr:Reloc ρ') (h':Only ρ'):Only fun l=>ρ' (ρ l):=fun l=>by
 rcases h l with h1 | ⟨h1,p,hp⟩
 ·simp only[h1];exact h' l
 ·exact .inr ⟨by simp only[h1,hr.im],p,hp⟩
theorem Only.res {ρ:Loc→Loc} (h:Only ρ) (i j:Nat):ρ (.res i j)=.res i j:=by
 rcases h (.res i j) with h1 | ⟨_,p,hp⟩
 ·exact h1
 ·cases p<;>simp[locOf] at hp
theorem freezes:∀ (ps:List (Place×V)) (own:Own) (σ:St),SR own β w σ a.tmps→(∀ x∈ps,∃ n xs,x.2=.sl n xs∧Frozen own β w σ a.tmps x.1 n xs) →
  ∃ o1,Nxt own β w σ a o1 β w (setPlaces σ ps) a∧(∀ x∈ps,∀ c,conc β a.tmps w x.1=some c→FR o1 w x.2 c)∧∃ ρ,Reloc ρ∧Only ρ∧o1=fun b=>ρ (own b)
 | [],own,σ,h,_=>⟨own,Nxt.refl h,by simp,id,reloc_id,fun _=>.inl rfl,rfl⟩
 | (p,v)::ps,own,σ,h,hp=>by
  obtain⟨n,xs,hv,hf⟩:=hp (p,v) (by simp)
  simp only at hv hf;subst hv;have step:∃ o1,Nxt own β w σ a o1 β w (setPlace σ p (.sl n xs)) a∧(∀ c,conc β a.tmps w p=some c→FR o1 w (.sl n xs) c)∧(∃ ρ,Reloc ρ∧Only ρ∧o1=fun b=>ρ (own b)) ∧
    look (setPlace σ p (.sl n xs)) p=.sl n xs:=by
   rcases hf with ⟨sz,hl⟩ | ⟨hl,hc⟩
   ·obtain⟨o1,c,h1,h2,h3,h4⟩:=Nxt.freeze h hl
    exact⟨o1,h1,fun c' hc'=>by rw[h2] at hc';injection hc' with hc';subst hc';exact h3,⟨_,locOf_reloc p (by simp) (by simp),only_moved p,h4⟩,look_setPlace_eq hl⟩
   ·obtain⟨h1,h2,h3⟩:=h.same hl
    exact⟨own,⟨h1,Stay.refl _ _,h2,rfl,rfl⟩,hc,⟨id,reloc_id,fun _=>.inl rfl,rfl⟩,h3⟩
  obtain⟨o1,h1,h2,⟨ρ,hr,hs1,rfl⟩,h4⟩:=step;obtain⟨o2,g1,g2,ρ',hr',hs2,rfl⟩:=freezes ps _ _ h1.sr (fun x hx=>by
   obtain⟨m,ys,e1,e2⟩:=hp x (by simp[hx])
   refine⟨m,ys,e1,?_⟩;by_cases hq:x.1=p
   ·right
    have hk:look (setPlace σ p (.sl n xs)) x.1=.sl n xs:=by rw[hq];exact h4
    have hsame:V.sl n xs=V.sl m ys:=by
     rcases e2 with ⟨sz,e2⟩ | ⟨e2,_⟩<;>rcases hf with ⟨sz',hf⟩ | ⟨hf,_⟩<;>rw[hq,hf] at e2<;>first | (injection e2 with _ k1 k2;rw[k1,k2]) | (injection e2 with k1 k2;rw[k1,k2]) | cases e2
    rw[←hsame,hk];exact⟨rfl,fun c hc=>h2 c (by rw[←hq];exact hc)⟩
   ·rcases e2 with ⟨sz,e2⟩ | ⟨e2,e3⟩
    ·exact .inl ⟨sz,look_setPlace_ne hq (fun _=>rfl) e2⟩
    ·exact .inr ⟨look_setPlace_ne hq (fun _=>rfl) e2,fun c hc=>(e3 c hc).reloc hr⟩)
  refine⟨_,h1.trans g1,fun x hx c hc=>?_,fun l=>ρ' (ρ l),⟨by rw[hr.im,hr'.im],by rw[hr.other,hr'.other],fun id=>by rw[hr.blk,hr'.blk],fun l id hl=>hr.noblk _ _ (hr'.noblk _ _ hl),fun l hl=>hr.noother _ (hr'.noother _ hl)⟩,hs1.comp hr' hs2,rfl⟩
  rcases List.mem_cons.1 hx with rfl | hx
  ·exact (h2 c hc).reloc hr'
  ·exact g2 x hx c hc
def AR (own:Own) (β:Nat→Nat) (w:World) (vs:List V) (cs:List Value):Prop :=
 cs.length=vs.length∧∀ (j:Nat) (v:V) (c:Value),vs[j]?=some v→cs[j]?=some c→VR own β w (fun _=>.other) v c∧noEx v=true
theorem AR.append {vs vs':List V} {cs cs':List Value} (h:AR own β w vs cs) (h':AR own β w vs' cs'):AR own β w (vs++vs') (cs++cs'):=by
 refine⟨by simp[h.1,h'.1],fun j v c hv hc=>?_⟩
 rw[List.getElem?_append] at hv hc;rw[h.1] at hc;split at hv
 ·rename_i hlt;rw[if_pos hlt] at hc;exact h.2 _ _ _ hv hc
 ·rename_i hlt;rw[if_neg hlt] at hc;exact h'.2 _ _ _ hv hc
theorem view_ok (h:SR own β w σ a.tmps) {x:Operand} {v:V} {ps:List (Place×V)} (hv:view σ x=some (v,ps)) :
  (ps=[]∧VR own β w (fun _=>.other) v (a.eval x)∧noEx v=true)∨(∃ p sz n xs,ps=[(p,.sl n xs)]∧v=.sl n xs∧look σ p=.ex sz n xs∧conc β a.tmps w p=some (a.eval x)):=by
 unfold view at hv;cases hx:opd σ.env x<;>simp only[hx] at hv
 case undef=>cases hv
 case xptr=>cases hv
 case tup=>cases hv
 case ex sz n xs =>
  cases ht:tmpOf x<;>simp only[ht] at hv
  ·cases hv
  rename_i t;obtain rfl:=tmpOf_some ht
  injection hv with hv;injection hv with h1 h2;subst h1;subst h2;exact .inr ⟨.slot t,sz,n,xs,rfl,rfl,hx,rfl⟩
 case lent p =>
  obtain⟨sz,n,xs,q1,q2⟩:=opd_lent h hx;simp only[q1] at hv;injection hv with hv;injection hv with h1 h2;subst h1;subst h2;exact .inr ⟨p,sz,n,xs,rfl,rfl,q1,q2⟩
 case agg cs =>
  split at hv
  ·rename_i hc
   injection hv with hv;injection hv with h1 h2;subst h1;subst h2
   left
   have:=opd_TR h x (by rw[hx];rfl)
   rw[hx] at this;exact⟨rfl,VR.place (L:=opL x 0) this (noEx_dat hc),noEx_dat hc⟩
  ·cases hv
 all_goals
  injection hv with hv;injection hv with h1 h2;subst h1;subst h2
  left
  have:=opd_TR h x (by rw[hx];rfl)
  rw[hx] at this;exact⟨rfl,VR.place (L:=opL x 0) this rfl,rfl⟩
theorem views_ps (h:SR own β w σ a.tmps):∀ (l:List Operand) (vs:List V) (ps:List (Place×V)),views σ l=some (vs,ps)→∀ x∈ps,∃ n xs,x.2=.sl n xs∧Frozen own β w σ a.tmps x.1 n xs
 | [],vs,ps,hv=>by simp[views] at hv;rw[hv.2];simp
 | y::l,vs,ps,hv=>by
  simp only[views] at hv;cases h1:view σ y<;>cases h2:views σ l<;>simp only[h1,h2] at hv<;>try (cases hv;done)
  rename_i u us;obtain⟨u,q⟩:=u;obtain⟨us,qs⟩:=us;injection hv with hv;injection hv with e1 e2;subst e1;subst e2;intro x hx;rcases List.mem_append.1 hx with hx | hx
  ·rcases view_ok h h1 with ⟨rfl,_⟩ | ⟨p,sz,n,xs,rfl,_,hl,_⟩
   ·cases hx
   ·simp at hx;subst hx;exact⟨n,xs,rfl,.inl ⟨sz,hl⟩⟩
  ·exact views_ps h l us qs h2 x hx
theorem views_args (h:SR own β w σ a.tmps) {o1:Own} {ρ:Loc→Loc} (hr:Reloc ρ) (ho:o1=fun b=>ρ (own b)) (hn:ρ .other=.other) :
  ∀ (l:List Operand) (vs:List V) (ps:List (Place×V)),views σ l=some (vs,ps)→(∀ x∈ps,∀ c,conc β a.tmps w x.1=some c→FR o1 w x.2 c)→AR o1 β w vs (l.map a.eval)
 | [],vs,ps,hv,_=>by simp[views] at hv;rw[hv.1];exact⟨rfl,by simp⟩
 | y::l,vs,ps,hv,hf=>by
  simp only[views] at hv;cases h1:view σ y<;>cases h2:views σ l<;>simp only[h1,h2] at hv<;>try (cases hv;done)
  rename_i u us;obtain⟨u,q⟩:=u;obtain⟨us,qs⟩:=us;injection hv with hv;injection hv with e1 e2;subst e1;subst e2;have ih:=views_args h hr ho hn l us qs h2 (fun x hx=>hf x (List.mem_append.2 (.inr hx)))
  refine⟨by simp[ih.1],fun j v c hj hc=>?_⟩
  cases j with
  | zero =>
   simp at hj hc;subst hj;subst hc;rcases view_ok h h1 with ⟨_,hv,hne⟩ | ⟨p,sz,n,xs,rfl,rfl,hl,hc⟩
   ·subst ho
    have:=hv.reloc hr
    exact⟨this.place hne,hne⟩
   ·exact⟨hf (p,.sl n xs) (by simp) _ hc,rfl⟩
  | succ j=>exact ih.2 j v c (by simpa using hj) (by simpa using hc)
end
end Go.Vm
end
section
namespace Go.Vm
open Go
def Ret (own:Own) (β:Nat→Nat) (w:World) (H:Heap) (r:V) (H':Heap) (e:Ending) (w':World):Prop :=
 ∃ c own' β',e=.returned c∧TR own' β' w' (fun i j=>.res i j) r c∧HR own' β' w' H'∧Stay own w own' w'∧BX β β' H H'∧∀ b i j k,own' b≠.slot i j k
def Sound (P:Program) (call:CallF):Prop :=
 (∀ f vs H r H',f<yB→call f vs H=some (r,H')→(∃ fn,P.funcs[f]?=some fn∧fn.name≠ "runtime.NumGoroutine"∧fn.body.isSome=true) ∧
  ∀ (own:Own) (β:Nat→Nat) (w:World) (cs:List Value),HR own β w H→AR own β w vs cs→(∀ b i j k,own b≠.slot i j k)→Calls P f cs.toArray w (Ret own β w H r H')) ∧
 ∀ id vs H r H',call (yB+id) vs H=some (r,H')→∀ (own:Own) (β:Nat→Nat) (w:World) (cs:List Value),HR own β w H→AR own β w vs cs→(∀ b i j k,own b≠.slot i j k) →
  ∃ rec:Loop,w.heap[β id]?=some (.loop rec)∧cs.length=rec.params.size ∧
   RoundIn (Fw none) 0 P (β id) rec.fn ((rec.params.zip cs.toArray).foldl (fun tmps (t,a)=>tmps.setIfInBounds t a) rec.tmps) rec.assign rec.body w (Ret own β w H r H')
section
variable {P:Program} {o:Oper} {own:Own} {β:Nat→Nat} {w:World} {σ:St} {a:Act}
theorem OpOk.call {σ1:St} {v:V} {f:FuncId} {args:Array Value} (hrun:(execOp a.eval o).run P w=.ok (.enter f args) w)
  (hc:Calls P f args w (fun e w'=>∃ c o1 β1,e=.returned c∧Nxt own β w σ a o1 β1 w' σ1 a∧TR o1 β1 w' (fun i j=>.res i j) v c)) (hd:∀ d,o.dst=some d→d<a.tmps.size) :
  OpOk P o own β w σ a (put σ1 o.dst v):=by
 intro r K Q hK;refine⟨fun _ _=>trivial,?_⟩
 rw[semAt_run hrun (by simp),Oper.uponIn_enter]
 refine⟨fw_depth _ _,callsIn_fw.2 (hc.mono ?_)⟩
 rintro e w' ⟨c,o1,β1,rfl,h,hn⟩
 obtain⟨o3,h3⟩:=h.put hd hn.notWay hn;exact hK _ _ _ _ h3
theorem OpOk.round {σ1:St} {v:V} {l:Nat} {f:FuncId} {tmps:Array Value} {asg body:Code} (hrun:(execOp a.eval o).run P w=.ok (.round l f tmps asg body) w)
  (hc:RoundIn (Fw none) 0 P l f tmps asg body w (fun e w'=>∃ c o1 β1,e=.returned c∧Nxt own β w σ a o1 β1 w' σ1 a∧TR o1 β1 w' (fun i j=>.res i j) v c)) (hd:∀ d,o.dst=some d→d<a.tmps.size) :
  OpOk P o own β w σ a (put σ1 o.dst v):=by
 intro r K Q hK;refine⟨fun _ _=>trivial,?_⟩
 rw[semAt_run hrun (by simp),Oper.uponIn_round]
 refine⟨fw_depth _ _,?_⟩;have hc':RoundIn (Fw r) (0-1) P l f tmps asg body w (fun e w'=>∃ c o1 β1,e=.returned c∧Nxt own β w σ a o1 β1 w' σ1 a∧TR o1 β1 w' (fun i j=>.res i j) v c):=hc
 refine hc'.mono ?_
 rintro e w' ⟨c,o1,β1,rfl,h,hn⟩
 obtain⟨o3,h3⟩:=h.put hd hn.notWay hn;exact hK _ _ _ _ h3
theorem SR.killCells (h:SR own β w σ a.tmps):SR own β w {env:=σ.env.map (fun x=>(x.1,killCell x.2)),heap:=σ.heap} a.tmps:=by
 refine⟨fun u=>?_,h.heap⟩
 rw[get_map killCell rfl];have hu:=h.env u;cases hv:get σ.env u with
 | lent p =>
  cases p with
  | cell i j=>exact ER.undef _ _ _ _ _ _ _
  | slot t =>
   rw[hv] at hu;obtain⟨sz,n,xs,h1,h2⟩:=hu;refine⟨sz,n,xs,?_,h2⟩;simp only[look] at h1 ⊢;rw[get_map killCell rfl,h1];rfl
 | xptr p i off =>
  cases p with
  | cell i j=>exact ER.undef _ _ _ _ _ _ _
  | slot t =>
   rw[hv] at hu;obtain⟨sz,n,xs,b,len,cap,h1,h2⟩:=hu;refine⟨sz,n,xs,b,len,cap,?_,h2⟩;simp only[look] at h1 ⊢;rw[get_map killCell rfl,h1];rfl
 | _=>rw[hv] at hu;exact hu
theorem killCell_ref {v:V} {i j:Nat}:(killCell v).refsTo (.cell i j)=false:=by
 cases v with
 | lent p=>cases p<;>simp[killCell,V.refsTo]
 | xptr p k off=>cases p<;>simp[killCell,V.refsTo]
 | _=>rfl
def lower (l:Loc):Loc:=match l with | .slot _ _ _=>.other | .res _ _=>.other | l=>l
def onlyIm (l:Loc):Loc:=match l with | .im=>.im | _=>.other
theorem HR.lower (h:HR own β w σ.heap):HR (fun b=>lower (own b)) β w σ.heap:=by
 refine⟨fun id cs hi=>?_,fun b id hb=>?_,fun b hb=>h.lt b fun hn=>hb (by simp only[hn,Vm.lower])⟩
 ·exact (h.blk id cs hi).mono (fun b hb=>⟨by simp only[hb,Vm.lower],rfl⟩) (fun id hb=>⟨by simp only[hb,Vm.lower],rfl⟩) (fun j b hb=>⟨by simp only[hb,Vm.lower],rfl⟩) rfl
 ·refine h.inv b id ?_
  simp only[Vm.lower] at hb;split at hb<;>first | cases hb | exact hb
theorem AR.lower {vs:List V} {cs:List Value} (h:AR own β w vs cs):AR (fun b=>lower (own b)) β w vs cs :=
 ⟨h.1,fun j v c hv hc=>⟨VR.mono (L:=fun _=>.other) (h.2 j v c hv hc).1 (fun b hb=>⟨by simp only[hb,Vm.lower],rfl⟩) (fun id hb=>⟨by simp only[hb,Vm.lower],rfl⟩) (fun j b hb=>⟨by simp only[hb,Vm.lower],rfl⟩),(h.2 j v c hv hc).2⟩⟩
theorem HR.onlyIm (h:HR own β w σ.heap):HR (fun b=>onlyIm (own b)) β w []:=by
 refine⟨fun id cs hi=>by simp[bcells] at hi,fun b id hb=>?_,fun b hb=>h.lt b fun hn=>hb (by simp only[hn,Vm.onlyIm])⟩
 simp only[Vm.onlyIm] at hb;split at hb<;>cases hb
theorem FR.onlyIm {v:V} {c:Value} (h:FR own w v c):FR (fun b=>onlyIm (own b)) w v c:=h.mono fun b hb=>⟨by simp only[hb,Vm.onlyIm],rfl⟩
theorem PR.onlyIm {v:V} {c:Value} (h:PR own β w v c) (hd:cellDat v=true):PR (fun b=>onlyIm (own b)) β w v c:=by
 cases v<;>first
  | (simp[cellDat] at hd;done)
  | exact FR.onlyIm h
theorem AR.onlyIm {vs:List V} {cs:List Value} (h:AR own β w vs cs) (hd:vs.all noPtr=true):AR (fun b=>onlyIm (own b)) β w vs cs:=by
 refine⟨h.1,fun j v c hv hc=>⟨?_,(h.2 j v c hv hc).2⟩⟩
 have h1:=(h.2 j v c hv hc).1;have h2:noPtr v=true:=List.all_eq_true.1 hd v (List.mem_of_getElem? hv);cases v with
 | agg cs =>
  obtain⟨arr,e1,e2,e3⟩:=h1;simp only[noPtr,List.all_eq_true] at h2;refine⟨arr,e1,e2,fun j v c hv hc=>?_⟩
  have:=FR_of_CR (e3 j v c hv hc) (h2 v (List.mem_of_getElem? hv))
  exact CR_of_FR this.onlyIm
 | clo f x y =>
  obtain⟨ca,cb,e1,e2,e3,e4,e5⟩:=h1;simp only[noPtr,Bool.and_eq_true,List.all_eq_true] at h2;exact⟨ca,cb,e1,e2,e3,fun j v c hv hc=>(e4 j v c hv hc).onlyIm (h2.1 v (List.mem_of_getElem? hv)),fun j v c hv hc=>(e5 j v c hv hc).onlyIm (h2.2 v (List.mem_of_getElem? hv))⟩
 | undef=>trivial
 | _=>first
  | (simp[noPtr,cellDat] at h2;done)
  | exact FR.onlyIm h1
theorem back_all (h:SR own β w σ a.tmps) {o1:Own} {β1:Nat→Nat} {w1:World} {H1:Heap} {r:V} {c:Value} (hh:HR o1 β1 w1 H1) (hs:Stay (fun b=>lower (own b)) w o1 w1)
  (hb:BX β β1 σ.heap H1) (ht:TR o1 β1 w1 (fun i j=>.res i j) r c) (hn:∀ b i j k,o1 b≠.slot i j k) :
  ∃ o2,Nxt own β w σ a o2 β1 w1 (setMem σ (.all H1)) a∧TR o2 β1 w1 (fun i j=>.res i j) r c:=by
 let o2:Own:=fun b=>match own b with | .slot t i j=>.slot t i j | _=>o1 b
 have slotv:∀ b t i j,own b=.slot t i j→o2 b=.slot t i j:=fun b t i j hb=>by simp only[o2,hb]
 have slotu:∀ b t i j,own b=.slot t i j→o1 b=.other∧w1.heap[b]?=w.heap[b]?:=fun b t i j hb =>
  hs.other b (h.heap.lt b (by rw[hb];simp)) (by simp only[hb,Vm.lower])
 have same:∀ b,o1 b≠.other→o2 b=o1 b:=fun b hb'=>by
  simp only[o2];split
  ·rename_i t i j hs';exact absurd (slotu b t i j hs').1 hb'
  ·rfl
 have imv:∀ b,own b=.im→o2 b=.im∧w1.heap[b]?=w.heap[b]?:=fun b hb'=>by
  obtain⟨h1,h2⟩:=hs.im b (by simp only[hb',Vm.lower])
  exact⟨by rw[same b (by rw[h1];simp),h1],h2⟩
 have blkv:∀ id,own (β id)=.blk id→o2 (β1 id)=.blk id∧β1 id=β id:=fun id hb'=>by
  obtain⟨_,cs,hcs⟩:=h.heap.inv _ _ hb';obtain⟨e1,cs',hcs'⟩:=hb.2 id cs hcs;have:=(hh.blk id cs' hcs').own
  exact⟨by rw[same _ (by rw[this];simp),this],e1⟩
 have k1:∀ b,o1 b=.im→o2 b=.im∧w1.heap[b]?=w1.heap[b]?:=fun b hb'=>⟨by rw[same b (by rw[hb'];simp),hb'],rfl⟩
 have k2:∀ id,o1 (β1 id)=.blk id→o2 (β1 id)=.blk id∧β1 id=β1 id:=fun id hb'=>⟨by rw[same _ (by rw[hb'];simp),hb'],rfl⟩
 have hk:=h.killCells;refine⟨o2,⟨⟨fun u=>?_,?_⟩,⟨imv,fun b hlt hb'=>?_,hs.size,hs.os,hs.tape,hs.output,hs.drawn,hs.cells⟩,hb,rfl,rfl⟩,?_⟩
 ·have hu:=hk.env u
  simp only[setMem];rw[get_map killCell rfl] at hu ⊢;refine hu.keep imv blkv (fun i j b hb'=>⟨slotv b u i j hb',(slotu b u i j hb').2⟩) (fun p hp=>?_)
  cases p with
  | cell i j=>rw[killCell_ref] at hp;cases hp
  | slot x=>exact⟨fun sz n xs hl=>⟨n,xs,hl,rfl⟩,fun c hc=>hc,fun b hb'=>slotv b x 0 0 hb'⟩
 ·refine⟨fun id cs hi=>?_,fun b id hb'=>?_,fun b hb'=>?_⟩
  ·exact (hh.blk id cs hi).mono k1 k2 (fun j b hb'=>⟨by rw[same b (by rw[hb'];simp),hb'],rfl⟩) rfl
  ·simp only[o2] at hb'
   split at hb'
   ·cases hb'
   ·exact hh.inv b id hb'
  ·by_cases hs':∃ t i j,own b=.slot t i j
   ·obtain⟨t,i,j,hs'⟩:=hs'
    exact Nat.lt_of_lt_of_le (h.heap.lt b (by rw[hs'];simp)) hs.size
   ·have:o2 b=o1 b:=by
     simp only[o2];split
     ·rename_i t i j hq;exact absurd ⟨t,i,j,hq⟩ hs'
     ·rfl
    rw[this] at hb';exact hh.lt b hb'
 ·obtain⟨h1,h2⟩:=hs.other b hlt (by simp only[hb',Vm.lower])
  exact⟨by simp only[o2,hb',h1],h2⟩
 ·exact ht.mono k1 k2 (fun i j b hb'=>⟨by rw[same b (by rw[hb'];simp),hb'],rfl⟩)
theorem zipIdx_map_getElem? {α γ:Type} (f:α×Nat→γ):∀ (l:List α) (i:Nat),(l.zipIdx.map f)[i]?=(l[i]?).map fun x=>f (x,i):=by
 intro l i;rw[List.getElem?_map,List.getElem?_zipIdx];cases l[i]?<;>simp
theorem maskH_length (ks:List Nat) (H:Heap):(maskH ks H).length=H.length:=by simp[maskH]
theorem putH_length (ks:List Nat) (H H':Heap):(putH ks H H').length=H.length:=by simp[putH]
theorem bcells_mask (ks:List Nat) (H:Heap) (id:Nat):bcells (maskH ks H) id=if ks.contains id then bcells H id else none:=by
 unfold bcells maskH;rw[zipIdx_map_getElem?];cases H[id]? with
 | none=>simp
 | some b=>cases hk:ks.contains id<;>simp only[Option.map_some,hk,Bool.false_eq_true,if_false,if_true]
theorem bcells_putH (ks:List Nat) (H H':Heap) (id:Nat):bcells (putH ks H H'++H'.drop H.length) id=if id<H.length∧ks.contains id=false then bcells H id else bcells H' id:=by
 unfold bcells;rcases Nat.lt_or_ge id H.length with hlt | hge
 ·rw[List.getElem?_append_left (by rw[putH_length];exact hlt)]
  unfold putH;rw[zipIdx_map_getElem?,List.getElem?_eq_getElem hlt];by_cases hk:ks.contains id=true
  ·simp only[hk,Option.map_some,if_true]
   rw[if_neg (by simp)]
   rw[List.getD_eq_getElem?_getD];cases H'[id]?<;>simp
  ·have hk':ks.contains id=false:=by simpa using hk
   simp only[hk',Option.map_some,Bool.false_eq_true,if_false];rw[if_pos ⟨hlt,trivial⟩]
 ·rw[List.getElem?_append_right (by rw[putH_length];exact hge),putH_length,List.getElem?_drop,if_neg (by omega),Nat.add_sub_cancel' hge]
theorem deadOut_none {ks:List Nat} {n:Nat} {H:Heap} (h:deadOut ks n H=true) {id:Nat} (hid:id<n) (hk:ks.contains id=false):bcells H id=none:=by
 have:=List.all_eq_true.1 h id (List.mem_range.2 hid)
 rw[hk,Bool.false_or,List.getD_eq_getElem?_getD] at this;unfold bcells;cases hx:H[id]? with
 | none=>rfl
 | some b=>rw[hx] at this;cases b<;>simp[isDead] at this ⊢
def mlower (ks:List Nat) (l:Loc):Loc:=match l with
 | .slot _ _ _=>.other
 | .res _ _=>.other
 | .blk id=>if ks.contains id then .blk id else .other
 | .cell id j=>if ks.contains id then .cell id j else .other
 | l=>l
def hid (ks:List Nat) (l:Loc):Bool:=match l with
 | .slot _ _ _=>true
 | .blk id=>!ks.contains id
 | .cell id _=>!ks.contains id
 | _=>false
theorem mlower_hid {ks:List Nat} {l:Loc} (h:hid ks l=true):mlower ks l=.other:=by
 cases l<;>simp_all [hid,mlower]
theorem mlower_not {ks:List Nat} {l:Loc}:∀ {i j k:Nat},mlower ks l≠.slot i j k:=by
 intro i j k hq;cases l<;>simp only[mlower] at hq<;>first | cases hq | (split at hq<;>cases hq)
theorem PR.mask {ks:List Nat} {v:V} {c:Value} (h:PR own β w v c) (hv:(ptrId v).all ks.contains=true):PR (fun b=>mlower ks (own b)) β w v c:=by
 cases v<;>simp only[PR] at h ⊢<;>first
  | exact h.mono fun b hb=>⟨by simp only[hb,mlower],rfl⟩
  | (refine⟨h.1,?_⟩
     simp only[ptrId,List.all_cons,List.all_nil,Bool.and_true] at hv;rw[h.2];simp only[mlower,hv,if_true])
theorem CR.mask {ks:List Nat} {l:Loc} {v:V} {c:Value} (h:CR own β w l v c) (hl:mlower ks l=l) (hv:(ptrId v).all ks.contains=true):CR (fun b=>mlower ks (own b)) β w l v c:=by
 have k1:∀ b,own b=.im→(fun b=>mlower ks (own b)) b=.im∧w.heap[b]?=w.heap[b]?:=fun b hb=>⟨by simp only[hb,mlower],rfl⟩
 cases v<;>simp only[CR] at h ⊢<;>first
  | exact h.mono k1
  | (refine⟨h.1,?_⟩
     simp only[ptrId,List.all_cons,List.all_nil,Bool.and_true] at hv;rw[h.2];simp only[mlower,hv,if_true])
  | exact EXR.mono h k1 (fun b hb=>⟨by simp only[hb,hl],rfl⟩)
  | (obtain⟨ca,cb,h1,h2,h3,h4,h5⟩:=h
     simp only[ptrId,List.flatMap_append,List.all_append,Bool.and_eq_true] at hv;have sub:∀ (a:List V),(a.flatMap ptr0).all ks.contains=true→∀ (j:Nat) (v:V) (c:Value),a[j]?=some v→PR own β w v c→PR (fun b=>mlower ks (own b)) β w v c:=by
      intro a ha j v c hv hc;have key:∀ id,ptr0 v=[id]→ks.contains id=true:=fun id he=>by
       rw[List.all_eq_true] at ha;exact ha id (List.mem_flatMap.2 ⟨v,List.mem_of_getElem? hv,by rw[he];simp⟩)
      cases v with
      | ptr id off=>exact hc.mask (by simp only[ptrId,List.all_cons,List.all_nil,Bool.and_true];exact key id rfl)
      | ref m id=>exact hc.mask (by simp only[ptrId,List.all_cons,List.all_nil,Bool.and_true];exact key id rfl)
      | _=>exact FR.mono hc fun b hb=>⟨by simp only[hb,mlower],rfl⟩
     exact⟨ca,cb,h1,h2,h3,fun j v c hv' hc=>sub _ hv.1 j v c hv' (h4 j v c hv' hc),fun j v c hv' hc=>sub _ hv.2 j v c hv' (h5 j v c hv' hc)⟩)
theorem VR.mask {ks:List Nat} {L:Nat→Loc} {v:V} {c:Value} (h:VR own β w L v c) (hl:∀ j,mlower ks (L j)=L j) (hv:∀ x∈v.cells,(ptrId x).all ks.contains=true):VR (fun b=>mlower ks (own b)) β w L v c:=by
 cases v with
 | undef=>trivial
 | agg ds =>
  obtain⟨arr,e1,e2,e3⟩:=h;exact⟨arr,e1,e2,fun j u c hu hcu=>(e3 j u c hu hcu).mask (hl j) (hv u (List.mem_of_getElem? hu))⟩
 | rptr ds off =>
  obtain⟨b,o,e1,e2,e3⟩:=h;refine⟨b,o,e1,by simp only[e2,mlower],fun j u hu=>?_⟩
  obtain⟨c',q1,q2⟩:=e3 j u hu;exact⟨c',q1,q2.mono fun b hb=>⟨by simp only[hb,mlower],rfl⟩⟩
 | bool b=>exact CR.mask (β:=β) (w:=w) (v:=.bool b) h (hl 0) (hv _ (by simp[V.cells]))
 | int k n=>exact CR.mask (β:=β) (w:=w) (v:=.int k n) h (hl 0) (hv _ (by simp[V.cells]))
 | str s=>exact CR.mask (β:=β) (w:=w) (v:=.str s) h (hl 0) (hv _ (by simp[V.cells]))
 | nilp=>exact CR.mask (β:=β) (w:=w) (v:=.nilp) h (hl 0) (hv _ (by simp[V.cells]))
 | nilf=>exact CR.mask (β:=β) (w:=w) (v:=.nilf) h (hl 0) (hv _ (by simp[V.cells]))
 | ptr id off=>exact CR.mask (β:=β) (w:=w) (v:=.ptr id off) h (hl 0) (hv _ (by simp[V.cells]))
 | xptr p i off=>exact CR.mask (β:=β) (w:=w) (v:=.xptr p i off) h (hl 0) (hv _ (by simp[V.cells]))
 | sl n xs=>exact CR.mask (β:=β) (w:=w) (v:=.sl n xs) h (hl 0) (hv _ (by simp[V.cells]))
 | ex sz n xs=>exact CR.mask (β:=β) (w:=w) (v:=.ex sz n xs) h (hl 0) (hv _ (by simp[V.cells]))
 | lent p=>exact CR.mask (β:=β) (w:=w) (v:=.lent p) h (hl 0) (hv _ (by simp[V.cells]))
 | clo f x y=>exact CR.mask (β:=β) (w:=w) (v:=.clo f x y) h (hl 0) (hv _ (by simp[V.cells]))
 | tup us=>exact CR.mask (β:=β) (w:=w) (v:=.tup us) h (hl 0) (hv _ (by simp[V.cells]))
 | nilm=>exact CR.mask (β:=β) (w:=w) (v:=.nilm) h (hl 0) (hv _ (by simp[V.cells]))
 | ref m id=>exact CR.mask (β:=β) (w:=w) (v:=.ref m id) h (hl 0) (hv _ (by simp[V.cells]))
 | mp ks vs=>exact CR.mask (β:=β) (w:=w) (v:=.mp ks vs) h (hl 0) (hv _ (by simp[V.cells]))
 | lp ts vs ps asg body cx st=>exact CR.mask (β:=β) (w:=w) (v:=.lp ts vs ps asg body cx st) h (hl 0) (hv _ (by simp[V.cells]))
theorem ptrId_flat {v:V} (h:V.flat v=true):∀ x∈v.cells,ptrId x=[]:=fun x hx=>by
 have:=List.all_eq_true.1 h x hx
 cases x<;>first | rfl | (simp[flatC] at this)
theorem BR.mask {ks:List Nat} {id:Nat} {cs:List V} (h:BR own β w id cs) (hk:ks.contains id=true) (hall:(cs.flatMap ptrX).all ks.contains=true):BR (fun b=>mlower ks (own b)) β w id cs:=by
 rcases h with ⟨h1,h2,arr,T,h3,h4,h5⟩ | ⟨h1,v,o,rfl,h3,h4⟩
 ·refine .inl ⟨by simp only[h1,mlower,hk,if_true],h2,arr,T,h3,h4,fun j v c hv hcv=>(h5 j v c hv hcv).mask (by simp only[mlower,hk,if_true]) ?_⟩
  have hlt:=(Array.getElem?_eq_some_iff.1 hcv).1;have hns:=(h5 j v c hv hcv).notSpec;rw[List.all_eq_true] at hall ⊢;refine fun x hx=>hall x (List.mem_flatMap.2 ⟨v,List.mem_of_getElem? hv,?_⟩)
  cases v<;>first | exact hx | (simp[isSpec] at hns)
 ·refine .inr ⟨by simp only[h1,mlower,hk,if_true],v,o,rfl,h3,withVals_id v▸h4.imp (fun v=>v) (fun u c hu hx=>⟨hx.1.mask (fun _=>rfl) fun x hxc=>?_,hx.2⟩) rfl (fun u c hx hf=>⟨hx.1.mask (fun _=>rfl) fun x hxc=>by rw[ptrId_flat hf x hxc];rfl,hx.2⟩)⟩
  rcases hu with hu | rfl
  ·rw[List.all_eq_true] at hall ⊢
   refine fun y hy=>hall y (List.mem_flatMap.2 ⟨v,by simp,?_⟩)
   cases v<;>first
    | (simp only[valsOf] at hu;exact List.mem_flatMap.2 ⟨u,hu,List.mem_flatMap.2 ⟨x,hxc,hy⟩⟩)
    | (simp[valsOf] at hu)
  ·simp[V.cells] at hxc;subst hxc;rfl
theorem HR.mask {ks:List Nat} {H:Heap} (h:HR own β w H) (hc:closedK ks H=true):HR (fun b=>mlower ks (own b)) β w (maskH ks H):=by
 refine⟨fun id cs hi=>?_,fun b id hb=>?_,fun b hb=>h.lt b fun hn=>hb (by simp only[hn,mlower])⟩
 ·rw[bcells_mask] at hi
  split at hi
  ·rename_i hk
   have hall:=List.all_eq_true.1 hc id (by simpa using hk)
   simp only[cellIds,hi] at hall;exact (h.blk id cs hi).mask hk hall
  ·cases hi
 ·cases ho:own b with
  | blk id' =>
   rw[ho] at hb;simp only[mlower] at hb;split at hb
   ·rename_i hk
    injection hb with hb;subst hb;obtain⟨e,cs,hcs⟩:=h.inv b _ ho;exact⟨e,cs,by rw[bcells_mask,if_pos hk];exact hcs⟩
   ·cases hb
  | _ =>
   rw[ho] at hb;simp only[mlower] at hb
   first
    | (cases hb;done)
    | (split at hb<;>cases hb)
theorem AR.mask {ks:List Nat} {vs:List V} {cs:List Value} (h:AR own β w vs cs) (hv:(argIds vs).all ks.contains=true):AR (fun b=>mlower ks (own b)) β w vs cs:=by
 refine⟨h.1,fun j v c hj hc=>⟨?_,(h.2 j v c hj hc).2⟩⟩
 obtain⟨h1,h2⟩:=h.2 j v c hj hc;have hin:∀ x∈v.cells,(ptrId x).all ks.contains=true:=fun x hx=>by
  rw[List.all_eq_true] at hv ⊢;exact fun y hy=>hv y (List.mem_flatMap.2 ⟨v,List.mem_of_getElem? hj,List.mem_flatMap.2 ⟨x,hx,hy⟩⟩)
 exact h1.mask (fun _=>rfl) hin
theorem killCellsIn_ref {ks:List Nat} {v:V} {i j:Nat} (h:(killCellsIn ks v).refsTo (.cell i j)=true):ks.contains i=false:=by
 cases v with
 | lent p =>
  cases p with
  | slot t=>simp[killCellsIn,V.refsTo] at h
  | cell a b =>
   by_cases hk:ks.contains a=true
   ·simp only[killCellsIn,hk,if_true,V.refsTo,Bool.false_eq_true] at h
   ·simp only[killCellsIn,hk,V.refsTo,Bool.false_eq_true,if_false,beq_iff_eq] at h
    injection h with h1 _;subst h1;simpa using hk
 | xptr p k off =>
  cases p with
  | slot t=>simp[killCellsIn,V.refsTo] at h
  | cell a b =>
   by_cases hk:ks.contains a=true
   ·simp only[killCellsIn,hk,if_true,V.refsTo,Bool.false_eq_true] at h
   ·simp only[killCellsIn,hk,V.refsTo,Bool.false_eq_true,if_false,beq_iff_eq] at h
    injection h with h1 _;subst h1;simpa using hk
 | _=>simp[killCellsIn,V.refsTo] at h
theorem SR.killCellsIn (ks:List Nat) (h:SR own β w σ a.tmps):SR own β w {env:=σ.env.map (fun x=>(x.1,Vm.killCellsIn ks x.2)),heap:=σ.heap} a.tmps:=by
 have hlook:∀ p sz n xs,look σ p=.ex sz n xs→look {env:=σ.env.map (fun x=>(x.1,Vm.killCellsIn ks x.2)),heap:=σ.heap} p=.ex sz n xs:=fun p sz n xs hl=>by
  cases p with
  | slot t=>simp only[look] at hl ⊢;rw[get_map (Vm.killCellsIn ks) rfl,hl];rfl
  | cell i j=>exact hl
 refine⟨fun u=>?_,h.heap⟩
 rw[get_map (Vm.killCellsIn ks) rfl];have hu:=h.env u;cases hv:get σ.env u with
 | lent p =>
  rw[hv] at hu;obtain⟨sz,n,xs,h1,h2⟩:=hu;have keep:ER own β w {env:=σ.env.map (fun x=>(x.1,Vm.killCellsIn ks x.2)),heap:=σ.heap} a.tmps u (.lent p) (a.tmps.getD u undef):=⟨sz,n,xs,hlook p sz n xs h1,h2⟩
  cases p with
  | slot t=>exact keep
  | cell i j =>
   by_cases hk:ks.contains i=true
   ·simp only[Vm.killCellsIn,hk,if_true];exact ER.undef _ _ _ _ _ _ _
   ·simp only[Vm.killCellsIn,hk];exact keep
 | xptr p i off =>
  rw[hv] at hu;obtain⟨sz,n,xs,b,len,cap,h1,h2⟩:=hu;have keep:ER own β w {env:=σ.env.map (fun x=>(x.1,Vm.killCellsIn ks x.2)),heap:=σ.heap} a.tmps u (.xptr p i off) (a.tmps.getD u undef):=⟨sz,n,xs,b,len,cap,hlook p sz n xs h1,h2⟩
  cases p with
  | slot t=>exact keep
  | cell i' j =>
   by_cases hk:ks.contains i'=true
   ·simp only[Vm.killCellsIn,hk,if_true];exact ER.undef _ _ _ _ _ _ _
   ·simp only[Vm.killCellsIn,hk];exact keep
 | _=>rw[hv] at hu;exact hu
theorem back_part (ks:List Nat) (h:SR own β w σ a.tmps) {o1:Own} {β1:Nat→Nat} {w1:World} {H1:Heap} {r:V} {c:Value} (hh:HR o1 β1 w1 H1) (hs:Stay (fun b=>mlower ks (own b)) w o1 w1)
  (hb:BX β β1 (maskH ks σ.heap) H1) (hd:deadOut ks σ.heap.length H1=true) (ht:TR o1 β1 w1 (fun i j=>.res i j) r c) :
  ∃ o2 β2,Nxt own β w σ a o2 β2 w1 (partS ks σ H1) a∧TR o2 β2 w1 (fun i j=>.res i j) r c:=by
 have hlen:σ.heap.length≤H1.length:=by have:=hb.1;rwa [maskH_length] at this
 let o2:Own:=fun b=>if hid ks (own b)=true then own b else o1 b
 let β2:Nat→Nat:=fun id=>if id<σ.heap.length∧ks.contains id=false then β id else β1 id
 have hidv:∀ b,hid ks (own b)=true→o1 b=.other∧w1.heap[b]?=w.heap[b]?:=fun b hq =>
  hs.other b (h.heap.lt b (by intro hn;rw[hn] at hq;simp[hid] at hq)) (mlower_hid hq)
 have o2h:∀ b,hid ks (own b)=true→o2 b=own b:=fun b hq=>by simp only[o2,if_pos hq]
 have same:∀ b,o1 b≠.other→o2 b=o1 b:=fun b hb'=>by
  simp only[o2];split
  ·rename_i hq;exact absurd (hidv b hq).1 hb'
  ·rfl
 have imv:∀ b,own b=.im→o2 b=.im∧w1.heap[b]?=w.heap[b]?:=fun b hb'=>by
  obtain⟨h1,h2⟩:=hs.im b (by simp only[hb',mlower])
  exact⟨by rw[same b (by rw[h1];simp),h1],h2⟩
 have bnew:∀ id,bcells (partS ks σ H1).heap id=if id<σ.heap.length∧ks.contains id=false then bcells σ.heap id else bcells H1 id:=fun id=>bcells_putH ks σ.heap H1 id
 have b2h:∀ id,id<σ.heap.length∧ks.contains id=false→β2 id=β id:=fun id hq=>by simp only[β2,if_pos hq]
 have b2k:∀ id,¬ (id<σ.heap.length∧ks.contains id=false)→β2 id=β1 id:=fun id hq=>by simp only[β2,if_neg hq]
 have vis:∀ id cs,bcells H1 id=some cs→¬ (id<σ.heap.length∧ks.contains id=false):=fun id cs hi hq=>by
  rw[deadOut_none hd hq.1 hq.2] at hi;cases hi
 have kept:∀ id cs,bcells σ.heap id=some cs→ks.contains id=true→β1 id=β id∧∃ cs',bcells H1 id=some cs':=fun id cs hi hk =>
  hb.2 id cs (by rw[bcells_mask,if_pos hk];exact hi)
 have blkv:∀ id,own (β id)=.blk id→o2 (β2 id)=.blk id∧β2 id=β id:=fun id hb'=>by
  obtain⟨_,cs,hcs⟩:=h.heap.inv _ _ hb';by_cases hk:ks.contains id=true
  ·obtain⟨e1,cs',hcs'⟩:=kept id cs hcs hk
   have:=(hh.blk id cs' hcs').own
   have e2:=b2k id (fun hq=>absurd (hk.symm.trans hq.2) (by simp))
   exact⟨by rw[e2,same _ (by rw[this];simp),this],by rw[e2,e1]⟩
  ·have hk':ks.contains id=false:=by simpa only [Bool.not_eq_true] using hk
   have e2:=b2h id ⟨bcells_lt hcs,hk'⟩;exact⟨by rw[e2,o2h _ (by rw[hb'];simp only[hid,hk',Bool.not_false]),hb'],e2⟩
 have k1:∀ b,o1 b=.im→o2 b=.im∧w1.heap[b]?=w1.heap[b]?:=fun b hb'=>⟨by rw[same b (by rw[hb'];simp),hb'],rfl⟩
 have k2:∀ id,o1 (β1 id)=.blk id→o2 (β2 id)=.blk id∧β2 id=β1 id:=fun id hb'=>by
  obtain⟨_,cs,hcs⟩:=hh.inv _ _ hb';have e2:=b2k id (vis id cs hcs);exact⟨by rw[e2,same _ (by rw[hb'];simp),hb'],e2⟩
 have cellv:∀ id j b,ks.contains id=false→own b=.cell id j→o2 b=.cell id j∧w1.heap[b]?=w.heap[b]?:=fun id j b hk hb'=>by
  have hq:hid ks (own b)=true:=by rw[hb'];simp only[hid,hk,Bool.not_false]
  exact⟨by rw[o2h b hq,hb'],(hidv b hq).2⟩
 have slotv:∀ b t i j,own b=.slot t i j→o2 b=.slot t i j∧w1.heap[b]?=w.heap[b]?:=fun b t i j hb'=>by
  have hq:hid ks (own b)=true:=by rw[hb'];rfl
  exact⟨by rw[o2h b hq,hb'],(hidv b hq).2⟩
 have blkheap:∀ id cs,bcells σ.heap id=some cs→ks.contains id=false→w1.heap[β id]?=w.heap[β id]?:=fun id cs hi hk=>by
  have hq:hid ks (own (β id))=true:=by rw[(h.heap.blk id cs hi).own];simp only[hid,hk,Bool.not_false]
  exact (hidv _ hq).2
 have hk:=h.killCellsIn ks;refine⟨o2,β2,⟨⟨fun u=>?_,⟨fun id cs hi=>?_,fun b id hb'=>?_,fun b hb'=>?_⟩⟩,⟨imv,fun b hlt hb'=>?_,hs.size,hs.os,hs.tape,hs.output,hs.drawn,hs.cells⟩,⟨?_,fun id cs hi=>?_⟩,rfl,rfl⟩,?_⟩
 ·have hu:=hk.env u
  simp only[partS];rw[get_map (Vm.killCellsIn ks) rfl] at hu ⊢;have hlk:∀ p,(Vm.killCellsIn ks (get σ.env u)).refsTo p=true→∃ sz n xs,look {env:=σ.env.map (fun x=>(x.1,Vm.killCellsIn ks x.2)),heap:=σ.heap} p=.ex sz n xs:=fun p hp=>by
   generalize Vm.killCellsIn ks (get σ.env u)=v at hu hp;cases v with
   | lent q =>
    obtain⟨sz,n,xs,q1,_⟩:=hu;simp only[V.refsTo,beq_iff_eq] at hp;subst hp;exact⟨sz,n,xs,q1⟩
   | xptr q i off =>
    obtain⟨sz,n,xs,_,_,_,q1,_⟩:=hu;simp only[V.refsTo,beq_iff_eq] at hp;subst hp;exact⟨sz,n,xs,q1⟩
   | _=>simp[V.refsTo] at hp
  refine hu.keep imv blkv (fun i j b hb'=>slotv b u i j hb') (fun p hp=>?_)
  cases p with
  | slot x=>exact⟨fun sz n xs hl=>⟨n,xs,hl,rfl⟩,fun c hc=>hc,fun b hb'=>(slotv b x 0 0 hb').1⟩
  | cell i j =>
   have hki:=killCellsIn_ref hp;refine⟨fun sz n xs hl=>⟨n,xs,?_,rfl⟩,fun c hc=>?_,fun b hb'=>(cellv i j b hki hb').1⟩
   ·obtain⟨cs,hcs,_⟩:=Place.cases_look hl
    simp only[look] at hl ⊢;have:=bnew i
    simp only[partS] at this;rw[this,if_pos ⟨bcells_lt hcs,hki⟩];exact hl
   ·obtain⟨sz,n,xs,hl⟩:=hlk _ hp
    obtain⟨cs,hcs,_⟩:=Place.cases_look hl;simp only[conc] at hc ⊢;rw[b2h i ⟨bcells_lt hcs,hki⟩,World.cell?_of_block (w:=w) (by exact blkheap i cs hcs hki)]
    exact hc
 ·rw[bnew] at hi
  split at hi
  ·rename_i hq
   exact (h.heap.blk id cs hi).mono imv blkv (fun j b hb'=>cellv id j b hq.2 hb') (blkheap id cs hi hq.2)
  ·exact (hh.blk id cs hi).mono k1 k2 (fun j b hb'=>⟨by rw[same b (by rw[hb'];simp),hb'],rfl⟩) rfl
 ·simp only[o2] at hb'
  split at hb'
  ·rename_i hq
   obtain⟨e,cs,hcs⟩:=h.heap.inv b id hb';have hk':ks.contains id=false:=by rw[hb'] at hq;simpa only [hid,Bool.not_eq_true'] using hq
   refine⟨by rw[b2h id ⟨bcells_lt hcs,hk'⟩,e],cs,?_⟩
   rw[bnew,if_pos ⟨bcells_lt hcs,hk'⟩];exact hcs
  ·obtain⟨e,cs,hcs⟩:=hh.inv b id hb'
   refine⟨by rw[b2k id (vis id cs hcs),e],cs,?_⟩
   rw[bnew,if_neg (vis id cs hcs)];exact hcs
 ·by_cases hq:hid ks (own b)=true
  ·exact Nat.lt_of_lt_of_le (h.heap.lt b (by intro hn;rw[hn] at hq;simp[hid] at hq)) hs.size
  ·have:o2 b=o1 b:=by simp only[o2,if_neg hq]
   rw[this] at hb';exact hh.lt b hb'
 ·obtain⟨h1,h2⟩:=hs.other b hlt (by simp only[hb',mlower])
  exact⟨by simp only[o2,hb',hid,h1];rfl,h2⟩
 ·simp only[partS,List.length_append,putH_length,List.length_drop];omega
 ·by_cases hk':ks.contains id=true
  ·obtain⟨e,cs',hcs'⟩:=kept id cs hi hk'
   refine⟨by rw[b2k id (fun hq=>absurd (hk'.symm.trans hq.2) (by simp)),e],cs',?_⟩
   rw[bnew,if_neg (fun hq=>absurd (hk'.symm.trans hq.2) (by simp))];exact hcs'
  ·have hk'':ks.contains id=false:=by simpa only [Bool.not_eq_true] using hk'
   refine⟨b2h id ⟨bcells_lt hi,hk''⟩,cs,?_⟩;rw[bnew,if_pos ⟨bcells_lt hi,hk''⟩];exact hi
 ·exact ht.mono k1 k2 (fun i j b hb'=>⟨by rw[same b (by rw[hb'];simp),hb'],rfl⟩)
end
end Go.Vm
end
section
namespace Go.Vm
open Go
section
variable {P:Program} {o:Oper} {own own':Own} {β β':Nat→Nat} {w:World} {σ:St} {a:Act} {n:Nat}
def oneC:V→Bool
 | .agg _ | .rptr _ _ | .undef=>false
 | _=>true
theorem VR_one {own:Own} {β:Nat→Nat} {w:World} {L:Nat→Loc} {v:V} {c:Value} (h:oneC v=true):VR own β w L v c=CR own β w (L 0) v c:=by
 cases v<;>first | rfl | (simp[oneC] at h)
def oneT:V→Bool
 | .tup _=>false
 | _=>true
theorem TR_one {own:Own} {β:Nat→Nat} {w:World} {L:Nat→Nat→Loc} {v:V} {c:Value} (h:oneT v=true):TR own β w L v c=VR own β w (L 0) v c:=by
 cases v<;>first | rfl | (simp[oneT] at h)
theorem PR.shift (him:∀ b,own b=.im→own' b=.im) (hblk:∀ id,own (β id)=.blk id→own' (β' (id+n))=.blk (id+n)∧β' (id+n)=β id) {v:V} {c:Value} (h:PR own β w v c) :
  PR own' β' w (shiftP n v) c:=by
 cases v<;>simp only[PR,shiftP] at h ⊢<;>first
  | exact h.mono fun b hb=>⟨him b hb,rfl⟩
  | exact⟨by rw[(hblk _ h.2).2];exact h.1,(hblk _ h.2).1⟩
theorem CR.shift (him:∀ b,own b=.im→own' b=.im) (hblk:∀ id,own (β id)=.blk id→own' (β' (id+n))=.blk (id+n)∧β' (id+n)=β id) {l l':Loc} (hl:∀ b,own b=l→own' b=l')
  {v:V} {c:Value} (h:CR own β w l v c):CR own' β' w l' (shiftC n v) c:=by
 cases v<;>simp only[CR,shiftC] at h ⊢<;>first
  | exact h.mono fun b hb=>⟨him b hb,rfl⟩
  | exact⟨by rw[(hblk _ h.2).2];exact h.1,(hblk _ h.2).1⟩
  | (rcases h with h | h | ⟨hn,b,cap,T,arr,h1,h2,h3,h4,h5,h6⟩
     ·exact .inl h
     ·exact .inr (.inl h)
     ·exact .inr (.inr ⟨hn,b,cap,T,arr,h1,hl b h2,h3,h4,h5,fun i x hx=>⟨(h6 i x hx).1,fun j y c hy hc=>((h6 i x hx).2 j y c hy hc).mono fun b hb=>⟨him b hb,rfl⟩⟩⟩))
  | (obtain⟨ca,cb,h1,h2,h3,h4,h5⟩:=h
     refine⟨ca,cb,h1,by simpa using h2,by simpa using h3,fun j v c hv hc=>?_,fun j v c hv hc=>?_⟩
     ·rw[List.getElem?_map,Option.map_eq_some_iff] at hv
      obtain⟨u,hu,rfl⟩:=hv;exact (h4 j u c hu hc).shift him hblk
     ·rw[List.getElem?_map,Option.map_eq_some_iff] at hv
      obtain⟨u,hu,rfl⟩:=hv;exact (h5 j u c hu hc).shift him hblk)
theorem VR.shift (him:∀ b,own b=.im→own' b=.im) (hblk:∀ id,own (β id)=.blk id→own' (β' (id+n))=.blk (id+n)∧β' (id+n)=β id) {L:Nat→Loc} (hl:∀ j b,own b=L j→own' b=L j)
  {v:V} {c:Value} (h:VR own β w L v c):VR own' β' w L (shift1 n v) c:=by
 cases v with
 | agg cs =>
  obtain⟨arr,h1,h2,h3⟩:=h;refine⟨arr,h1,by simpa using h2,fun j v c hv hc=>?_⟩
  rw[List.getElem?_map,Option.map_eq_some_iff] at hv;obtain⟨u,hu,rfl⟩:=hv;exact (h3 j u c hu hc).shift him hblk (hl j)
 | rptr cs off =>
  obtain⟨b,o,h1,h2,h3⟩:=h;refine⟨b,o,h1,him b h2,fun j v hv=>?_⟩
  obtain⟨c',h4,h5⟩:=h3 j v hv;exact⟨c',h4,h5.mono fun b hb=>⟨him b hb,rfl⟩⟩
 | undef=>trivial
 | lent p=>exact absurd h.notWay.1 (by simp[isWay])
 | xptr p i off=>exact absurd h.notWay.1 (by simp[isWay])
 | tup vs=>exact absurd rfl (h.notWay.2 _)
 | _ =>
  rw[VR_one rfl] at h ⊢;exact CR.shift (n:=n) him hblk (hl 0) h
theorem TR.shift (him:∀ b,own b=.im→own' b=.im) (hblk:∀ id,own (β id)=.blk id→own' (β' (id+n))=.blk (id+n)∧β' (id+n)=β id) {L:Nat→Nat→Loc} (hl:∀ i j b,own b=L i j→own' b=L i j)
  {v:V} {c:Value} (h:TR own β w L v c):TR own' β' w L (Vm.shift n v) c:=by
 cases v with
 | tup vs =>
  obtain⟨arr,h1,h2,h3⟩:=h;refine⟨arr,h1,by simpa using h2,fun j v c hv hc=>?_⟩
  rw[List.getElem?_map,Option.map_eq_some_iff] at hv;obtain⟨u,hu,rfl⟩:=hv;exact (h3 j u c hu hc).shift him hblk (hl j)
 | lent p=>exact absurd (TR.notWay h) (by simp[isWay])
 | xptr p i off=>exact absurd (TR.notWay h) (by simp[isWay])
 | undef=>trivial
 | _ =>
  rw[TR_one rfl] at h ⊢;exact VR.shift (n:=n) him hblk (hl 0) h
theorem okBelow_shift {k:Nat} {v:V} (h:okBelow k v=true):okBelow (k+n) (shiftC n v)=true:=by
 cases v with
 | ptr id off=>simp[okBelow,shiftC] at h ⊢;exact h
 | ref m id=>simp[okBelow,shiftC] at h ⊢;exact h
 | clo f x y =>
  simp only[okBelow,shiftC,List.all_eq_true,List.mem_append,←List.map_append] at h ⊢
  rintro v hv
  obtain⟨u,hu,rfl⟩:=List.mem_map.1 hv;have:=h u (List.mem_append.1 hu)
  cases u<;>simp[shiftP] at this ⊢<;>exact this
 | lent p=>cases p<;>simp[okBelow,shiftC] at h ⊢<;>omega
 | xptr p i off=>cases p<;>simp[okBelow,shiftC] at h ⊢<;>omega
 | _=>rfl
theorem FR.flat {own own':Own} {w w':World} {v:V} {c:Value} (h:FR own w v c) (hf:flatC v=true):FR own' w' v c:=by
 cases h<;>first
  | (simp[flatC] at hf;done)
  | exact .undef _ ‹_›
  | exact .bool _
  | exact .int _ _
  | exact .str _
  | exact .nilp
  | exact .nilf
  | exact .nilm
theorem CR.apart {l:Loc} {v:V} {c:Value} (h:CR own β w l v c) (ha:apartC v=true) (hl:∀ b,own b=l→own' b=l):CR own' β' w l v c:=by
 cases v with
 | ex sz m xs =>
  simp only[apartC,List.all_eq_true] at ha;rcases h with h | h | ⟨hn,b,cap,T,arr,h1,h2,h3,h4,h5,h6⟩
  ·exact .inl h
  ·exact .inr (.inl h)
  ·refine .inr (.inr ⟨hn,b,cap,T,arr,h1,hl b h2,h3,h4,h5,fun i x hx=>⟨(h6 i x hx).1,fun j y c hy hc=>?_⟩⟩)
   have hx':=ha x (List.mem_of_getElem? hx);simp only[V.flat,List.all_eq_true] at hx';exact ((h6 i x hx).2 j y c hy hc).flat (hx' y (List.mem_of_getElem? hy))
 | sl m xs =>
  simp only[apartC,Bool.and_eq_true,List.isEmpty_iff] at ha;obtain⟨rfl,rfl⟩:=ha;simp only[CR] at h ⊢;cases h;exact .nil
 | _=>first
  | (simp[apartC] at ha;done)
  | (simp only[CR] at h ⊢;exact h.flat rfl)
theorem VR.apart {L:Nat→Loc} {v:V} {c:Value} (h:VR own β w L v c) (ha:v.cells.all apartC=true) (hl:∀ j b,own b=L j→own' b=L j):VR own' β' w L v c:=by
 cases v with
 | agg cs =>
  simp only[V.cells,List.all_eq_true] at ha;obtain⟨arr,h1,h2,h3⟩:=h;exact⟨arr,h1,h2,fun j v c hv hc=>(h3 j v c hv hc).apart (ha v (List.mem_of_getElem? hv)) (hl j)⟩
 | undef=>trivial
 | rptr cs off=>simp[V.cells,apartC] at ha
 | lent p=>exact absurd h.notWay.1 (by simp[isWay])
 | xptr p i off=>exact absurd h.notWay.1 (by simp[isWay])
 | tup vs=>exact absurd rfl (h.notWay.2 _)
 | _ =>
  rw[VR_one rfl] at h ⊢;exact CR.apart h (by simpa [V.cells] using ha) (hl 0)
theorem TR.apart {L:Nat→Nat→Loc} {v:V} {c:Value} (h:TR own β w L v c) (ha:Vm.apart v=true) (hl:∀ i j b,own b=L i j→own' b=L i j):TR own' β' w L v c:=by
 cases v with
 | tup vs =>
  simp only[Vm.apart,List.all_eq_true] at ha;obtain⟨arr,h1,h2,h3⟩:=h;exact⟨arr,h1,h2,fun j v c hv hc=>(h3 j v c hv hc).apart (List.all_eq_true.2 (ha v (List.mem_of_getElem? hv))) (hl j)⟩
 | lent p=>exact absurd (TR.notWay h) (by simp[isWay])
 | xptr p i off=>exact absurd (TR.notWay h) (by simp[isWay])
 | undef=>trivial
 | _ =>
  rw[TR_one rfl] at h ⊢;exact VR.apart h ha (hl 0)
theorem noEx_shift {v:V} (h:noEx v=true):noEx (shift1 n v)=true:=by
 cases v with
 | agg cs =>
  simp only[noEx,shift1,List.all_eq_true,List.mem_map] at h ⊢
  rintro x ⟨y,hy,rfl⟩
  have:=h y hy
  cases y<;>first | rfl | (simp[notEx] at this)
 | _=>first
  | rfl
  | (simp[noEx] at h;done)
theorem shift1_cells (v:V):(shift1 n v).cells=v.cells.map (shiftC n):=by
 cases v<;>rfl
theorem XR.shift (him:∀ b,own b=.im→own' b=.im) (hblk:∀ id,own (β id)=.blk id→own' (β' (id+n))=.blk (id+n)∧β' (id+n)=β id) {id:Nat} {v:V} {c:Value} (h:XR own β w id v c) :
  XR own' β' w (id+n) (shift1 n v) c:=by
 refine⟨h.1.shift him hblk (fun _ b hb=>him b hb),noEx_shift h.2.1,?_⟩
 rw[shift1_cells,List.all_eq_true];intro x hx;obtain⟨y,hy,rfl⟩:=List.mem_map.1 hx;have:=okBelow_shift (n:=n) (List.all_eq_true.1 h.2.2 y hy)
 rwa [show id+1+n=id+n+1 by omega] at this
theorem XR.flat {own own':Own} {β β':Nat→Nat} {w w':World} {id id':Nat} {v:V} {c:Value} (h:XR own β w id v c) (hf:V.flat v=true):XR own' β' w' id' v c:=by
 have hc:∀ x∈v.cells,flatC x=true:=fun x hx=>List.all_eq_true.1 hf x hx
 refine⟨?_,h.2.1,List.all_eq_true.2 fun x hx=>?_⟩
 ·cases v with
  | agg cs =>
   obtain⟨arr,h1,h2,h3⟩:=h.1;refine⟨arr,h1,h2,fun j u c hu hcu=>?_⟩
   have hfu:=hc u (List.mem_of_getElem? hu);have:=FR_of_CR (h3 j u c hu hcu) (by cases u<;>first | rfl | (simp[flatC] at hfu))
   exact CR_of_FR (this.flat hfu)
  | undef=>trivial
  | _ =>
   have hx:=hc _ (List.Mem.head _)
   first
    | (simp[flatC] at hx;done)
    | (have h1:=h.1
       rw[VR_one rfl] at h1 ⊢;exact CR_of_FR (FR.flat h1 rfl))
 ·have:=hc x hx
  cases x<;>first | rfl | (simp[flatC] at this)
theorem shiftX_of {v:V} (h:isSpec v=false):shiftX n v=shiftC n v:=by cases v<;>first | rfl | (simp[isSpec] at h)
theorem BR.shift (him:∀ b,own b=.im→own' b=.im) (hblk:∀ id,own (β id)=.blk id→own' (β' (id+n))=.blk (id+n)∧β' (id+n)=β id)
  (hl:∀ id j b,own b=.cell id j→own' b=.cell (id+n) j) {id:Nat} {cs:List V} (h:BR own β w id cs):BR own' β' w (id+n) (cs.map (shiftX n)):=by
 rcases h with ⟨h1,h2,arr,T,h3,h4,h5⟩ | ⟨h1,v,o,rfl,h3,h4⟩
 ·refine .inl ⟨(hblk id h1).1,fun v hv=>?_,arr,T,by rw[(hblk id h1).2];exact h3,by simpa using h4,fun j v c hv hc=>?_⟩
  ·obtain⟨u,hu,rfl⟩:=List.mem_map.1 hv
   obtain⟨j,hj⟩:=List.getElem?_of_mem hu;have hlt:=(List.getElem?_eq_some_iff.1 hj).1;rw[shiftX_of (h5 j u arr[j] hj (Array.getElem?_eq_getElem (by omega))).notSpec]
   have:=okBelow_shift (n:=n) (h2 u hu)
   rwa [show id+1+n=id+n+1 by omega] at this
  ·rw[List.getElem?_map,Option.map_eq_some_iff] at hv
   obtain⟨u,hu,rfl⟩:=hv;rw[shiftX_of (h5 j u c hu hc).notSpec];exact (h5 j u c hu hc).shift him hblk (hl id j)
 ·refine .inr ⟨(hblk id h1).1,shiftX n v,o,rfl,by rw[(hblk id h1).2];exact h3,?_⟩
  have:=h4.imp (own':=own') (β':=β') (w':=w) (id':=id+n) (shift1 n) (fun u c _ hx=>hx.shift him hblk) rfl (fun u c hx hf=>hx.flat hf)
  cases v<;>first
   | exact this
   | (simp only[OR] at h4)
theorem grownAt (h:SR own β w σ a.tmps) {o1:Own} {β1:Nat→Nat} {w1:World} {H1 H':Heap} {n:Nat} (hh:HR o1 β1 w1 H1) (hold:∀ b,b<w.heap.size→w1.heap[b]?=w.heap[b]?∧(o1 b=.im∨o1 b=.other))
  (him:∀ b,b<w.heap.size→o1 b=.im→own b=.im∨H1=[])
  (hsz:w.heap.size≤w1.heap.size) (o2:Own) (β2:Nat→Nat)
  (h2:∀ b,b<w.heap.size→o2 b=own b) (h3:∀ b,w.heap.size≤b→o2 b=match o1 b with | .blk id=>.blk (id+n) | .cell id j=>.cell (id+n) j | l=>l)
  (h4:∀ id cs,bcells σ.heap id=some cs→β2 id=β id) (h5:∀ id cs,bcells H1 id=some cs→β2 (id+n)=β1 id)
  (hl:σ.heap.length≤H'.length) (hA:∀ id cs,bcells σ.heap id=some cs→bcells H' id=some cs)
  (hN:∀ id cs,bcells H1 id=some cs→bcells H' (id+n)=some (cs.map (shiftX n)))
  (hB:∀ id cs,bcells H' id=some cs→bcells σ.heap id=some cs∨∃ k cs0,id=k+n∧bcells H1 k=some cs0∧cs=cs0.map (shiftX n)) :
  SR o2 β2 w1 {env:=σ.env,heap:=H'} a.tmps∧BX β β2 σ.heap H':=by
 have imv:∀ b,own b=.im→o2 b=.im∧w1.heap[b]?=w.heap[b]?:=fun b hb=>by
  have hlt:=h.heap.lt b (by rw[hb];simp)
  exact⟨by rw[h2 b hlt,hb],(hold b hlt).1⟩
 have blkv:∀ id,own (β id)=.blk id→o2 (β2 id)=.blk id∧β2 id=β id:=fun id hb=>by
  obtain⟨_,cs,hcs⟩:=h.heap.inv _ _ hb;have e:=h4 id cs hcs;exact⟨by rw[e,h2 _ (h.heap.lt _ (by rw[hb];simp)),hb],e⟩
 have anyv:∀ l,l≠.other→∀ b,own b=l→o2 b=l∧w1.heap[b]?=w.heap[b]?:=fun l hl b hb=>by
  have hlt:=h.heap.lt b (by rw[hb];exact hl)
  exact⟨by rw[h2 b hlt,hb],(hold b hlt).1⟩
 have lookv:∀ p sz n xs,look σ p=.ex sz n xs→look {env:=σ.env,heap:=H'} p=.ex sz n xs:=fun p sz n xs hl=>by
  cases p with
  | slot t=>exact hl
  | cell id off =>
   obtain⟨cs,hc,_⟩:=Place.cases_look hl;simp only[look] at hl ⊢;rw[hA id cs hc];rw[hc] at hl;exact hl
 refine⟨⟨fun u=>?_,fun id cs hi=>?_,fun b id hb=>?_,fun b hb=>?_⟩,hl,fun id cs hi=>⟨h4 id cs hi,cs,hA id cs hi⟩⟩
 ·have hu:=h.env u
  cases hv:get σ.env u with
  | lent p =>
   rw[hv] at hu;obtain⟨sz,n,xs,q1,q2⟩:=hu;refine⟨sz,n,xs,lookv p sz n xs q1,?_⟩;cases p with
   | slot x=>exact q2
   | cell id off =>
    obtain⟨cs,hc,_⟩:=Place.cases_look q1;simp only[conc] at q2 ⊢;rw[h4 id cs hc,←q2];exact World.cell?_of_block (w:=w) (anyv _ (by simp) (β id) (h.heap.blk id cs hc).own).2
  | xptr p i off =>
   rw[hv] at hu;obtain⟨sz,n,xs,b,len,cap,q1,q2,q3,q4⟩:=hu;refine⟨sz,n,xs,b,len,cap,lookv p sz n xs q1,?_,(anyv _ (by cases p<;>simp[locOf]) b q3).1,q4⟩
   cases p with
   | slot x=>exact q2
   | cell id off =>
    obtain⟨cs,hc,_⟩:=Place.cases_look q1;simp only[conc] at q2 ⊢;rw[h4 id cs hc,←q2];exact World.cell?_of_block (w:=w) (anyv _ (by simp) (β id) (h.heap.blk id cs hc).own).2
  | _ =>
   have hw:isWay (get σ.env u)=false:=by rw[hv];rfl
   have:=(hu.to_TR hw).mono imv blkv (fun i j b hb=>anyv _ (by simp) b hb)
   rw[hv] at this;exact ER.of_TR this rfl
 ·rcases hB id cs hi with hi | ⟨k,cs0,rfl,hc0,rfl⟩
  ·have hB:=h.heap.blk id cs hi
   exact hB.mono imv blkv (fun j b hb=>anyv _ (by simp) b hb) (anyv _ (by simp) _ hB.own).2
  ·have hne:H1≠[]:=by rintro rfl;simp[bcells] at hc0
   refine (hh.blk _ _ hc0).shift (own':=o2) (β':=β2) (n:=n) (fun b hb=>?_) (fun id' hb=>?_) (fun id' j b hb=>?_)
   ·rcases Nat.lt_or_ge b w.heap.size with hlt | hge''
    ·rw[h2 b hlt];exact (him b hlt hb).resolve_right hne
    ·rw[h3 b hge'',hb]
   ·have hge'':w.heap.size≤β1 id':=by
     rcases Nat.lt_or_ge (β1 id') w.heap.size with hlt | hge''
     ·rcases (hold _ hlt).2 with e | e<;>rw[hb] at e<;>cases e
     ·exact hge''
    obtain⟨_,ds,hds⟩:=hh.inv _ _ hb;have e:=h5 id' ds hds;exact⟨by rw[e,h3 _ hge'',hb],e⟩
   ·have hge'':w.heap.size≤b:=by
     rcases Nat.lt_or_ge b w.heap.size with hlt | hge''
     ·rcases (hold _ hlt).2 with e | e<;>rw[hb] at e<;>cases e
     ·exact hge''
    rw[h3 b hge'',hb]
 ·rcases Nat.lt_or_ge b w.heap.size with hlt | hge
  ·rw[h2 b hlt] at hb
   obtain⟨e1,cs,hcs⟩:=h.heap.inv b id hb;exact⟨by rw[h4 id cs hcs];exact e1,cs,hA id cs hcs⟩
  ·rw[h3 b hge] at hb
   split at hb
   ·rename_i id' hq
    injection hb with hb;obtain⟨e1,cs,hcs⟩:=hh.inv b id' hq;subst hb;exact⟨by rw[h5 id' cs hcs];exact e1,_,hN id' cs hcs⟩
   ·cases hb
   ·rename_i hq1 hq2
    exact absurd hb (hq1 id)
 ·rcases Nat.lt_or_ge b w.heap.size with hlt | hge
  ·omega
  ·rw[h3 b hge] at hb
   refine hh.lt b fun hq=>hb (by rw[hq])
theorem bcells_shift {H1:Heap} {k n:Nat}:bcells (H1.map (shiftB n)) k=(bcells H1 k).map (List.map (shiftX n)):=by
 unfold bcells;rw[List.getElem?_map];cases H1[k]? with
 | none=>rfl
 | some b=>cases b<;>rfl
end
end Go.Vm
end
section
namespace Go.Vm
open Go
section
variable {P:Program} {o:Oper} {own:Own} {β:Nat→Nat} {w:World} {σ:St} {a:Act}
theorem onlyIm_ne {l:Loc} (h:l≠.im):onlyIm l=.other:=by
 cases l<;>first | exact absurd rfl h | rfl
def shiftL (n:Nat) (l:Loc):Loc:=match l with | .blk id=>.blk (id+n) | .cell id j=>.cell (id+n) j | l=>l
theorem after_at (h:SR own β w σ a.tmps) {og:Own} {o1:Own} {β1:Nat→Nat} {w1:World} {H1 H':Heap} {n:Nat} (hh:HR o1 β1 w1 H1) (hst:Stay (fun b=>onlyIm (og b)) w o1 w1)
  (him:∀ b,b<w.heap.size→o1 b=.im→own b=.im∨H1=[]) (hfree:∀ id cs,bcells H1 id=some cs→bcells σ.heap (id+n)=none)
  (hl:σ.heap.length≤H'.length) (hA:∀ id cs,bcells σ.heap id=some cs→bcells H' id=some cs)
  (hN:∀ id cs,bcells H1 id=some cs→bcells H' (id+n)=some (cs.map (shiftX n)))
  (hB:∀ id cs,bcells H' id=some cs→bcells σ.heap id=some cs∨∃ k cs0,id=k+n∧bcells H1 k=some cs0∧cs=cs0.map (shiftX n)) :
  ∃ o2 β2,Nxt own β w σ a o2 β2 w1 {env:=σ.env,heap:=H'} a∧(∀ b,b<w.heap.size→o2 b=own b) ∧
   (∀ b,w.heap.size≤b→o2 b=shiftL n (o1 b))∧(∀ id,o1 (β1 id)=.blk id→β2 (id+n)=β1 id)∧(∀ b,b<w.heap.size→o1 b=.im∨o1 b=.other):=by
 have hold:∀ b,b<w.heap.size→w1.heap[b]?=w.heap[b]?∧(o1 b=.im∨o1 b=.other):=fun b hb=>by
  by_cases hi:og b=.im
  ·obtain⟨e1,e2⟩:=hst.im b (by simp only[hi,onlyIm])
   exact⟨e2,.inl e1⟩
  ·obtain⟨e1,e2⟩:=hst.other b hb (onlyIm_ne hi)
   exact⟨e2,.inr e1⟩
 let o2:Own:=fun b=>if b<w.heap.size then own b else shiftL n (o1 b)
 let β2:Nat→Nat:=fun id=>if (bcells σ.heap id).isSome then β id else β1 (id-n)
 have e2:∀ b,b<w.heap.size→o2 b=own b:=fun b hb=>by simp only[o2,if_pos hb]
 have e3:∀ b,w.heap.size≤b→o2 b=shiftL n (o1 b):=fun b hb=>by simp only[o2,if_neg (Nat.not_lt.2 hb)]
 have e5:∀ id cs,bcells H1 id=some cs→β2 (id+n)=β1 id:=fun id cs hi=>by
  simp only[β2,hfree id cs hi,Nat.add_sub_cancel];rfl
 obtain⟨g1,g2⟩:=grownAt h hh hold him hst.size o2 β2 e2 e3 (fun id cs hi=>by simp only[β2,hi];rfl) e5 hl hA hN hB
 refine⟨o2,β2,⟨g1,⟨fun b hb=>?_,fun b hlt hb=>⟨by rw[e2 b hlt,hb],(hold b hlt).1⟩,hst.size,hst.os,hst.tape,hst.output,hst.drawn,hst.cells⟩,g2,rfl,rfl⟩,e2,e3,fun id hb=>?_,fun b hb=>(hold b hb).2⟩
 ·have hlt:=h.heap.lt b (by rw[hb];simp)
  exact⟨by rw[e2 b hlt,hb],(hold b hlt).1⟩
 ·obtain⟨_,cs,hcs⟩:=hh.inv _ _ hb
  exact e5 id cs hcs
theorem after_data (h:SR own β w σ a.tmps) {og:Own} {o1:Own} {β1:Nat→Nat} {w1:World} {H1:Heap} (hh:HR o1 β1 w1 H1) (hst:Stay (fun b=>onlyIm (og b)) w o1 w1)
  (him:∀ b,b<w.heap.size→o1 b=.im→own b=.im∨H1=[]) :
  ∃ o2 β2,Nxt own β w σ a o2 β2 w1 {env:=σ.env,heap:=σ.heap++H1.map (shiftB σ.heap.length)} a∧(∀ b,b<w.heap.size→o2 b=own b) ∧
   (∀ b,w.heap.size≤b→o2 b=shiftL σ.heap.length (o1 b))∧(∀ id,o1 (β1 id)=.blk id→β2 (id+σ.heap.length)=β1 id)∧(∀ b,b<w.heap.size→o1 b=.im∨o1 b=.other):=by
 have hr:∀ id,σ.heap.length≤id→bcells (σ.heap++H1.map (shiftB σ.heap.length)) id=(bcells H1 (id-σ.heap.length)).map (List.map (shiftX σ.heap.length)):=fun id hi=>by
  rw[←bcells_shift];unfold bcells;rw[List.getElem?_append_right hi]
 have hle:∀ id,id<σ.heap.length→bcells (σ.heap++H1.map (shiftB σ.heap.length)) id=bcells σ.heap id:=fun id hi=>by
  unfold bcells;rw[List.getElem?_append_left hi]
 refine after_at h hh hst him (fun id cs _=>?_) (by simp) (fun id cs hi=>by rw[hle id (bcells_lt hi)];exact hi) (fun id cs hi=>by rw[hr _ (by omega),Nat.add_sub_cancel,hi];rfl) (fun id cs hi=>?_)
 ·unfold bcells;rw[List.getElem?_eq_none (by omega)]
 ·rcases Nat.lt_or_ge id σ.heap.length with hlt | hge
  ·rw[hle id hlt] at hi;exact .inl hi
  ·rw[hr id hge,Option.map_eq_some_iff] at hi
   obtain⟨cs0,h0,rfl⟩:=hi;exact .inr ⟨_,cs0,by omega,h0,rfl⟩
theorem VR_of_FR {L:Nat→Loc} {v:V} {c:Value} (h:FR own w v c):VR own β w L v c∧noEx v=true:=by
 cases h<;>first
  | exact⟨trivial,rfl⟩
  | exact⟨FR.bool _,rfl⟩
  | exact⟨FR.int _ _,rfl⟩
  | exact⟨FR.str _,rfl⟩
  | exact⟨FR.nilp,rfl⟩
  | exact⟨FR.nilf,rfl⟩
  | exact⟨FR.nilm,rfl⟩
  | exact⟨FR.nil,rfl⟩
  | exact⟨FR.none _ _,rfl⟩
  | exact⟨FR.sl _ _ _ _ _ _ ‹_› ‹_› ‹_› ‹_›,rfl⟩
theorem VR_of_PR {L:Nat→Loc} {v:V} {c:Value} (h:PR own β w v c):VR own β w L v c∧noEx v=true:=by
 cases v with
 | ptr id off=>exact⟨h,rfl⟩
 | ref m id=>exact⟨h,rfl⟩
 | _=>exact VR_of_FR h
theorem AR_of_PR {vs:List V} {cs:Array Value} (hs:cs.size=vs.length) (h:∀ (j:Nat) (v:V) (c:Value),vs[j]?=some v→cs[j]?=some c→PR own β w v c):AR own β w vs cs.toList :=
 ⟨by simpa using hs,fun j v c hv hc=>VR_of_PR (h j v c hv (by simpa using hc))⟩
theorem AR.reloc {ρ:Loc→Loc} (hr:Reloc ρ) {vs:List V} {cs:List Value} (h:AR own β w vs cs):AR (fun b=>ρ (own b)) β w vs cs :=
 ⟨h.1,fun j v c hv hc=>⟨((h.2 j v c hv hc).1.reloc hr).place (h.2 j v c hv hc).2,(h.2 j v c hv hc).2⟩⟩
theorem killCell_in (ks:List Nat) (v:V):killCell (killCellsIn ks v)=killCell v:=by
 cases v with
 | lent p =>
  cases p with
  | slot t=>rfl
  | cell i j=>simp only[killCellsIn];split<;>rfl
 | xptr p k off =>
  cases p with
  | slot t=>rfl
  | cell i j=>simp only[killCellsIn];split<;>rfl
 | _=>rfl
def Enters (P:Program) (o:Oper) (a:Act) (w:World) (call:CallF) (f:FuncId) (β:Nat→Nat) (vs:List V) (cs:List Value):Prop :=
 ∀ (H:Heap) (r:V) (H':Heap),call f vs H=some (r,H')→∀ (own:Own),HR own β w H→AR own β w vs cs→(∀ b i j k,own b≠.slot i j k) →
  ∀ (own0:Own) (σ σ1:St) (v:V),(∀ d,o.dst=some d→d<a.tmps.size) →
   (∀ e w',Ret own β w H r H' e w'→∃ c o1 β1,e=.returned c∧Nxt own0 β w σ a o1 β1 w' σ1 a∧TR o1 β1 w' (fun i j=>.res i j) v c)→OpOk P o own0 β w σ a (put σ1 o.dst v)
theorem PR.apart {own':Own} {β':Nat→Nat} (hb:∀ id,own (β id)=.blk id→own' (β' id)=.blk id∧β' id=β id) {v:V} {c:Value} (h:PR own β w v c) (hv:apartP v=true):PR own' β' w v c:=by
 cases v<;>simp only[PR] at h ⊢<;>first
  | exact⟨by rw[(hb _ h.2).2];exact h.1,(hb _ h.2).1⟩
  | exact h.flat hv
theorem VR.apartP {own':Own} {β':Nat→Nat} (hb:∀ id,own (β id)=.blk id→own' (β' id)=.blk id∧β' id=β id) {L:Nat→Loc} {v:V} {c:Value} (h:VR own β w L v c) (hv:v.cells.all Vm.apartP=true):VR own' β' w L v c:=by
 have one:∀ {l:Loc} {v:V} {c:Value},CR own β w l v c→Vm.apartP v=true→CR own' β' w l v c:=fun {l v c} h hv=>by
  cases v<;>first
   | (simp[Vm.apartP,flatC] at hv;done)
   | (simp only[CR] at h ⊢;exact⟨by rw[(hb _ h.2).2];exact h.1,(hb _ h.2).1⟩)
   | (simp only[CR] at h ⊢;exact FR.flat h rfl)
 cases v with
 | agg cs =>
  simp only[V.cells,List.all_eq_true] at hv;obtain⟨arr,h1,h2,h3⟩:=h;exact⟨arr,h1,h2,fun j v c hv' hc=>one (h3 j v c hv' hc) (hv v (List.mem_of_getElem? hv'))⟩
 | undef=>trivial
 | rptr cs off=>simp[V.cells,Vm.apartP,flatC] at hv
 | _ =>
  rw[VR_one rfl] at h ⊢;exact one h (by simpa [V.cells] using hv)
theorem BR.apart {own':Own} {β':Nat→Nat} (hb:∀ id,own (β id)=.blk id→own' (β' id)=.blk id∧β' id=β id) {id:Nat} (hl:∀ j b,own b=.cell id j→own' b=.cell id j) {cs:List V} (h:BR own β w id cs) (hv:cs.all apartK=true):BR own' β' w id cs:=by
 rw[List.all_eq_true] at hv;rcases h with ⟨h1,h2,arr,T,h3,h4,h5⟩ | ⟨h1,v,o,rfl,h3,h4⟩
 ·refine .inl ⟨(hb id h1).1,h2,arr,T,by rw[(hb id h1).2];exact h3,h4,fun j v c hvj hc=>?_⟩
  have hcr:=h5 j v c hvj hc;have ha:=hv v (List.mem_of_getElem? hvj);cases v with
  | ptr i off=>simp only[CR] at hcr ⊢;exact⟨by rw[(hb _ hcr.2).2];exact hcr.1,(hb _ hcr.2).1⟩
  | ref m i=>simp only[CR] at hcr ⊢;exact⟨by rw[(hb _ hcr.2).2];exact hcr.1,(hb _ hcr.2).1⟩
  | clo f x y =>
   simp only[apartK,Bool.and_eq_true,List.all_eq_true] at ha;obtain⟨ca,cb,g1,g2,g3,g4,g5⟩:=hcr;exact⟨ca,cb,g1,g2,g3,fun j v c hv' hc'=>(g4 j v c hv' hc').apart hb (ha.1 v (List.mem_of_getElem? hv')),fun j v c hv' hc'=>(g5 j v c hv' hc').apart hb (ha.2 v (List.mem_of_getElem? hv'))⟩
  | mp ks vs=>exact absurd hcr.notSpec (by simp[isSpec])
  | _=>exact CR.apart hcr ha (fun b hb'=>hl j b hb')
 ·have ha:=hv v (by simp)
  refine .inr ⟨(hb id h1).1,v,o,rfl,by rw[(hb id h1).2];exact h3,?_⟩
  cases v with
  | mp ks vs =>
   simp only[apartK,List.all_eq_true] at ha;refine withVals_id (.mp ks vs)▸h4.imp (fun v=>v) (fun u c hu hx=>?_) rfl (fun u c hx hf=>hx.flat hf)
   refine⟨hx.1.apartP hb ?_,hx.2⟩;rcases hu with hu | rfl
   ·exact List.all_eq_true.2 (ha u hu)
   ·rfl
  | lp ts vs ps asg body cx st=>simp[apartK,apartC] at ha
  | _=>simp only[OR] at h4
theorem back_apart (ks:List Nat) {ps:List (Place×V)} (h:SR own β w σ a.tmps) {ρ:Loc→Loc} (hr:Reloc ρ) (ho:Only ρ) (hbc:∀ id cs,bcells σ.heap id=some cs→∃ cs',bcells (setPlaces σ ps).heap id=some cs')
  {o1:Own} {β1:Nat→Nat} {w1:World} {H1:Heap} {r:V} {c:Value} (hh:HR o1 β1 w1 H1) (hs:Stay (fun b=>mlower ks (ρ (own b))) w o1 w1)
  (hb:BX β β1 (maskH ks (setPlaces σ ps).heap) H1) (hd:deadOut ks σ.heap.length H1=true) (hl1:H1.length=σ.heap.length) (ht:TR o1 β1 w1 (fun i j=>.res i j) r c)
  (hap:Vm.apart r=true) (hah:apartH ks H1=true) :
  ∃ o2 β2,Nxt own β w σ a o2 β2 w1 (partS ks σ H1) a∧TR o2 β2 w1 (fun i j=>.res i j) r c:=by
 let kp:Nat→Bool:=fun b=>hid ks (own b) || (decide (ρ (own b)=.im)&&!decide (own b=.im))
 let o2:Own:=fun b=>if kp b=true then own b else o1 b
 let β2:Nat→Nat:=fun id=>if id<σ.heap.length∧ks.contains id=false then β id else β1 id
 have kpBlk:∀ {b id:Nat},own b=.blk id→ks.contains id=true→kp b=false:=fun {b id} hb' hk=>by
  have h1:hid ks (own b)=false:=by rw[hb'];simp only[hid,hk,Bool.not_true]
  have h2:decide (ρ (own b)=.im)=false:=by rw[hb',hr.blk];simp
  simp only[kp,h1,h2,Bool.false_and,Bool.or_false]
 have kpNo:∀ b,kp b=true→own b≠.other:=fun b hq hn=>by
  simp only[kp,hn,hid,hr.other] at hq;simp at hq
 have kpIm:∀ b,kp b=true→own b≠.im:=fun b hq hn=>by
  simp only[kp,hn,hid] at hq;simp at hq
 have same:∀ b,kp b=true→w1.heap[b]?=w.heap[b]?∧(o1 b=.im∨o1 b=.other):=fun b hq=>by
  have hlt:=h.heap.lt b (kpNo b hq);by_cases hi:ρ (own b)=.im
  ·obtain⟨e1,e2⟩:=hs.im b (by simp only[hi,mlower])
   exact⟨e2,.inl e1⟩
  ·have hh':hid ks (own b)=true:=by
    simp only[kp,hi,decide_false,Bool.false_and,Bool.or_false] at hq;exact hq
   have hself:ρ (own b)=own b:=by
    rcases ho (own b) with h1 | ⟨h1,_⟩
    ·exact h1
    ·exact absurd h1 hi
   obtain⟨e1,e2⟩:=hs.other b hlt (by simp only[hself];exact mlower_hid hh')
   exact⟨e2,.inr e1⟩
 have keep1:∀ {l:Loc},l≠.im→l≠.other→∀ b,o1 b=l→o2 b=l:=fun {l} h1 h2 b hb'=>by
  have:kp b=false:=by
   cases hq:kp b with
   | false=>rfl
   | true=>rcases (same b hq).2 with e | e<;>rw[hb'] at e<;>first | exact absurd e h1 | exact absurd e h2
  simp only[o2,this];exact hb'
 have imv:∀ b,own b=.im→o2 b=.im∧w1.heap[b]?=w.heap[b]?:=fun b hb'=>by
  obtain⟨h1,h2⟩:=hs.im b (by simp only[hb',hr.im,mlower])
  have:kp b=false:=by
   cases hq:kp b with
   | false=>rfl
   | true=>exact absurd hb' (kpIm b hq)
  refine⟨?_,h2⟩;simp only[o2,this];exact h1
 have bnew:∀ id,bcells (partS ks σ H1).heap id=if id<σ.heap.length∧ks.contains id=false then bcells σ.heap id else bcells H1 id:=fun id=>bcells_putH ks σ.heap H1 id
 have b2h:∀ id,id<σ.heap.length∧ks.contains id=false→β2 id=β id:=fun id hq=>by simp only[β2,if_pos hq]
 have b2k:∀ id,¬ (id<σ.heap.length∧ks.contains id=false)→β2 id=β1 id:=fun id hq=>by simp only[β2,if_neg hq]
 have vis:∀ id cs,bcells H1 id=some cs→¬ (id<σ.heap.length∧ks.contains id=false):=fun id cs hi hq=>by
  rw[deadOut_none hd hq.1 hq.2] at hi;cases hi
 have kept:∀ id cs,bcells σ.heap id=some cs→ks.contains id=true→β1 id=β id∧∃ cs',bcells H1 id=some cs':=fun id cs hi hk=>by
  obtain⟨cs',h1⟩:=hbc id cs hi;exact hb.2 id cs' (by rw[bcells_mask,if_pos hk];exact h1)
 have blkv:∀ id,own (β id)=.blk id→o2 (β2 id)=.blk id∧β2 id=β id:=fun id hb'=>by
  obtain⟨_,cs,hcs⟩:=h.heap.inv _ _ hb';by_cases hk:ks.contains id=true
  ·obtain⟨e1,cs',hcs'⟩:=kept id cs hcs hk
   have:=(hh.blk id cs' hcs').own
   have e2:=b2k id (fun hq=>absurd (hk.symm.trans hq.2) (by simp))
   exact⟨by rw[e2];exact keep1 (by simp) (by simp) _ this,by rw[e2,e1]⟩
  ·have hk':ks.contains id=false:=by simpa only [Bool.not_eq_true] using hk
   have e2:=b2h id ⟨bcells_lt hcs,hk'⟩;refine⟨?_,e2⟩;rw[e2];have:kp (β id)=true:=by simp only[kp,hb',hid,hk',Bool.not_false,Bool.true_or]
   simp only[o2,this,if_true];exact hb'
 have k2:∀ id,o1 (β1 id)=.blk id→o2 (β2 id)=.blk id∧β2 id=β1 id:=fun id hb'=>by
  obtain⟨_,cs,hcs⟩:=hh.inv _ _ hb';have e2:=b2k id (vis id cs hcs);exact⟨by rw[e2];exact keep1 (by simp) (by simp) _ hb',e2⟩
 have hidv:∀ b,hid ks (own b)=true→o2 b=own b∧w1.heap[b]?=w.heap[b]?:=fun b hq=>by
  have hk:kp b=true:=by simp only[kp,hq,Bool.true_or]
  exact⟨by simp only[o2,hk,if_true],(same b hk).1⟩
 have cellv:∀ id j b,ks.contains id=false→own b=.cell id j→o2 b=.cell id j∧w1.heap[b]?=w.heap[b]?:=fun id j b hk hb'=>by
  obtain⟨e1,e2⟩:=hidv b (by rw[hb'];simp only[hid,hk,Bool.not_false])
  exact⟨e1.trans hb',e2⟩
 have slotv:∀ b t i j,own b=.slot t i j→o2 b=.slot t i j∧w1.heap[b]?=w.heap[b]?:=fun b t i j hb'=>by
  obtain⟨e1,e2⟩:=hidv b (by rw[hb'];rfl)
  exact⟨e1.trans hb',e2⟩
 have blkheap:∀ id cs,bcells σ.heap id=some cs→ks.contains id=false→w1.heap[β id]?=w.heap[β id]?:=fun id cs hi hk =>
  (hidv _ (by rw[(h.heap.blk id cs hi).own];simp only[hid,hk,Bool.not_false])).2
 have hk:=h.killCellsIn ks;refine⟨o2,β2,⟨⟨fun u=>?_,⟨fun id cs hi=>?_,fun b id hb'=>?_,fun b hb'=>?_⟩⟩,⟨imv,fun b hlt hb'=>?_,hs.size,hs.os,hs.tape,hs.output,hs.drawn,hs.cells⟩,⟨?_,fun id cs hi=>?_⟩,rfl,rfl⟩,?_⟩
 ·have hu:=hk.env u
  simp only[partS];rw[get_map (Vm.killCellsIn ks) rfl] at hu ⊢;have hlk:∀ p,(Vm.killCellsIn ks (get σ.env u)).refsTo p=true→∃ sz n xs,look {env:=σ.env.map (fun x=>(x.1,Vm.killCellsIn ks x.2)),heap:=σ.heap} p=.ex sz n xs:=fun p hp=>by
   generalize Vm.killCellsIn ks (get σ.env u)=v at hu hp;cases v with
   | lent q =>
    obtain⟨sz,n,xs,q1,_⟩:=hu;simp only[V.refsTo,beq_iff_eq] at hp;subst hp;exact⟨sz,n,xs,q1⟩
   | xptr q i off =>
    obtain⟨sz,n,xs,_,_,_,q1,_⟩:=hu;simp only[V.refsTo,beq_iff_eq] at hp;subst hp;exact⟨sz,n,xs,q1⟩
   | _=>simp[V.refsTo] at hp
  refine hu.keep imv blkv (fun i j b hb'=>slotv b u i j hb') (fun p hp=>?_)
  cases p with
  | slot x=>exact⟨fun sz n xs hl=>⟨n,xs,hl,rfl⟩,fun c hc=>hc,fun b hb'=>(slotv b x 0 0 hb').1⟩
  | cell i j =>
   have hki:=killCellsIn_ref hp;refine⟨fun sz n xs hl=>⟨n,xs,?_,rfl⟩,fun c hc=>?_,fun b hb'=>(cellv i j b hki hb').1⟩
   ·obtain⟨cs,hcs,_⟩:=Place.cases_look hl
    simp only[look] at hl ⊢;have:=bnew i
    simp only[partS] at this;rw[this,if_pos ⟨bcells_lt hcs,hki⟩];exact hl
   ·obtain⟨sz,n,xs,hl⟩:=hlk _ hp
    obtain⟨cs,hcs,_⟩:=Place.cases_look hl;simp only[conc] at hc ⊢;rw[b2h i ⟨bcells_lt hcs,hki⟩,World.cell?_of_block (w:=w) (by exact blkheap i cs hcs hki)]
    exact hc
 ·rw[bnew] at hi
  split at hi
  ·rename_i hq
   exact (h.heap.blk id cs hi).mono imv blkv (fun j b hb'=>cellv id j b hq.2 hb') (blkheap id cs hi hq.2)
  ·rename_i hq
   have hlt:id<σ.heap.length:=by have:=bcells_lt hi;omega
   have hkid:ks.contains id=true:=by
    cases hc:ks.contains id with
    | true=>rfl
    | false=>exact absurd ⟨hlt,hc⟩ hq
   have hcs:cs.all apartK=true:=by
    have:=List.all_eq_true.1 hah id (by simpa using hkid)
    rw[hi] at this;exact this
   exact (hh.blk id cs hi).apart k2 (fun j b hb'=>keep1 (by simp) (by simp) b hb') hcs
 ·simp only[o2] at hb'
  split at hb'
  ·rename_i hq
   obtain⟨e,cs,hcs⟩:=h.heap.inv b id hb';have hk':ks.contains id=false:=by
    cases hc:ks.contains id with
    | false=>rfl
    | true=>rw[kpBlk hb' hc] at hq;cases hq
   refine⟨by rw[b2h id ⟨bcells_lt hcs,hk'⟩,e],cs,?_⟩
   rw[bnew,if_pos ⟨bcells_lt hcs,hk'⟩];exact hcs
  ·obtain⟨e,cs,hcs⟩:=hh.inv b id hb'
   refine⟨by rw[b2k id (vis id cs hcs),e],cs,?_⟩
   rw[bnew,if_neg (vis id cs hcs)];exact hcs
 ·by_cases hq:kp b=true
  ·exact Nat.lt_of_lt_of_le (h.heap.lt b (kpNo b hq)) hs.size
  ·have:o2 b=o1 b:=by simp only[o2,if_neg hq]
   rw[this] at hb';exact hh.lt b hb'
 ·obtain⟨h1,h2⟩:=hs.other b hlt (by simp only[hb',hr.other,mlower])
  have:kp b=false:=by
   cases hq:kp b with
   | false=>rfl
   | true=>exact absurd hb' (kpNo b hq)
  refine⟨?_,h2⟩;simp only[o2,this];exact h1
 ·simp only[partS,List.length_append,putH_length,List.length_drop];omega
 ·by_cases hk':ks.contains id=true
  ·obtain⟨e,cs',hcs'⟩:=kept id cs hi hk'
   refine⟨by rw[b2k id (fun hq=>absurd (hk'.symm.trans hq.2) (by simp)),e],cs',?_⟩
   rw[bnew,if_neg (fun hq=>absurd (hk'.symm.trans hq.2) (by simp))];exact hcs'
  ·have hk'':ks.contains id=false:=by simpa only [Bool.not_eq_true] using hk'
   refine⟨b2h id ⟨bcells_lt hi,hk''⟩,cs,?_⟩;rw[bnew,if_pos ⟨bcells_lt hi,hk''⟩];exact hi
 ·exact ht.apart hap (fun i j b hb'=>keep1 (by simp) (by simp) b hb')
theorem setPlaces_there {i:Nat}:∀ (ps:List (Place×V)) (σ:St) (cs:List V),bcells σ.heap i=some cs→∃ cs',bcells (setPlaces σ ps).heap i=some cs'
 | [],σ,cs,h=>⟨cs,h⟩
 | (p,v)::ps,σ,cs,h=>by
  have step:∃ c1,bcells (setPlace σ p v).heap i=some c1:=by
   cases p with
   | slot t=>exact⟨cs,h⟩
   | cell id off =>
    simp only[setPlace];cases hc:bcells σ.heap id with
    | none=>exact⟨cs,h⟩
    | some ds =>
     simp only;rw[bcells_set (bcells_lt hc)];split
     ·exact⟨_,rfl⟩
     ·exact⟨cs,h⟩
  obtain⟨c1,g1⟩:=step;exact setPlaces_there ps _ c1 g1
theorem setPlaces_length':∀ (ps:List (Place×V)) (σ:St),(setPlaces σ ps).heap.length=σ.heap.length
 | [],_=>rfl
 | (p,v)::ps,σ=>by
  simp only[setPlaces];rw[setPlaces_length' ps];cases p with
  | slot t=>rfl
  | cell id off=>simp only[setPlace];split<;>simp
theorem ok_callGo {call:CallF} (hdst:∀ d,o.dst=some d→d<a.tmps.size) (hsr:SR own β w σ a.tmps) {f:FuncId} {vs:List V} {cs:List Value} {ids:List Nat} {ps:List (Place×V)} (hE:Enters P o a w call f β vs cs)
  {ρ:Loc→Loc} (hr:Reloc ρ) (ho:Only ρ) (h1:Nxt own β w σ a (fun b=>ρ (own b)) β w (setPlaces σ ps) a) (hAR:AR (fun b=>ρ (own b)) β w vs cs) {e:Eff} (he:callGo call σ f vs ids ps=some e):OpOk P o own β w σ a (apply σ o.dst e):=by
 unfold callGo at he;split at he
 ·rename_i hdata
  simp only[Bool.and_eq_true] at hdata;have hdata:=hdata.1;have hHR:=h1.sr.heap.onlyIm;have hAR':=hAR.onlyIm hdata;have noslot:∀ b i j k,(fun b=>onlyIm (ρ (own b))) b≠.slot i j k:=fun b i j k hq=>by
   simp only[onlyIm] at hq;split at hq<;>cases hq
  split at he
  ·rename_i r hcall
   injection he with he;subst he;refine hE _ _ _ hcall _ hHR hAR' noslot own σ _ _ hdst ?_
   rintro e w' ⟨c',o',β',rfl,t1,t2,t3,t4,t5⟩
   have noblk:∀ id,o' (β' id)≠.blk id:=fun id hq=>by
    obtain⟨_,cs,hcs⟩:=t2.inv _ _ hq;simp[bcells] at hcs
   by_cases hap:apart r=true
   ·obtain⟨o2,β2,g1,g2,g3,g4,g5⟩:=after_data hsr t2 t3 (fun _ _ _=>.inr rfl)
    simp only[List.map_nil,List.append_nil] at g1;refine⟨c',o2,β2,rfl,by simp only[hap,if_true,setPlaces,setMem];exact g1,t1.apart hap (fun i j b hq=>?_)⟩
    have hge:w.heap.size≤b:=by
     rcases Nat.lt_or_ge b w.heap.size with hlt | hge
     ·rcases g5 b hlt with e | e<;>rw[hq] at e<;>cases e
     ·exact hge
    rw[g3 b hge,hq];rfl
   ·obtain⟨o2,β2,g1,g2,g3,g4,g5⟩:=after_data h1.sr t2 t3 (fun _ _ _=>.inr rfl)
    simp only[List.map_nil,List.append_nil] at g1;refine⟨c',o2,β2,rfl,?_,t1.mono (fun b hq=>⟨?_,rfl⟩) (fun id hq=>absurd hq (noblk id)) (fun i j b hq=>⟨?_,rfl⟩)⟩
    ·simp only[hap,setMem]
     exact h1.trans g1
    ·rcases Nat.lt_or_ge b w.heap.size with hlt | hge
     ·rw[g2 b hlt]
      by_cases hi:ρ (own b)=.im
      ·exact hi
      ·obtain⟨e1,_⟩:=t3.other b hlt (onlyIm_ne hi)
       rw[hq] at e1;cases e1
     ·rw[g3 b hge,hq];rfl
    ·have hge:w.heap.size≤b:=by
      rcases Nat.lt_or_ge b w.heap.size with hlt | hge
      ·rcases g5 b hlt with e | e<;>rw[hq] at e<;>cases e
      ·exact hge
     rw[g3 b hge,hq];rfl
  ·rename_i r H1 hne hcall
   injection he with he;subst he;refine hE _ _ _ hcall _ hHR hAR' noslot own σ _ _ hdst ?_
   rintro e w' ⟨c',o',β',rfl,t1,t2,t3,t4,t5⟩
   have himv:∀ b,b<w.heap.size→o' b=.im→ρ (own b)=.im:=fun b hlt hq=>by
    by_cases hi:ρ (own b)=.im
    ·exact hi
    ·obtain⟨e1,_⟩:=t3.other b hlt (onlyIm_ne hi)
     rw[hq] at e1;cases e1
   obtain⟨o2,β2,g1,g2,g3,g4,g5⟩:=after_data h1.sr t2 t3 (fun b hlt hq=>.inl (himv b hlt hq))
   have hge:∀ b,o' b≠.im→o' b≠.other→w.heap.size≤b:=fun b hq1 hq2=>by
    rcases Nat.lt_or_ge b w.heap.size with hlt | hge
    ·rcases g5 b hlt with e | e
     ·exact absurd e hq1
     ·exact absurd e hq2
    ·exact hge
   have g1':Nxt (fun b=>ρ (own b)) β w (setPlaces σ ps) a o2 β2 w' (setMem (setPlaces σ ps) (.all ((setPlaces σ ps).heap++H1.map (shiftB (setPlaces σ ps).heap.length)))) a :=
    {g1 with sr:=g1.sr.killCells}
   refine⟨c',o2,β2,rfl,h1.trans g1',t1.shift (fun b hq=>?_) (fun id hq=>⟨?_,g4 id hq⟩) (fun i j b hq=>?_)⟩
   ·rcases Nat.lt_or_ge b w.heap.size with hlt | hge'
    ·rw[g2 b hlt];exact himv b hlt hq
    ·rw[g3 b hge',hq];rfl
   ·rw[g4 id hq,g3 _ (hge _ (by rw[hq];simp) (by rw[hq];simp)),hq];rfl
   ·rw[g3 _ (hge _ (by rw[hq];simp) (by rw[hq];simp)),hq];rfl
  ·cases he
 ·simp only at he
  generalize reach (setPlaces σ ps).heap (setPlaces σ ps).heap.length (ids++argIds vs)=ks at he;split at he
  ·rename_i hcl
   simp only[Bool.and_eq_true,List.all_append] at hcl;split at he
   ·rename_i r H' hcall
    split at he
    ·rename_i hdead
     have hC:=hE _ _ _ hcall _ (h1.sr.heap.mask hcl.1) (hAR.mask hcl.2.2) (fun b i j k=>mlower_not) own σ
     split at he
     ·rename_i hlen
      injection he with he;subst he;by_cases hst:staysB ks ps r H'=true
      ·have hst':=hst
       simp only[staysB,Bool.and_eq_true] at hst';simp only[hst,if_true];refine hC _ _ hdst ?_
       rintro e w' ⟨c',o',β',rfl,t1,t2,t3,t4,t5⟩
       have hln:=setPlaces_length' ps σ;obtain⟨o2,β2,g1,g2⟩:=back_apart ks (ps:=ps) hsr hr ho (fun id cs hi=>setPlaces_there ps σ cs hi) t2 t3 t4 (by rw[←hln];exact hdead) (by rw[←hln];exact hlen) t1 hst'.1.2 hst'.2
       have e1:partS ks σ H'=setMem (setPlaces σ []) (.put ks H'):=by
        simp only[partS,setMem,setPlaces];rw[List.drop_of_length_le (by omega),List.append_nil]
       rw[e1] at g1;exact⟨c',o2,β2,rfl,g1,g2⟩
      simp only[hst];refine hC _ _ hdst ?_
      rintro e w' ⟨c',o',β',rfl,t1,t2,t3,t4,t5⟩
      obtain⟨o2,β2,g1,g2⟩:=back_part ks h1.sr t2 t3 t4 hdead t1;have e1:partS ks (setPlaces σ ps) H'=setMem (setPlaces σ ps) (.put ks H'):=by
       simp only[partS,setMem];rw[List.drop_of_length_le (by omega),List.append_nil]
      rw[e1] at g1;exact⟨c',o2,β2,rfl,h1.trans g1,g2⟩
     ·injection he with he;subst he
      refine hC _ _ hdst ?_
      rintro e w' ⟨c',o',β',rfl,t1,t2,t3,t4,t5⟩
      obtain⟨o2,β2,g1,g2⟩:=back_part ks h1.sr t2 t3 t4 hdead t1;have g1':Nxt (fun b=>ρ (own b)) β w (setPlaces σ ps) a o2 β2 w' (setMem (setPlaces σ ps) (.all (putH ks (setPlaces σ ps).heap H'++H'.drop (setPlaces σ ps).heap.length))) a:=by
       refine {g1 with sr:=(g1.sr.killCells).congr (fun t=>?_) rfl}
       simp only[setMem,partS];rw[get_map killCell rfl,get_map killCell rfl,get_map (killCellsIn ks) rfl,killCell_in]
      exact⟨c',o2,β2,rfl,h1.trans g1',g2⟩
    ·cases he
   ·cases he
  ·cases he
theorem bcells_put1 (ks:List Nat) (H H':Heap) (id:Nat):bcells (putH ks H H') id=if id<H.length∧ks.contains id=true then bcells H' id else bcells H id:=by
 unfold bcells putH;rw[zipIdx_map_getElem?];rcases Nat.lt_or_ge id H.length with hlt | hge
 ·rw[List.getElem?_eq_getElem hlt]
  cases hk:ks.contains id
  ·simp only[Option.map_some,hk,Bool.false_eq_true,and_false,if_false]
  ·simp only[Option.map_some,hk,if_true]
   rw[if_pos ⟨hlt,trivial⟩,List.getD_eq_getElem?_getD];cases H'[id]?<;>simp
 ·rw[List.getElem?_eq_none hge,if_neg (fun hq=>by omega)];rfl
theorem ok_newsGo {call:CallF} (hdst:∀ d,o.dst=some d→d<a.tmps.size) (hsr:SR own β w σ a.tmps) {f:FuncId} {vs:List V} {cs:List Value} (hE:Enters P o a w call f β vs cs)
  (hAR:AR own β w vs cs) {fr n:Nat} {e:Eff} (he:newsGo call σ fr n f vs=some e):OpOk P o own β w σ a (apply σ o.dst e):=by
 unfold newsGo at he;split at he
 case isFalse=>cases he
 rename_i hdata;have hns:∀ b i j k,(fun b=>onlyIm (own b)) b≠.slot i j k:=fun b i j k hq=>by simp only[onlyIm] at hq;split at hq<;>cases hq
 split at he
 case h_3=>cases he
 ·rename_i r hcall
  injection he with he;subst he;refine hE _ _ _ hcall _ hsr.heap.onlyIm (hAR.onlyIm hdata) hns own σ _ _ hdst ?_
  rintro e w' ⟨c',o',β',rfl,t1,t2,t3,t4,t5⟩
  have noblk:∀ id,o' (β' id)≠.blk id:=fun id hq=>by
   obtain⟨_,cs,hcs⟩:=t2.inv _ _ hq;simp[bcells] at hcs
  obtain⟨o2,β2,g1,g2,g3,g4,g5⟩:=after_data hsr t2 t3 (fun _ _ _=>.inr rfl)
  simp only[List.map_nil,List.append_nil] at g1;refine⟨c',o2,β2,rfl,g1,t1.mono (fun b hq=>⟨?_,rfl⟩) (fun id hq=>absurd hq (noblk id)) (fun i j b hq=>⟨?_,rfl⟩)⟩
  ·rcases Nat.lt_or_ge b w.heap.size with hlt | hge
   ·rw[g2 b hlt]
    by_cases hi:own b=.im
    ·exact hi
    ·obtain⟨e1,_⟩:=t3.other b hlt (onlyIm_ne hi)
     rw[hq] at e1;cases e1
   ·rw[g3 b hge,hq];rfl
  ·have hge:w.heap.size≤b:=by
    rcases Nat.lt_or_ge b w.heap.size with hlt | hge
    ·rcases g5 b hlt with e | e<;>rw[hq] at e<;>cases e
    ·exact hge
   rw[g3 b hge,hq];rfl
 rename_i r H1 hne hcall;split at he
 case isFalse=>cases he
 rename_i hc;obtain⟨hlen,hlt,hnone⟩:=hc;injection he with he;subst he;refine hE _ _ _ hcall _ hsr.heap.onlyIm (hAR.onlyIm hdata) hns own σ _ _ hdst ?_
 rintro e w' ⟨c',o',β',rfl,t1,t2,t3,t4,t5⟩
 have himv:∀ b,b<w.heap.size→o' b=.im→own b=.im:=fun b hlt hq=>by
  by_cases hi:own b=.im
  ·exact hi
  ·obtain⟨e1,_⟩:=t3.other b hlt (onlyIm_ne hi)
   rw[hq] at e1;cases e1
 have hks:∀ id,(newIds fr n).contains id=true↔fr≤id∧id<fr+n:=fun id=>by
  rw[List.contains_iff_mem,newIds,List.mem_map];constructor
  ·rintro ⟨k,hk,rfl⟩;rw[List.mem_range] at hk;omega
  ·rintro ⟨h1,h2⟩;exact⟨id-fr,List.mem_range.2 (by omega),by omega⟩
 have hdead:∀ id,fr≤id→id<fr+n→bcells σ.heap id=none:=fun id h1 h2=>by
  have:=List.all_eq_true.1 hnone id (by simpa using (hks id).2 ⟨h1,h2⟩)
  simpa using this
 have hnew:∀ id,fr≤id→bcells (List.replicate fr B.dead++H1.map (shiftB fr)) id=(bcells H1 (id-fr)).map (List.map (shiftX fr)):=fun id hid=>by
  rw[←bcells_shift];unfold bcells;rw[List.getElem?_append_right (by simpa using hid),List.length_replicate]
 have hset:=fun id=>bcells_put1 (newIds fr n) σ.heap (List.replicate fr B.dead++H1.map (shiftB fr)) id
 have hlt1:∀ id cs,bcells H1 id=some cs→id<n:=fun id cs hi=>hlen▸bcells_lt hi
 obtain⟨o2,β2,g1,g2,g3,g4,g5⟩:=after_at (n:=fr) (H':=putH (newIds fr n) σ.heap (List.replicate fr B.dead++H1.map (shiftB fr))) hsr t2 t3 (fun b hlt hq=>.inl (himv b hlt hq))
  (fun id cs hi=>hdead _ (by omega) (by have:=hlt1 id cs hi;omega)) (by rw[putH_length];exact Nat.le_refl _)
  (fun id cs hi=>by
   rw[hset,if_neg (fun hq=>by have:=(hks id).1 hq.2;rw[hdead id this.1 this.2] at hi;cases hi)];exact hi)
  (fun id cs hi=>by
   have:=hlt1 id cs hi
   rw[hset,if_pos ⟨by omega,(hks _).2 ⟨by omega,by omega⟩⟩,hnew _ (by omega),Nat.add_sub_cancel,hi];rfl)
  (fun id cs hi=>by
   rw[hset] at hi;split at hi
   ·rename_i hq
    have hq:=(hks id).1 hq.2;rw[hnew id hq.1,Option.map_eq_some_iff] at hi;obtain⟨cs0,h0,rfl⟩:=hi;exact .inr ⟨id-fr,cs0,by omega,h0,rfl⟩
   ·exact .inl hi)
 have hge:∀ b,o' b≠.im→o' b≠.other→w.heap.size≤b:=fun b hq1 hq2=>by
  rcases Nat.lt_or_ge b w.heap.size with hlt | hge
  ·rcases g5 b hlt with e | e
   ·exact absurd e hq1
   ·exact absurd e hq2
  ·exact hge
 refine⟨c',o2,β2,rfl,{g1 with sr:=g1.sr.killCellsIn (newIds fr n)},t1.shift (fun b hq=>?_) (fun id hq=>⟨?_,g4 id hq⟩) (fun i j b hq=>?_)⟩
 ·rcases Nat.lt_or_ge b w.heap.size with hlt | hge'
  ·rw[g2 b hlt];exact himv b hlt hq
  ·rw[g3 b hge',hq];rfl
 ·rw[g4 id hq,g3 _ (hge _ (by rw[hq];simp) (by rw[hq];simp)),hq];rfl
 ·rw[g3 _ (hge _ (by rw[hq];simp) (by rw[hq];simp)),hq];rfl
theorem enters {T:Types} {call:CallF} (hS:Sound P call) (h:Hyp P T o own β w σ a) {c:Call} (ho:o.op=.call c) {f:Operand} (hb:c.callee=.value f) {fid:FuncId} {first captured:List V} (hf:opd σ.env f=.clo (.func fid) first captured)
  (hlt:Nat.blt fid yB=true):∃ ca cb:Array Value,AR own β w first ca.toList∧AR own β w captured cb.toList∧∀ vs,Enters P o a w call fid β vs (ca.toList++c.args.toList.map a.eval++cb.toList):=by
 have hfe:=opd_TR h.sr f (by rw[hf];rfl)
 rw[hf] at hfe;obtain⟨ca,cb,hce,hc1,hc2,hc3,hc4⟩:=hfe;refine⟨ca,cb,AR_of_PR hc1 hc3,AR_of_PR hc2 hc4,fun vs H r H' hcall own' hH hA hn own0 σ0 σ1 v hd hR=>?_⟩
 obtain⟨⟨fn,q1,q2,q3⟩,hC⟩:=hS.1 _ _ _ _ _ (by rw[Nat.blt_eq] at hlt;exact hlt) hcall
 obtain⟨bd,q3'⟩:=Option.isSome_iff_exists.1 q3;have hargs':(ca.toList++c.args.toList.map a.eval++cb.toList).toArray=ca++c.args.map a.eval++cb:=by
  apply Array.ext';simp
 have hrun:(execOp a.eval o).run P w=.ok (.enter fid (ca.toList++c.args.toList.map a.eval++cb.toList).toArray) w:=by
  rw[hargs'];simp[execOp,ho,resolve,hb,hce,Deferred.ofValue,invoke,callFunc,q1,q2,q3']
 exact OpOk.call hrun ((hC _ β w _ hH hA hn).mono hR) hd
theorem ok_news {T:Types} {call:CallF} (hS:Sound P call) (h:Hyp P T o own β w σ a) {c:Call} (ho:o.op=.call c) {f:Operand} (hb:c.callee=.value f) {fr n:Nat} {e:Eff}
  (he:newsAt call σ fr n (opd σ.env f) c.args.toList=some e):OpOk P o own β w σ a (apply σ o.dst e):=by
 unfold newsAt at he;split at he
 case h_2=>cases he
 rename_i vs fid first captured hv hf;split at he
 case isFalse=>cases he
 rename_i hlt;obtain⟨ca,cb,h1,h2,hE⟩:=enters hS h ho hb hf hlt;have hargs:=views_args h.sr reloc_id rfl rfl _ _ _ hv (by simp)
 exact ok_newsGo h.dst h.sr (hE _) ((h1.append hargs).append h2) he
theorem ok_call {T:Types} {call:CallF} (hS:Sound P call) (h:Hyp P T o own β w σ a) {c:Call} (ho:o.op=.call c) {f:Operand} (hb:c.callee=.value f) {vs:List V} {ps:List (Place×V)}
  (hv:views σ c.args.toList=some (vs,ps)) {e:Eff} (he:callAt call σ (opd σ.env f) vs ps=some e):OpOk P o own β w σ a (apply σ o.dst e):=by
 have hsr:=h.sr;obtain⟨o1,h1,h2,ρ,hr,hon,rfl⟩:=freezes ps own σ hsr (views_ps hsr _ _ _ hv);have hargs:=views_args hsr hr rfl hr.other _ _ _ hv h2;unfold callAt at he;split at he
 ·rename_i fid first captured hf
  split at he
  ·rename_i hlt
   obtain⟨ca,cb,q1,q2,hE⟩:=enters hS h ho hb hf hlt;exact ok_callGo h.dst hsr (hE _) hr hon h1 (((q1.reloc hr).append hargs).append (q2.reloc hr)) he
  ·cases he
 ·rename_i id hf
  obtain⟨hce,hown⟩:=opd_ref hsr hf;simp only[refVal] at hce;refine ok_callGo h.dst hsr (fun H r H' hcall own' hH hA hn own0 σ0 σ1 v hd hR=>?_) hr hon h1 hargs he
  obtain⟨rec,q1,q2,q3⟩:=hS.2 _ _ _ _ _ hcall _ β w _ hH hA hn;have hrun:(execOp a.eval o).run P w=.ok (.round (β id) rec.fn ((rec.params.zip (c.args.toList.map a.eval).toArray).foldl (fun tmps (t,a)=>tmps.setIfInBounds t a) rec.tmps) rec.assign rec.body) w:=by
   have hy:=run_yield (P:=P) (args:=c.args.map a.eval) q1 (by simpa using q2)
   have hargs':(c.args.toList.map a.eval).toArray=c.args.map a.eval:=by apply Array.ext';simp
   rw[hargs'];simp[execOp,ho,resolve,hb,hce,Deferred.ofValue,invoke,hy]
  exact OpOk.round hrun (q3.mono hR) hd
 ·cases he
end
end Go.Vm
end
section
namespace Go.Vm
open Go Go.MapKept
section
variable {P:Program} {o:Oper} {own:Own} {β:Nat→Nat} {w:World} {σ:St} {a:Act}
theorem SR.putSpec (h:SR own β w σ a.tmps) {id:Nat} {v v':V} {ob:Obj} (hcs:bcells σ.heap id=some [v]) (hs:isSpec v=true) {w':World} (hw:∀ b,b≠β id→w'.heap[b]?=w.heap[b]?)
  (hsz:w'.heap.size=w.heap.size) (hos:w'.os=w.os) (htape:w'.tape=w.tape) (hout:w'.output=w.output) (hdr:w.drawn≤w'.drawn) (hnew:w'.heap[β id]?=some ob) (hn:OR own β w id v' ob) :
  Nxt own β w σ a own β w' (setMem σ (.set id 0 [v'])) a:=by
 have hbl:=(h.heap.blk id _ hcs).own;have hid:=bcells_lt hcs;have hne:∀ l,l≠.blk id→∀ b,own b=l→w'.heap[b]?=w.heap[b]?:=fun l hl b hb=>hw b fun he=>hl (by rw[←hb,he,hbl])
 have hk:∀ b,own b=.im→own b=.im∧w'.heap[b]?=w.heap[b]?:=fun b hb=>⟨hb,hne .im (by simp) b hb⟩
 have hb:∀ i,own (β i)=.blk i→own (β i)=.blk i∧β i=β i:=fun i hi=>⟨hi,rfl⟩
 have hset:setMem σ (.set id 0 [v'])={env:=σ.env.map (fun x=>(x.1,killIn id 0 1 x.2)),heap:=σ.heap.set id (.cells [v'])}:=by simp[setMem,hcs,setCells]
 have noref:∀ t i o,(get σ.env t).refsTo (.cell i o)=true→i≠id:=fun t i o hp he=>by
  subst he;have hE:=h.env t;have hlk:∃ sz n xs,look σ (.cell i o)=.ex sz n xs:=by
   cases hv':get σ.env t<;>rw[hv'] at hp hE<;>simp[V.refsTo] at hp<;>subst hp
   ·obtain⟨sz,n,xs,b,len,cap,q1,q2⟩:=hE;exact⟨_,_,_,q1⟩
   ·obtain⟨sz,n,xs,q1,q2⟩:=hE;exact⟨_,_,_,q1⟩
  obtain⟨_,_,_,hlk⟩:=hlk;obtain⟨ds,h3,h4⟩:=Place.cases_look hlk;rw[hcs] at h3;injection h3 with h3;subst h3;have:=specB_of_ex h4
  rw[specB,hs] at this;cases this
 have hsame:∀ t,killIn id 0 1 (get σ.env t)=get σ.env t:=fun t=>by
  have hn:=noref t;cases hv':get σ.env t with
  | lent p =>
   cases p with
   | slot x=>rfl
   | cell i o=>simp only[killIn];rw[if_neg];intro hh;exact hn i o (by rw[hv'];simp[V.refsTo]) hh.1
  | xptr p k off =>
   cases p with
   | slot x=>rfl
   | cell i o=>simp only[killIn];rw[if_neg];intro hh;exact hn i o (by rw[hv'];simp[V.refsTo]) hh.1
  | _=>rfl
 have hget:∀ t,get (σ.env.map fun x=>(x.1,killIn id 0 1 x.2)) t=get σ.env t:=fun t=>(get_map (killIn id 0 1) rfl t σ.env).trans (hsame t)
 have noCells:∀ b,b=β id→∀ (arr:Array Value) (T:TypeId),w.heap[b]?≠some (.cells arr T (0,0)):=fun b he arr T hb=>by
  subst he;obtain⟨_,o0,g1,g2⟩:=(h.heap.blk id _ hcs).spec hs;rw[hb] at g1;injection g1 with g1;subst g1;cases v<;>simp only[OR] at g2
  ·obtain⟨es,h1,_⟩:=g2;cases h1
  ·obtain⟨r,h1,_⟩:=g2;cases h1
 rw[hset];refine⟨⟨fun t=>?_,⟨fun i ds hi=>?_,fun b i hbi=>?_,fun b hbo=>?_⟩⟩,⟨hk,fun b hlt hbo=>⟨hbo,hne .other (by simp) b hbo⟩,by omega,hos,htape,hout,hdr,fun b arr T hb=>⟨arr,by rw[hw b fun he=>noCells b he arr T hb];exact hb,rfl⟩⟩,⟨by simp,fun i ds hi=>⟨rfl,?_⟩⟩,rfl,rfl⟩
 ·simp only
  rw[hget];refine (h.env t).keep hk hb (fun i j b hbb=>⟨hbb,hne _ (by simp) b hbb⟩) (fun p hp=>⟨fun sz n xs hlk=>⟨n,xs,?_,rfl⟩,fun c hcc=>?_,fun b hbb=>hbb⟩)
  ·cases p with
   | slot x=>simp only[look] at hlk ⊢;rw[hget];exact hlk
   | cell i o =>
    simp only[look] at hlk ⊢;rw[bcells_set hid,if_neg (noref t i o hp)];exact hlk
  ·cases p with
   | slot x=>exact hcc
   | cell i o =>
    simp only[conc] at hcc ⊢;have hE:=h.env t;have hlk:∃ sz n xs,look σ (.cell i o)=.ex sz n xs:=by
     cases hv':get σ.env t<;>rw[hv'] at hp hE<;>simp[V.refsTo] at hp<;>subst hp
     ·obtain⟨sz,n,xs,b,len,cap,q1,q2⟩:=hE;exact⟨_,_,_,q1⟩
     ·obtain⟨sz,n,xs,q1,q2⟩:=hE;exact⟨_,_,_,q1⟩
    obtain⟨_,_,_,hlk⟩:=hlk;obtain⟨ds,h3,_⟩:=Place.cases_look hlk;rw[←hcc];exact World.cell?_of_block (w:=w) (hne (.blk i) (by simp[noref t i o hp]) _ (h.heap.blk i ds h3).own)
 ·simp only at hi
  rw[bcells_set hid] at hi;split at hi
  ·rename_i hii;subst hii
   injection hi with hi;subst hi;exact .inr ⟨hbl,v',ob,rfl,hnew,hn.mono hk hb⟩
  ·rename_i hii
   exact (h.heap.blk i ds hi).mono hk hb (fun j b hbb=>⟨hbb,hne _ (by simp) b hbb⟩) (hne (.blk i) (by simp[hii]) _ (h.heap.blk i ds hi).own)
 ·obtain⟨q1,ds,q2⟩:=h.heap.inv b i hbi
  refine⟨q1,?_⟩;simp only;rw[bcells_set hid];split
  ·exact⟨_,rfl⟩
  ·exact⟨ds,q2⟩
 ·have:=h.heap.lt b hbo;omega
 ·simp only
  rw[bcells_set hid];split
  ·exact⟨_,rfl⟩
  ·exact⟨ds,hi⟩
def KV (i:TI) (k:V) (c:Value):Prop :=
 match i.kind.isAgg with
 | true=>∃ cs arr,k=.agg cs∧c=.agg arr∧i.leaves≠[]∧Agree i.leaves cs arr.toList
 | false=>leafB i.kind k c=true
theorem leafB_of {k:TK} {v:V} {c:Value} (h:leafV k v=true) (hf:FR own w v c):leafB k v c=true:=by
 cases k<;>cases v<;>simp[leafV] at h<;>cases hf<;>simp[leafB,h]
theorem kv_of {i:TI} {k:V} {c:Value} {L:Nat→Loc} (h:keyFits i k=true) (hv:VR own β w L k c):KV i k c:=by
 unfold keyFits at h;unfold KV;cases hag:i.kind.isAgg<;>simp only[hag] at h ⊢
 ·have hd:cellDat k=true:=by cases k<;>first | rfl | (cases hk:i.kind<;>simp[hk,leafV] at h)
  refine leafB_of (own:=own) (w:=w) h ?_;cases k<;>first
   | (cases hk:i.kind<;>simp[hk,leafV] at h;done)
   | exact hv
 ·cases k<;>simp only at h<;>try (cases h;done)
  rename_i cs;simp only[Bool.and_eq_true,Bool.not_eq_true',List.isEmpty_eq_false_iff] at h;obtain⟨arr,h1,h2,h3⟩:=hv;exact⟨cs,arr,rfl,h1,h.1,agree_of (own:=own) (w:=w) h.2 h2 (fun j v c hv hc=>FR_of_CR (h3 j v c hv hc) (List.all_eq_true.1 (fits_dat h.2) v (List.mem_of_getElem? hv)))⟩
theorem leafB_inj {k:TK} {u v:V} {c d:Value} (h1:leafB k u c=true) (h2:leafB k v d=true):cellEqv u v=true↔c=d:=by
 cases k<;>cases u<;>cases c<;>simp[leafB] at h1<;>cases v<;>cases d<;>simp[leafB] at h2
 ·subst h1;subst h2;simp[cellEqv]
 ·obtain⟨rfl,rfl,rfl⟩:=h1
  obtain⟨rfl,rfl,rfl⟩:=h2;simp[cellEqv]
 ·subst h1;subst h2
  simp only[cellEqv,beq_iff_eq];constructor
  ·intro h
   rw[ByteArray.toList_eq,ByteArray.toList_eq] at h
   congr 1
   rename_i x y;cases x;cases y
   congr 1
   exact Array.toList_inj.1 h
  ·rintro h;injection h with h;rw[h]
theorem agree_inj:∀ {ks:List TK} {us vs:List V} {cs ds:List Value},Agree ks us cs→Agree ks vs ds→(cellsEqv us vs=true↔cs=ds)
 | [],us,vs,cs,ds,h1,h2=>by
  obtain rfl:=List.eq_nil_of_length_eq_zero h1.1
  obtain rfl:=List.eq_nil_of_length_eq_zero h1.2.1
  obtain rfl:=List.eq_nil_of_length_eq_zero h2.2.1
  simp[cellsEqv]
 | k::ks,us,vs,cs,ds,h1,h2=>by
  match us,vs,cs,ds,h1,h2 with
  | u::us,v::vs,c::cs,d::ds,h1,h2 =>
   have e1:=leafB_inj (h1.2.2 0 k u c rfl rfl rfl) (h2.2.2 0 k v d rfl rfl rfl);have e2:=agree_inj (ks:=ks) (us:=us) (vs:=vs) (cs:=cs) (ds:=ds) ⟨by simpa using h1.1,by simpa using h1.2.1,fun j k a x hk ha hx=>h1.2.2 (j+1) k a x (by simpa using hk) (by simpa using ha) (by simpa using hx)⟩
    ⟨by simpa using h2.1,by simpa using h2.2.1,fun j k a x hk ha hx=>h2.2.2 (j+1) k a x (by simpa using hk) (by simpa using ha) (by simpa using hx)⟩
   simp only[cellsEqv,Bool.and_eq_true,e1,e2,List.cons.injEq]
  | [],_,_,_,h1,_=>simp[Agree] at h1
  | _::_,[],_,_,_,h2=>simp[Agree] at h2
  | _::_,_::_,[],_,h1,_=>simp[Agree] at h1
  | _::_,_::_,_::_,[],_,h2=>simp[Agree] at h2
theorem kv_inj {i:TI} {k u:V} {c d:Value} (h1:KV i k c) (h2:KV i u d):cellsEqv k.cells u.cells=true↔c=d:=by
 unfold KV at h1 h2;cases hag:i.kind.isAgg<;>simp only[hag] at h1 h2
 ·have one:∀ {v c},leafB i.kind v c=true→v.cells=[v]:=fun {v c} h=>by cases v<;>first | rfl | (cases hk:i.kind<;>simp[hk,leafB] at h)
  rw[one h1,one h2];simp only[cellsEqv,Bool.and_true];exact leafB_inj h1 h2
 ·obtain⟨as,arr,rfl,rfl,_,g1⟩:=h1
  obtain⟨bs,arr',rfl,rfl,_,g2⟩:=h2;simp only[V.cells];rw[agree_inj g1 g2];simp
theorem KV.plain {t:TypeId} {i:TI} (r:Row P t i) {k:V} {c:Value} (h:KV i k c) (hag:i.kind.isAgg=false):IsKey r.d c:=by
 unfold KV at h;simp only[hag] at h;have hkk:=r.hkind;cases hk:i.kind<;>rw[hk] at h hkk<;>cases k<;>cases c<;>simp[leafB] at h
 all_goals
  cases hd:r.d<;>simp[hd,kindB] at hkk<;>simp[IsKey,h,hkk]
theorem check_ok (em:Bool):∀ (d:Nat) (t:TypeId) (dd:Nat) (w:World) (ks:List TK) (as:List V) (a:Value),leavesP P d t=some ks→Agree ks as a.cells.toList→a.formed P t=true→d≤dd →
  (Instr.checkKey em dd t a).run P w=.ok () w
 | 0,t,dd,w,ks,as,a,hl,_,_,_=>by simp[leavesP] at hl
 | d+1,t,0,w,ks,as,a,hl,_,_,h=>by omega
 | d+1,t,dd+1,w,ks,as,a,hl,ha,fa,hd=>by
  have IH:=fun e w ks as a=>check_ok em d e dd w ks as a
  simp only[leavesP] at hl;cases hu:P.underlying t with
  | none=>simp[hu] at hl
  | some kd =>
   unfold Instr.checkKey;simp only[Sem.run_bind,run_underlying hu,Result.andThen_ok];cases kd<;>simp only[hu] at hl<;>try (cases hl;done)
   case bool=>cases a<;>simp
   case int k=>cases a<;>simp
   case string=>cases a<;>simp
   case array n e =>
    cases hk:leavesP P d e with
    | none=>simp[hk] at hl
    | some k1 =>
     simp only[hk] at hl;split at hl
     ·rename_i hs
      injection hl with hl;subst hl;cases a<;>simp only[Value.formed,hu,Bool.false_eq_true] at fa
      rename_i xs;obtain⟨i,hi⟩:∃ i,P.info? e=some i:=by
       cases hue:P.underlying e with
       | none=>cases d<;>simp[leavesP,hue] at hk
       | some _=>exact info_of_underlying hue
      simp only[Std.Legacy.Range.forIn_eq_forIn_range',Std.Legacy.Range.size,Nat.sub_zero,Nat.add_one_sub_one,Nat.div_one];have key:∀ (m s:Nat) (as:List V),Agree (List.replicate m k1).flatten as (xs.toList.drop (s*k1.length)) →
        (forIn (List.range' s m) PUnit.unit fun i r=>do
         Instr.checkKey em dd e (←part e xs (i*(←sizeOf e)))
         pure (ForInStep.yield PUnit.unit):Sem PUnit).run P w=.ok PUnit.unit w:=by
       intro m
       induction m with
       | zero=>intro s as _;simp
       | succ m ih =>
        intro s as h;simp only[List.replicate_succ,List.flatten_cons] at h;obtain⟨y,p1,p2,p3⟩:=run_part_leaves w hk hs h.take;have q:=IH e w k1 _ y hk (by rw[p3];exact h.take) p2 (by omega)
        have hrest:=ih (s+1) _ (by have:=h.drop;rw[List.drop_drop] at this;rw[Nat.succ_mul];exact this)
        rw[←hs] at p1;simp only[List.range'_succ,List.forIn_cons,Sem.run_bind,run_sizeOf w hi,Result.andThen_ok,p1,q,Sem.run_pure];exact hrest
      have:=key n 0 as (by simpa [Value.cells] using ha)
      simpa using this
     ·cases hl
   case struct fs =>
    split at hl
    ·cases hl
    ·cases a<;>simp only[Value.formed,hu,Bool.false_eq_true] at fa
     rename_i xs
     dsimp only
     rw[←Array.forIn_toList];have key:∀ (l:List Field) (o:Nat) (ks:List TK) (as:List V),leavesF (leavesP P d) P.cellsOf o l=some ks→Agree ks as (xs.toList.drop o) →
       (forIn l PUnit.unit fun f r=>do
        if f.name≠ "_" then Instr.checkKey em dd f.type (←part f.type xs f.offset)
        pure (ForInStep.yield PUnit.unit):Sem PUnit).run P w=.ok PUnit.unit w:=by
      intro l
      induction l with
      | nil=>intro o ks as _ _;simp
      | cons f l ih =>
       intro o ks as hl h;simp only[leavesF] at hl;cases hk:leavesP P d f.type with
       | none=>simp[hk] at hl
       | some k1 =>
        simp only[hk] at hl;split at hl
        ·rename_i hc
         obtain⟨c1,c2,c3⟩:=hc;rw[Option.map_eq_some_iff] at hl;obtain⟨k2,hl2,rfl⟩:=hl;subst c1;obtain⟨y,p1,p2,p3⟩:=run_part_leaves w hk c3 h.take;have q:=IH f.type w k1 _ y hk (by rw[p3];exact h.take) p2 (by omega)
         have hrest:=ih _ k2 _ hl2 (by have:=h.drop;rw[List.drop_drop] at this;exact this)
         simp only[List.forIn_cons,Sem.run_bind,c2,ne_eq,not_false_eq_true,if_true,Result.andThen_ok,p1,q,Sem.run_pure];exact hrest
        ·cases hl
     have:=key fs.toList 0 ks as hl (by simpa [Value.cells] using ha)
     simpa using this
theorem KV.agg {t:TypeId} {i:TI} (r:Row P t i) {k:V} {c:Value} (h:KV i k c) (hag:i.kind.isAgg=true):leavesP P 8 t=some i.leaves∧∃ cs arr,k=.agg cs∧c=.agg arr∧Agree i.leaves cs arr.toList∧c.formed P t=true:=by
 unfold KV at h;simp only[hag] at h;obtain⟨cs,arr,rfl,rfl,hne,g⟩:=h;have hl:=r.hleaves;unfold leavesB at hl;cases hk:i.leaves with
 | nil=>exact absurd hk hne
 | cons k ks =>
  simp only[hk,Bool.and_eq_true,decide_eq_true_eq,beq_iff_eq,Bool.not_eq_true'] at hl;obtain⟨⟨⟨l1,l2⟩,l3⟩,l4⟩:=hl;rw[hk] at g;refine⟨l1,cs,arr,rfl,rfl,g,?_⟩;have hkk:=r.hkind;have hu:=r.hd;have hcells:P.cellsOf t=i.size:=by simp[Program.cellsOf,r.hinfo,r.hsize]
  have hlen:=g.2.1;simp only[Array.length_toList] at hlen;cases hki:i.kind<;>rw[hki] at hag hkk<;>simp[TK.isAgg] at hag
  all_goals
   cases hd:r.d<;>simp only[hd,kindB] at hkk<;>try (cases hkk;done)
   rw[hd] at hu;simp only[Value.formed,hu,hcells,beq_iff_eq];omega
theorem run_check {t:TypeId} {i:TI} (r:Row P t i) {k:V} {c:Value} (h:KV i k c) (em:Bool) (w:World):(Instr.checkKey em 10000 t c).run P w=.ok () w:=by
 cases hag:i.kind.isAgg
 ·exact run_checkKey r.hd (h.plain r hag) em 9999
 ·obtain⟨l1,cs,arr,rfl,rfl,g1,g2⟩:=h.agg r hag
  exact check_ok em 8 t 10000 w _ cs _ l1 (by simpa [Value.cells] using g1) g2 (by omega)
theorem run_eqKey {t:TypeId} {i:TI} (r:Row P t i) {k u:V} {c d:Value} (h1:KV i k c) (h2:KV i u d) (hag:i.kind.isAgg=true) (w:World):(Op.equal t c d).run P w=.ok (cellsEqv k.cells u.cells) w:=by
 obtain⟨l1,cs,arr,rfl,rfl,g1,g2⟩:=h1.agg r hag;obtain⟨_,cs',arr',rfl,rfl,g1',g2'⟩:=h2.agg r hag;exact eq_ok (P:=P) 9992 8 t w _ cs cs' _ _ l1 (by simpa [Value.cells] using g1) (by simpa [Value.cells] using g1') g2 g2'
theorem run_find {t:TypeId} {i:TI} (r:Row P t i) {k:V} {c:Value} (hk:KV i k c) (w:World) (es:List MapEntry) (ks:List V) (hl:es.length=ks.length)
  (he:∀ (j:Nat) (e:MapEntry) (u:V),es[j]?=some e→ks[j]?=some u→KV i u e.key) :
  (Instr.findKey t c es).run P w=.ok ((findK k ks).bind fun j=>(es[j]?).map fun e=>(j,e.val)) w:=by
 cases hag:i.kind.isAgg
 ·refine run_findKey r.hd ?_
  have key:∀ (es:List MapEntry) (ks:List V) (s:Nat),es.length=ks.length→(∀ (j:Nat) (e:MapEntry) (u:V),es[j]?=some e→ks[j]?=some u→KV i u e.key) →
    Instr.findNow r.d c es s=some ((findK k ks).bind fun j=>(es[j]?).map fun e=>(s+j,e.val)):=by
   intro es
   induction es with
   | nil=>intro ks s hl _;obtain rfl:=List.eq_nil_of_length_eq_zero hl.symm;rfl
   | cons e es ih =>
    intro ks s hl he
    match ks,hl,he with
    | u::ks,hl,he =>
     have h0:=he 0 e u rfl rfl;obtain⟨b,hb,hiff⟩:=sameNow_of_keys (hk.plain r hag) (h0.plain r hag);have hc:cellsEqv k.cells u.cells=b:=by
      rw[Bool.eq_iff_iff,kv_inj hk h0,hiff]
     unfold Instr.findNow findK;rw[hb,hc];cases b
     ·simp only
      rw[ih ks (s+1) (by simpa using hl) (fun j e u h1 h2=>he (j+1) e u (by simpa using h1) (by simpa using h2))]
      cases findK k ks<;>simp[Nat.add_assoc,Nat.add_comm 1]
     ·simp
  have:=key es ks 0 hl he
  simpa using this
 ·have ask:∀ (es:List MapEntry) (ks:List V) (s:Nat),es.length=ks.length→(∀ (j:Nat) (e:MapEntry) (u:V),es[j]?=some e→ks[j]?=some u→KV i u e.key) →
    (Instr.findAsking t c es s).run P w=.ok ((findK k ks).bind fun j=>(es[j]?).map fun e=>(s+j,e.val)) w:=by
   intro es
   induction es with
   | nil=>intro ks s hl _;obtain rfl:=List.eq_nil_of_length_eq_zero hl.symm;rfl
   | cons e es ih =>
    intro ks s hl he
    match ks,hl,he with
    | u::ks,hl,he =>
     have h0:=he 0 e u rfl rfl;unfold Instr.findAsking findK;simp only[Sem.run_bind,run_eqKey r hk h0 hag,Result.andThen_ok];cases hc:cellsEqv k.cells u.cells
     ·simp only[Bool.false_eq_true,if_false]
      rw[ih ks (s+1) (by simpa using hl) (fun j e u h1 h2=>he (j+1) e u (by simpa using h1) (by simpa using h2))]
      cases findK k ks<;>simp[Nat.add_assoc,Nat.add_comm 1]
     ·simp
  unfold Instr.findKey;simp only[Sem.run_bind,run_underlying r.hd,Result.andThen_ok];have hnow:Instr.findNow r.d c es 0=none∨es=[]:=by
   cases es with
   | nil=>exact .inr rfl
   | cons e es =>
    left
    obtain⟨_,cs,arr,_,rfl,_,_⟩:=hk.agg r hag;unfold Instr.findNow;cases r.d<;>rfl
  rcases hnow with hn | rfl
  ·rw[hn]
   have:=ask es ks 0 hl he
   simpa using this
  ·obtain rfl:=List.eq_nil_of_length_eq_zero hl.symm
   rfl
theorem findK_some {k:V}:∀ {ks:List V} {j:Nat},findK k ks=some j→∃ u,ks[j]?=some u∧cellsEqv k.cells u.cells=true
 | [],j,h=>by simp[findK] at h
 | u::ks,j,h=>by
  unfold findK at h;cases hc:cellsEqv k.cells u.cells<;>simp only[hc] at h
  ·rw[Option.map_eq_some_iff] at h
   obtain⟨m,h1,rfl⟩:=h;obtain⟨v,g1,g2⟩:=findK_some h1;exact⟨v,by simpa using g1,g2⟩
  ·injection h with h;subst h
   exact⟨u,rfl,hc⟩
theorem run_stays {i:TI} {t:TypeId} (r:Row P t i) {k:V} {c:Value} (h:KV i k c) (w:World):(Instr.keyThatStays c c).run P w=.ok c w:=by
 cases hag:i.kind.isAgg
 ·exact run_keyThatStays (h.plain r hag)
 ·obtain⟨_,cs,arr,rfl,rfl,g1,_⟩:=h.agg r hag
  have hs:Instr.sameBits 10000 (.agg arr) (.agg arr)=true:=by
   show Instr.sameBits (9999+1) (.agg arr) (.agg arr)=true
   simp only[Instr.sameBits,beq_self_eq_true,Bool.true_and,List.all_eq_true];intro p hp;obtain⟨j,hj,e⟩:=List.getElem_of_mem hp;rw[List.getElem_zip] at e;have hlt:j<arr.toList.length:=by simp at hj;simpa using hj
   have hl:=g1.2.2 j (i.leaves[j]'(by rw[←g1.2.1];exact hlt)) (cs[j]'(by rw[g1.1,←g1.2.1];exact hlt)) arr.toList[j] (List.getElem?_eq_getElem _) (List.getElem?_eq_getElem _) (List.getElem?_eq_getElem _)
   rw[←e];generalize arr.toList[j]=x at hl;generalize i.leaves[j]'(by rw[←g1.2.1];exact hlt)=q at hl
   generalize cs[j]'(by rw[g1.1,←g1.2.1];exact hlt)=y at hl
   cases q<;>cases y<;>cases x<;>simp[leafB] at hl<;>simp[Instr.sameBits,bytes_beq]
  simp[Instr.keyThatStays,hs]
theorem xr_of_kv {own:Own} {β:Nat→Nat} {w:World} {id:Nat} {i:TI} {k:V} {c:Value} (h:KV i k c):XR own β w id k c∧k.flat=true:=by
 have leaf:∀ {q:TK} {v:V} {c:Value},leafB q v c=true→FR own w v c∧flatC v=true∧okBelow (id+1) v=true:=fun {q v c} h=>by
  cases q<;>cases v<;>cases c<;>simp[leafB] at h
  ·subst h;exact⟨.bool _,rfl,rfl⟩
  ·obtain⟨rfl,rfl,rfl⟩:=h;exact⟨.int _ _,rfl,rfl⟩
  ·subst h;exact⟨.str _,rfl,rfl⟩
 unfold KV at h;cases hag:i.kind.isAgg<;>simp only[hag] at h
 ·obtain⟨h1,h2,h3⟩:=leaf h
  have hone:k.cells=[k]:=by cases k<;>first | rfl | (cases hk:i.kind<;>simp[hk,leafB] at h)
  obtain⟨g1,g2⟩:=VR_of_FR (β:=β) (L:=fun _=>.im) h1
  exact⟨⟨g1,g2,by rw[hone];simp[h3]⟩,by simp[V.flat,hone,h2]⟩
 ·obtain⟨cs,arr,rfl,rfl,_,g1,g2,g3⟩:=h
  have each:∀ (j:Nat) (v:V) (c:Value),cs[j]?=some v→arr[j]?=some c→FR own w v c∧flatC v=true∧okBelow (id+1) v=true:=fun j v c hv hc=>by
   have hlt:=(List.getElem?_eq_some_iff.1 hv).1;exact leaf (g3 j (i.leaves[j]'(by omega)) v c (List.getElem?_eq_getElem _) hv (by simpa using hc))
  have all:∀ v∈cs,flatC v=true∧okBelow (id+1) v=true:=fun v hv=>by
   obtain⟨j,hj⟩:=List.getElem?_of_mem hv;have hlt:=(List.getElem?_eq_some_iff.1 hj).1;have hs:j<arr.size:=by rw[←Array.length_toList];omega
   exact (each j v arr[j] hj (Array.getElem?_eq_getElem hs)).2
  refine⟨⟨⟨arr,rfl,by rw[←Array.length_toList];omega,fun j v c hv hc=>CR_of_FR (each j v c hv hc).1⟩,?_,?_⟩,?_⟩
  ·simp only[noEx,List.all_eq_true]
   intro v hv;have:=(all v hv).1
   cases v<;>first | rfl | (simp[flatC] at this)
  ·simp only[V.cells,List.all_eq_true];exact fun v hv=>(all v hv).2
  ·simp only[V.flat,V.cells,List.all_eq_true];exact fun v hv=>(all v hv).1
theorem opd_kv (h:SR own β w σ a.tmps) {x:Operand} {i:TI} (hk:keyFits i (opd σ.env x)=true):KV i (opd σ.env x) (a.eval x):=by
 have hw:isWay (opd σ.env x)=false:=by
  unfold keyFits at hk;cases hv:opd σ.env x<;>first
   | rfl
   | (rw[hv] at hk;cases hag:i.kind.isAgg<;>simp only[hag] at hk<;>first | (cases hk;done) | (cases hq:i.kind<;>simp[hq,leafV] at hk))
 have ht:=opd_TR h x hw;refine kv_of (own:=own) (β:=β) (w:=w) (L:=opL x 0) hk ?_;cases hv:opd σ.env x<;>first
  | (rw[hv] at ht;exact ht)
  | (rw[hv] at hk;unfold keyFits at hk;cases hag:i.kind.isAgg<;>simp only[hag] at hk<;>first | (cases hk;done) | (cases hq:i.kind<;>simp[hq,leafV] at hk))
theorem kv_old {id:Nat} {u:V} {c:Value} {i:TI} (h:XR own β w id u c) (hf:keyFits i u=true):KV i u c:=kv_of (own:=own) (β:=β) (w:=w) (L:=fun _=>.im) hf h.1
theorem takeMap_ok (h:SR own β w σ a.tmps) {x:Operand} {v:V} {ps:List (Place×V)} (ht:takeMap σ x=some (v,ps)) :
  ∃ o1,Nxt own β w σ a o1 β w (setPlaces σ ps) a∧VR o1 β w (fun _=>.im) v (a.eval x)∧noEx v=true:=by
 unfold takeMap at ht;split at ht
 ·rename_i sz n xs hv
  split at ht
  ·rename_i t htm
   obtain rfl:=tmpOf_some htm
   injection ht with ht;injection ht with h1 h2;subst h1;subst h2;obtain⟨o1,c,g1,g2,g3,_⟩:=Nxt.freeze (p:=.slot t) h hv;simp only[conc] at g2;injection g2 with g2;subst g2;exact⟨o1,g1,VR_of_FR g3⟩
  ·cases ht
 ·rename_i p hv
  obtain⟨sz,n,xs,q1,q2⟩:=opd_lent h hv;simp only[q1] at ht;injection ht with ht;injection ht with h1 h2;subst h1;subst h2;obtain⟨o1,c,g1,g2,g3,_⟩:=Nxt.freeze h q1;rw[q2] at g2;injection g2 with g2;subst g2;exact⟨o1,g1,VR_of_FR g3⟩
 ·rename_i cs hv
  split at ht
  ·rename_i hc
   injection ht with ht;injection ht with h1 h2;subst h1;subst h2;have:=opd_TR h x (by rw[hv];rfl)
   rw[hv] at this;have hn:noEx (.agg cs)=true:=by
    simp only[noEx,List.all_eq_true] at hc ⊢;intro y hy;have:=hc y hy
    cases y<;>first | rfl | (simp[plainM] at this)
   exact⟨own,Nxt.refl h,VR.place (L:=opL x 0) this hn,hn⟩
  ·cases ht
 ·rename_i v' hne1 hne2 hne3
  split at ht
  ·rename_i hp
   injection ht with ht;injection ht with h1 h2;subst h1;subst h2;cases hv:opd σ.env x<;>rw[hv] at hp<;>simp only[plainM] at hp<;>try (cases hp;done)
   all_goals
    have:=opd_TR h x (by rw[hv];rfl)
    rw[hv] at this;exact⟨own,Nxt.refl h,VR.place (L:=opL x 0) this rfl,rfl⟩
  ·cases ht
theorem Row.zeroRun {t:TypeId} {i:TI} (r:Row P t i) (w:World):(zeroValue t).run P w=.ok r.z w:=by
 simp[zeroValue,typeInfo,r.hinfo,r.hz]
theorem Row.zeroVR {t:TypeId} {i:TI} (r:Row P t i) (own:Own) (β:Nat→Nat) (w:World) (L:Nat→Loc):VR own β w L i.zero r.z∧noEx i.zero=true∧isWay i.zero=false:=by
 have hc:=r.hzc own w;have hl:=r.hzl;have hs:=r.hzs;by_cases hag:i.kind.isAgg=true
 ·obtain⟨arr,hz⟩:=r.hagg.1 hag
  cases hzz:i.zero with
  | agg cs =>
   rw[hzz,hz] at hc;rw[hzz] at hl;rw[hz] at hs;simp only[V.cells] at hl hc;simp only[Value.cells] at hs hc;have hn:∀ (j:Nat) (v:V) ,cs[j]?=some v→∃ c,arr[j]?=some c∧FR own w v c:=fun j v hv=>by
    have hlt:=(List.getElem?_eq_some_iff.1 hv).1;exact⟨arr[j]'(by omega),Array.getElem?_eq_getElem _,hc j v _ hv (Array.getElem?_eq_getElem _)⟩
   rw[hz];refine⟨⟨arr,rfl,by omega,fun j v c hv hcv=>CR_of_FR (hc j v c hv hcv)⟩,?_,rfl⟩
   simp only[noEx,List.all_eq_true];intro v hv;obtain⟨j,hj⟩:=List.getElem?_of_mem hv;obtain⟨c,_,hf⟩:=hn j v hj;exact notEx_of_plain (plain_of_FR hf)
  | _=>have:=r.hzk;rw[hzz,hag] at this;simp[isAggV] at this
 ·have hk:=r.hzk
  have h1:=r.one (by simpa using hag)
  have hna:isAggV i.zero=false:=by rw[hk];simpa using hag
  have hcell:i.zero.cells=[i.zero]:=by cases hz:i.zero<;>first | rfl | (rw[hz] at hna;simp[isAggV] at hna)
  have hzc:r.z.cells=#[r.z]:=by
   have:¬ ∃ arr,r.z=.agg arr:=fun hx=>hag (r.hagg.2 hx)
   cases hz:r.z<;>first | rfl | exact absurd ⟨_,hz⟩ this
  have hf:FR own w i.zero r.z:=hc 0 _ _ (by rw[hcell];rfl) (by rw[hzc];rfl)
  obtain⟨g1,g2⟩:=VR_of_FR (β:=β) (L:=L) hf;exact⟨g1,g2,by have:=plain_of_FR hf;cases hz:i.zero<;>rw[hz] at this<;>first | rfl | (simp[plainC] at this)⟩
theorem ok_makeMap {T:Types} {call:CallF} {cx:Cx} {fr:Nat} (h:Hyp P T o own β w σ a) {t:TypeId} {n:Option Operand} (ho:o.op=.makeMap t n) {e:Eff}
  (he:eff T call cx fr o σ=some e):OpOk P o own β w σ a (apply σ o.dst e):=by
 simp only[eff,ho] at he;have key:∀ kt et,kindOf T t=some (.map kt et)→(fr<σ.heap.length∧bcells σ.heap fr=none)→(∀ x,n=some x→∃ k m,opd σ.env x=.int k m) →
   OpOk P o own β w σ a (apply σ o.dst {val:=.ref .map fr,mem:=.init fr [.mp [] []]}):=by
  intro kt et hk hc hx;obtain⟨i,r,hki⟩:=kindOf_row h.T hk;have hu:=kind_map r hki;obtain⟨o1,β1,g1,g2,g3,g4,g5⟩:=h.sr.lay (id:=fr) (cs:=[.mp [] []]) (.map #[] 0) hc.1 hc.2 (fun own' β' hk hb hl h1 h2 =>
   .inr ⟨h1,.mp [] [],.map #[] 0,rfl,by rw[h2];exact heap_alloc_new w _,#[],rfl,rfl,rfl,by simp⟩)
  have hrun:(execOp a.eval o).run P w=.ok (.value (.map (some w.heap.size))) (w.alloc (.map #[] 0)):=by
   cases n with
   | none=>simp[execOp,ho,Instr.makeMap,run_newObj_alloc]
   | some x =>
    obtain⟨k,m,hm⟩:=hx x rfl;have:=opd_int h.sr hm
    simp[execOp,ho,Instr.makeMap,run_newObj_alloc,run_underlying hu,this,asInt,asIntOf]
  refine OpOk.value (σ1:=setMem σ (.init fr [.mp [] []])) hrun ⟨g1,g2,g3,rfl,rfl⟩ h.dst rfl ?_;exact⟨by rw[g4];rfl,g5⟩
 split at he
 ·rename_i kt et hk
  split at he
  ·rename_i hc
   injection he with he;subst he;exact key kt et hk hc (fun x hx=>by cases hx)
  ·cases he
 ·rename_i kt et x hk
  split at he
  ·rename_i k m hx
   split at he
   ·rename_i hc
    injection he with he;subst he;exact key kt et hk hc (fun y hy=>by injection hy with hy;subst hy;exact⟨k,m,hx⟩)
   ·cases he
  ·cases he
 ·cases he
theorem ok_lookup {T:Types} {call:CallF} {cx:Cx} {fr:Nat} (h:Hyp P T o own β w σ a) {t:TypeId} {m k:Operand} {ok:Bool} (ho:o.op=.lookup t m k ok) {e:Eff}
  (he:eff T call cx fr o σ=some e):OpOk P o own β w σ a (apply σ o.dst e):=by
 simp only[eff,ho,Option.map_eq_some_iff] at he;obtain⟨v,hv,rfl⟩:=he;unfold lookupAt at hv;split at hv
 case h_2=>cases hv
 rename_i kt et hk;obtain⟨i,r,hki⟩:=kindOf_row h.T hk;have hu:=kind_map r hki;split at hv
 case h_2=>cases hv
 rename_i ki ei hTk hTe;obtain⟨rk⟩:=Row.of h.T hTk;obtain⟨re⟩:=Row.of h.T hTe;split at hv
 case h_2=>cases hv
 rename_i ks vs hmv;split at hv
 case isFalse=>cases hv
 rename_i hc;have hkv:=opd_kv h.sr hc.1;have hz:=re.zeroVR own β w (fun _=>.im)
 have fin:∀ (x:V) (c:Value) (b:Bool),VR own β w (fun _=>.im) x c→noEx x=true→isWay x=false →
   (execOp a.eval o).run P w=.ok (.value (if ok then .tuple #[c,.bool b] else c)) w→OpOk P o own β w σ a (put σ o.dst (okV ok x b)):=by
  intro x c b g1 g2 g3 hrun;cases ok
  ·refine OpOk.value hrun (Nxt.refl h.sr) h.dst g3 (TR_of_VR g1 g2)
  ·refine OpOk.value hrun (Nxt.refl h.sr) h.dst rfl ⟨#[c,.bool b],rfl,rfl,fun j u d hu hd=>?_⟩
   match j with
   | 0=>simp at hu hd;subst hu;subst hd;exact VR.place g1 g2
   | 1=>simp at hu hd;subst hu;subst hd;exact FR.bool b
   | j+2=>simp at hu
 rcases mapView_ok h.sr hmv with ⟨hxe,rfl,rfl⟩ | ⟨id,_,hb,hxe,hown,ob,g2,es,rfl,g3,g4,g5⟩
 ·simp only[findK] at hv
  injection hv with hv;subst hv;refine fin _ re.z false hz.1 hz.2.1 hz.2.2 ?_;have hf:=run_find rk hkv w [] [] rfl (by simp)
  simp only[findK,Option.bind_none] at hf;cases ok<;>simp[execOp,ho,Instr.lookup,run_underlying hu,hxe,run_check rk hkv,hf,re.zeroRun]
 ·have hall:∀ (j:Nat) (e:MapEntry) (u:V),es.toList[j]?=some e→ks[j]?=some u→KV ki u e.key:=fun j e u he hu=>by
   obtain⟨_,q1,_⟩:=g5 j e (by simpa using he)
   exact kv_old (q1 u hu).1 (List.all_eq_true.1 hc.2 u (List.mem_of_getElem? hu))
  have hf:=run_find rk hkv w es.toList ks (by simpa using g3) hall
  cases hfk:findK (opd σ.env k) ks with
  | none =>
   simp only[hfk] at hv hf;injection hv with hv;subst hv;refine fin _ re.z false hz.1 hz.2.1 hz.2.2 ?_;simp only[Option.bind_none] at hf;cases ok<;>simp[execOp,ho,Instr.lookup,run_underlying hu,hxe,run_objMap g2,run_check rk hkv,hf,re.zeroRun]
  | some j =>
   simp only[hfk] at hv hf;cases hvj:vs[j]? with
   | none=>simp[hvj] at hv
   | some x =>
    simp only[hvj] at hv;injection hv with hv;subst hv;have hlt:j<es.size:=by have:=(List.getElem?_eq_some_iff.1 hvj).1;omega
    obtain⟨_,_,q2⟩:=g5 j es[j] (Array.getElem?_eq_getElem hlt);obtain⟨p1,p2,_⟩:=q2 x hvj;simp only[Option.bind_some,Array.getElem?_toList,Array.getElem?_eq_getElem hlt,Option.map_some] at hf;refine fin _ es[j].val true p1 p2 ?_ ?_
    ·cases x<;>first | rfl | (simp only[VR,CR] at p1;cases p1)
    ·cases ok<;>simp[execOp,ho,Instr.lookup,run_underlying hu,hxe,run_objMap g2,run_check rk hkv,hf]
theorem setPlaces_heap':∀ (ps:List (Place×V)) (σ:St),ps.all isSlot=true→(setPlaces σ ps).heap=σ.heap
 | [],_,_=>rfl
 | (.slot t,v)::ps,σ,h=>by
  simp only[List.all_cons,Bool.and_eq_true] at h;simp only[setPlaces];rw[setPlaces_heap' ps _ h.2];rfl
 | (.cell _ _,_)::_,_,h=>by simp[isSlot] at h
theorem ok_update {T:Types} (h:Hyp P T o own β w σ a) {t:TypeId} {m k x:Operand} (ho:o.op=.mapUpdate t m k x∨o.op=.insert t m k x) {e:Eff}
  (he:updateAt T σ t m k x=some e):OpOk P o own β w σ a (apply σ o.dst e):=by
 unfold updateAt at he;split at he
 case h_2=>cases he
 rename_i kt et id ks vs v ps hk hm ht;obtain⟨i,r,hki⟩:=kindOf_row h.T hk;have hu:=kind_map r hki;split at he
 case h_2=>cases he
 rename_i ki ei hTk hTe;obtain⟨rk⟩:=Row.of h.T hTk;split at he
 case isFalse=>cases he
 rename_i hc;obtain⟨c1,c2,c3,c4,c5⟩:=hc;injection he with he;subst he;have hkv:=opd_kv h.sr c1;obtain⟨o1,h1,q1,q2⟩:=takeMap_ok h.sr ht;have hmm:opd σ.env m=.ref .map id∧bcells σ.heap id=some [.mp ks vs]:=by
  unfold mapOf at hm;split at hm
  ·rename_i id' hv
   split at hm
   ·rename_i ks' vs' hb
    injection hm with hm;injection hm with e1 e2;injection e2 with e2 e3;subst e1;subst e2;subst e3;exact⟨hv,hb⟩
   ·cases hm
  ·cases hm
 obtain⟨hxe,hown⟩:=opd_ref h.sr hmm.1;simp only[refVal] at hxe;have hb1:bcells (setPlaces σ ps).heap id=some [.mp ks vs]:=by rw[setPlaces_heap' ps σ c5];exact hmm.2
 obtain⟨_,ob,g2,es,rfl,g3,g4,g5⟩:=(h1.sr.heap.blk id _ hb1).spec rfl;have hall:∀ (j:Nat) (e:MapEntry) (u:V),es.toList[j]?=some e→ks[j]?=some u→KV ki u e.key:=fun j e u he hu=>by
  obtain⟨_,q1,_⟩:=g5 j e (by simpa using he)
  exact kv_old (q1 u hu).1 (List.all_eq_true.1 c2 u (List.mem_of_getElem? hu))
 have hf:=run_find rk hkv w es.toList ks (by simpa using g3) hall
 have hlt:β id<w.heap.size:=(Array.getElem?_eq_some_iff.1 g2).1;have hxv:XR o1 β w id v (a.eval x):=⟨q1,q2,c4⟩;have fin:∀ (es':Array MapEntry),es'.size=es'.size→(execOp a.eval o).run P w=.ok .skip {w with heap:=w.heap.setIfInBounds (β id) (.map es' es'.size)}→OR o1 β w id (mapPut ks vs (opd σ.env k) v) (.map es' es'.size) →
   OpOk P o own β w σ a (put (setMem (setPlaces σ ps) (.set id 0 [mapPut ks vs (opd σ.env k) v])) o.dst .undef):=by
  intro es' _ hrun hor;refine OpOk.skip hrun (h1.trans (h1.sr.putSpec hb1 rfl (fun b hb=>?_) (by simp) rfl rfl rfl (Nat.le_refl _) ?_ hor)) h.dst
  ·simp[Array.getElem?_setIfInBounds_ne (Ne.symm hb)]
  ·simp[hlt]
 cases hfk:findK (opd σ.env k) ks with
 | none =>
  rw[hfk] at hf;simp only[Option.bind_none] at hf;have hsz:(es.push {key:=a.eval k,val:=a.eval x,born:=es.size}).size=es.size+1:=by simp
  refine fin (es.push {key:=a.eval k,val:=a.eval x,born:=es.size}) rfl ?_ ?_
  ·rw[hsz]
   rcases ho with ho | ho<;>simp[execOp,ho,Instr.mapUpdate,run_underlying hu,hxe,run_objMap g2,run_check rk hkv,hf,run_setObj_map _ g2]
  ·simp only[mapPut,hfk]
   refine⟨_,rfl,by simp[g3],by simp[g4],fun j e he=>?_⟩
   rw[Array.getElem?_push] at he;split at he
   ·rename_i hj
    injection he with he;subst he;subst hj;refine⟨rfl,fun k' hk'=>?_,fun v' hv'=>?_⟩
    ·rw[List.getElem?_append_right (by omega),g3] at hk'
     simp at hk';subst hk';exact xr_of_kv hkv
    ·rw[List.getElem?_append_right (by omega),show es.size-vs.length=0 by omega] at hv'
     simp at hv';subst hv';exact hxv
   ·obtain⟨p1,p2,p3⟩:=g5 j e he
    have hj:=(Array.getElem?_eq_some_iff.1 he).1;refine⟨p1,fun k' hk'=>p2 k' ?_,fun v' hv'=>p3 v' ?_⟩
    ·rwa [List.getElem?_append_left (by omega)] at hk'
    ·rwa [List.getElem?_append_left (by omega)] at hv'
 | some j =>
  rw[hfk] at hf;obtain⟨u,hu1,hu2⟩:=findK_some hfk;have hj:j<es.size:=by have:=(List.getElem?_eq_some_iff.1 hu1).1;omega
  have hkeq:a.eval k=es[j].key:=(kv_inj hkv (hall j es[j] u (by simp[hj]) hu1)).1 hu2
  simp only[Option.bind_some,Array.getElem?_toList,Array.getElem?_eq_getElem hj,Option.map_some] at hf;have hst:=run_stays rk hkv w;have hsz:(es.modify j fun e=>{e with key:=a.eval k,val:=a.eval x}).size=es.size:=by simp
  refine fin (es.modify j fun e=>{e with key:=a.eval k,val:=a.eval x}) rfl ?_ ?_
  ·rw[hsz]
   rcases ho with ho | ho<;>simp[execOp,ho,Instr.mapUpdate,run_underlying hu,hxe,run_objMap g2,run_check rk hkv,hf,Array.getElem?_eq_getElem hj,←hkeq,hst,run_setObj_map _ g2]
  ·simp only[mapPut,hfk]
   refine⟨_,rfl,by simp[g3],by simp[g4],fun j' e he=>?_⟩
   rw[Array.getElem?_modify] at he;split at he
   ·rename_i hjj;subst hjj
    rw[Array.getElem?_eq_getElem hj] at he;simp only[Option.map_some,Option.some.injEq] at he;subst he;obtain⟨p1,p2,p3⟩:=g5 j es[j] (Array.getElem?_eq_getElem hj);refine⟨p1,fun k' hk'=>?_,fun v' hv'=>?_⟩
    ·rw[List.getElem?_set_self (by omega)] at hk'
     injection hk' with hk';subst hk';exact xr_of_kv hkv
    ·rw[List.getElem?_set_self (by omega)] at hv'
     injection hv' with hv';subst hv';exact hxv
   ·rename_i hjj
    obtain⟨p1,p2,p3⟩:=g5 j' e he;refine⟨p1,fun k' hk'=>p2 k' ?_,fun v' hv'=>p3 v' ?_⟩
    ·rwa [List.getElem?_set_ne hjj] at hk'
    ·rwa [List.getElem?_set_ne hjj] at hv'
end
end Go.Vm
end
