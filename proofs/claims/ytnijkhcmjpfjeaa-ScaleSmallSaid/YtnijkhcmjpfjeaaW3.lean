/- W3: V,an evaluator that carries contents (V18L,V17R,V18E,V19,V20,V26,V27,V28,V29,V30,V31,V32,V33,V21,V22,V23,V24). No conditions. -/
import Derived.Tactics
import Derived.TacticsIn
import Derived.Orders
import Derived.OrdersIn
import Derived.LoopNIn
import Derived.RangeFuncIn
import Derived.RangeFuncNested
import Derived.RangeFuncLeaves
import Derived.ChangeShapes
import Derived.DataReads
import Derived.ChangeOld
import Derived.ChangeArms
import Derived.OpenShut
import Derived.Test.YtnijkhcmjpfjeaaW2
section
namespace Go.Vm
open Go
section
variable {P:Program} {own own':Own} {β:Nat→Nat} {w:World} {σ:St} {a:Act} {k:Nat}
theorem PR.cut (him:∀ b,own b=.im→own' b=.im) (hb:∀ id,id<k→own (β id)=.blk id→own' (β id)=.blk id) {v:V} {c:Value} (h:PR own β w v c)
  (ok:∀ id∈ptr0 v,id<k):PR own' β w v c:=by
 cases v<;>simp only[PR] at h ⊢<;>first
  | exact h.mono fun b hb=>⟨him b hb,rfl⟩
  | exact⟨h.1,hb _ (ok _ (by simp[ptr0])) h.2⟩
theorem CR.cut (him:∀ b,own b=.im→own' b=.im) (hb:∀ id,id<k→own (β id)=.blk id→own' (β id)=.blk id) {l:Loc} (hl:∀ b,own b=l→own' b=l)
  {v:V} {c:Value} (h:CR own β w l v c) (ok:okBelow k v=true):CR own' β w l v c:=by
 cases v<;>simp only[CR] at h ⊢<;>first
  | exact h.mono fun b hb=>⟨him b hb,rfl⟩
  | exact⟨h.1,hb _ (by simpa [okBelow] using ok) h.2⟩
  | exact EXR.mono h (fun b hb=>⟨him b hb,rfl⟩) (fun b hb=>⟨hl b hb,rfl⟩)
  | (obtain⟨ca,cb,h1,h2,h3,h4,h5⟩:=h
     simp only[okBelow,List.all_eq_true,List.mem_append] at ok;refine⟨ca,cb,h1,h2,h3,fun j v c hv hc=>(h4 j v c hv hc).cut him hb fun id he=>?_,fun j v c hv hc=>(h5 j v c hv hc).cut him hb fun id he=>?_⟩
     ·have:=ok v (.inl (List.mem_of_getElem? hv));cases v<;>simp[ptr0] at he<;>subst he<;>simpa using this
     ·have:=ok v (.inr (List.mem_of_getElem? hv));cases v<;>simp[ptr0] at he<;>subst he<;>simpa using this)
theorem VR.cut (him:∀ b,own b=.im→own' b=.im) (hb:∀ id,id<k→own (β id)=.blk id→own' (β id)=.blk id) {L:Nat→Loc} (hl:∀ j b,own b=L j→own' b=L j)
  {v:V} {c:Value} (h:VR own β w L v c) (ok:v.cells.all (okBelow k)=true):VR own' β w L v c:=by
 cases v with
 | agg cs =>
  simp only[V.cells,List.all_eq_true] at ok;obtain⟨arr,h1,h2,h3⟩:=h;exact⟨arr,h1,h2,fun j v c hv hc=>(h3 j v c hv hc).cut him hb (hl j) (ok v (List.mem_of_getElem? hv))⟩
 | undef=>trivial
 | rptr cs off =>
  obtain⟨b,o,h1,h2,h3⟩:=h;refine⟨b,o,h1,him b h2,fun j v hv=>?_⟩
  obtain⟨c',h4,h5⟩:=h3 j v hv;exact⟨c',h4,h5.mono fun b hb=>⟨him b hb,rfl⟩⟩
 | _ =>
  rw[VR_one rfl] at h ⊢;exact CR.cut him hb (hl 0) h (by simpa [V.cells] using ok)
theorem TR.cut (him:∀ b,own b=.im→own' b=.im) (hb:∀ id,id<k→own (β id)=.blk id→own' (β id)=.blk id) {L:Nat→Nat→Loc} (hl:∀ i j b,own b=L i j→own' b=L i j)
  {v:V} {c:Value} (h:TR own β w L v c) (ok:okBelowV k v=true):TR own' β w L v c:=by
 cases v with
 | tup vs =>
  simp only[okBelowV,List.all_eq_true] at ok;obtain⟨arr,h1,h2,h3⟩:=h;exact⟨arr,h1,h2,fun j v c hv hc=>(h3 j v c hv hc).cut him hb (hl j) (List.all_eq_true.2 (ok v (List.mem_of_getElem? hv)))⟩
 | _ =>
  rw[TR_one rfl] at h ⊢;exact VR.cut him hb (hl 0) h ok
def below (n:Nat) (l:Loc):Loc:=match l with | .blk id=>if id<n then .blk id else .other | l=>l
theorem below_ne {n:Nat} {l:Loc} (h:∀ id,l≠.blk id):below n l=l:=by cases l<;>first | rfl | exact absurd rfl (h _)
theorem below_blk {n id:Nat} {l:Loc} (h:below n l=.blk id):l=.blk id∧id<n:=by
 cases l<;>simp only[below] at h<;>try (cases h;done)
 split at h
 ·rename_i hlt;injection h with h;subst h;exact⟨rfl,hlt⟩
 ·cases h
theorem bcells_take {H:Heap} {n id:Nat} (h:id<n):bcells (H.take n) id=bcells H id:=by
 unfold bcells;rw[List.getElem?_take_of_lt h]
theorem bcells_take_lt {H:Heap} {n id:Nat} {cs:List V} (h:bcells (H.take n) id=some cs):id<n:=by
 have:=bcells_lt h;simp at this;omega
theorem BR.cut {n id:Nat} {cs:List V} (hlt:id<n) (h:BR own β w id cs):BR (fun b=>below n (own b)) β w id cs:=by
 have k1:∀ b,own b=.im→(fun b=>below n (own b)) b=.im:=fun b hb=>by simp only[hb,below]
 have k2:∀ i,i<id+1→own (β i)=.blk i→(fun b=>below n (own b)) (β i)=.blk i:=fun i hi hb=>by simp only[hb,below];rw[if_pos (by omega)]
 rcases h with ⟨h1,h2,arr,T,h3,h4,h5⟩ | ⟨h1,v,o,rfl,h3,h4⟩
 ·refine .inl ⟨by simp only[h1,below,if_pos hlt],h2,arr,T,h3,h4,fun j v c hv hc=>?_⟩
  exact (h5 j v c hv hc).cut (k:=id+1) k1 k2 (fun b hb=>by simp only[hb,below]) (h2 v (List.mem_of_getElem? hv))
 ·have hx:∀ u c,XR own β w id u c→XR (fun b=>below n (own b)) β w id u c:=fun u c hx=>⟨hx.1.cut (k:=id+1) k1 k2 (fun _ b hb=>k1 b hb) hx.2.2,hx.2⟩
  exact .inr ⟨by simp only[h1,below,if_pos hlt],v,o,rfl,h3,withVals_id v▸h4.imp (fun v=>v) (fun u c _ h=>hx u c h) rfl (fun u c h _=>hx u c h)⟩
theorem HR.cut {H:Heap} (h:HR own β w H) (n:Nat):HR (fun b=>below n (own b)) β w (H.take n):=by
 refine⟨fun id cs hi=>?_,fun b id hb=>?_,fun b hb=>h.lt b fun hn=>hb (by simp only[hn,below])⟩
 ·have hlt:=bcells_take_lt hi
  rw[bcells_take hlt] at hi;exact (h.blk id cs hi).cut hlt
 ·obtain⟨e1,e2⟩:=below_blk hb
  obtain⟨g1,cs,g2⟩:=h.inv b id e1;exact⟨g1,cs,by rw[bcells_take e2];exact g2⟩
theorem Stay.below (own:Own) (w:World) (n:Nat):Stay own w (fun b=>below n (own b)) w :=
 ⟨fun b hb=>⟨by simp only[hb,Vm.below],rfl⟩,fun b _ hb=>⟨by simp only[hb,Vm.below],rfl⟩,Nat.le_refl _,rfl,rfl,rfl,Nat.le_refl _,fun _ arr _ h=>⟨arr,h,rfl⟩⟩
theorem get_cut (n t:Nat):get (cut n σ).env t=if okBelowV n (get σ.env t) then get σ.env t else .undef :=
 get_map (fun v=>if okBelowV n v then v else .undef) (by simp) t σ.env
theorem SR.cut (h:SR own β w σ a.tmps) (n:Nat):SR (fun b=>below n (own b)) β w (Vm.cut n σ) a.tmps:=by
 refine⟨fun t=>?_,h.heap.cut n⟩
 rw[get_cut];split
 ·rename_i hok
  have ht:=h.env t;have lk:∀ p sz m xs,okBelow n (.lent p)=true→look σ p=.ex sz m xs→look (Vm.cut n σ) p=.ex sz m xs:=fun p sz m xs ho hl=>by
   cases p with
   | slot x =>
    simp only[look] at hl ⊢;rw[get_cut,hl];simp[okBelowV,V.cells,okBelow]
   | cell id off =>
    have:id<n:=by simpa [okBelow] using ho
    simp only[look,Vm.cut] at hl ⊢;rw[bcells_take this];exact hl
  cases hv:get σ.env t with
  | lent p =>
   rw[hv] at ht hok;obtain⟨sz,m,xs,q1,q2⟩:=ht;exact⟨sz,m,xs,lk p sz m xs (by simpa [okBelowV,V.cells] using hok) q1,q2⟩
  | xptr p i off =>
   rw[hv] at ht hok;obtain⟨sz,m,xs,b,len,cap,q1,q2,q3,q4⟩:=ht;refine⟨sz,m,xs,b,len,cap,lk p sz m xs ?_ q1,q2,?_,q4⟩
   ·cases p<;>simp[okBelowV,V.cells,okBelow] at hok ⊢;exact hok
   ·simp only[q3];cases p<;>rfl
  | _ =>
   have hw:isWay (get σ.env t)=false:=by rw[hv];rfl
   have:=TR.cut (own':=fun b=>below n (own b)) (k:=n) (fun b hb=>by simp only[hb,below]) (fun id hi hb=>by simp only[hb,below];rw[if_pos hi]) (fun i j b hb=>by simp only[hb,below]) (ht.to_TR hw) hok
   rw[hv] at this;exact ER.of_TR this rfl
 ·exact ER.undef _ _ _ _ _ _ _
end
section
variable {P:Program} {o:Oper} {own:Own} {β:Nat→Nat} {w:World} {σ:St} {a:Act}
theorem FR.cell {v:V} {c:Value} (h:FR own w v c):cellDat v=true:=by cases h<;>rfl
theorem okBelow_dat {n:Nat} {v:V} (h:cellDat v=true):okBelow n v=true:=by cases v<;>first | rfl | (simp[cellDat] at h)
def unlent (σ:St) (n:Nat) (p:Place) (sz:Nat) (xs cs:List V):St:=setPlace (cut n σ) p (.ex sz false (regroup xs cs))
theorem flat_len {sz:Nat}:∀ {xs:List V},(∀ x∈xs,x.cells.length=sz)→(xs.flatMap V.cells).length=xs.length*sz
 | [],_=>by simp
 | x::xs,h=>by
  rw[List.flatMap_cons,List.length_append,h x (by simp),flat_len fun y hy=>h y (by simp[hy]),List.length_cons,Nat.succ_mul,Nat.add_comm]
theorem flat_get {sz:Nat}:∀ {xs:List V},(∀ x∈xs,x.cells.length=sz)→∀ {m:Nat} {v:V},(xs.flatMap V.cells)[m]?=some v→∃ i j x,m=i*sz+j∧xs[i]?=some x∧x.cells[j]?=some v
 | [],_,m,v,hv=>by simp at hv
 | x::xs,h,m,v,hv=>by
  rw[List.flatMap_cons,List.getElem?_append,h x (by simp)] at hv
  split at hv
  ·exact⟨0,m,x,by simp,rfl,hv⟩
  ·rename_i hm
   obtain⟨i,j,y,h1,h2,h3⟩:=flat_get (fun y hy=>h y (by simp[hy])) hv
   exact⟨i+1,j,y,by rw[Nat.succ_mul];omega,by simpa using h2,h3⟩
theorem regroup_len:∀ (xs cs:List V),(regroup xs cs).length=xs.length
 | [],_=>rfl
 | x::xs,cs=>by simp[regroup,regroup_len xs]
theorem regroup_get {sz:Nat}:∀ {xs cs:List V},(∀ x∈xs,x.cells.length=sz)→cs.length=xs.length*sz→(∀ c∈cs,cellDat c=true)→∀ {k:Nat} {y:V},(regroup xs cs)[k]?=some y →
  y.cells.length=sz∧∀ (j:Nat) (v:V),y.cells[j]?=some v→cs[k*sz+j]?=some v
 | [],cs,_,_,_,k,y,hy=>by simp[regroup] at hy
 | x::xs,cs,h,hl,hd,k,y,hy=>by
  have hx:=h x (by simp)
  have hle:sz≤cs.length:=by rw[hl,List.length_cons,Nat.succ_mul];omega
  have hlt:(cs.take sz).length=sz:=by simp;omega
  simp only[regroup] at hy;cases k with
  | zero =>
   simp at hy;subst hy;rw[hx];have hc:(mkOf x (cs.take sz)).cells=cs.take sz:=mkOf_cells (by rw[hlt,hx]) fun z hz as he=>by
    have:=hd z (List.mem_of_mem_take hz);rw[he] at this;cases this
   refine⟨by rw[hc,hlt],fun j v hv=>?_⟩
   rw[hc,List.getElem?_take] at hv;split at hv
   ·simpa using hv
   ·cases hv
  | succ k =>
   rw[hx] at hy;obtain⟨e1,e2⟩:=regroup_get (xs:=xs) (cs:=cs.drop sz) (fun z hz=>h z (by simp[hz])) (by rw[List.length_drop,hl,List.length_cons,Nat.succ_mul];omega)
    (fun c hc=>hd c (List.mem_of_mem_drop hc)) (by simpa using hy)
   refine⟨e1,fun j v hv=>?_⟩
   have:=e2 j v hv
   rw[List.getElem?_drop] at this;rw[←this];congr 1;rw[Nat.succ_mul];omega
theorem bcells_snoc (H:Heap) (cs:List V) (id:Nat):bcells (H++[.cells cs]) id=if id=H.length then some cs else bcells H id:=by
 unfold bcells;rcases Nat.lt_trichotomy id H.length with hlt | heq | hgt
 ·rw[List.getElem?_append_left hlt,if_neg (by omega)]
 ·subst heq;simp
 ·rw[if_neg (by omega),List.getElem?_eq_none (by simp;omega),List.getElem?_eq_none (by omega)]
theorem SR.wayBlk (h:SR own β w σ a.tmps) {t id off:Nat} (hp:(get σ.env t).refsTo (.cell id off)=true):∃ ds,bcells σ.heap id=some ds:=by
 have hE:=h.env t;have hlk:∃ sz n xs,look σ (.cell id off)=.ex sz n xs:=by
  cases hv':get σ.env t<;>rw[hv'] at hp hE<;>simp[V.refsTo] at hp<;>subst hp
  ·obtain⟨sz,n,xs,b,len,cap,q1,q2⟩:=hE;exact⟨_,_,_,q1⟩
  ·obtain⟨sz,n,xs,q1,q2⟩:=hE;exact⟨_,_,_,q1⟩
 obtain⟨_,_,_,hlk⟩:=hlk;obtain⟨ds,h3,_⟩:=Place.cases_look hlk;exact⟨ds,h3⟩
theorem SR.adopt (h:SR own β w σ a.tmps) {b0:Nat} {cs:List V} {arr:Array Value} {T:TypeId} (hb0:own b0=.res 0 0) (hw:w.heap[b0]?=some (.cells arr T (0,0))) (hs:cs.length≤arr.size)
  (hd:∀ v∈cs,cellDat v=true) (hc:∀ (j:Nat) (v:V) (c:Value),cs[j]?=some v→arr[j]?=some c→FR own w v c) :
  Nxt own β w σ a (fun b=>if b=b0 then .blk σ.heap.length else own b) (fun i=>if i=σ.heap.length then b0 else β i) w (adoptS σ cs) a:=by
 unfold adoptS;have ne:∀ {l:Loc},l≠.res 0 0→∀ b,own b=l→(if b=b0 then Loc.blk σ.heap.length else own b)=l:=fun {l} hl b hb=>by
  rw[if_neg (fun he=>hl (by rw[←hb,he,hb0])),hb]
 have ilt:∀ {i:Nat} {ds:List V},bcells σ.heap i=some ds→(if i=σ.heap.length then b0 else β i)=β i:=fun {i ds} hi=>by
  rw[if_neg (by have:=bcells_lt hi;omega)]
 have hk:∀ b,own b=.im→(if b=b0 then Loc.blk σ.heap.length else own b)=.im∧w.heap[b]?=w.heap[b]?:=fun b hb=>⟨ne (by simp) b hb,rfl⟩
 have hb:∀ i,own (β i)=.blk i→(if (if i=σ.heap.length then b0 else β i)=b0 then Loc.blk σ.heap.length else own (if i=σ.heap.length then b0 else β i))=.blk i∧(if i=σ.heap.length then b0 else β i)=β i:=fun i hi=>by
  obtain⟨_,ds,hds⟩:=h.heap.inv _ _ hi;rw[ilt hds];exact⟨ne (by simp) _ hi,rfl⟩
 refine⟨⟨fun t=>?_,⟨fun i ds hi=>?_,fun b i hbi=>?_,fun b hbo=>?_⟩⟩,⟨fun b hb'=>⟨ne (by simp) b hb',rfl⟩,fun b _ hb'=>⟨ne (by simp) b hb',rfl⟩,Nat.le_refl _,rfl,rfl,rfl,Nat.le_refl _,fun _ arr _ h=>⟨arr,h,rfl⟩⟩,⟨by simp,fun i ds hi=>⟨ilt hi,ds,?_⟩⟩,rfl,rfl⟩
 ·refine (h.env t).keep hk hb (fun i j b hbb=>⟨ne (by simp) b hbb,rfl⟩) (fun p hp=>⟨fun sz n xs hlk=>⟨n,xs,?_,rfl⟩,fun c hcc=>?_,fun b hbb=>ne (by cases p<;>simp[locOf]) b hbb⟩)
  ·cases p with
   | slot x=>exact hlk
   | cell i off =>
    obtain⟨ds,h3,_⟩:=Place.cases_look hlk;simp only[look] at hlk ⊢;rw[bcells_snoc,if_neg (by have:=bcells_lt h3;omega)]
    exact hlk
  ·cases p with
   | slot x=>exact hcc
   | cell i off =>
    obtain⟨ds,h3⟩:=h.wayBlk hp;simp only[conc] at hcc ⊢;rw[ilt h3];exact hcc
 ·simp only at hi
  rw[bcells_snoc] at hi;split at hi
  ·rename_i hii;subst hii
   injection hi with hi;subst hi;exact .inl ⟨by simp,fun v hv=>okBelow_dat (hd v hv),arr,T,by simpa using hw,hs,fun j v c hv hcv=>CR_of_FR ((hc j v c hv hcv).mono hk)⟩
  ·exact (h.heap.blk i ds hi).mono hk hb (fun j b hbb=>⟨ne (by simp) b hbb,rfl⟩) rfl
 ·split at hbi
  ·rename_i hbn
   injection hbi with hbi;subst hbi;exact⟨by simp[hbn],cs,by rw[bcells_snoc,if_pos rfl]⟩
  ·obtain⟨q1,ds,q2⟩:=h.heap.inv b i hbi
   exact⟨by rw[ilt q2];exact q1,ds,by rw[bcells_snoc,if_neg (by have:=bcells_lt q2;omega)];exact q2⟩
 ·split at hbo
  ·rename_i hbn;subst hbn;exact (Array.getElem?_eq_some_iff.1 hw).1
  ·exact h.heap.lt b hbo
 ·rw[bcells_snoc,if_neg (by have:=bcells_lt hi;omega)];exact hi
theorem SR.own1 (h:SR own β w σ a.tmps) {b0:Nat} {l:Loc} (hb0:own b0=.other) (hlt:b0<w.heap.size) (hl:∀ id,l≠.blk id):SR (fun b=>if b=b0 then l else own b) β w σ a.tmps:=by
 have ne:∀ {l':Loc},l'≠.other→∀ b,own b=l'→(if b=b0 then l else own b)=l':=fun {l'} hl' b hb=>by
  rw[if_neg (fun he=>hl' (by rw[←hb,he,hb0])),hb]
 have hk:∀ b,own b=.im→(if b=b0 then l else own b)=.im∧w.heap[b]?=w.heap[b]?:=fun b hb=>⟨ne (by simp) b hb,rfl⟩
 refine⟨fun t=>?_,⟨fun i ds hi=>?_,fun b i hbi=>?_,fun b hbo=>?_⟩⟩
 ·exact (h.env t).keep hk (fun i hi=>⟨ne (by simp) _ hi,rfl⟩) (fun i j b hbb=>⟨ne (by simp) b hbb,rfl⟩) (fun p _=>⟨fun sz n xs hlk=>⟨n,xs,hlk,rfl⟩,fun c hcc=>hcc,fun b hbb=>ne (by cases p<;>simp[locOf]) b hbb⟩)
 ·exact (h.heap.blk i ds hi).mono hk (fun i hi=>⟨ne (by simp) _ hi,rfl⟩) (fun j b hbb=>⟨ne (by simp) b hbb,rfl⟩) rfl
 ·split at hbi
  ·exact absurd hbi (hl i)
  ·exact h.heap.inv b i hbi
 ·split at hbo
  ·rename_i he;rw[he];exact hlt
  ·exact h.heap.lt b hbo
theorem SR.release (h:SR own β w σ a.tmps) {n:Nat} {p:Place} {cs xs:List V} {sz cap:Nat} {arr:Array Value} {T:TypeId} (hb:bcells σ.heap n=some cs) (hd:cs.all cellDat=true)
  (hlen:cs.length=(xs.flatMap V.cells).length) (hsz:∀ x∈xs,x.cells.length=sz) (hw:w.heap[β n]?=some (.cells arr T (0,0))) (harr:arr.size=cap*sz) (hcap:xs.length≤cap)
  (hc:conc β a.tmps w p=some (.slice (some ⟨β n,0,none⟩) xs.length cap)) (hp:∀ id off,p=.cell id off→id<n∧∃ ds,bcells σ.heap id=some ds∧specB ds=false) :
  ∃ o1,SR o1 β w (unlent σ n p sz xs cs) a.tmps∧Stay own w o1 w∧∀ (r:V) (c:Value),okBelowV n r=true→TR own β w (fun i j=>.res i j) r c→TR o1 β w (fun i j=>.res i j) r c:=by
 have hsp:specB cs=false:=by
  match cs,hd with
  | [],_=>rfl
  | [v],hd=>simp only[List.all_cons,List.all_nil,Bool.and_true] at hd;cases v<;>first | rfl | (simp[cellDat] at hd)
  | _::_::_,_=>rfl
 obtain⟨b1,b2,arr',T',b3,b4,b5⟩:=(h.heap.blk n cs hb).cells hsp;rw[hw] at b3;injection b3 with b3;injection b3 with q1 q2;subst q1;subst q2;have h0:=h.cut n;have hoth:below n (own (β n))=.other:=by rw[b1];simp[below]
 have hlt:β n<w.heap.size:=(Array.getElem?_eq_some_iff.1 hw).1;have hloc:∀ id,locOf p≠.blk id:=fun id=>by cases p<;>simp[locOf]
 have h1:=h0.own1 hoth hlt hloc;have keepR:∀ {l:Loc},(∀ id,l≠.blk id)→l≠.other→∀ b,own b=l→(if b=β n then locOf p else below n (own b))=l:=fun {l} hl1 hl2 b hb'=>by
  rw[if_neg (fun he=>hl1 n (by rw[←hb',he,b1])),hb',below_ne hl1]
 have him:∀ b,own b=.im→(if b=β n then locOf p else below n (own b))=.im:=fun b hb'=>keepR (by simp) (by simp) b hb'
 have hfl:cs.length=xs.length*sz:=by rw[hlen,flat_len hsz]
 have hx:EXR (fun b=>if b=β n then locOf p else below n (own b)) w (locOf p) sz false (regroup xs cs) (.slice (some ⟨β n,0,none⟩) xs.length cap):=by
  refine .inr (.inr ⟨rfl,β n,cap,T,arr,by rw[regroup_len],by simp,hw,by rw[regroup_len];exact hcap,harr,fun i x hx=>?_⟩)
  obtain⟨e1,e2⟩:=regroup_get hsz hfl (fun c hc=>List.all_eq_true.1 hd c hc) hx
  refine⟨e1,fun j y c hy hcv=>?_⟩
  have hcs:=e2 j y hy;exact (FR_of_CR (b5 _ y c hcs hcv) (List.all_eq_true.1 hd y (List.mem_of_getElem? hcs))).mono fun b hb'=>⟨him b hb',rfl⟩
 have hstay:Stay own w (fun b=>if b=β n then locOf p else below n (own b)) w:=by
  refine⟨fun b hb'=>⟨him b hb',rfl⟩,fun b _ hb'=>⟨?_,rfl⟩,Nat.le_refl _,rfl,rfl,rfl,Nat.le_refl _,fun _ arr _ h=>⟨arr,h,rfl⟩⟩
  rw[if_neg (fun he=>by rw[he,b1] at hb';cases hb'),hb'];rfl
 refine⟨_,?_,hstay,fun r c hr ht=>?_⟩
 ·unfold unlent
  cases p with
  | slot t =>
   simp only[conc] at hc;injection hc with hc;refine h1.slot reloc_id (fun _ _ _ _=>rfl) (fun _ _=>rfl) rfl ?_
   rw[hc];exact hx
  | cell id off =>
   obtain⟨hid,ds,g1,g2⟩:=hp id off rfl;refine h1.cell reloc_id (cs:=ds) (by simp only[Vm.cut];rw[bcells_take hid];exact g1) g2 (fun _ _ _=>rfl) (fun _ _ _=>rfl) rfl (fun v c' hv hcell _=>?_)
   simp only[conc] at hc;rw[hc] at hcell;injection hcell with hcell;subst hcell;exact hx
 ·exact TR.cut (k:=n) him (fun id hi hb'=>by
   rw[if_neg (fun he=>by rw[he,b1] at hb';injection hb' with hb';omega),hb'];simp[below,hi]) (fun i j b hb'=>keepR (by simp) (by simp) b hb') ht hr
theorem setPlaces_spec {i:Nat}:∀ (ps:List (Place×V)) (σ:St) (cs:List V),(∀ x∈ps,isSpec x.2=false)→bcells σ.heap i=some cs→specB cs=false→∃ cs',bcells (setPlaces σ ps).heap i=some cs'∧specB cs'=false
 | [],_,cs,_,h,hs=>⟨cs,h,hs⟩
 | (p,v)::ps,σ,cs,hp,h,hs=>by
  have step:∃ c1,bcells (setPlace σ p v).heap i=some c1∧specB c1=false:=by
   cases p with
   | slot t=>exact⟨cs,h,hs⟩
   | cell id off =>
    simp only[setPlace];cases hc:bcells σ.heap id with
    | none=>exact⟨cs,h,hs⟩
    | some ds =>
     simp only;rw[bcells_set (bcells_lt hc)];split
     ·rename_i hi;subst hi
      rw[hc] at h;injection h with h;subst h;exact⟨_,rfl,specB_set hs (hp (.cell i off,v) (by simp))⟩
     ·exact⟨cs,h,hs⟩
  obtain⟨c1,g1,g2⟩:=step;exact setPlaces_spec ps _ c1 (fun x hx=>hp x (by simp[hx])) g1 g2
theorem AR.mono {own':Own} {β':Nat→Nat} {vs:List V} {cs:List Value} (h:AR own β w vs cs) (hk:∀ b,own b=.im→own' b=.im∧w.heap[b]?=w.heap[b]?)
  (hb:∀ id,own (β id)=.blk id→own' (β' id)=.blk id∧β' id=β id):AR own' β' w vs cs :=
 ⟨h.1,fun j v c hv hc=>⟨(VR.mono (L:=fun _=>.im) ((h.2 j v c hv hc).1.place (h.2 j v c hv hc).2) hk hb (fun _ b hb'=>hk b hb')).place (h.2 j v c hv hc).2,(h.2 j v c hv hc).2⟩⟩
theorem ok_lend {T:Types} {call:CallF} {cx:Cx} (hS:Sound P call) (h:Hyp P T o own β w σ a) {c:Call} (ho:o.op=.call c) {f:Operand} (hb:c.callee=.value f) {g:FuncId} {k:Nat} {p:Place} {sz:Nat} {x0:V} {xs:List V} {rest:List Operand}
  (hl:lendOf cx σ (opd σ.env f) c.args.toList=some ⟨g,k,p,sz,x0::xs,rest⟩) {e:Eff} (he:lendAt call σ g k p sz (x0::xs) rest=some e):OpOk P o own β w σ a (apply σ o.dst e):=by
 have hsr:=h.sr;unfold lendOf at hl;split at hl
 case h_2=>cases hl
 rename_i g' k' hlf;split at hl
 case h_2=>cases hl
 rename_i x post hargs;obtain⟨hfv,hcond⟩:opd σ.env f=.clo (.func g') [] []∧g'<yB:=by
  unfold lendFn at hlf;split at hlf
  ·cases hlf
  ·split at hlf
   ·rename_i hfv
    split at hlf
    ·split at hlf
     ·rename_i hc
      rw[Nat.blt_eq] at hc;injection hlf with hlf;injection hlf with hlf _;subst hlf;exact⟨hfv,hc⟩
     ·cases hlf
    ·cases hlf
   ·cases hlf
 split at hl
 case h_2=>cases hl
 rename_i p' hpl;split at hl
 case h_2=>cases hl
 rename_i sz' n' ys hlook;injection hl with hl;injection hl with e1 e1' e2 e3 e4 e5;subst e1;subst e1';subst e2;subst e3;subst e4;subst e5;have hsplit:c.args.toList=c.args.toList.take k'++x::post:=by
  rw[←hargs,List.take_append_drop]
 have hkl:(c.args.toList.take k').length=k':=by
  have:0<(c.args.toList.drop k').length:=by rw[hargs];simp
  simp at this ⊢;omega
 have hconc:conc β a.tmps w p'=some (a.eval x):=by
  unfold placeOf at hpl;split at hpl
  ·rw[Option.map_eq_some_iff] at hpl
   obtain⟨t,h1,rfl⟩:=hpl;obtain rfl:=tmpOf_some h1
   rfl
  ·rename_i q hq
   injection hpl with hpl;subst hpl;obtain⟨_,_,_,_,q2⟩:=opd_lent hsr hq;exact q2
  ·cases hpl
 have hfe:=opd_TR hsr f (by rw[hfv];rfl)
 rw[hfv] at hfe;obtain⟨ca,cb,hce,hc1,hc2,_,_⟩:=hfe;have hca:ca=#[]:=Array.eq_empty_of_size_eq_zero (by simpa using hc1)
 have hcb:cb=#[]:=Array.eq_empty_of_size_eq_zero (by simpa using hc2)
 subst hca;subst hcb;unfold lendAt at he;split at he
 case h_2=>cases he
 rename_i vs ps hviews;simp only at he;generalize hσ1:setPlaces (setPlace σ p' .undef) ps=σ1 at he;generalize hks:reach σ1.heap σ1.heap.length (argIds vs)=ks at he;split at he
 case isFalse=>cases he
 rename_i hcl;simp only[Bool.and_eq_true] at hcl;obtain⟨⟨hcl1,hcl2⟩,hhid⟩:=hcl;split at he
 case h_2=>cases he
 rename_i r H' hcall;split at he
 case isFalse=>cases he
 rename_i hdead;simp only[Bool.and_eq_true] at hdead;split at he
 case h_2=>cases he
 rename_i cs hcs;split at he
 case isFalse=>cases he
 rename_i hcd;simp only[Bool.and_eq_true,beq_iff_eq] at hcd;injection he with he;subst he;have hlen1:σ1.heap.length=σ.heap.length:=by
  rw[←hσ1,setPlaces_length'];exact setPlaces_length' [(p',.undef)] σ
 have hfin:setMem (setPlaces σ ((p',.undef)::ps)) (.lent (σ1.heap.length::ks) σ1.heap.length p' (.ex sz' false (regroup (x0::xs) cs)) (putH (σ1.heap.length::ks) (σ1.heap++[.cells ((x0::xs).flatMap V.cells)]) H'++H'.drop (σ1.heap.length+1))) =
   unlent (partS (σ1.heap.length::ks) (adoptS σ1 ((x0::xs).flatMap V.cells)) H') σ1.heap.length p' sz' (x0::xs) cs:=by
  simp only[setMem,unlent,partS,setPlaces,adoptS,List.length_append,List.length_cons,List.length_nil,hσ1]
 show OpOk P o own β w σ a (put (setMem (setPlaces σ ((p',.undef)::ps)) _) o.dst r)
 rw[hfin];obtain⟨o1,c1,n1,g2,g3,g4⟩:=Nxt.give hsr hlook;rw[hconc] at g2;injection g2 with g2;subst g2;rcases g3 with ⟨he,_,_⟩ | ⟨he,_,_⟩ | ⟨rfl,b0,cap,T0,arr,e1,e2,e3,e4,e5,e6⟩
 ·cases he
 ·cases he
 obtain⟨o2,n2,f2,ρ,hr,hres,rfl⟩:=freezes ps o1 _ n1.sr (views_ps n1.sr _ _ _ hviews);rw[hσ1] at n2;have hrest:=views_args n1.sr hr rfl hr.other _ _ _ hviews f2;have n12:=n1.trans n2;have hszs:∀ y∈x0::xs,y.cells.length=sz':=fun y hy=>by
  obtain⟨i,hi⟩:=List.getElem?_of_mem hy;exact (e6 i y hi).1
 have hflen:=flat_len hszs;have hfr:∀ (j:Nat) (v:V) (c:Value),((x0::xs).flatMap V.cells)[j]?=some v→arr[j]?=some c→FR (fun b=>ρ (o1 b)) w v c:=fun j v c hv hcv=>by
  obtain⟨i,j',y,h1,h2,h3⟩:=flat_get hszs hv;subst h1;exact ((e6 i y h2).2 j' v c h3 hcv).reloc hr
 have hflt:((x0::xs).flatMap V.cells).length≤arr.size:=by rw[hflen,e5];exact Nat.mul_le_mul_right _ e4
 have hfd:∀ v∈(x0::xs).flatMap V.cells,cellDat v=true:=fun v hv=>by
  obtain⟨j,hj⟩:=List.getElem?_of_mem hv;have hlt:j<arr.size:=Nat.lt_of_lt_of_le (List.getElem?_eq_some_iff.1 hj).1 hflt;exact (hfr j v _ hj (Array.getElem?_eq_getElem hlt)).cell
 have hb0:ρ (o1 b0)=.res 0 0:=by rw[e2,hres.res]
 have n3:=n2.sr.adopt (a:=a) (cs:=(x0::xs).flatMap V.cells) hb0 e3 hflt hfd hfr;have n13:=n12.trans n3;have hrest3:=hrest.mono (fun b hb'=>n3.stay.im b hb') (fun id hb'=>by
  obtain⟨_,ds,hds⟩:=n2.sr.heap.inv _ _ hb';obtain⟨g1,ds',g2⟩:=n3.bx.2 id ds hds;exact⟨(n3.sr.heap.blk id ds' g2).own,g1⟩)
 generalize ho3:(fun b=>if b=b0 then Loc.blk σ1.heap.length else ρ (o1 b))=o3 at n3 n13 hrest3
 generalize hβ3:(fun i=>if i=σ1.heap.length then b0 else β i)=β3 at n3 n13 hrest3
 have hβn:β3 σ1.heap.length=b0:=by subst hβ3;simp
 have hon:o3 b0=.blk σ1.heap.length:=by subst ho3;simp
 have hargs':c.args.map a.eval=((c.args.toList.take k').map a.eval++a.eval x::post.map a.eval).toArray:=by
  rw[←Array.toList_inj,Array.toList_map,hsplit];simp[hkl]
 have hAR:AR o3 β3 w (amid k' (.ref (.arr (x0::xs).length) σ1.heap.length) vs) ((c.args.toList.take k').map a.eval++a.eval x::post.map a.eval):=by
  rw[List.map_append] at hrest3;have hvl:((c.args.toList.take k').map a.eval).length=(vs.take k').length:=by
   have:=hrest3.1
   simp only[List.length_append,List.length_map,hkl,List.length_take] at this ⊢;omega
  have hfirst:AR o3 β3 w (vs.take k') ((c.args.toList.take k').map a.eval):=⟨hvl,fun j v cc hv hcv=>by
   have hj:j<k':=by
    have:=(List.getElem?_eq_some_iff.1 hv).1
    simp at this;omega
   rw[List.getElem?_take,if_pos hj] at hv;exact hrest3.2 j v cc hv (by rw[List.getElem?_append_left (by rw[List.length_map,hkl];exact hj)];exact hcv)⟩
  have hlast:AR o3 β3 w (vs.drop k') (post.map a.eval):=⟨by
    have:=hrest3.1
    simp only[List.length_append,List.length_map,hkl,List.length_drop] at this ⊢;omega,fun j v cc hv hcv=>by
   rw[List.getElem?_drop] at hv;exact hrest3.2 (k'+j) v cc hv (by
    rw[List.getElem?_append_right (by rw[List.length_map,hkl];omega),List.length_map,hkl,Nat.add_sub_cancel_left];exact hcv)⟩
  have hmid:AR o3 β3 w [.ref (.arr (x0::xs).length) σ1.heap.length] [a.eval x]:=⟨rfl,fun j v cc hv hcv=>by
   cases j with
   | zero =>
    simp at hv hcv;subst hv;subst hcv;refine⟨⟨⟨cap,e4,?_⟩,?_⟩,rfl⟩
    ·rw[hβn];exact e1
    ·rw[hβn,hon]
   | succ j=>simp at hv⟩
  exact hfirst.append (hmid.append hlast)
 have hflatK:((x0::xs).flatMap V.cells).flatMap ptrX=[]:=by
  rw[List.flatMap_eq_nil_iff];intro v hv;have:=hfd v hv
  cases v<;>first | rfl | (simp[cellDat] at this)
 have hcl3:closedK (σ1.heap.length::ks) (adoptS σ1 ((x0::xs).flatMap V.cells)).heap=true:=by
  unfold closedK;rw[List.all_eq_true];intro id hid;rw[List.all_eq_true];intro i hi;unfold cellIds at hi;simp only[adoptS] at hi;rw[bcells_snoc] at hi;by_cases hn:id=σ1.heap.length
  ·rw[if_pos hn] at hi
   simp only at hi;rw[hflatK] at hi;cases hi
  ·rw[if_neg hn] at hi
   rcases List.mem_cons.1 hid with he | hid
   ·exact absurd he hn
   ·have:=List.all_eq_true.1 (List.all_eq_true.1 hcl1 id hid) i (by unfold cellIds;exact hi)
    simp only[List.contains_eq_mem,decide_eq_true_eq,List.mem_cons] at this ⊢;exact .inr this
 have hcl4:(argIds (amid k' (.ref (.arr (x0::xs).length) σ1.heap.length) vs)).all (σ1.heap.length::ks).contains=true:=by
  rw[List.all_eq_true];intro i hi;simp only[argIds,List.mem_flatMap] at hi;obtain⟨v,hv,y,hy,hiy⟩:=hi;simp only[List.contains_eq_mem,decide_eq_true_eq,List.mem_cons];have other:v∈vs→i∈ks:=fun hv=>by
   have:=List.all_eq_true.1 hcl2 i (by simp only[argIds,List.mem_flatMap];exact⟨v,hv,y,hy,hiy⟩)
   simpa using this
  simp only[amid,List.mem_append,List.mem_cons] at hv;rcases hv with hv | hv | hv
  ·exact .inr (other (List.mem_of_mem_take hv))
  ·subst hv
   simp only[V.cells,List.mem_singleton] at hy;subst hy;simp only[ptrId,List.mem_singleton] at hiy;exact .inl hiy
  ·exact .inr (other (List.mem_of_mem_drop hv))
 have hH:(adoptS σ1 ((x0::xs).flatMap V.cells)).heap.length=σ1.heap.length+1:=by simp[adoptS]
 obtain⟨⟨fn,q1,q2,q3⟩,hC⟩:=hS.1 _ _ _ _ _ hcond hcall;obtain⟨bd,q3'⟩:=Option.isSome_iff_exists.1 q3;have hrun:(execOp a.eval o).run P w=.ok (.enter g' ((c.args.toList.take k').map a.eval++a.eval x::post.map a.eval).toArray) w:=by
  rw[←hargs'];simp[execOp,ho,resolve,hb,hce,Deferred.ofValue,invoke,callFunc,q1,q2,q3']
 refine OpOk.call hrun ((hC _ β3 w _ (n3.sr.heap.mask hcl3) (hAR.mask hcl4) (fun b i j k=>mlower_not)).mono ?_) h.dst
 rintro e w' ⟨c',o',β',rfl,t1,t2,t3,t4,t5⟩
 obtain⟨o4,β4,m1,m2⟩:=back_part (σ1.heap.length::ks) n3.sr t2 t3 t4 (by rw[hH];exact hdead.1) t1
 have hbig:=n13.trans m1;have hkn:(σ1.heap.length::ks).contains σ1.heap.length=true:=by simp
 have hnb:bcells (partS (σ1.heap.length::ks) (adoptS σ1 ((x0::xs).flatMap V.cells)) H').heap σ1.heap.length=some cs:=by
  simp only[partS];rw[bcells_putH,if_neg (by rw[hkn];simp)];exact hcs
 have hnl:bcells (adoptS σ1 ((x0::xs).flatMap V.cells)).heap σ1.heap.length=some ((x0::xs).flatMap V.cells):=by
  simp only[adoptS];rw[bcells_snoc,if_pos rfl]
 have hβ4:β4 σ1.heap.length=b0:=by
  have:=(m1.bx.2 _ _ hnl).1
  rw[this,hβn]
 obtain⟨arr',w1,w2⟩:=hbig.stay.cells b0 arr T0 e3;have hkp:∀ i off,p'=.cell i off→i<σ1.heap.length∧(σ1.heap.length::ks).contains i=false:=fun i off hp=>by
  subst hp;obtain⟨ds,d1,_⟩:=Place.cases_look hlook;have hlt:=bcells_lt d1;refine⟨by omega,?_⟩
  have hki:ks.contains i=false:=by simpa [hides] using hhid
  rw[List.contains_cons,hki,Bool.or_false,beq_eq_false_iff_ne];omega
 have hconc4:conc β4 a.tmps w' p'=some (.slice (some ⟨β4 σ1.heap.length,0,none⟩) (x0::xs).length cap):=by
  rw[hβ4,←e1];cases p' with
  | slot t=>exact hconc
  | cell i off =>
   obtain⟨ds,d1,_⟩:=Place.cases_look hlook;have hki:=(hkp i off rfl).2;have hbi:β4 i=β i:=(hbig.bx.2 i ds d1).1;have hb3i:β3 i=β i:=(n13.bx.2 i ds d1).1;have hown3:o3 (β3 i)=.blk i:=by
    obtain⟨_,ds',hds'⟩:=n13.bx.2 i ds d1;exact (n3.sr.heap.blk i ds' hds').own
   have hsame:w'.heap[β i]?=w.heap[β i]?:=by
    have:=t3.other (β3 i) (n3.sr.heap.lt _ (by rw[hown3];simp)) (by simp only[hown3,mlower,hki];rfl)
    rw[←hb3i];exact this.2
   simp only[conc] at hconc ⊢;rw[hbi,World.cell?_of_block (w:=w) (by exact hsame)];exact hconc
 obtain⟨o5,r1,r2,r3⟩:=m1.sr.release (n:=σ1.heap.length) (p:=p') (xs:=x0::xs) (sz:=sz') (cap:=cap) hnb hcd.1 hcd.2 hszs (by rw[hβ4];exact w1) (by rw[w2];exact e5) e4 hconc4 (fun i off hp=>by
  obtain⟨hlt,hki⟩:=hkp i off hp;subst hp;obtain⟨ds,d1,d2⟩:=Place.cases_look hlook;have hb1:bcells (setPlace σ (.cell i off) .undef).heap i=some (ds.set off .undef):=by
   simp only[setPlace,d1];rw[bcells_set (bcells_lt d1),if_pos rfl]
  obtain⟨ds',g1,g2⟩:=setPlaces_spec ps _ _ (fun y hy=>by
   obtain⟨m,zs,h1,_⟩:=views_ps n1.sr _ _ _ hviews y hy;rw[h1];rfl) hb1 (specB_set (specB_of_ex d2) rfl)
  rw[hσ1] at g1;refine⟨hlt,ds',?_,g2⟩;simp only[partS];rw[bcells_putH,if_pos ⟨by rw[hH];omega,hki⟩]
  simp only[adoptS];rw[bcells_snoc,if_neg (by omega)];exact g1)
 refine⟨c',o5,β4,rfl,⟨r1,hbig.stay.trans r2,⟨?_,fun id ds hi=>?_⟩,rfl,rfl⟩,r3 r c' hdead.2 m2⟩
 ·have:(unlent (partS (σ1.heap.length::ks) (adoptS σ1 ((x0::xs).flatMap V.cells)) H') σ1.heap.length p' sz' (x0::xs) cs).heap.length=((partS (σ1.heap.length::ks) (adoptS σ1 ((x0::xs).flatMap V.cells)) H').heap.take σ1.heap.length).length :=
   setPlaces_length' [(p',_)] (cut σ1.heap.length (partS (σ1.heap.length::ks) (adoptS σ1 ((x0::xs).flatMap V.cells)) H'))
  show _≤(unlent (partS (σ1.heap.length::ks) (adoptS σ1 ((x0::xs).flatMap V.cells)) H') σ1.heap.length p' sz' (x0::xs) cs).heap.length
  rw[this,List.length_take];have:=hbig.bx.1
  omega
 ·obtain⟨g1,ds',g2⟩:=hbig.bx.2 id ds hi
  refine⟨g1,?_⟩;have hlt:=bcells_lt hi
  show ∃ cs',bcells (setPlace (cut σ1.heap.length (partS (σ1.heap.length::ks) (adoptS σ1 ((x0::xs).flatMap V.cells)) H')) p' _).heap id=some cs'
  have hc':bcells (cut σ1.heap.length (partS (σ1.heap.length::ks) (adoptS σ1 ((x0::xs).flatMap V.cells)) H')).heap id=some ds':=by
   simp only[cut];rw[bcells_take (by omega)];exact g2
  cases p' with
  | slot t=>exact⟨ds',hc'⟩
  | cell i off =>
   simp only[setPlace];split
   ·rename_i hq
    rw[bcells_set (bcells_lt hq)];split
    ·exact⟨_,rfl⟩
    ·exact⟨ds',hc'⟩
   ·exact⟨ds',hc'⟩
def allIm (l:Loc):Loc:=match l with | .other=>.other | _=>.im
theorem allIm_im {own:Own} {b:Nat} (h:own b≠.other):allIm (own b)=.im:=by
 cases ho:own b<;>first | rfl | exact absurd ho h
theorem glance1_ok (h:SR own β w σ a.tmps) {x:Operand} {v:V} {i:List Nat} (hg:glance1 σ x=some (v,i)):VR (fun b=>allIm (own b)) β w (fun _=>.other) v (a.eval x)∧noEx v=true:=by
 have him:∀ b,own b=.im→allIm (own b)=.im∧w.heap[b]?=w.heap[b]?:=fun b hb=>⟨by rw[hb];rfl,rfl⟩
 unfold glance1 at hg;cases hx:opd σ.env x<;>simp only[hx] at hg<;>try (cases hg;done)
 case ptr id off =>
  obtain⟨q1,q2⟩:=opd_ptr h hx;cases hn:ncells σ.heap id<;>simp only[hn] at hg
  ·cases hg
  rename_i cs;injection hg with hg;injection hg with e1 e2;subst e1;subst e2;obtain⟨hb,hsp⟩:=ncells_some hn;obtain⟨b1,b2,arr,T0,b3,b4,b5⟩:=(h.heap.blk id cs hb).cells hsp;refine⟨⟨β id,0,by rw[q1];simp,allIm_im (by rw[b1];simp),fun j u hu=>?_⟩,rfl⟩
  rw[List.getElem?_map,Option.map_eq_some_iff] at hu;obtain⟨d,hd,rfl⟩:=hu;have hlt:j<arr.size:=Nat.lt_of_lt_of_le (List.getElem?_eq_some_iff.1 hd).1 b4;have hcr:=b5 j d _ hd (Array.getElem?_eq_getElem hlt);refine⟨arr[j],by rw[Nat.zero_add,cell_of_row w _ _ arr T0 _ b3,Array.getElem?_eq_getElem hlt],?_⟩
  have hone:=hcr.one;cases d with
  | ex sz n xs =>
   simp only[blurC];rcases hcr with ⟨e1,e2,e3⟩ | ⟨e1,e2,aa,e3⟩ | ⟨e1,b,cap,T',arr',e3,e4,e5,e6,e7,e8⟩
   ·rw[e1,e2,e3];exact .nil
   ·rw[e1,e2,e3];exact .none aa 0
   ·exact EXR.freeze (sz:=sz) (.inr (.inr ⟨e1,b,cap,T',arr',e3,allIm_im (by rw[e4];simp),e5,e6,e7,fun i y hy=>⟨(e8 i y hy).1,fun j z c hz hc=>((e8 i y hy).2 j z c hz hc).mono him⟩⟩))
  | _ =>
   first
    | exact FR.mono hcr him
    | exact .undef _ hone
 case agg cs =>
  split at hg
  ·rename_i hc
   injection hg with hg;injection hg with e1 e2;subst e1;subst e2;obtain⟨arr,h1,h2,h3⟩:=opd_agg h hx hc;exact⟨⟨arr,h1,h2,fun j v c hv hc'=>CR_of_FR ((h3 j v c hv hc').mono him)⟩,noEx_dat hc⟩
  ·cases hg
 all_goals
  injection hg with hg;injection hg with e1 e2;subst e1;subst e2;have:=opd_TR h x (by rw[hx];rfl)
  rw[hx] at this;exact⟨FR.mono this him,rfl⟩
theorem glances_ok (h:SR own β w σ a.tmps):∀ (l:List Operand) {vs:List V} {ks:List Nat},glances σ l=some (vs,ks)→AR (fun b=>allIm (own b)) β w vs (l.map a.eval)
 | [],vs,ks,hg=>by simp only[glances,Option.some.injEq,Prod.mk.injEq] at hg;rw[←hg.1];exact⟨rfl,by simp⟩
 | x::l,vs,ks,hg=>by
  simp only[glances] at hg;cases h1:glance1 σ x with
  | none=>simp[h1] at hg
  | some vi =>
   obtain⟨v,i⟩:=vi;cases h2:glances σ l with
   | none=>simp[h1,h2] at hg
   | some vis =>
    obtain⟨vs',is⟩:=vis;simp only[h1,h2] at hg;injection hg with hg;injection hg with e1 e2;subst e1;have ih:=glances_ok h l h2;refine⟨by simp[ih.1],fun j u c hj hc=>?_⟩
    cases j with
    | zero=>simp at hj hc;subst hj;subst hc;exact glance1_ok h h1
    | succ j=>exact ih.2 j u c (by simpa using hj) (by simpa using hc)
theorem CR.dim {own':Own} {β':Nat→Nat} {l:Loc} {v:V} {c:Value} (h:CR own β w l v c) (hl:∀ b,own b=l→own' b=l):CR own' β' w l (dimC v) c:=by
 unfold dimC;split
 ·rename_i ha;exact h.apart ha hl
 ·exact .undef _ h.one
theorem CR.dimD {own':Own} {β':Nat→Nat} {l:Loc} {v:V} {c:Value} (h:CR own β w l v c) (hl:∀ b,own b=l→own' b=l):CR own' β' w l (Vm.dimD v) c:=by
 cases v with
 | sl n xs=>exact .undef _ h.one
 | _=>exact CR.dim h hl
theorem VR.dim {own':Own} {β':Nat→Nat} {L:Nat→Loc} {v:V} {c:Value} (h:VR own β w L v c) (hl:∀ j b,own b=L j→own' b=L j):VR own' β' w L (dim1 v) c:=by
 cases v with
 | agg cs =>
  obtain⟨arr,h1,h2,h3⟩:=h;refine⟨arr,h1,by simpa using h2,fun j v c hv hc=>?_⟩
  rw[List.getElem?_map,Option.map_eq_some_iff] at hv;obtain⟨u,hu,rfl⟩:=hv;exact (h3 j u c hu hc).dimD (hl j)
 | undef=>trivial
 | rptr cs off=>trivial
 | lent p=>exact absurd h.notWay.1 (by simp[isWay])
 | xptr p i off=>exact absurd h.notWay.1 (by simp[isWay])
 | tup vs=>exact absurd rfl (h.notWay.2 _)
 | _ =>
  rw[VR_one rfl] at h;simp only[dim1,dimC];split
  ·rw[VR_one rfl]
   rename_i ha;exact h.apart ha (hl 0)
  ·trivial
theorem TR.dim {own':Own} {β':Nat→Nat} {L:Nat→Nat→Loc} {v:V} {c:Value} (h:TR own β w L v c) (hl:∀ i j b,own b=L i j→own' b=L i j):TR own' β' w L (Vm.dim v) c:=by
 have one:∀ {L:Nat→Loc} {v:V},isWay (dim1 v)=false∧oneT (dim1 v)=true∨∃ vs,v=.tup vs:=fun {L v}=>by
  cases v<;>first
   | exact .inr ⟨_,rfl⟩
   | (refine .inl ?_;simp only[dim1,dimC];first | exact⟨rfl,rfl⟩ | (split<;>exact⟨rfl,rfl⟩))
 cases v with
 | tup vs =>
  obtain⟨arr,h1,h2,h3⟩:=h;refine⟨arr,h1,by simpa using h2,fun j v c hv hc=>?_⟩
  rw[List.getElem?_map,Option.map_eq_some_iff] at hv;obtain⟨u,hu,rfl⟩:=hv;exact (h3 j u c hu hc).dim (hl j)
 | lent p=>exact absurd (TR.notWay h) (by simp[isWay])
 | xptr p i off=>exact absurd (TR.notWay h) (by simp[isWay])
 | undef=>trivial
 | _ =>
  rw[TR_one rfl] at h;have:=VR.dim (own':=own') (β':=β') h (hl 0)
  rcases one (L:=L 0) with ⟨_,q⟩ | ⟨vs,q⟩
  ·simp only[Vm.dim];rw[TR_one q];exact this
  ·cases q
theorem ok_glance {T:Types} {call:CallF} {cx:Cx} (hS:Sound P call) (h:Hyp P T o own β w σ a) {c:Call} (ho:o.op=.call c) {f:Operand} (hb:c.callee=.value f) {g:FuncId}
  (hl:glanceOf cx (opd σ.env f)=some g) {e:Eff} (he:glanceAt call σ g c.args.toList=some e):OpOk P o own β w σ a (apply σ o.dst e):=by
 have hsr:=h.sr;obtain⟨hfv,hcond⟩:opd σ.env f=.clo (.func g) [] []∧g<yB:=by
  unfold glanceOf at hl;split at hl
  ·cases hl
  ·split at hl
   ·rename_i hfv
    split at hl
    ·rename_i hc
     simp only[Bool.and_eq_true,Nat.blt_eq] at hc;injection hl with hl;subst hl;exact⟨hfv,hc.2⟩
    ·cases hl
   ·cases hl
 have hfe:=opd_TR hsr f (by rw[hfv];rfl)
 rw[hfv] at hfe;obtain⟨ca,cb,hce,hc1,hc2,_,_⟩:=hfe;have hca:ca=#[]:=Array.eq_empty_of_size_eq_zero (by simpa using hc1)
 have hcb:cb=#[]:=Array.eq_empty_of_size_eq_zero (by simpa using hc2)
 subst hca;subst hcb;unfold glanceAt at he;split at he
 case h_2=>cases he
 rename_i vs ks hgl;split at he
 case h_2=>cases he
 rename_i r hcall;injection he with he;subst he;have hAR:=glances_ok hsr _ hgl;have hHR:HR (fun b=>allIm (own b)) β w []:=by
  refine⟨fun id cs hi=>by simp[bcells] at hi,fun b id hb'=>?_,fun b hb'=>hsr.heap.lt b fun hn=>hb' (by simp only[hn,allIm])⟩
  cases ho':own b<;>rw[ho'] at hb'<;>cases hb'
 obtain⟨⟨fn,q1,q2,q3⟩,hC⟩:=hS.1 _ _ _ _ _ hcond hcall;obtain⟨bd,q3'⟩:=Option.isSome_iff_exists.1 q3;have hrun:(execOp a.eval o).run P w=.ok (.enter g (c.args.toList.map a.eval).toArray) w:=by
  have hargs':c.args.map a.eval=(c.args.toList.map a.eval).toArray:=by apply Array.ext';simp
  simp[execOp,ho,resolve,hb,hce,Deferred.ofValue,invoke,callFunc,q1,q2,q3',hargs']
 refine OpOk.call (σ1:=σ) hrun ((hC _ β w _ hHR hAR (fun b i j k hq=>by cases ho':own b<;>simp only[ho',allIm] at hq<;>cases hq)).mono ?_) h.dst
 rintro e w' ⟨c',o',β',rfl,t1,t2,t3,t4,t5⟩
 have hst:Stay (fun b=>onlyIm ((fun b=>allIm (own b)) b)) w o' w':=by
  have:(fun b=>onlyIm ((fun b=>allIm (own b)) b))=fun b=>allIm (own b):=funext fun b=>by cases ho':own b<;>simp only[ho',allIm,onlyIm]
  rw[this];exact t3
 obtain⟨o2,β2,g1,g2,g3,g4,g5⟩:=after_data hsr t2 hst (fun _ _ _=>.inr rfl)
 simp only[List.map_nil,List.append_nil] at g1;refine⟨c',o2,β2,rfl,g1,t1.dim (fun i j b hq=>?_)⟩
 have hge:w.heap.size≤b:=by
  rcases Nat.lt_or_ge b w.heap.size with hlt | hge
  ·rcases g5 b hlt with e | e<;>rw[hq] at e<;>cases e
  ·exact hge
 rw[g3 b hge,hq];rfl
end
end Go.Vm
end
section
namespace Go.Vm
open Go
def mapP (g:Nat→Nat):V→V
 | .ptr id off=>.ptr (g id) off
 | .ref m id=>.ref m (g id)
 | v=>v
def mapC (g:Nat→Nat):V→V
 | .ptr id off=>.ptr (g id) off
 | .ref m id=>.ref m (g id)
 | .clo f a b=>.clo f (a.map (mapP g)) (b.map (mapP g))
 | v=>v
def map1 (g:Nat→Nat):V→V
 | .agg cs=>.agg (cs.map (mapC g))
 | v=>mapC g v
def mapT (g:Nat→Nat):V→V
 | .tup vs=>.tup (vs.map (map1 g))
 | v=>map1 g v
def mapX (g:Nat→Nat):V→V
 | .mp ks vs=>.mp ks (vs.map (map1 g))
 | .lp ts vs ps asg body cx st=>.lp ts (vs.map (map1 g)) ps asg body cx st
 | v=>mapC g v
def mapB (g:Nat→Nat):B→B
 | .dead=>.dead
 | .cells cs=>.cells (cs.map (mapX g))
def liveB (H:Heap):List Nat:=(List.range H.length).filter fun i=>!isDead (H.getD i .dead)
def downG (ks:List Nat) (id:Nat):Nat:=(ks.filter fun k=>Nat.blt k id).length
def upG (ks:List Nat) (n:Nat) (i:Nat):Nat:=match Nat.blt i ks.length with
 | true=>ks.getD i 0
 | false=>i-ks.length+n
def packH (ks:List Nat) (H:Heap):Heap:=ks.map fun i=>mapB (downG ks) (H.getD i .dead)
def openH (ks:List Nat) (n:Nat) (H1:Heap):Heap :=
 (List.range n).map (fun i=>match ks.contains i with | true=>mapB (upG ks n) (H1.getD (downG ks i) .dead) | false=>.dead)++(H1.drop ks.length).map (mapB (upG ks n))
def sqF (ks:List Nat) (f:FuncId):Option FuncId:=match Nat.blt f yB with
 | true=>some f
 | false=>match ks.contains (f-yB) with | true=>some (yB+downG ks (f-yB)) | false=>none
def sq (call:CallF):CallF:=fun f vs H=>match Nat.beq (liveB H).length H.length with
 | true=>call f vs H
 | false=>match sqF (liveB H) f with
  | some f'=>match call f' (vs.map (map1 (downG (liveB H)))) (packH (liveB H) H) with
   | some (r,H1)=>some (mapT (upG (liveB H) H.length) r,openH (liveB H) H.length H1)
   | none=>none
  | none=>none
section
variable {P:Program} {own own':Own} {β β':Nat→Nat} {w:World} {g:Nat→Nat}
theorem PR.ren (him:∀ b,own b=.im→own' b=.im) (hblk:∀ id,own (β id)=.blk id→own' (β' (g id))=.blk (g id)∧β' (g id)=β id) {v:V} {c:Value} (h:PR own β w v c) :
  PR own' β' w (mapP g v) c:=by
 cases v<;>simp only[PR,mapP] at h ⊢<;>first
  | exact h.mono fun b hb=>⟨him b hb,rfl⟩
  | exact⟨by rw[(hblk _ h.2).2];exact h.1,(hblk _ h.2).1⟩
theorem CR.ren (him:∀ b,own b=.im→own' b=.im) (hblk:∀ id,own (β id)=.blk id→own' (β' (g id))=.blk (g id)∧β' (g id)=β id) {l l':Loc} (hl:∀ b,own b=l→own' b=l')
  {v:V} {c:Value} (h:CR own β w l v c):CR own' β' w l' (mapC g v) c:=by
 cases v<;>simp only[CR,mapC] at h ⊢<;>first
  | exact h.mono fun b hb=>⟨him b hb,rfl⟩
  | exact⟨by rw[(hblk _ h.2).2];exact h.1,(hblk _ h.2).1⟩
  | (rcases h with h | h | ⟨hn,b,cap,T,arr,h1,h2,h3,h4,h5,h6⟩
     ·exact .inl h
     ·exact .inr (.inl h)
     ·exact .inr (.inr ⟨hn,b,cap,T,arr,h1,hl b h2,h3,h4,h5,fun i x hx=>⟨(h6 i x hx).1,fun j y c hy hc=>((h6 i x hx).2 j y c hy hc).mono fun b hb=>⟨him b hb,rfl⟩⟩⟩))
  | (obtain⟨ca,cb,h1,h2,h3,h4,h5⟩:=h
     refine⟨ca,cb,h1,by simpa using h2,by simpa using h3,fun j v c hv hc=>?_,fun j v c hv hc=>?_⟩
     ·rw[List.getElem?_map,Option.map_eq_some_iff] at hv
      obtain⟨u,hu,rfl⟩:=hv;exact (h4 j u c hu hc).ren him hblk
     ·rw[List.getElem?_map,Option.map_eq_some_iff] at hv
      obtain⟨u,hu,rfl⟩:=hv;exact (h5 j u c hu hc).ren him hblk)
theorem VR.ren (him:∀ b,own b=.im→own' b=.im) (hblk:∀ id,own (β id)=.blk id→own' (β' (g id))=.blk (g id)∧β' (g id)=β id) {L:Nat→Loc} (hl:∀ j b,own b=L j→own' b=L j)
  {v:V} {c:Value} (h:VR own β w L v c):VR own' β' w L (map1 g v) c:=by
 cases v with
 | agg cs =>
  obtain⟨arr,h1,h2,h3⟩:=h;refine⟨arr,h1,by simpa using h2,fun j v c hv hc=>?_⟩
  rw[List.getElem?_map,Option.map_eq_some_iff] at hv;obtain⟨u,hu,rfl⟩:=hv;exact (h3 j u c hu hc).ren him hblk (hl j)
 | rptr cs off =>
  obtain⟨b,o,h1,h2,h3⟩:=h;refine⟨b,o,h1,him b h2,fun j v hv=>?_⟩
  obtain⟨c',h4,h5⟩:=h3 j v hv;exact⟨c',h4,h5.mono fun b hb=>⟨him b hb,rfl⟩⟩
 | undef=>trivial
 | lent p=>exact absurd h.notWay.1 (by simp[isWay])
 | xptr p i off=>exact absurd h.notWay.1 (by simp[isWay])
 | tup vs=>exact absurd rfl (h.notWay.2 _)
 | _ =>
  rw[VR_one rfl] at h ⊢;exact CR.ren (g:=g) him hblk (hl 0) h
theorem TR.ren (him:∀ b,own b=.im→own' b=.im) (hblk:∀ id,own (β id)=.blk id→own' (β' (g id))=.blk (g id)∧β' (g id)=β id) {L:Nat→Nat→Loc} (hl:∀ i j b,own b=L i j→own' b=L i j)
  {v:V} {c:Value} (h:TR own β w L v c):TR own' β' w L (mapT g v) c:=by
 cases v with
 | tup vs =>
  obtain⟨arr,h1,h2,h3⟩:=h;refine⟨arr,h1,by simpa using h2,fun j v c hv hc=>?_⟩
  rw[List.getElem?_map,Option.map_eq_some_iff] at hv;obtain⟨u,hu,rfl⟩:=hv;exact (h3 j u c hu hc).ren him hblk (hl j)
 | lent p=>exact absurd (TR.notWay h) (by simp[isWay])
 | xptr p i off=>exact absurd (TR.notWay h) (by simp[isWay])
 | undef=>trivial
 | _ =>
  rw[TR_one rfl] at h ⊢;exact VR.ren (g:=g) him hblk (hl 0) h
theorem okBelow_ren (hm:∀ i j,i≤j→g i≤g j) {id:Nat} {v:V} (hv:isWay v=false) (h:okBelow (id+1) v=true):okBelow (g id+1) (mapC g v)=true:=by
 cases v with
 | ptr i off =>
  simp[okBelow,mapC] at h ⊢;have:=hm i id (by omega);omega
 | ref m i =>
  simp[okBelow,mapC] at h ⊢;have:=hm i id (by omega);omega
 | clo f x y =>
  simp only[okBelow,mapC,List.all_eq_true,List.mem_append,←List.map_append] at h ⊢
  rintro v hv
  obtain⟨u,hu,rfl⟩:=List.mem_map.1 hv;have:=h u (List.mem_append.1 hu)
  cases u with
  | ptr i off =>
   simp[mapP] at this ⊢;have:=hm i id (by omega);omega
  | ref m i =>
   simp[mapP] at this ⊢;have:=hm i id (by omega);omega
  | _=>simp[mapP]
 | lent p=>simp[isWay] at hv
 | xptr p i off=>simp[isWay] at hv
 | _=>rfl
theorem noEx_ren {v:V} (h:noEx v=true):noEx (map1 g v)=true:=by
 cases v with
 | agg cs =>
  simp only[noEx,map1,List.all_eq_true,List.mem_map] at h ⊢
  rintro x ⟨y,hy,rfl⟩
  have:=h y hy
  cases y<;>first | rfl | (simp[notEx] at this)
 | _=>first
  | rfl
  | (simp[noEx] at h;done)
theorem map1_cells (v:V):(map1 g v).cells=v.cells.map (mapC g):=by
 cases v<;>rfl
theorem VR.cellWay {L:Nat→Loc} {v:V} {c:Value} (h:VR own β w L v c):∀ x∈v.cells,isWay x=false:=by
 intro x hx;cases v with
 | agg cs =>
  obtain⟨arr,h1,h2,h3⟩:=h;simp only[V.cells] at hx;obtain⟨j,hj⟩:=List.getElem?_of_mem hx;have hlt:=(List.getElem?_eq_some_iff.1 hj).1;have hl2:j<arr.size:=by omega
  exact (h3 j x arr[j] hj (Array.getElem?_eq_getElem hl2)).notWay.1
 | undef=>simp[V.cells] at hx;try (subst hx;rfl)
 | rptr cs off=>simp[V.cells] at hx;try (subst hx;rfl)
 | lent p=>exact absurd h.notWay.1 (by simp[isWay])
 | xptr p i off=>exact absurd h.notWay.1 (by simp[isWay])
 | tup vs=>exact absurd rfl (h.notWay.2 _)
 | _ =>
  simp only[V.cells,List.mem_singleton] at hx;subst hx;rfl
theorem XR.ren (hm:∀ i j,i≤j→g i≤g j) (him:∀ b,own b=.im→own' b=.im) (hblk:∀ id,own (β id)=.blk id→own' (β' (g id))=.blk (g id)∧β' (g id)=β id) {id:Nat} {v:V} {c:Value} (h:XR own β w id v c) :
  XR own' β' w (g id) (map1 g v) c:=by
 refine⟨h.1.ren him hblk (fun _ b hb=>him b hb),noEx_ren h.2.1,?_⟩
 rw[map1_cells,List.all_eq_true];intro x hx;obtain⟨y,hy,rfl⟩:=List.mem_map.1 hx;exact okBelow_ren hm (h.1.cellWay y hy) (List.all_eq_true.1 h.2.2 y hy)
theorem mapX_of {v:V} (h:isSpec v=false):mapX g v=mapC g v:=by cases v<;>first | rfl | (simp[isSpec] at h)
theorem BR.ren (hm:∀ i j,i≤j→g i≤g j) (him:∀ b,own b=.im→own' b=.im) (hblk:∀ id,own (β id)=.blk id→own' (β' (g id))=.blk (g id)∧β' (g id)=β id)
  {id:Nat} (hl:∀ j b,own b=.cell id j→own' b=.cell (g id) j) {cs:List V} (h:BR own β w id cs):BR own' β' w (g id) (cs.map (mapX g)):=by
 rcases h with ⟨h1,h2,arr,T,h3,h4,h5⟩ | ⟨h1,v,o,rfl,h3,h4⟩
 ·refine .inl ⟨(hblk id h1).1,fun v hv=>?_,arr,T,by rw[(hblk id h1).2];exact h3,by simpa using h4,fun j v c hv hc=>?_⟩
  ·obtain⟨u,hu,rfl⟩:=List.mem_map.1 hv
   obtain⟨j,hj⟩:=List.getElem?_of_mem hu;have hlt:=(List.getElem?_eq_some_iff.1 hj).1;have hc:=h5 j u arr[j] hj (Array.getElem?_eq_getElem (by omega))
   rw[mapX_of hc.notSpec];exact okBelow_ren hm hc.notWay.1 (h2 u hu)
  ·rw[List.getElem?_map,Option.map_eq_some_iff] at hv
   obtain⟨u,hu,rfl⟩:=hv;rw[mapX_of (h5 j u c hu hc).notSpec];exact (h5 j u c hu hc).ren him hblk (hl j)
 ·refine .inr ⟨(hblk id h1).1,mapX g v,o,rfl,by rw[(hblk id h1).2];exact h3,?_⟩
  have:=h4.imp (own':=own') (β':=β') (w':=w) (id':=g id) (map1 g) (fun u c _ hx=>hx.ren hm him hblk) rfl (fun u c hx hf=>hx.flat hf)
  cases v<;>first
   | exact this
   | (simp only[OR] at h4)
end
theorem liveB_sorted (H:Heap):(liveB H).Pairwise (· < ·):=List.Pairwise.filter _ List.pairwise_lt_range
theorem mem_liveB {H:Heap} {id:Nat}:id∈liveB H↔∃ cs,bcells H id=some cs:=by
 unfold liveB bcells;simp only[List.mem_filter,List.mem_range,Bool.not_eq_true',List.getD_eq_getElem?_getD];constructor
 ·rintro ⟨h1,h2⟩
  rw[List.getElem?_eq_getElem h1] at h2 ⊢;cases hb:H[id] with
  | dead=>simp[hb,isDead] at h2
  | cells cs=>exact⟨cs,rfl⟩
 ·rintro ⟨cs,h⟩
  cases hb:H[id]? with
  | none=>simp[hb] at h
  | some b =>
   refine⟨(List.getElem?_eq_some_iff.1 hb).1,?_⟩;cases b with
   | dead=>simp[hb] at h
   | cells cs=>simp[isDead]
theorem downG_mono (ks:List Nat) (i j:Nat) (h:i≤j):downG ks i≤downG ks j:=by
 unfold downG
 induction ks with
 | nil=>simp
 | cons k ks ih =>
  simp only[List.filter_cons];by_cases h1:Nat.blt k i=true
  ·have h2:Nat.blt k j=true:=by rw[Nat.blt_eq] at h1 ⊢;omega
   rw[if_pos h1,if_pos h2];simp only[List.length_cons];omega
  ·rw[if_neg h1]
   split
   ·simp only[List.length_cons];omega
   ·exact ih
theorem downG_at:∀ {ks:List Nat},ks.Pairwise (· < ·)→∀ (i:Nat) (h:i<ks.length),downG ks ks[i]=i
 | [],_,i,h=>by simp at h
 | k::ks,hs,0,h=>by
  rw[List.pairwise_cons] at hs;unfold downG;rw[List.length_eq_zero_iff,List.filter_eq_nil_iff];intro x hx;rw[List.getElem_cons_zero,Nat.blt_eq];rcases List.mem_cons.1 hx with rfl | hx
  ·omega
  ·have:=hs.1 x hx;omega
 | k::ks,hs,i+1,h=>by
  rw[List.pairwise_cons] at hs;have ih:=downG_at hs.2 i (by simpa using h)
  unfold downG at ih ⊢;rw[List.getElem_cons_succ,List.filter_cons,if_pos (by rw[Nat.blt_eq];exact hs.1 _ (List.getElem_mem _)),List.length_cons,ih]
theorem downG_mem {ks:List Nat} (hs:ks.Pairwise (· < ·)) {id:Nat} (h:id∈ks):∃ hl:downG ks id<ks.length,ks[downG ks id]=id:=by
 obtain⟨i,hi,rfl⟩:=List.mem_iff_getElem.1 h;rw[downG_at hs i hi];exact⟨hi,rfl⟩
theorem upG_lt {ks:List Nat} {n i:Nat} (h:i<ks.length):upG ks n i=ks[i]:=by
 unfold upG;rw[show Nat.blt i ks.length=true by rw[Nat.blt_eq];exact h]
 simp[h]
theorem upG_ge {ks:List Nat} {n i:Nat} (h:ks.length≤i):upG ks n i=i-ks.length+n:=by
 unfold upG;have:Nat.blt i ks.length=false:=by
  cases hb:Nat.blt i ks.length
  ·rfl
  ·rw[Nat.blt_eq] at hb;omega
 rw[this]
theorem upG_strict {ks:List Nat} (hs:ks.Pairwise (· < ·)) {n:Nat} (hn:∀ k∈ks,k<n) (i j:Nat) (h:i<j):upG ks n i<upG ks n j:=by
 rcases Nat.lt_or_ge j ks.length with hj | hj
 ·rw[upG_lt hj,upG_lt (by omega)]
  exact List.pairwise_iff_getElem.1 hs i j (by omega) hj h
 ·rw[upG_ge hj]
  rcases Nat.lt_or_ge i ks.length with hi | hi
  ·rw[upG_lt hi]
   have:=hn _ (List.getElem_mem hi);omega
  ·rw[upG_ge hi];omega
theorem upG_mono {ks:List Nat} (hs:ks.Pairwise (· < ·)) {n:Nat} (hn:∀ k∈ks,k<n) (i j:Nat) (h:i≤j):upG ks n i≤upG ks n j:=by
 rcases Nat.lt_or_eq_of_le h with h | rfl
 ·exact Nat.le_of_lt (upG_strict hs hn i j h)
 ·exact Nat.le_refl _
theorem upG_inj {ks:List Nat} (hs:ks.Pairwise (· < ·)) {n:Nat} (hn:∀ k∈ks,k<n) {i j:Nat} (h:upG ks n i=upG ks n j):i=j:=by
 rcases Nat.lt_trichotomy i j with h1 | h1 | h1
 ·have:=upG_strict hs hn i j h1;omega
 ·exact h1
 ·have:=upG_strict hs hn j i h1;omega
theorem packH_at {H:Heap} {i:Nat}:∀ {cs':List V},bcells (packH (liveB H) H) i=some cs'↔∃ (hi:i<(liveB H).length) (cs:List V),bcells H (liveB H)[i]=some cs∧cs'=cs.map (mapX (downG (liveB H))):=by
 intro cs';unfold packH;generalize liveB H=ks;generalize downG ks=g;unfold bcells;rw[List.getElem?_map];rcases Nat.lt_or_ge i ks.length with hi | hi
 ·rw[List.getElem?_eq_getElem hi]
  simp only[Option.map_some,List.getD_eq_getElem?_getD];cases hb:H[ks[i]]? with
  | none =>
   simp only[Option.getD_none,mapB];refine⟨fun h=>(by cases h),?_⟩
   rintro ⟨_,cs,h1,_⟩
   rw[hb] at h1;cases h1
  | some b =>
   cases b with
   | dead =>
    simp only[Option.getD_some,mapB];refine⟨fun h=>(by cases h),?_⟩
    rintro ⟨_,cs,h1,_⟩
    rw[hb] at h1;cases h1
   | cells cs =>
    simp only[Option.getD_some,mapB,Option.some.injEq];constructor
    ·intro h
     exact⟨hi,cs,by rw[hb],h.symm⟩
    ·rintro ⟨_,cs2,h1,h2⟩
     rw[hb] at h1;injection h1 with h1;rw[h2,h1]
 ·rw[List.getElem?_eq_none hi]
  simp only[Option.map_none];constructor
  ·intro h;cases h
  ·rintro ⟨hi',_⟩;omega
theorem packH_down {H:Heap} {id:Nat} {cs:List V} (h:bcells H id=some cs):bcells (packH (liveB H) H) (downG (liveB H) id)=some (cs.map (mapX (downG (liveB H)))):=by
 obtain⟨hl,he⟩:=downG_mem (liveB_sorted H) (mem_liveB.2 ⟨cs,h⟩);exact packH_at.2 ⟨hl,cs,by rw[he];exact h,rfl⟩
def ofB:B→Option (List V)
 | .cells cs=>some cs
 | .dead=>none
theorem bcells_bind (H:Heap) (id:Nat):bcells H id=H[id]?.bind ofB:=by
 unfold bcells;cases H[id]? with
 | none=>rfl
 | some b=>cases b<;>rfl
theorem openH_at {ks:List Nat} (hs:ks.Pairwise (· < ·)) {n:Nat} (hn:∀ k∈ks,k<n) {H1:Heap} {id:Nat} {cs':List V} :
  bcells (openH ks n H1) id=some cs'↔∃ i cs,id=upG ks n i∧bcells H1 i=some cs∧cs'=cs.map (mapX (upG ks n)):=by
 have hmb:∀ (b:B),ofB (mapB (upG ks n) b)=some cs'↔∃ cs,b=.cells cs∧cs'=cs.map (mapX (upG ks n)):=by
  intro b;cases b with
  | dead=>simp[mapB,ofB]
  | cells cs=>simp[mapB,ofB,eq_comm]
 have hbc:∀ i cs,bcells H1 i=some cs↔H1[i]?=some (.cells cs):=by
  intro i cs;unfold bcells;cases H1[i]? with
  | none=>simp
  | some b=>cases b<;>simp
 unfold openH;rcases Nat.lt_or_ge id n with hid | hid
 ·have e:bcells ((List.range n).map (fun i=>match ks.contains i with | true=>mapB (upG ks n) (H1.getD (downG ks i) .dead) | false=>.dead)++(H1.drop ks.length).map (mapB (upG ks n))) id =
    ofB (match ks.contains id with | true=>mapB (upG ks n) (H1.getD (downG ks id) .dead) | false=>B.dead):=by
   rw[bcells_bind];rw[List.getElem?_append_left (by simpa using hid),List.getElem?_map,List.getElem?_range hid]
   rfl
  rw[e];cases hc:ks.contains id with
  | true =>
   simp only;rw[hmb];have hmem:id∈ks:=by simpa using hc
   obtain⟨hl,he⟩:=downG_mem hs hmem;constructor
   ·rintro ⟨cs,h1,h2⟩
    refine⟨downG ks id,cs,by rw[upG_lt hl,he],(hbc _ _).2 ?_,h2⟩
    rw[List.getD_eq_getElem?_getD] at h1;cases hq:H1[downG ks id]? with
    | none=>simp[hq] at h1
    | some b=>simp[hq] at h1;rw[h1]
   ·rintro ⟨i,cs,h1,h2,h3⟩
    have:i=downG ks id:=upG_inj hs hn (by rw[←h1,upG_lt hl,he])
    subst this;refine⟨cs,?_,h3⟩;rw[List.getD_eq_getElem?_getD,(hbc _ _).1 h2];rfl
  | false =>
   simp only;constructor
   ·intro h;cases h
   ·rintro ⟨i,cs,h1,h2,h3⟩
    have hne:id∉ks:=by simpa using hc
    rcases Nat.lt_or_ge i ks.length with hi | hi
    ·rw[upG_lt hi] at h1
     exact absurd (h1▸List.getElem_mem hi) hne
    ·rw[upG_ge hi] at h1;omega
 ·have e:bcells ((List.range n).map (fun i=>match ks.contains i with | true=>mapB (upG ks n) (H1.getD (downG ks i) .dead) | false=>.dead)++(H1.drop ks.length).map (mapB (upG ks n))) id =
    H1[ks.length+(id-n)]?.bind (fun b=>ofB (mapB (upG ks n) b)):=by
   rw[bcells_bind];rw[List.getElem?_append_right (by simpa using hid),List.getElem?_map,List.getElem?_drop,List.length_map,List.length_range]
   cases H1[ks.length+(id-n)]?<;>rfl
  rw[e];constructor
  ·intro h
   cases hq:H1[ks.length+(id-n)]? with
   | none=>rw[hq] at h;cases h
   | some b =>
    rw[hq] at h;simp only[Option.bind_some] at h;obtain⟨cs,rfl,h2⟩:=(hmb b).1 h;exact⟨ks.length+(id-n),cs,by rw[upG_ge (by omega)];omega,(hbc _ _).2 hq,h2⟩
  ·rintro ⟨i,cs,h1,h2,h3⟩
   have hi:ks.length≤i:=by
    rcases Nat.lt_or_ge i ks.length with hi | hi
    ·rw[upG_lt hi] at h1
     have:=hn _ (List.getElem_mem hi);omega
    ·exact hi
   rw[upG_ge hi] at h1;rw[show ks.length+(id-n)=i by omega,(hbc _ _).1 h2]
   simp only[Option.bind_some];exact (hmb _).2 ⟨cs,rfl,h3⟩
section
variable {P:Program} {own:Own} {β:Nat→Nat} {w:World}
def downO (ks:List Nat) (own:Own):Own:=fun b=>match own b with
 | .blk id=>.blk (downG ks id)
 | .cell id j=>if id∈ks then .cell (downG ks id) j else .other
 | l=>l
def upO (ks:List Nat) (n:Nat) (own:Own):Own:=fun b=>match own b with
 | .blk id=>.blk (upG ks n id)
 | .cell id j=>.cell (upG ks n id) j
 | l=>l
theorem pack_ok {H:Heap} {vs:List V} {cs:List Value} (hh:HR own β w H) (ha:AR own β w vs cs) (hn:∀ b i j k,own b≠.slot i j k) :
  ∃ own' β',HR own' β' w (packH (liveB H) H)∧AR own' β' w (vs.map (map1 (downG (liveB H)))) cs∧(∀ b i j k,own' b≠.slot i j k)∧(∀ id,id∈liveB H→β' (downG (liveB H) id)=β id) ∧
   ∀ (e:Ending) (w':World) (r:V) (H1:Heap),Ret own' β' w (packH (liveB H) H) r H1 e w'→Ret own β w H (mapT (upG (liveB H) H.length) r) (openH (liveB H) H.length H1) e w':=by
 obtain⟨ks,hks⟩:∃ ks,ks=liveB H:=⟨_,rfl⟩;have hs:=hks▸liveB_sorted H;have hmem:∀ id,id∈ks↔∃ cs,bcells H id=some cs:=fun id=>hks▸mem_liveB
 have hlt:∀ k∈ks,k<H.length:=fun k hk=>by obtain⟨cs,h⟩:=(hmem k).1 hk;exact bcells_lt h
 rw[←hks];have hlive:∀ b id,own b=.blk id→id∈ks∧β id=b:=fun b id hb=>by
  obtain⟨h1,h2⟩:=hh.inv b id hb;exact⟨(hmem id).2 h2,h1⟩
 have hβ:∀ id,id∈ks→(fun i=>if h:i<ks.length then β ks[i] else 0) (downG ks id)=β id:=fun id hid=>by
  obtain⟨hl,he⟩:=downG_mem hs hid;simp only[hl,dif_pos,he]
 generalize hβ':(fun i=>if h:i<ks.length then β ks[i] else 0)=β' at hβ
 have him:∀ b,own b=.im→downO ks own b=.im:=fun b hb=>by simp[downO,hb]
 have hblk:∀ id,own (β id)=.blk id→downO ks own (β' (downG ks id))=.blk (downG ks id)∧β' (downG ks id)=β id:=fun id hb=>by
  have:=hβ id (hlive _ _ hb).1
  rw[this];exact⟨by simp[downO,hb],rfl⟩
 have hns:∀ b i j k,downO ks own b≠.slot i j k:=fun b i j k hb=>by
  unfold downO at hb;cases ho:own b<;>simp only[ho] at hb<;>first | (cases hb;done) | (split at hb<;>cases hb;done) | exact hn b _ _ _ ho
 refine⟨downO ks own,β',⟨fun i cs' hi=>?_,fun b i hb=>?_,fun b hb=>hh.lt b fun ho=>hb (by simp[downO,ho])⟩,⟨by simpa using ha.1,fun j v c hv hc=>?_⟩,hns,hβ,?_⟩
 ·rw[hks] at hi
  obtain⟨hil,cs,h1,rfl⟩:=packH_at.1 hi;have hil':i<ks.length:=by rw[hks];exact hil
  have h1':bcells H ks[i]=some cs:=by simpa [hks] using h1
  rw[←hks];have:=(hh.blk _ _ h1').ren (g:=downG ks) (own':=downO ks own) (β':=β') (downG_mono ks) him hblk (fun j b hb=>by simp[downO,hb])
  rwa [downG_at hs i hil'] at this
 ·unfold downO at hb
  cases ho:own b with
  | blk id =>
   simp only[ho] at hb;injection hb with hb;obtain⟨h1,h2⟩:=hlive b id ho;obtain⟨hl,he⟩:=downG_mem hs h1;subst hb;refine⟨by rw[hβ id h1,h2],?_⟩
   obtain⟨cs,hcs⟩:=(hmem id).1 h1;exact⟨_,by have:=packH_down hcs;rw[←hks] at this;exact this⟩
  | cell id j=>simp only[ho] at hb;split at hb<;>cases hb
  | im=>simp[ho] at hb
  | other=>simp[ho] at hb
  | slot t i j=>simp[ho] at hb
  | res i j=>simp[ho] at hb
 ·rw[List.getElem?_map,Option.map_eq_some_iff] at hv
  obtain⟨u,hu,rfl⟩:=hv;obtain⟨h1,h2⟩:=ha.2 j u c hu hc;exact⟨h1.ren him hblk (fun _ b hb=>by simp[downO,hb]),noEx_ren h2⟩
 ·rintro e w' r H1 ⟨c,own1,β1,rfl,hr,hh1,hst,hbx,hs1⟩
  have hu:=fun i=>@upG_lt ks H.length i
  let β2:Nat→Nat:=fun id=>if id∈ks then β1 (downG ks id) else β1 (id-H.length+ks.length)
  have hβ2:∀ i,β2 (upG ks H.length i)=β1 i:=fun i=>by
   rcases Nat.lt_or_ge i ks.length with hi | hi
   ·rw[upG_lt hi]
    simp only[β2,List.getElem_mem,if_true,downG_at hs i hi]
   ·rw[upG_ge hi]
    have:i-ks.length+H.length∉ks:=fun h=>by have:=hlt _ h;omega
    simp only[β2,this,if_false]
    congr 1;omega
  have him2:∀ b,own1 b=.im→upO ks H.length own1 b=.im:=fun b hb=>by simp[upO,hb]
  have hblk2:∀ i,own1 (β1 i)=.blk i→upO ks H.length own1 (β2 (upG ks H.length i))=.blk (upG ks H.length i)∧β2 (upG ks H.length i)=β1 i:=fun i hb=>by
   rw[hβ2];exact⟨by simp[upO,hb],rfl⟩
  refine⟨c,upO ks H.length own1,β2,rfl,hr.ren him2 hblk2 (fun i j b hb=>by simp[upO,hb]),⟨fun id cs' hi=>?_,fun b id hb=>?_,fun b hb=>hh1.lt b fun ho=>hb (by simp[upO,ho])⟩,?_,⟨?_,fun id cs hi=>?_⟩,fun b i j k hb=>?_⟩
  ·obtain⟨i,cs,rfl,h1,rfl⟩:=(openH_at hs hlt).1 hi
   exact (hh1.blk _ _ h1).ren (upG_mono hs hlt) him2 hblk2 (fun j b hb=>by simp[upO,hb])
  ·unfold upO at hb
   cases ho:own1 b with
   | blk i =>
    simp only[ho] at hb;injection hb with hb;subst hb;obtain⟨h1,cs,h2⟩:=hh1.inv b i ho;exact⟨by rw[hβ2];exact h1,_,(openH_at hs hlt).2 ⟨i,cs,rfl,h2,rfl⟩⟩
   | cell id j=>simp[ho] at hb
   | im=>simp[ho] at hb
   | other=>simp[ho] at hb
   | slot t i j=>simp[ho] at hb
   | res i j=>simp[ho] at hb
  ·refine⟨fun b hb=>?_,fun b hl hb=>?_,hst.size,hst.os,hst.tape,hst.output,hst.drawn,hst.cells⟩
   ·obtain⟨h1,h2⟩:=hst.im b (him b hb)
    exact⟨him2 b h1,h2⟩
   ·obtain⟨h1,h2⟩:=hst.other b hl (by simp[downO,hb])
    exact⟨by simp[upO,h1],h2⟩
  ·simp[openH]
  ·have hid:=(hmem id).2 ⟨cs,hi⟩
   obtain⟨hl,he⟩:=downG_mem hs hid;obtain⟨h1,cs1,h2⟩:=hbx.2 (downG ks id) (cs.map (mapX (downG ks))) (by have:=packH_down hi;rw[←hks] at this;exact this)
   have hup:upG ks H.length (downG ks id)=id:=by rw[upG_lt hl,he]
   refine⟨?_,_,(openH_at hs hlt).2 ⟨downG ks id,cs1,hup.symm,h2,rfl⟩⟩;have:=hβ2 (downG ks id)
   rw[hup] at this;rw[this,h1,hβ id hid]
  ·unfold upO at hb
   cases ho:own1 b<;>simp only[ho] at hb<;>first | (cases hb;done) | exact hs1 b _ _ _ ho
theorem sq_sound {call:CallF} (hS:Sound P call):Sound P (sq call):=by
 refine⟨fun f vs H r H' hf h=>?_,fun id vs H r H' h own β w cs hh ha hn=>?_⟩
 ·unfold sq at h
  split at h
  ·exact hS.1 f vs H r H' hf h
  ·have e:sqF (liveB H) f=some f:=by
    unfold sqF;rw[show Nat.blt f yB=true by rw[Nat.blt_eq];exact hf]
   rw[e] at h;simp only at h;split at h
   ·rename_i r1 H1 hc
    injection h with h;injection h with e1 e2;subst e1;subst e2;obtain⟨h1,h2⟩:=hS.1 f _ _ _ _ hf hc;refine⟨h1,fun own β w cs hh ha hn=>?_⟩
    obtain⟨own',β',g1,g2,g3,_,g5⟩:=pack_ok hh ha hn;exact (h2 own' β' w cs g1 g2 g3).mono fun e w' hr=>g5 e w' _ _ hr
   ·cases h
 ·unfold sq at h
  split at h
  ·exact hS.2 id vs H r H' h own β w cs hh ha hn
  ·have e0:Nat.blt (yB+id) yB=false:=by
    cases hb:Nat.blt (yB+id) yB
    ·rfl
    ·rw[Nat.blt_eq] at hb;omega
   unfold sqF at h;rw[e0,Nat.add_sub_cancel_left] at h;simp only at h;cases hc:(liveB H).contains id with
   | false=>rw[hc] at h;cases h
   | true =>
    rw[hc] at h;simp only at h;split at h
    ·rename_i r1 H1 hcl
     injection h with h;injection h with e1 e2;subst e1;subst e2;obtain⟨own',β',g1,g2,g3,g4,g5⟩:=pack_ok hh ha hn;obtain⟨rec,h1,h2,h3⟩:=hS.2 _ _ _ _ _ hcl own' β' w cs g1 g2 g3;rw[g4 id (by simpa using hc)] at h1 h3
     exact⟨rec,h1,h2,h3.mono fun e w' hr=>g5 e w' _ _ hr⟩
    ·cases h
end
def vcall (T:Types) (F:Fns):Nat→CallF
 | 0=>fun _ _ _=>none
 | n+1=>vany T F (sq (vcall T F n)) (fun step=>rounds step n)
theorem sq_mono {c c':CallF} (hc:∀ f a H r,c f a H=some r→c' f a H=some r) {f:FuncId} {a:List V} {H:Heap} {r:V×Heap} (h:sq c f a H=some r):sq c' f a H=some r:=by
 unfold sq at h ⊢;cases hb:Nat.beq (liveB H).length H.length with
 | true=>rw[hb] at h;exact hc _ _ _ _ h
 | false =>
  rw[hb] at h;simp only at h ⊢;cases hf:sqF (liveB H) f with
  | none=>rw[hf] at h;cases h
  | some f' =>
   rw[hf] at h;simp only at h ⊢;cases hcl:c f' (a.map (map1 (downG (liveB H)))) (packH (liveB H) H) with
   | none=>rw[hcl] at h;cases h
   | some x=>rw[hcl] at h;rw[hc _ _ _ _ hcl];exact h
end Go.Vm
end
section
namespace Go.Vm
open Go
def DelOk (P:Program) (f:FuncId) (sz:Nat):Prop :=
 (∃ fn,P.funcs[f]?=some fn∧fn.name≠ "runtime.NumGoroutine"∧fn.body.isSome=true) ∧
 ∀ (w:World) (b n cap:Nat) (T:TypeId) (arr:Array Value) (i j:Nat),w.heap[b]?=some (.cells arr T (0,0))→n≤cap→arr.size=cap*sz →
  (∀ m c,m<n*sz→arr[m]?=some c→c.oneCell'=true)→i≤j→j≤n →
  Calls P f #[.slice (some ⟨b,0,none⟩) n cap,.int .i64 i,.int .i64 j] w fun e w'=>e=.returned (.slice (some ⟨b,0,none⟩) (n-(j-i)) cap) ∧
   ∃ arr',w'.heap[b]?=some (.cells arr' T (0,0))∧arr'.size=arr.size∧(∀ m,m<(n-(j-i))*sz→arr'[m]?=arr[if m<i*sz then m else m+(j-i)*sz]?) ∧
    (∀ k,k≠b→w'.heap[k]?=w.heap[k]?)∧w'.heap.size=w.heap.size∧w'.os=w.os∧w'.tape=w.tape∧w'.output=w.output∧w.drawn≤w'.drawn
def CxOk (P:Program) (cx:Cx):Prop:=∀ x∈cx.told,DelOk P x.1 x.2
theorem CxOk.lookup:∀ {l:List (Nat×Nat)} {f sz:Nat},l.lookup f=some sz→(f,sz)∈l
 | [],_,_,h=>by simp at h
 | (g,s)::l,f,sz,h=>by
  rw[List.lookup_cons] at h;split at h
  ·rename_i he
   injection h with h;subst h;rw[beq_iff_eq] at he;subst he;exact List.mem_cons_self
  ·exact List.mem_cons_of_mem _ (CxOk.lookup h)
section
variable {P:Program} {o:Oper} {own:Own} {β:Nat→Nat} {w:World} {σ:St} {a:Act}
theorem ok_delete {T:Types} {cx:Cx} (hC:CxOk P cx) (h:Hyp P T o own β w σ a) {c:Call} (ho:o.op=.call c) {f:Operand} (hb:c.callee=.value f) {sz:Nat}
  (hf:toldOf cx (opd σ.env f)=some sz) {e:Eff} (he:deleteAt sz σ c.args.toList=some e):OpOk P o own β w σ a (apply σ o.dst e):=by
 have hsr:=h.sr;unfold toldOf at hf;split at hf
 case h_2=>cases hf
 rename_i fid hfv;obtain⟨⟨fn,q1,q2,q3⟩,hD⟩:DelOk P fid sz:=hC _ (CxOk.lookup hf);have hfe:=opd_TR hsr f (by rw[hfv];rfl)
 rw[hfv] at hfe;obtain⟨ca,cb,hce,hc1,hc2,hc3,hc4⟩:=hfe;have hca:ca=#[]:=Array.eq_empty_of_size_eq_zero (by simpa using hc1)
 have hcb:cb=#[]:=Array.eq_empty_of_size_eq_zero (by simpa using hc2)
 subst hca;subst hcb;unfold deleteAt at he;split at he
 case h_2=>cases he
 rename_i x i j hargs;split at he
 case h_2=>cases he
 rename_i n xs ps i' j' hbase hi hj;split at he
 case isFalse=>cases he
 rename_i hcond;obtain⟨c1,c2,c3,c4⟩:=hcond;injection he with he;subst he;obtain⟨o1,h1,h2,ρ,hr,rfl⟩:=base_ok hsr hbase;have hargs':c.args=#[x,i,j]:=by rw[←Array.toList_inj];simpa using hargs
 rcases h2 with ⟨rfl,_⟩ | ⟨rfl,_⟩ | ⟨rfl,b,cap,T',arr,hx,hb2,hb3,hb4,hb5,hb6⟩
 ·simp at c4
 ·simp at c4
 obtain⟨bd,q3'⟩:=Option.isSome_iff_exists.1 q3;have ei:=opd_int hsr hi;have ej:=opd_int hsr hj;have ni:((i'.toNat:Nat):Int)=i':=Int.toNat_of_nonneg c1;have nj:((j'.toNat:Nat):Int)=j':=Int.toNat_of_nonneg (by omega)
 have hrun:(execOp a.eval o).run P w=.ok (.enter fid #[.slice (some ⟨b,0,none⟩) xs.length cap,.int .i64 (i'.toNat:Nat),.int .i64 (j'.toNat:Nat)]) w:=by
  rw[ni,nj];simp[execOp,ho,resolve,hb,hce,Deferred.ofValue,invoke,callFunc,q1,q2,q3',hargs',hx,ei,ej]
 have hone:∀ m c,m<xs.length*sz→arr[m]?=some c→c.oneCell'=true:=fun m c hm hc=>by
  have hsz:0<sz:=by
   rcases Nat.eq_zero_or_pos sz with h0 | h0
   ·subst h0;simp at hm
   ·exact h0
  have hi:m / sz<xs.length:=Nat.div_lt_of_lt_mul (by rw[Nat.mul_comm];exact hm)
  obtain⟨g1,g2⟩:=hb6 (m / sz) _ (List.getElem?_eq_getElem hi);have hj:m % sz<(xs[m / sz]).cells.length:=by rw[g1];exact Nat.mod_lt _ hsz
  exact (g2 (m % sz) _ c (List.getElem?_eq_getElem hj) (by rw[Nat.mul_comm,Nat.div_add_mod];exact hc)).one
 have hij:i'.toNat≤j'.toNat:=by omega
 have hjn:j'.toNat≤xs.length:=by omega
 refine OpOk.call hrun ((hD w b xs.length cap T' arr i'.toNat j'.toNat hb3 hb4 hb5 hone hij hjn).mono ?_) h.dst
 rintro e w' ⟨rfl,arr',g1,g2,g3,g4,g5,g6,g7,g8,g9⟩
 obtain⟨s1,s2⟩:=h1.sr.pokeRes hb2 g5 g4 g6 g7 g8 g9 (fun a0 T0 hc=>by rw[hb3] at hc;injection hc with hc;injection hc with q1 q2;subst q1;subst q2;exact⟨arr',g1,g2⟩)
 have hlen:(xs.take i'.toNat++xs.drop j'.toNat).length=xs.length-(j'.toNat-i'.toNat):=by simp;omega
 refine⟨_,_,_,rfl,h1.trans ⟨s1,s2,BX.refl _ _,rfl,rfl⟩,.inr (.inr ⟨rfl,b,cap,T',arr',by rw[hlen],hb2,g1,by rw[hlen];omega,by rw[g2];exact hb5,fun k y hk=>?_⟩)⟩
 have hk':k<xs.length-(j'.toNat-i'.toNat):=by rw[←hlen];exact (List.getElem?_eq_some_iff.1 hk).1
 have hsrc:xs[if k<i'.toNat then k else k+(j'.toNat-i'.toNat)]?=some y:=by
  rw[List.getElem?_append] at hk;have hl:(xs.take i'.toNat).length=i'.toNat:=by simp;omega
  rw[hl] at hk;split at hk
  ·rename_i hlt
   rw[if_pos hlt]
   rwa [List.getElem?_take,if_pos hlt] at hk
  ·rename_i hlt
   rw[if_neg hlt];rw[List.getElem?_drop] at hk;rw[←hk];congr 1;omega
 obtain⟨f1,f2⟩:=hb6 _ y hsrc;refine⟨f1,fun m v c hv hc=>?_⟩
 have hm:m<sz:=by rw[←f1];exact (List.getElem?_eq_some_iff.1 hv).1
 refine (f2 m v c hv ?_).mono fun b' hb'=>⟨hb',g4 b' fun he=>?_⟩
 ·rw[←hc,g3 (k*sz+m) (by
   have:(k+1)*sz≤(xs.length-(j'.toNat-i'.toNat))*sz:=Nat.mul_le_mul_right _ hk'
   rw[Nat.succ_mul] at this;omega)]
  by_cases hlt:k<i'.toNat
  ·have:(k+1)*sz≤i'.toNat*sz:=Nat.mul_le_mul_right _ hlt
   rw[Nat.succ_mul] at this;rw[if_pos hlt,if_pos (by omega)]
  ·have:i'.toNat*sz≤k*sz:=Nat.mul_le_mul_right _ (by omega)
   rw[if_neg hlt,if_neg (by omega),Nat.add_mul]
   congr 1;omega
 ·subst he;have:=hb2.symm.trans hb';cases this
end
end Go.Vm
end
section
namespace Go.Vm
open Go
section
variable {P:Program} {o:Oper} {own:Own} {β:Nat→Nat} {w:World} {σ:St} {a:Act}
theorem ok_eff {T:Types} {call:CallF} {cx:Cx} {fr:Nat} (hS:Sound P call) (hC:CxOk P cx) (h:Hyp P T o own β w σ a) {e:Eff}
  (he:eff T call cx fr o σ=some e) (hnd:∀ d,o.dst=some d→e.val.refsTo (.slot d)=false):OpOk P o own β w σ a (apply σ o.dst e):=by
 cases ho:o.op
 case move x=>exact ok_move h ho (by simpa only [eff,ho] using he) hnd
 case assign x =>
  have he':=he;simp only[eff,ho] at he';cases hd:o.dst with
  | none=>simp[hd] at he'
  | some d=>simp only[hd] at he';rw[←hd];exact ok_assign h ho he' hnd
 case pick c x y=>exact ok_pick h ho he
 case alloc t=>exact ok_alloc h ho he
 case box t x=>exact ok_box h ho he
 case build t parts=>exact ok_build h ho he
 case buildSlice t l parts=>exact ok_buildSlice h ho he
 case load t x=>exact ok_load h ho he hnd
 case store t p x=>exact ok_store h ho he
 case nilCheck x=>exact ok_nilCheck h ho he hnd
 case binOp op t x y g=>exact ok_binOp h ho he
 case unOp op t x=>exact ok_unOp h ho he
 case convert s t x=>exact ok_convert h ho he
 case makeFunc f x y=>exact ok_makeFunc h ho he
 case slice t x lo hi mx=>exact ok_slice h ho he
 case fieldAddr t p f=>exact ok_fieldAddr h ho he hnd
 case field t x f=>exact ok_field h ho he
 case indexAddr t x k=>exact ok_indexAddr h ho he hnd
 case index t x k=>exact ok_index h ho he
 case extract x j=>exact ok_extract h ho he
 case makeSlice t l c=>exact ok_makeSlice h ho he
 case makeMap t n=>exact ok_makeMap h ho he
 case insert t m k x=>exact ok_update h (.inr ho) (by simpa only [eff,ho] using he)
 case mapUpdate t m k x=>exact ok_update h (.inl ho) (by simpa only [eff,ho] using he)
 case lookup t m k ok=>exact ok_lookup h ho he
 case call c =>
  simp only[eff,ho] at he;cases hb:c.callee with
  | builtin b =>
   simp only[hb] at he;cases b<;>simp only[builtinAt] at he<;>try (cases he;done)
   ·exact ok_append h ho hb he
   ·exact ok_len h ho hb he
   ·exact ok_mm h ho (big:=true) hb he
   ·exact ok_mm h ho (big:=false) hb he
  | value f =>
   simp only[hb] at he;cases ht:toldOf cx (opd σ.env f) with
   | some sz =>
    simp only[ht] at he;exact ok_delete hC h ho hb ht he
   | none =>
    simp only[ht] at he;cases hnw:isNews cx c with
    | some n=>simp only[hnw] at he;exact ok_news hS h ho hb he
    | none =>
    simp only[hnw] at he;split at he
    ·rename_i g _ hl
     exact ok_glance (T:=T) hS h ho hb hl he
    ·rename_i g k p sz x xs rest hl0 hl
     exact ok_lend (T:=T) hS h ho hb hl he
    ·cases hv:views σ c.args.toList with
     | none=>simp[hv] at he
     | some vp =>
      obtain⟨vs,ps⟩:=vp;simp only[hv] at he;exact ok_call hS h ho hb hv he
  | invoke x m=>simp[hb] at he
 all_goals (simp[eff,ho] at he)
end
end Go.Vm
end
section
namespace Go.Vm
open Go
section
variable {P:Program} {o:Oper} {own:Own} {β:Nat→Nat} {w:World} {σ:St} {a:Act}
theorem SR.forget {σ':St} (h:SR own β w σ a.tmps) (hh:σ'.heap=σ.heap) (hg:∀ t,get σ'.env t=get σ.env t∨get σ'.env t=.undef)
  (hr:∀ t x,(get σ'.env t).refsTo (.slot x)=true→get σ'.env x=get σ.env x):SR own β w σ' a.tmps:=by
 refine⟨fun t=>?_,by rw[hh];exact h.heap⟩
 rcases hg t with e | e
 ·have ht:=h.env t
  have lk:∀ p,(get σ'.env t).refsTo p=true→look σ' p=look σ p:=fun p hp=>by
   cases p with
   | slot x=>exact hr t x hp
   | cell id off=>simp only[look,hh]
  rw[e];cases hv:get σ.env t with
  | lent p =>
   rw[hv] at ht;obtain⟨sz,n,xs,q1,q2⟩:=ht;exact⟨sz,n,xs,by rw[lk p (by rw[e,hv];simp[V.refsTo])];exact q1,q2⟩
  | xptr p i off =>
   rw[hv] at ht;obtain⟨sz,n,xs,b,len,cap,q1,q2⟩:=ht;exact⟨sz,n,xs,b,len,cap,by rw[lk p (by rw[e,hv];simp[V.refsTo])];exact q1,q2⟩
  | _=>rw[hv] at ht;exact ht
 ·rw[e];exact ER.undef _ _ _ _ _ _ _
theorem get_mapped (env:Env):∀ (l:List Nat) (t:Nat),get (l.map fun t=>(t,get env t)) t=if t∈l then get env t else .undef
 | [],t=>rfl
 | u::l,t=>by
  simp only[List.map_cons,get];by_cases h:u=t
  ·subst h;simp
  ·rw[if_neg h,get_mapped env l t]
   simp[h,Ne.symm h,eq_comm]
theorem get_append:∀ (e1 e2:Env) (t:Nat),get (e1++e2) t=bif (e1.any fun x=>x.1==t) then get e1 t else get e2 t
 | [],e2,t=>rfl
 | (u,v)::e1,e2,t=>by
  simp only[List.cons_append,get,List.any_cons];by_cases h:u=t
  ·subst h;simp
  ·have hb:(u==t)=false:=by simpa using h
   rw[if_neg h,if_neg h,get_append e1 e2 t,hb,Bool.false_or]
theorem slotRef_of {v:V} {x:Nat} (h:v.refsTo (.slot x)=true):slotRef v=some x:=by
 cases v<;>simp[V.refsTo] at h
 ·rename_i p i off;subst h;rfl
 ·rename_i p;subst h;rfl
theorem get_prune (l:List Nat) (t:Nat):get (prune (some l) σ).env t=if t∈l∨∃ u∈l,slotRef (get σ.env u)=some t then get σ.env t else .undef:=by
 simp only[prune];rw[get_append];have h1:((l.map fun t=>(t,get σ.env t)).any fun x=>x.1==t)=decide (t∈l):=by
  rw[Bool.eq_iff_iff];simp
 rw[h1,get_mapped,get_mapped];by_cases ht:t∈l
 ·simp[ht]
 ·simp only[ht,decide_false,cond_false,false_or]
  have:(t∈(l.map fun t=>(t,get σ.env t)).filterMap fun x=>slotRef x.2)↔∃ u∈l,slotRef (get σ.env u)=some t:=by
   simp
  simp only[this]
theorem SR.prune (h:SR own β w σ a.tmps) (k:Option (List Nat)):SR own β w (Vm.prune k σ) a.tmps:=by
 cases k with
 | none=>exact h
 | some l =>
  refine h.forget rfl (fun t=>?_) (fun t x hx=>?_)
  ·rw[get_prune];split<;>simp
  ·rw[get_prune] at hx ⊢
   split at hx
   ·rename_i ht
    rw[if_pos]
    right
    rcases ht with ht | ⟨u,hu,he⟩
    ·exact⟨t,ht,slotRef_of hx⟩
    ·
     have hu':=h.env u;have hex:∃ sz n xs,get σ.env t=.ex sz n xs:=by
      cases hv:get σ.env u<;>rw[hv] at he hu'<;>simp[slotRef] at he
      ·rename_i p i off
       cases p<;>simp at he
       subst he;obtain⟨sz,n,xs,b,len,cap,q1,_⟩:=hu';exact⟨sz,n,xs,q1⟩
      ·rename_i p
       cases p<;>simp at he
       subst he;obtain⟨sz,n,xs,q1,_⟩:=hu';exact⟨sz,n,xs,q1⟩
     obtain⟨sz,n,xs,hex⟩:=hex;rw[hex] at hx;simp[V.refsTo] at hx
   ·simp[V.refsTo] at hx
theorem bcells_reserve (H:Heap) (k id:Nat):bcells (H++List.replicate k .dead) id=bcells H id:=by
 unfold bcells;rcases Nat.lt_or_ge id H.length with hlt | hge
 ·rw[List.getElem?_append_left hlt]
 ·rw[List.getElem?_append_right hge,List.getElem?_replicate,List.getElem?_eq_none hge]
  split<;>rename_i hq<;>split at hq<;>simp at hq ⊢
theorem SR.reserve (h:SR own β w σ a.tmps) (cx:Cx) (ops:Array Oper):SR own β w (reserve cx ops σ) a.tmps∧BX β β σ.heap (reserve cx ops σ).heap:=by
 refine⟨⟨fun t=>?_,fun id cs hi=>h.heap.blk id cs (by rw[←bcells_reserve];exact hi),fun b id hb=>?_,h.heap.lt⟩,by simp[Vm.reserve],fun id cs hi=>⟨rfl,cs,by simp only[Vm.reserve];rw[bcells_reserve];exact hi⟩⟩
 ·have ht:=h.env t
  have lk:∀ p,look (Vm.reserve cx ops σ) p=look σ p:=fun p=>by
   cases p with
   | slot x=>rfl
   | cell id off=>simp only[look,Vm.reserve];rw[bcells_reserve]
  show ER own β w _ _ t (get σ.env t) _
  cases hv:get σ.env t with
  | lent p =>
   rw[hv] at ht;obtain⟨sz,n,xs,q1,q2⟩:=ht;exact⟨sz,n,xs,by rw[lk p];exact q1,q2⟩
  | xptr p i off =>
   rw[hv] at ht;obtain⟨sz,n,xs,b,len,cap,q1,q2⟩:=ht;exact⟨sz,n,xs,b,len,cap,by rw[lk p];exact q1,q2⟩
  | _=>rw[hv] at ht;exact ht
 ·obtain⟨e,cs,hc⟩:=h.heap.inv b id hb
  exact⟨e,cs,by simp only[Vm.reserve];rw[bcells_reserve];exact hc⟩
theorem wants_ok {ops:Array Oper} (h:SR own β w σ a.tmps) {b:Bool} (hw:wants ops σ.env o=some b):Region.wanted o (yielded ops a.tmps)=b:=by
 unfold wants at hw;unfold Region.wanted;split at hw
 ·rename_i hg;rw[hg];injection hw
 ·rename_i j want hg
  rw[hg];simp only;split at hw
  ·rename_i t ht
   split at hw
   ·rename_i c hc
    injection hw with hw;subst hw;have he:a.tmps.getD t undef=.bool c:=opd_bool (a:=a) h (x:=.tmp t) hc;have hy:yielded ops a.tmps j=some c:=by
     unfold yielded;rw[ht];simp only[Option.bind_some];rcases Nat.lt_or_ge t a.tmps.size with hlt | hge
     ·rw[Array.getElem?_eq_getElem hlt]
      have:a.tmps[t]=.bool c:=by rw[←he];simp[hlt]
      rw[this]
     ·rw[Array.getD_eq_getD_getElem?,Array.getElem?_eq_none hge] at he;simp[undef] at he
    rw[hy];cases c<;>cases want<;>rfl
   ·rename_i hc
    injection hw with hw;subst hw;have he:=h.env t;rw[hc] at he;obtain⟨arr,he,_⟩:=he;have hy:yielded ops a.tmps j=none:=by
     unfold yielded;rw[ht];simp only[Option.bind_some];rcases Nat.lt_or_ge t a.tmps.size with hlt | hge
     ·rw[Array.getElem?_eq_getElem hlt]
      have:a.tmps[t]=.tuple arr:=by rw[←he];simp[hlt]
      rw[this]
     ·rw[Array.getElem?_eq_none hge]
    rw[hy];cases want<;>rfl
   ·cases hw
  ·cases hw
theorem ok_vop {T:Types} {call:CallF} {cx:Cx} {fr:Nat} {ops:Array Oper} (hS:Sound P call) (hC:CxOk P cx) (h:Hyp P T o own β w σ a) {σ':St} (hv:vop T call cx ops fr o σ=some σ')
  (r:Option Nat) (K:Act→World→Prop) (Q:Exit→Act→World→Prop) (hK:∀ own' β' w' a',Nxt own β w σ a own' β' w' σ' a'→K a' w') :
  if Region.wanted o (yielded ops a.tmps) then o.wpIn (Fw r) 0 P a w K Q else (∀ f,o.about P w a.eval=some f→(Fw r).fn f)∧K (a.put o.dst undef) w:=by
 unfold vop effG at hv;split at hv
 ·rename_i hw
  rw[wants_ok h.sr hw];simp only[if_true];split at hv
  ·rename_i e he
   have hnd:∀ d,o.dst=some d→e.val.refsTo (.slot d)=false:=fun d hd=>by
    cases hq:e.val.refsTo (.slot d) with
    | false=>rfl
    | true=>simp[hd,hq] at hv
   have hv':apply σ o.dst e=σ':=by
    cases hd:o.dst with
    | none=>rw[hd] at hv;simpa using hv
    | some d=>rw[hd] at hv;simpa [hnd d hd] using hv
   subst hv';exact ok_eff hS hC h he hnd r K Q hK
  ·cases hv
 ·rename_i hw
  rw[wants_ok h.sr hw];simp only[Bool.false_eq_true,if_false];simp only[Option.map_some] at hv;injection hv with hv;subst hv;obtain⟨o3,h3⟩:=(Nxt.refl h.sr).put (c:=undef) h.dst (v:=.tup []) rfl ⟨#[],rfl,rfl,by simp⟩
  exact⟨fun _ _=>trivial,hK _ _ _ _ h3⟩
 ·cases hv
theorem ok_vops {T:Types} {call:CallF} {cx:Cx} {ops:Array Oper} (hS:Sound P call) (hC:CxOk P cx) (hT:TOk P T) (r:Option Nat) (Q:Exit→Act→World→Prop):∀ (l:List Oper) (fr:Nat) (own:Own) (β:Nat→Nat) (w:World) (σ:St) (a:Act) (σ':St),
  SR own β w σ a.tmps→(∀ o∈l,∀ d,o.dst=some d→d<a.tmps.size)→vops T call cx ops fr l σ=some σ'→(∀ own' β' w' a',Nxt own β w σ a own' β' w' σ' a'→Q .normal a' w')→wpListIn (Fw r) 0 P ops Q l a w
 | [],fr,own,β,w,σ,a,σ',h,hd,hv,hQ=>by
  simp only[vops] at hv;injection hv with hv;subst hv;exact hQ _ _ _ _ (Nxt.refl h)
 | o::l,fr,own,β,w,σ,a,σ',h,hd,hv,hQ=>by
  simp only[vops,Option.bind_eq_some_iff] at hv;obtain⟨σ1,h1,h2⟩:=hv;unfold wpListIn;refine ok_vop hS hC ⟨h,hd o (by simp),hT⟩ h1 r _ Q (fun own1 β1 w1 a1 hn=>?_)
  refine ok_vops hS hC hT r Q l _ own1 β1 w1 σ1 a1 σ' hn.sr (fun o ho d hd'=>by rw[hn.size];exact hd o (by simp[ho]) d hd') h2 (fun own' β' w' a' hn'=>hQ _ _ _ _ (hn.trans hn'))
end
end Go.Vm
end
section
namespace Go.Vm
open Go
def Eqv (σ τ:St):Prop:=(∀ t,get σ.env t=get τ.env t)∧σ.heap=τ.heap
theorem Eqv.refl (σ:St):Eqv σ σ:=⟨fun _=>rfl,rfl⟩
theorem Eqv.symm {σ τ:St} (h:Eqv σ τ):Eqv τ σ:=⟨fun t=>(h.1 t).symm,h.2.symm⟩
theorem Eqv.trans {σ τ υ:St} (h:Eqv σ τ) (k:Eqv τ υ):Eqv σ υ:=⟨fun t=>(h.1 t).trans (k.1 t),h.2.trans k.2⟩
theorem Eqv.setPlace {σ τ:St} (h:Eqv σ τ) (p:Place) (v:V):Eqv (Vm.setPlace σ p v) (Vm.setPlace τ p v):=by
 cases p with
 | slot t =>
  refine⟨fun u=>?_,h.2⟩
  simp only[Vm.setPlace,get];split
  ·rfl
  ·rw[get_kill,get_kill,h.1 u]
 | cell id off =>
  refine⟨fun u=>?_,?_⟩
  ·simp only[Vm.setPlace]
   rw[get_kill,get_kill,h.1 u]
  ·simp only[Vm.setPlace,h.2]
theorem Eqv.setPlaces:∀ (ps:List (Place×V)) {σ τ:St},Eqv σ τ→Eqv (Vm.setPlaces σ ps) (Vm.setPlaces τ ps)
 | [],_,_,h=>h
 | (p,v)::ps,_,_,h=>Eqv.setPlaces ps (h.setPlace p v)
theorem Eqv.setMem {σ τ:St} (h:Eqv σ τ) (m:HE):Eqv (Vm.setMem σ m) (Vm.setMem τ m):=by
 cases m with
 | keep=>exact h
 | set id off cs =>
  refine⟨fun t=>?_,by simp only[Vm.setMem,h.2]⟩
  simp only[Vm.setMem];rw[get_map (killIn id off cs.length) rfl,get_map (killIn id off cs.length) rfl,h.1 t]
 | init id cs=>exact⟨h.1,by simp only[Vm.setMem,h.2]⟩
 | all H =>
  refine⟨fun t=>?_,rfl⟩
  simp only[Vm.setMem];rw[get_map killCell rfl,get_map killCell rfl,h.1 t]
 | put ks H =>
  refine⟨fun t=>?_,by simp only[Vm.setMem,h.2]⟩
  simp only[Vm.setMem];rw[get_map (killCellsIn ks) rfl,get_map (killCellsIn ks) rfl,h.1 t]
 | seen ks=>exact h
 | elem id off v =>
  simp only[Vm.setMem,←h.2];cases bcells σ.heap id with
  | none=>exact h
  | some cs=>exact⟨h.1,by simp only[h.2]⟩
 | lent ks n p v H =>
  have hq:Eqv (cut n {env:=σ.env.map (fun x=>(x.1,killCellsIn ks x.2)),heap:=H}) (cut n {env:=τ.env.map (fun x=>(x.1,killCellsIn ks x.2)),heap:=H}):=by
   refine⟨fun t=>?_,rfl⟩
   have hc:∀ υ:St,get (cut n {env:=υ.env.map (fun x=>(x.1,killCellsIn ks x.2)),heap:=H}).env t=if okBelowV n (killCellsIn ks (get υ.env t)) then killCellsIn ks (get υ.env t) else .undef:=fun υ=>by
    rw[get_cut];simp only;rw[get_map (killCellsIn ks) rfl]
   rw[hc,hc,h.1 t]
  exact hq.setPlace p v
theorem Eqv.put {σ τ:St} (h:Eqv σ τ) (d:Option Nat) (v:V):Eqv (Vm.put σ d v) (Vm.put τ d v):=by
 cases d with
 | none=>exact h
 | some d =>
  refine⟨fun u=>?_,h.2⟩
  simp only[Vm.put,get];split
  ·rfl
  ·rw[get_kill,get_kill,h.1 u]
theorem Eqv.poke {σ τ:St} (h:Eqv σ τ) (x:Option (Nat×V)):Eqv (Vm.pokeS σ x) (Vm.pokeS τ x):=by
 cases x with
 | none=>exact h
 | some y =>
  refine⟨fun t=>?_,h.2⟩
  simp only[Vm.pokeS];by_cases ht:y.1=t
  ·subst ht;rw[get_cons_same,get_cons_same]
  ·rw[get_cons_ne _ _ ht,get_cons_ne _ _ ht];exact h.1 t
theorem Eqv.apply {σ τ:St} (h:Eqv σ τ) (d:Option Nat) (e:Eff):Eqv (Vm.apply σ d e) (Vm.apply τ d e) :=
 Eqv.put (Eqv.setMem (Eqv.setPlaces e.places (Eqv.poke h e.poke)) e.mem) d e.val
theorem Eqv.look {σ τ:St} (h:Eqv σ τ) (p:Place):Vm.look σ p=Vm.look τ p:=by
 cases p with
 | slot t=>exact h.1 t
 | cell id off=>simp only[Vm.look,h.2]
theorem Eqv.opd {σ τ:St} (h:Eqv σ τ) (x:Operand):Vm.opd σ.env x=Vm.opd τ.env x:=by cases x<;>first | rfl | exact h.1 _
section
variable {σ τ:St}
def placesB (id:Nat):List (Place×V)→Option (List V)→Option (List V)
 | [],c=>c
 | (.cell i off,v)::ps,c=>placesB id ps (if i=id then c.map (·.set off v) else c)
 | (.slot _,_)::ps,c=>placesB id ps c
theorem bcells_setPlace (p:Place) (v:V) (id:Nat):bcells (setPlace σ p v).heap id=placesB id [(p,v)] (bcells σ.heap id)∧(setPlace σ p v).heap.length=σ.heap.length:=by
 cases p with
 | slot t=>exact⟨rfl,rfl⟩
 | cell i off =>
  simp only[setPlace,placesB];cases hc:bcells σ.heap i with
  | none =>
   refine⟨?_,rfl⟩;simp only;by_cases h:i=id
   ·subst h;rw[hc];simp
   ·rw[if_neg h]
  | some cs =>
   refine⟨?_,by simp⟩
   simp only;rw[bcells_set (bcells_lt hc)];by_cases h:i=id
   ·subst h;rw[hc];simp
   ·rw[if_neg (Ne.symm h),if_neg h]
theorem placesB_cons (id:Nat) (x:Place×V) (ps:List (Place×V)) (c:Option (List V)):placesB id (x::ps) c=placesB id ps (placesB id [x] c):=by
 obtain⟨p,v⟩:=x;cases p<;>rfl
theorem bcells_setPlaces:∀ (ps:List (Place×V)) (σ:St) (id:Nat),bcells (setPlaces σ ps).heap id=placesB id ps (bcells σ.heap id)∧(setPlaces σ ps).heap.length=σ.heap.length
 | [],σ,id=>⟨rfl,rfl⟩
 | x::ps,σ,id=>by
  obtain⟨h1,h2⟩:=bcells_setPlaces ps (setPlace σ x.1 x.2) id;obtain⟨g1,g2⟩:=bcells_setPlace (σ:=σ) x.1 x.2 id;exact⟨by rw[placesB_cons];simp only[setPlaces];rw[h1,g1],by simp only[setPlaces];rw[h2,g2]⟩
theorem heap_ext {H1 H2:Heap} (hl:H1.length=H2.length) (h:∀ id,bcells H1 id=bcells H2 id):H1=H2:=by
 apply List.ext_getElem hl
 intro i h1 h2;have:=h i
 unfold bcells at this;rw[List.getElem?_eq_getElem h1,List.getElem?_eq_getElem h2] at this;cases hx:H1[i]<;>cases hy:H2[i]<;>simp[hx,hy] at this
 ·rfl
 ·rw[this]
theorem more_sub (H:Heap) (l:List Nat):∀ i∈l,i∈more H l:=by
 have key:∀ (m acc:List Nat),∀ i∈acc,i∈m.foldl (fun acc i=>if acc.contains i then acc else acc++[i]) acc:=by
  intro m
  induction m with
  | nil=>intro acc i hi;exact hi
  | cons x m ih =>
   intro acc i hi;simp only[List.foldl_cons];refine ih _ i ?_;split
   ·exact hi
   ·simp[hi]
 exact fun i hi=>key _ l i hi
theorem reach_sub (H:Heap):∀ (n:Nat) (l:List Nat),∀ i∈l,i∈reach H n l
 | 0,_,i,hi=>hi
 | n+1,l,i,hi=>reach_sub H n (more H l) i (more_sub H l i hi)
theorem reach_same {H K:Heap}:∀ (n:Nat) (l:List Nat),(∀ i∈reach H n l,bcells H i=bcells K i)→reach K n l=reach H n l
 | 0,_,_=>rfl
 | n+1,l,h=>by
  have e:more K l=more H l:=by
   unfold more;have:l.flatMap (cellIds K)=l.flatMap (cellIds H):=by
    simp only[List.flatMap]
    congr 1
    refine List.map_congr_left fun i hi=>?_
    unfold cellIds;rw[h i (reach_sub H n _ i (more_sub H l i hi))]
   rw[this]
  simp only[reach,e];exact reach_same n _ h
theorem maskH_same {H K:Heap} {ks:List Nat} (hl:H.length=K.length) (h:∀ i,ks.contains i=true→bcells H i=bcells K i):maskH ks K=maskH ks H:=by
 refine heap_ext (by rw[maskH_length,maskH_length,hl]) fun id=>?_
 rw[bcells_mask,bcells_mask];split
 ·rename_i hk;rw[h id hk]
 ·rfl
theorem closedK_same {H K:Heap} {ks:List Nat} (h:∀ i,ks.contains i=true→bcells H i=bcells K i):closedK ks K=closedK ks H:=by
 unfold closedK;rw[Bool.eq_iff_iff,List.all_eq_true,List.all_eq_true];have:∀ id∈ks,cellIds K id=cellIds H id:=fun id hid=>by unfold cellIds;rw[h id (by simpa using hid)]
 exact⟨fun q id hid=>by rw[←this id hid];exact q id hid,fun q id hid=>by rw[this id hid];exact q id hid⟩
end
structure Same (b:Bool) (xs:List Operand) (σ τ:St):Prop where
 opd:∀ x∈xs,opd σ.env x=opd τ.env x
 look:∀ x∈xs,∀ p,(Vm.opd σ.env x).refsTo p=true→look σ p=look τ p
 blk:b=true→∀ x∈xs,∀ id,blkOf (Vm.opd σ.env x)=some id→bcells σ.heap id=bcells τ.heap id
theorem Same.sub {b:Bool} {xs ys:List Operand} {σ τ:St} (h:Same b xs σ τ) (hs:∀ y∈ys,y∈xs):Same b ys σ τ :=
 ⟨fun x hx=>h.opd x (hs x hx),fun x hx=>h.look x (hs x hx),fun hb x hx=>h.blk hb x (hs x hx)⟩
theorem Eqv.same {σ τ:St} (h:Eqv σ τ) (xs:List Operand):Same true xs σ τ:=⟨fun x _=>h.opd x,fun _ _ p _=>h.look p,fun _ _ _ _ _=>by rw[h.2]⟩
section
variable {b:Bool} {σ τ:St} {x:Operand} {xs:List Operand}
theorem content_same (h:Same b xs σ τ) (hx:x∈xs):content σ (opd σ.env x)=content τ (opd τ.env x):=by
 rw[←h.opd x hx];cases hv:opd σ.env x<;>simp only[content]
 rw[h.look x hx _ (by rw[hv];simp[V.refsTo])]
theorem lenV_same (h:Same b xs σ τ) (hx:x∈xs):lenV σ (opd σ.env x)=lenV τ (opd τ.env x):=by
 have hc:=content_same h hx;rw[←h.opd x hx] at hc ⊢;unfold lenV;split
 ·rfl
 ·rw[hc]
theorem nilness_same (h:Same b xs σ τ) (hx:x∈xs):nilness σ (opd σ.env x)=nilness τ (opd τ.env x):=by
 have hc:=content_same h hx;rw[←h.opd x hx] at hc ⊢;unfold nilness;split
 ·rfl
 ·rw[hc]
theorem contentT_same {i:TI} (h:Same true xs σ τ) (hx:x∈xs):contentT i σ (opd σ.env x)=contentT i τ (opd τ.env x):=by
 have hc:=content_same h hx;rw[←h.opd x hx] at hc ⊢;unfold contentT;split
 ·rename_i n id hv
  have:ncells σ.heap id=ncells τ.heap id:=by unfold ncells;rw[h.blk rfl x hx id (by rw[hv];rfl)]
  rw[this]
 ·exact hc
theorem placeOf_same (h:Same b xs σ τ) (hx:x∈xs):placeOf σ x=placeOf τ x:=by
 unfold placeOf;rw[←h.opd x hx]
theorem lendOf_same {cx:Cx} {f:Operand} (h:Same b xs σ τ) (hf:f∈xs) {l:List Operand} (hl:∀ x∈l,x∈xs):lendOf cx σ (opd σ.env f) l=lendOf cx τ (opd τ.env f) l:=by
 unfold lendOf;rw[←h.opd f hf];cases lendFn cx (opd σ.env f) with
 | none=>rfl
 | some gk =>
  obtain⟨g,k⟩:=gk;simp only;cases hd:l.drop k with
  | nil=>rfl
  | cons x l' =>
   have hlx:x∈l:=List.mem_of_mem_drop (i:=k) (by rw[hd];simp)
   have hp:=placeOf_same h (hl x hlx);simp only[←hp];cases hpl:placeOf σ x with
   | none=>rfl
   | some p =>
    have hlk:look σ p=look τ p∨∃ t:Nat×Bool×List V,opd σ.env x=.ex t.1 t.2.1 t.2.2:=by
     unfold placeOf at hpl;split at hpl
     ·rename_i sz n ys hv;exact .inr ⟨(sz,n,ys),hv⟩
     ·rename_i q hv
      injection hpl with hpl;subst hpl;exact .inl (h.look x (hl x hlx) q (by rw[hv];simp[V.refsTo]))
     ·cases hpl
    have hlk':look σ p=look τ p:=by
     rcases hlk with hlk | ⟨t,hv⟩
     ·exact hlk
     ·unfold placeOf at hpl
      rw[hv] at hpl;simp only[Option.map_eq_some_iff] at hpl;obtain⟨u,h1,rfl⟩:=hpl;obtain rfl:=tmpOf_some h1
      exact h.opd (.tmp u) (hl (.tmp u) hlx)
    simp only[hlk']
theorem base_same {sz:Nat} (h:Same b xs σ τ) (hx:x∈xs):base sz σ x=base sz τ x:=by
 unfold base;rw[←h.opd x hx];cases hv:opd σ.env x
 case lent p=>simp only[h.look x hx p (by rw[hv];simp[V.refsTo])]
 case sl b ys=>cases b<;>cases ys<;>rfl
 all_goals rfl
theorem take_same (h:Same b xs σ τ) (hx:x∈xs):take σ x=take τ x:=by
 unfold take;rw[←h.opd x hx];cases hv:opd σ.env x<;>simp only
 rw[h.look x hx _ (by rw[hv];simp[V.refsTo])]
theorem takeDat_same (h:Same b xs σ τ) (hx:x∈xs):takeDat σ x=takeDat τ x:=by
 unfold takeDat
 rw[←h.opd x hx];cases hv:opd σ.env x<;>try rfl
 simp only;rw[h.look x hx _ (by rw[hv];simp[V.refsTo])]
theorem view_same (h:Same b xs σ τ) (hx:x∈xs):view σ x=view τ x:=by
 unfold view;rw[←h.opd x hx];cases hv:opd σ.env x<;>simp only
 rw[h.look x hx _ (by rw[hv];simp[V.refsTo])]
theorem glance1_same (h:Same b xs σ τ) (hx:x∈xs) (hb:∀ id,ptrId (opd σ.env x)=[id]→bcells σ.heap id=bcells τ.heap id):glance1 σ x=glance1 τ x:=by
 unfold glance1;rw[←h.opd x hx];cases hv:opd σ.env x<;>try rfl
 simp only;rw[show ncells σ.heap _=ncells τ.heap _ by unfold ncells;rw[hb _ (by rw[hv];rfl)]]
theorem glances_same (h:Same b xs σ τ):∀ (l:List Operand) {vs:List V} {ks:List Nat},(∀ x∈l,x∈xs)→glances σ l=some (vs,ks)→(∀ id,ks.contains id=true→bcells σ.heap id=bcells τ.heap id)→glances τ l=some (vs,ks)
 | [],vs,ks,_,hg,_=>hg
 | x::l,vs,ks,hl,hg,hk=>by
  simp only[glances] at hg ⊢;cases h1:glance1 σ x with
  | none=>simp[h1] at hg
  | some vi =>
   obtain⟨v,i⟩:=vi;cases h2:glances σ l with
   | none=>simp[h1,h2] at hg
   | some vis =>
    obtain⟨vs',is⟩:=vis;simp only[h1,h2] at hg;injection hg with hg;injection hg with e1 e2;subst e1;subst e2;rw[←glance1_same h (hl x (by simp)) (fun id hid=>hk id (by
     unfold glance1 at h1;cases hv:opd σ.env x<;>rw[hv] at hid<;>simp[ptrId] at hid
     ·subst hid
      rw[hv] at h1;simp only at h1;split at h1
      ·injection h1 with h1;injection h1 with _ h1;subst h1;simp
      ·cases h1
     ·rw[hv] at h1;cases h1
     ·rw[hv] at h1;cases h1)),h1,
     glances_same h l (fun y hy=>hl y (by simp[hy])) h2 (fun id hid=>hk id (by simp at hid ⊢;exact .inr hid))]
theorem views_same (h:Same b xs σ τ):∀ (l:List Operand),(∀ x∈l,x∈xs)→views σ l=views τ l
 | [],_=>rfl
 | x::l,hl=>by
  simp only[views,view_same h (hl x (by simp)),views_same h l (fun y hy=>hl y (by simp[hy]))]
theorem numOf_same (h:Same b xs σ τ) {o:Option Operand} (ho:∀ x,o=some x→x∈xs) (d:Int):numOf σ o d=numOf τ o d:=by
 unfold numOf;cases o with
 | none=>rfl
 | some x=>simp only[h.opd x (ho x rfl)]
theorem ncells_same {id:Nat} (h:bcells σ.heap id=bcells τ.heap id):ncells σ.heap id=ncells τ.heap id:=by unfold ncells;rw[h]
theorem mapView_same (h:Same true xs σ τ) (hx:x∈xs):mapView σ (opd σ.env x)=mapView τ (opd τ.env x):=by
 unfold mapView;rw[←h.opd x hx];cases hv:opd σ.env x<;>try rfl
 rename_i m id;cases m<;>try rfl
 simp only;rw[h.blk rfl x hx id (by rw[hv];rfl)]
theorem mapOf_same (h:Same true xs σ τ) (hx:x∈xs):mapOf σ (opd σ.env x)=mapOf τ (opd τ.env x):=by
 unfold mapOf;rw[←h.opd x hx];cases hv:opd σ.env x<;>try rfl
 rename_i m id;cases m<;>try rfl
 simp only;rw[h.blk rfl x hx id (by rw[hv];rfl)]
theorem takeMap_same (h:Same b xs σ τ) (hx:x∈xs):takeMap σ x=takeMap τ x:=by
 unfold takeMap;rw[←h.opd x hx];cases hv:opd σ.env x<;>simp only
 rw[h.look x hx _ (by rw[hv];simp[V.refsTo])]
theorem updateAt_same {T:Types} {t:Nat} {m k:Operand} (h:Same true xs σ τ) (hm:m∈xs) (hk:k∈xs) (hx:x∈xs):updateAt T σ t m k x=updateAt T τ t m k x:=by
 unfold updateAt;rw[mapOf_same h hm,takeMap_same h hx,h.opd k hk]
theorem lookupAt_same {T:Types} {t:Nat} {m k:Operand} {ok:Bool} (h:Same true xs σ τ) (hm:m∈xs) (hk:k∈xs):lookupAt T σ t m k ok=lookupAt T τ t m k ok:=by
 unfold lookupAt;rw[mapView_same h hm,h.opd k hk]
theorem loadAt_same (h:Same true xs σ τ) (hx:x∈xs) (i:TI):loadAt i σ (opd σ.env x)=loadAt i τ (opd τ.env x):=by
 unfold loadAt;rw[←h.opd x hx];cases hv:opd σ.env x<;>simp only
 ·rw[ncells_same (h.blk rfl x hx _ (by rw[hv];rfl))]
 ·rw[h.look x hx _ (by rw[hv];simp[V.refsTo])]
theorem storeAt_same {p:Operand} (h:Same true xs σ τ) (hp:p∈xs) (hx:x∈xs) (i:TI):storeAt i σ (opd σ.env p) x=storeAt i τ (opd τ.env p) x:=by
 unfold storeAt;rw[←h.opd p hp,take_same h hx,takeDat_same h hx];cases hv:opd σ.env p<;>simp only
 ·rw[ncells_same (h.blk rfl p hp _ (by rw[hv];rfl))]
 ·rw[h.look p hp _ (by rw[hv];simp[V.refsTo])]
theorem indexAt_same (h:Same b xs σ τ) (hx:x∈xs) (T:Types) (i:TI) (k:Int):indexAt T i σ x k=indexAt T i τ x k:=by
 unfold indexAt;rw[←h.opd x hx];cases hv:opd σ.env x<;>try rfl
 case ref m id=>cases m<;>rfl
 simp only;rw[h.look x hx _ (by rw[hv];simp[V.refsTo])]
theorem takes_nil {f:St→Operand→Option (V×List (Place×V))} (hf:∀ x∈xs,f σ x=f τ x):∀ (l:List (Nat×Operand)) (vs:List (Nat×V)),(∀ x∈l,x.2∈xs)→takes f σ l=some (vs,[])→takes f τ l=some (vs,[])
 | [],vs,_,h=>by simpa [takes] using h
 | (i,x)::l,vs,hl,h=>by
  simp only[takes] at h ⊢;rw[←hf x (hl (i,x) (by simp))]
  cases h1:f σ x with
  | none=>simp[h1] at h
  | some vp =>
   obtain⟨v,ps⟩:=vp;simp only[h1] at h ⊢;cases h2:takes f (setPlaces σ ps) l with
   | none=>simp[h2] at h
   | some vq =>
    obtain⟨vs',qs⟩:=vq;simp only[h2] at h;injection h with h;injection h with e1 e2;obtain⟨rfl,rfl⟩:=List.append_eq_nil_iff.1 e2;simp only[setPlaces] at h2 ⊢;rw[takes_nil hf l vs' (fun y hy=>hl y (by simp[hy])) h2]
    simp[e1]
theorem takes_eqv {f:St→Operand→Option (V×List (Place×V))} (hf:∀ (σ τ:St) x,Eqv σ τ→f σ x=f τ x):∀ (l:List (Nat×Operand)) {σ τ:St},Eqv σ τ→takes f σ l=takes f τ l
 | [],_,_,_=>rfl
 | (i,x)::l,σ,τ,h=>by
  simp only[takes];rw[hf σ τ x h];cases f τ x with
  | none=>rfl
  | some vp=>simp only;rw[takes_eqv hf l (h.setPlaces vp.2)]
theorem callGo_same {call:CallF} {f:FuncId} {vs:List V} {ids:List Nat} {ps:List (Place×V)} {e:Eff} (he:callGo call σ f vs ids ps=some e) (hc:∀ H,e.mem≠.all H)
  (hput:∀ ks,lookK e.mem=some ks→σ.heap.length=τ.heap.length∧∀ id,ks.contains id=true→bcells σ.heap id=bcells τ.heap id):callGo call τ f vs ids ps=some e:=by
 unfold callGo at he ⊢;simp only at he ⊢;split at he
 ·rename_i hd
  rw[if_pos hd];split at he
  ·exact he
  ·injection he with he;subst he
   exact absurd rfl (hc _)
  ·cases he
 ·rename_i hd
  rw[if_neg hd];generalize hks:reach (setPlaces σ ps).heap (setPlaces σ ps).heap.length (ids++argIds vs)=ks at he;split at he
  ·rename_i hcl
   split at he
   ·rename_i r H' hcall
    split at he
    ·rename_i hdead
     split at he
     ·rename_i hlen
      injection he with he;have hm:e.mem=.put ks H':=by rw[←he]
      obtain⟨q1,q2⟩:=hput ks (by rw[hm];rfl)
      have l1:(setPlaces σ ps).heap.length=(setPlaces τ ps).heap.length:=by rw[(bcells_setPlaces ps σ 0).2,(bcells_setPlaces ps τ 0).2,q1]
      have l2:∀ id,ks.contains id=true→bcells (setPlaces σ ps).heap id=bcells (setPlaces τ ps).heap id:=fun id hid=>by
       rw[(bcells_setPlaces ps σ id).1,(bcells_setPlaces ps τ id).1,q2 id hid]
      have e1:reach (setPlaces τ ps).heap (setPlaces τ ps).heap.length (ids++argIds vs)=ks:=by
       rw[←l1,reach_same _ _ (fun i hi=>l2 i (by rw[←hks];simpa using hi)),hks]
      rw[e1,closedK_same l2,if_pos hcl,maskH_same l1 l2,hcall];simp only;rw[←l1,if_pos hdead,if_pos hlen,he]
     ·injection he with he;subst he
      exact absurd rfl (hc _)
    ·cases he
   ·cases he
  ·cases he
theorem callAt_same {call:CallF} {f:V} {args:List V} {ps:List (Place×V)} {e:Eff} (he:callAt call σ f args ps=some e) (hc:∀ H,e.mem≠.all H)
  (hput:∀ ks,lookK e.mem=some ks→σ.heap.length=τ.heap.length∧∀ id,ks.contains id=true→bcells σ.heap id=bcells τ.heap id):callAt call τ f args ps=some e:=by
 unfold callAt at he ⊢;split at he
 ·split at he
  ·rename_i hl;simp only[hl,if_true];exact callGo_same he hc hput
  ·cases he
 ·exact callGo_same he hc hput
 ·cases he
theorem vbin_same {op:BinOp} {i:TI} {b:Bool} {X Y:V} (c1:nilness σ X=nilness τ X) (c2:nilness σ Y=nilness τ Y):vbin op i b σ X Y=vbin op i b τ X Y:=by
 unfold vbin;split<;>first
  | rfl
  | rw[c1,c2]
theorem eff_same {T:Types} {call:CallF} {cx:Cx} {fr:Nat} {o:Oper} {e:Eff} (he:eff T call cx fr o σ=some e) (hc:calm o e=true∨Eqv σ τ) (h:Same (derefs o) o.op.operands.toList σ τ)
  (hput:∀ ks,lookK e.mem=some ks→σ.heap.length=τ.heap.length∧∀ id,ks.contains id=true→bcells σ.heap id=bcells τ.heap id)
  (hfr:isFresh o=true→σ.heap.length=τ.heap.length∧bcells σ.heap fr=bcells τ.heap fr):eff T call cx fr o τ=some e:=by
 have mem:∀ x,x∈o.op.operands→x∈o.op.operands.toList:=fun x hx=>by simpa using hx
 cases ho:o.op<;>simp only[ho,Go.Op.operands] at h
 case move x =>
  simp only[eff,ho] at he ⊢;unfold moveAt at he ⊢;rw[←h.opd x (by simp)];exact he
 case pick c x y =>
  simp only[eff,ho] at he ⊢;rw[←h.opd c (by simp),←h.opd x (by simp),←h.opd y (by simp)];exact he
 case load t x =>
  simp only[eff,ho] at he ⊢;cases hT:T t<;>simp only[hT] at he ⊢
  ·exact he
  ·rw[←loadAt_same (by simpa [derefs,ho] using h) (by simp)];exact he
 case nilCheck x =>
  simp only[eff,ho] at he ⊢;rw[←h.opd x (by simp)];exact he
 case unOp op t x =>
  simp only[eff,ho] at he ⊢;rw[←h.opd x (by simp)];exact he
 case convert s t x =>
  simp only[eff,ho] at he ⊢;rw[←h.opd x (by simp)];exact he
 case fieldAddr t p f =>
  simp only[eff,ho] at he ⊢;rw[←h.opd p (by simp)];exact he
 case field t p f =>
  simp only[eff,ho] at he ⊢;rw[←h.opd p (by simp)];exact he
 case assign x =>
  simp only[eff,ho] at he ⊢;cases hd:o.dst<;>simp only[hd] at he ⊢
  ·exact he
  ·unfold assignAt at he ⊢
   rw[←h.opd x (by simp)]
   cases hv:opd σ.env x<;>simp only[hv] at he ⊢<;>try exact he
   ·rename_i b ys
    cases b<;>cases ys<;>exact he
   ·rw[←h.look x (by simp) _ (by rw[hv];simp[V.refsTo])];exact he
 case alloc t =>
  simp only[eff,ho] at he ⊢;obtain⟨h1,h2⟩:=hfr (by simp[isFresh,ho])
  rw[←h1,←h2];exact he
 case box t x =>
  simp only[eff,ho] at he ⊢;obtain⟨h1,h2⟩:=hfr (by simp[isFresh,ho])
  rw[←h1,←h2,←take_same h (by simp)];exact he
 case build t ps =>
  simp only[eff,ho] at he ⊢;cases hT:T t<;>cases ht:takes take σ ps.toList<;>simp only[hT,ht] at he<;>try (cases he;done)
  rename_i i vp;obtain⟨vs,qs⟩:=vp;rcases hc with hc | hc
  case inr=>rw[←takes_eqv (f:=take) (fun _ _ x h=>take_same (h.same [x]) (by simp)) ps.toList hc,ht];exact he
  have hq:qs=[]:=by
   simp only[calm,ho,Bool.and_eq_true,List.isEmpty_iff] at hc;simp only at he;cases hk:i.kind<;>simp only[hk] at he<;>try (cases he;done)
   ·rename_i n el
    cases hel:T el<;>simp only[hel] at he
    ·cases he
    ·split at he
     ·injection he with he;subst he;exact hc.2
     ·cases he
   ·rename_i fs
    split at he
    ·cases he
    ·split at he
     ·injection he with he;subst he;exact hc.2
     ·cases he
  subst hq;rw[takes_nil (fun x hx=>take_same h hx) ps.toList vs (fun x hx=>by simpa using ⟨x.1,by simpa using hx⟩) ht]
  exact he
 case buildSlice t n ps =>
  simp only[eff,ho] at he ⊢;have e1:Eqv σ τ→takes takeDat σ ps.toList=takes takeDat τ ps.toList:=fun hq=>takes_eqv (f:=takeDat) (fun _ _ x h=>takeDat_same (h.same [x]) (by simp)) ps.toList hq
  have e2:Eqv σ τ→takes takeMap σ ps.toList=takes takeMap τ ps.toList:=fun hq=>takes_eqv (f:=takeMap) (fun _ _ x h=>takeMap_same (h.same [x]) (by simp)) ps.toList hq
  cases hk:kindOf T t<;>cases ht:takes takeDat σ ps.toList<;>simp only[hk,ht] at he<;>try (cases he;done)
  ·rename_i k
   cases k<;>simp only at he<;>try (cases he;done)
   rename_i el;rcases hc with hc | hc
   ·unfold buildRef at he
    split at he
    ·split at he
     ·injection he with he;subst he;simp[calm] at hc
     ·cases he
    ·cases he
   ·rw[←e1 hc,ht]
    simp only;unfold buildRef at he ⊢;rw[←e2 hc,←hc.2];exact he
  ·rename_i k vp
   obtain⟨vs,qs⟩:=vp;rcases hc with hc | hc
   case inr=>rw[←takes_eqv (f:=takeDat) (fun _ _ x h=>takeDat_same (h.same [x]) (by simp)) ps.toList hc,ht];cases k<;>simp only at he ⊢<;>first | exact he | (cases he;done)
   have hq:qs=[]:=by
    simp only[calm,ho,Bool.and_eq_true,List.isEmpty_iff] at hc;cases k<;>simp only at he<;>try (cases he;done)
    rename_i el;cases hel:T el<;>simp only[hel] at he
    ·cases he
    ·split at he
     ·injection he with he;subst he;exact hc.2
     ·cases he
   subst hq;rw[takes_nil (fun x hx=>takeDat_same h hx) ps.toList vs (fun x hx=>by simpa using ⟨x.1,by simpa using hx⟩) ht]
   cases k<;>simp only at he ⊢<;>first | exact he | (cases he;done)
 case store t p x =>
  simp only[eff,ho] at he ⊢;cases hT:T t<;>simp only[hT] at he ⊢
  ·exact he
  ·rw[←storeAt_same (by simpa [derefs,ho] using h) (by simp) (by simp)];exact he
 case binOp op t x y g =>
  simp only[eff,ho] at he ⊢;cases hT:T t<;>simp only[hT] at he ⊢
  ·exact he
  ·rename_i i
   have hb:vbinop op i (isConst x || isConst y) σ (opd σ.env x) (opd σ.env y)=vbinop op i (isConst x || isConst y) τ (opd τ.env x) (opd τ.env y):=by
    have c1:=nilness_same h (x:=x) (by simp)
    have c2:=nilness_same h (x:=y) (by simp)
    rw[←h.opd x (by simp),←h.opd y (by simp)] at *
    unfold vbinop;cases i.kind.isAgg
    ·exact vbin_same c1 c2
    ·rfl
   rw[←hb];exact he
 case makeFunc fn first captured =>
  simp only[eff,ho] at he ⊢;have e1:first.toList.map (opd τ.env)=first.toList.map (opd σ.env):=List.map_congr_left fun x hx=>(h.opd x (by simp;left;simpa using hx)).symm
  have e2:captured.toList.map (opd τ.env)=captured.toList.map (opd σ.env):=List.map_congr_left fun x hx=>(h.opd x (by simp;right;simpa using hx)).symm
  rw[e1,e2];exact he
 case slice t x lo hi mx =>
  simp only[eff,ho] at he ⊢;have e1:sliceAt T τ t x lo hi mx=sliceAt T σ t x lo hi mx:=by
   unfold sliceAt;rw[←h.opd x (by simp)]
   cases kindOf T t with
   | none=>rfl
   | some k =>
    cases k<;>simp only
    cases hv:opd σ.env x<;>simp only
    rw[←numOf_same h (o:=lo) (fun y hy=>by simp[hy]),←numOf_same h (o:=hi) (fun y hy=>by simp[hy])]
    cases mx with
    | none=>rfl
    | some m=>simp only[←numOf_same h (o:=some m) (fun y hy=>by simp at hy;simp[hy])]
  rw[e1];exact he
 case indexAddr t x k =>
  simp only[eff,ho] at he ⊢;rw[←h.opd k (by simp)]
  cases hT:T t<;>cases hk:opd σ.env k<;>simp only[hT,hk] at he ⊢<;>try exact he
  rw[←indexAt_same h (by simp)];exact he
 case index t x k =>
  simp only[eff,ho] at he ⊢;rw[←h.opd k (by simp),←h.opd x (by simp)];exact he
 case extract x j =>
  simp only[eff,ho] at he ⊢;rw[←h.opd x (by simp)];exact he
 case makeMap t n =>
  simp only[eff,ho] at he ⊢;obtain⟨h1,h2⟩:=hfr (by simp[isFresh,ho])
  rw[←h1,←h2];cases hk:kindOf T t with
  | none=>simp[hk] at he
  | some kk =>
   cases n with
   | none=>cases kk<;>simp only[hk] at he ⊢<;>exact he
   | some n=>cases kk<;>simp only[hk] at he ⊢<;>first | exact he | (rw[←h.opd n (by simp)];exact he)
 case insert t m k x =>
  simp only[eff,ho] at he ⊢;rw[←updateAt_same (by simpa [derefs,ho] using h) (by simp) (by simp) (by simp)];exact he
 case mapUpdate t m k x =>
  simp only[eff,ho] at he ⊢;rw[←updateAt_same (by simpa [derefs,ho] using h) (by simp) (by simp) (by simp)];exact he
 case lookup t m k ok =>
  simp only[eff,ho] at he ⊢;rw[←lookupAt_same (by simpa [derefs,ho] using h) (by simp) (by simp)];exact he
 case makeSlice t l c =>
  simp only[eff,ho] at he ⊢;rw[←h.opd l (by simp),←h.opd c (by simp)];exact he
 case call c =>
  simp only[eff,ho] at he ⊢;cases hcal:c.callee with
  | invoke x m=>simp[hcal] at he
  | builtin b =>
   have hargs:∀ x,x∈c.args.toList→x∈c.operands.toList:=fun x hx=>by simp[Call.operands];exact .inr (by simpa using hx)
   simp only[hcal] at he ⊢;cases b<;>simp only[builtinAt] at he ⊢<;>try (cases he;done)
   ·unfold appendAt at he ⊢
    split at he<;>try (cases he;done)
    rename_i s x t tx ha ht;rw[ha] at hargs
    try simp only[ha,ht]
    split at he<;>try (cases he;done)
    rename_i el el' k1 k2
    try simp only[k1,k2]
    cases hel:T el<;>simp only[hel] at he ⊢
    ·exact he
    ·rw[←base_same h (hargs s (by simp)),←contentT_same (by simpa [derefs,ho,hcal] using h) (hargs x (by simp))];exact he
   ·unfold lenAt at he ⊢
    split at he<;>try (cases he;done)
    rename_i x t ha ht;rw[ha] at hargs
    try simp only[ha,ht]
    have hm:=mapView_same (by simpa [derefs,ho,hcal] using h) (hargs x (by simp))
    rw[←lenV_same h (hargs x (by simp)),←hm,←h.opd x (hargs x (by simp))];exact he
   ·unfold mmAt at he ⊢
    split at he<;>try (cases he;done)
    rename_i x y ha;rw[ha] at hargs
    try simp only[ha]
    rw[←h.opd x (hargs x (by simp)),←h.opd y (hargs y (by simp))];exact he
   ·unfold mmAt at he ⊢
    split at he<;>try (cases he;done)
    rename_i x y ha;rw[ha] at hargs
    try simp only[ha]
    rw[←h.opd x (hargs x (by simp)),←h.opd y (hargs y (by simp))];exact he
  | value f =>
   have hargs:∀ x,x∈c.args.toList→x∈c.operands.toList:=fun x hx=>by simp[Call.operands];exact .inr (by simpa using hx)
   have hf:f∈c.operands.toList:=by simp[Call.operands,hcal]
   simp only[hcal] at he ⊢;rw[←views_same h c.args.toList hargs,←h.opd f hf];cases htold:toldOf cx (opd σ.env f) with
   | some sz =>
    simp only[htold] at he ⊢;unfold deleteAt at he ⊢;split at he<;>try (cases he;done)
    rename_i x i j ha;rw[ha] at hargs
    try simp only[ha]
    rw[←base_same h (hargs x (by simp)),←h.opd i (hargs i (by simp)),←h.opd j (hargs j (by simp))];exact he
   | none =>
   simp only[htold] at he ⊢;cases hnw:isNews cx c with
   | some n =>
    simp only[hnw] at he ⊢;unfold newsAt at he ⊢;rw[←views_same h c.args.toList hargs];split at he
    case h_2=>cases he
    split at he
    case isFalse=>cases he
    rename_i hlt;simp only[hlt,if_true];unfold newsGo at he ⊢;split at he
    case isFalse=>cases he
    rename_i hcnd;rw[if_pos hcnd];split at he
    case h_3=>cases he
    ·exact he
    ·split at he
     case isFalse=>cases he
     rename_i hfree;obtain⟨p1,p2⟩:=hput (newIds fr n) (by injection he with he;subst he;rfl)
     rw[←p1];have hq:(newIds fr n).all (fun id=>(bcells τ.heap id).isNone)=(newIds fr n).all fun id=>(bcells σ.heap id).isNone:=by
      rw[Bool.eq_iff_iff,List.all_eq_true,List.all_eq_true];exact forall_congr' fun id=>forall_congr' fun hid=>by rw[p2 id (by simpa using hid)]
     rw[hq,if_pos hfree];exact he
   | none =>
   simp only[hnw] at he ⊢;cases hgl:glanceOf cx (opd σ.env f) with
   | some g =>
    simp only[hgl] at he ⊢;unfold glanceAt at he ⊢;cases hg:glances σ c.args.toList with
    | none=>simp[hg] at he
    | some vk =>
     obtain⟨vs,ks⟩:=vk;simp only[hg] at he;have hk:∀ id,ks.contains id=true→bcells σ.heap id=bcells τ.heap id:=by
      rcases hc with hc | hc
      ·split at he
       ·injection he with he
        exact (hput ks (by rw[←he];rfl)).2
       ·cases he
      ·intro id _;rw[hc.2]
     rw[glances_same h c.args.toList hargs hg hk];exact he
   | none =>
   have hlo:=lendOf_same (cx:=cx) h hf hargs;rw[←h.opd f hf] at hlo;have rest0:(match views σ c.args.toList with | some (vs,ps)=>callAt call σ (opd σ.env f) vs ps | none=>none)=some e →
     (match views σ c.args.toList with | some (vs,ps)=>callAt call τ (opd σ.env f) vs ps | none=>none)=some e:=fun he=>by
    cases hv:views σ c.args.toList with
    | none=>simp[hv] at he
    | some vp =>
     obtain⟨vs,ps⟩:=vp;simp only[hv] at he ⊢;rcases hc with hc | hc
     case inr =>
      have hh:=(hc.setPlaces ps).2;unfold callAt callGo at he ⊢;simp only[hh] at he ⊢;exact he
     refine callAt_same he (fun H hH=>?_) hput
     simp[calm,hH] at hc
   cases hlo1:lendOf cx σ (opd σ.env f) c.args.toList with
   | none=>rw[hlo1] at hlo;simp only[hgl,hlo1,←hlo] at he ⊢;exact rest0 he
   | some q =>
    obtain⟨g,k,p,sz,l,rest⟩:=q;rw[hlo1] at hlo;cases l with
    | nil=>simp only[hgl,hlo1,←hlo] at he ⊢;exact rest0 he
    | cons x0 xs0 =>
     simp only[hgl,hlo1,←hlo] at he ⊢;rcases hc with hc | hc
     ·unfold lendAt at he
      simp only at he;split at he
      case h_2=>cases he
      split at he
      case isFalse=>cases he
      split at he
      case h_2=>cases he
      split at he
      case isFalse=>cases he
      split at he
      case h_2=>cases he
      split at he
      case isFalse=>cases he
      injection he with he;subst he;simp[calm] at hc
     ·unfold lendAt at he ⊢
      have hq:=hc.setPlace p .undef;simp only[←views_same (hq.same rest) rest (fun x hx=>hx)] at he ⊢
      cases hv1:views (setPlace σ p .undef) rest with
      | none=>simp[hv1] at he
      | some vp =>
       obtain⟨vs,ps⟩:=vp;simp only[hv1] at he ⊢;simp only[←(hq.setPlaces ps).2];exact he
 all_goals (simp[eff,ho] at he)
end
end Go.Vm
end
section
namespace Go.Vm
open Go
theorem refRes_of {v:V} {p:Place} (h:v.refsTo p=true):plRes p∈refRes v:=by
 cases v<;>simp[V.refsTo] at h<;>subst h<;>simp[refRes]
def lastAt (t:Nat):List (Place×V)→Option V
 | []=>none
 | (p,v)::ps=>match lastAt t ps with
  | some x=>some x
  | none=>if p=.slot t then some v else none
def killedBy (ps:List (Place×V)) (x:V):Bool:=ps.any fun y=>x.refsTo y.1
def HE.loose:HE→Bool
 | .all _=>true
 | .lent _ _ _ _ _=>true
 | _=>false
def memKills:HE→V→Bool
 | .keep,_=>false
 | .set id off cs,.lent (.cell i o)=>decide (i=id∧off≤o∧o<off+cs.length)
 | .set id off cs,.xptr (.cell i o) _ _=>decide (i=id∧off≤o∧o<off+cs.length)
 | .set _ _ _,_=>false
 | .init _ _,_=>false
 | .all _,.lent (.cell _ _)=>true
 | .all _,.xptr (.cell _ _) _ _=>true
 | .all _,_=>false
 | .put ks _,.lent (.cell i _)=>ks.contains i
 | .put ks _,.xptr (.cell i _) _ _=>ks.contains i
 | .put _ _,_=>false
 | .lent _ _ _ _ _,_=>false
 | .seen _,_=>false
 | .elem _ _ _,_=>false
theorem refsTo_nonway {v:V} (h:isWay v=false) (p:Place):v.refsTo p=false:=by cases v<;>first | rfl | (simp[isWay] at h)
section
variable {σ τ:St}
theorem get_setPlace (p:Place) (v:V) (t:Nat):get (setPlace σ p v).env t=if p=.slot t then v else if (get σ.env t).refsTo p then .undef else get σ.env t:=by
 cases p with
 | slot u =>
  simp only[setPlace];by_cases h:u=t
  ·subst h;simp[get_cons_same]
  ·have hne:¬ Place.slot u=Place.slot t:=by simp[h]
   rw[get_cons_ne _ _ h,get_kill];simp only[hne,if_false]
 | cell id off =>
  have hne:¬ Place.cell id off=Place.slot t:=by simp
  simp only[setPlace,get_kill,hne,if_false]
theorem get_setPlaces:∀ (ps:List (Place×V)) (σ:St) (t:Nat),(∀ x∈ps,isWay x.2=false) →
  get (setPlaces σ ps).env t=match lastAt t ps with | some v=>v | none=>if killedBy ps (get σ.env t) then .undef else get σ.env t
 | [],σ,t,_=>by simp[setPlaces,lastAt,killedBy]
 | (p,v)::ps,σ,t,h=>by
  simp only[setPlaces,lastAt];rw[get_setPlaces ps (setPlace σ p v) t (fun x hx=>h x (by simp[hx]))]
  have hv:=h (p,v) (by simp)
  simp only at hv;cases lastAt t ps with
  | some x=>rfl
  | none =>
   simp only;rw[get_setPlace];by_cases hp:p=.slot t
   ·have hk:killedBy ps v=false:=by
     simp only[killedBy,List.any_eq_false];intro y _;rw[refsTo_nonway hv];simp
    simp only[if_pos hp,hk,Bool.false_eq_true,if_false]
   ·rw[if_neg hp]
    by_cases hr:(get σ.env t).refsTo p=true
    ·have hk:killedBy ((p,v)::ps) (get σ.env t)=true:=by simp only[killedBy,List.any_cons,hr,Bool.true_or]
     have hu:killedBy ps .undef=false:=by simp[killedBy,V.refsTo]
     rw[if_pos hr,hk,hu];simp only[hp,if_false,if_true,Bool.false_eq_true]
    ·have hk:killedBy ((p,v)::ps) (get σ.env t)=killedBy ps (get σ.env t):=by
      have:(get σ.env t).refsTo p=false:=by simpa using hr
      simp only[killedBy,List.any_cons,this,Bool.false_or]
     rw[if_neg hr,hk];simp only[hp,if_false]
theorem get_setMem (m:HE) (hm:m.loose=false) (t:Nat):get (setMem σ m).env t=if memKills m (get σ.env t) then .undef else get σ.env t:=by
 cases m with
 | keep=>simp[setMem,memKills]
 | init id cs=>simp[setMem,memKills]
 | lent ks n p v H=>cases hm
 | seen ks=>simp[setMem,memKills]
 | elem id off v =>
  simp only[setMem,memKills];cases bcells σ.heap id<;>simp
 | set id off cs =>
  simp only[setMem];rw[get_map (killIn id off cs.length) rfl];cases hv:get σ.env t with
  | lent p=>cases p<;>simp[killIn,memKills]
  | xptr p i o=>cases p<;>simp[killIn,memKills]
  | _=>simp[killIn,memKills]
 | all H =>
  simp only[setMem];rw[get_map killCell rfl];cases hv:get σ.env t with
  | lent p=>cases p<;>simp[killCell,memKills]
  | xptr p i o=>cases p<;>simp[killCell,memKills]
  | _=>simp[killCell,memKills]
 | put ks H =>
  simp only[setMem];rw[get_map (killCellsIn ks) rfl];cases hv:get σ.env t with
  | lent p=>cases p<;>simp[killCellsIn,memKills]
  | xptr p i o=>cases p<;>simp[killCellsIn,memKills]
  | _=>simp[killCellsIn,memKills]
theorem get_put (d:Option Nat) (v:V) (t:Nat):get (put σ d v).env t=if d=some t then v else if (match d with | some d=>(get σ.env t).refsTo (.slot d) | none=>false) then .undef else get σ.env t:=by
 cases d with
 | none=>simp[put]
 | some d =>
  simp only[put];by_cases h:d=t
  ·subst h;simp[get_cons_same]
  ·have hne:¬ some d=some t:=by simp[h]
   rw[get_cons_ne _ _ h,get_kill];simp only[hne,if_false]
def poked (e:Eff) (t:Nat) (v:V):V:=match e.poke with
 | some (u,w)=>if u=t then w else v
 | none=>v
theorem get_poke (e:Eff) (t:Nat):get (pokeS σ e.poke).env t=poked e t (get σ.env t):=by
 unfold poked;cases e.poke with
 | none=>rfl
 | some y =>
  simp only[pokeS];split
  ·rename_i h;subst h;exact get_cons_same _ _ _
  ·rename_i h;exact get_cons_ne _ _ h
def kills (d:Option Nat) (e:Eff) (x:V):Bool:=killedBy e.places x || memKills e.mem x || (match d with | some d=>x.refsTo (.slot d) | none=>false)
def told (d:Option Nat) (e:Eff) (t:Nat):Option V:=if d=some t then some e.val else lastAt t e.places
theorem lastAt_mem {t:Nat}:∀ {ps:List (Place×V)} {v:V},lastAt t ps=some v→(Place.slot t,v)∈ps
 | [],v,h=>by simp[lastAt] at h
 | (p,u)::ps,v,h=>by
  simp only[lastAt] at h;cases hl:lastAt t ps with
  | some x=>simp only[hl] at h;injection h with h;subst h;exact List.mem_cons_of_mem _ (lastAt_mem hl)
  | none =>
   simp only[hl] at h;split at h
   ·rename_i hp;injection h with h;subst h;subst hp;simp
   ·cases h
theorem memKills_nonway {m:HE} {v:V} (h:isWay v=false):memKills m v=false:=by
 cases m<;>cases v<;>first | rfl | (simp[isWay] at h;done) | (simp[memKills])
theorem get_apply (d:Option Nat) (e:Eff) (hm:e.mem.loose=false) (he:∀ x∈e.places,isWay x.2=false) (t:Nat) :
  get (apply σ d e).env t=match told d e t with | some v=>v | none=>if kills d e (poked e t (get σ.env t)) then .undef else poked e t (get σ.env t):=by
 unfold apply told;rw[get_put,get_setMem _ hm,get_setPlaces _ _ _ he,get_poke];generalize poked e t (get σ.env t)=gv;by_cases hd:d=some t
 ·simp[hd]
 ·simp only[if_neg hd]
  cases hl:lastAt t e.places with
  | some v =>
   simp only;have hv:isWay v=false:=he (.slot t,v) (lastAt_mem hl);rw[memKills_nonway hv];cases d<;>simp[refsTo_nonway hv]
  | none =>
   simp only[kills];have hu:memKills e.mem .undef=false:=memKills_nonway rfl;by_cases h1:killedBy e.places gv=true
   ·simp only[h1,if_true,hu,Bool.false_eq_true,if_false,Bool.true_or]
    cases d<;>simp[V.refsTo]
   ·by_cases h2:memKills e.mem gv=true
    ·simp only[h1,h2,Bool.false_eq_true,if_false,if_true,Bool.or_true,Bool.true_or]
     cases d<;>simp[V.refsTo]
    ·simp only[h1,h2,Bool.false_eq_true,if_false,Bool.false_or]
theorem told_writes {d:Option Nat} {e:Eff} {t:Nat} {v:V} (h:told d e t=some v):Res.slot t∈writes d e∧Res.body t∈writes d e:=by
 unfold told at h;unfold writes;split at h
 ·rename_i hd;subst hd;simp
 ·have:=lastAt_mem h
  simp only[List.mem_append,List.mem_flatMap];exact⟨.inl (.inl (.inr ⟨_,this,by simp[plRes]⟩)),.inl (.inl (.inr ⟨_,this,by simp[bodyRes]⟩))⟩
theorem kills_writes {d:Option Nat} {e:Eff} (hm:e.mem.loose=false) {x:V} (h:kills d e x=true):∃ r∈refRes x,r∈writes d e:=by
 unfold kills at h;simp only[Bool.or_eq_true] at h;unfold writes;rcases h with (h | h) | h
 ·simp only[killedBy,List.any_eq_true] at h
  obtain⟨y,hy,hr⟩:=h;refine⟨_,refRes_of hr,?_⟩;simp only[List.mem_append,List.mem_flatMap];exact .inl (.inl (.inr ⟨y,hy,by simp⟩))
 ·cases hmm:e.mem with
  | keep=>simp[hmm,memKills] at h
  | seen ks=>simp[hmm,memKills] at h
  | elem id off v=>simp[hmm,memKills] at h
  | init id cs=>simp[hmm,memKills] at h
  | all H=>rw[hmm] at hm;cases hm
  | lent ks n p v H=>rw[hmm] at hm;cases hm
  | put ks H =>
   rw[hmm] at h;cases x<;>simp only[memKills] at h<;>try (cases h;done)
   ·rename_i p i o
    cases p with
    | slot t=>simp[memKills] at h
    | cell i' o'=>exact⟨.blk i',by simp[refRes,plRes],by simp[memKills] at h;simp[h]⟩
   ·rename_i p
    cases p with
    | slot t=>simp[memKills] at h
    | cell i' o'=>exact⟨.blk i',by simp[refRes,plRes],by simp[memKills] at h;simp[h]⟩
  | set id off cs =>
   rw[hmm] at h;cases x<;>simp only[memKills] at h<;>try (cases h;done)
   ·rename_i p i o
    cases p<;>simp[memKills] at h
    exact⟨.blk id,by simp[refRes,plRes,h.1],by simp⟩
   ·rename_i p
    cases p<;>simp[memKills] at h
    exact⟨.blk id,by simp[refRes,plRes,h.1],by simp⟩
 ·cases d with
  | none=>simp at h
  | some d=>exact⟨.slot d,refRes_of (p:=.slot d) h,by simp⟩
end
end Go.Vm
end
section
namespace Go.Vm
open Go
section
variable {σ τ:St}
def memB (m:HE) (n id:Nat) (c:Option (List V)):Option (List V) :=
 match m with
 | .set i off vs=>if i=id then c.map (fun cs=>setCells cs off vs) else c
 | .init i vs=>if i=id∧i<n then some vs else c
 | .put ks H=>if id<n∧ks.contains id=true then bcells H id else c
 | .elem i off v=>if i=id then c.map (fun cs=>cs.set off v) else c
 | _=>c
theorem bcells_setB {H:Heap} (id:Nat) (cs:List V) (i:Nat):bcells (H.set id (.cells cs)) i=if id=i∧id<H.length then some cs else bcells H i:=by
 by_cases h:id<H.length
 ·rw[bcells_set h]
  by_cases hi:i=id
  ·subst hi;simp[h]
  ·rw[if_neg hi,if_neg (by simp[Ne.symm hi])]
 ·rw[List.set_eq_of_length_le (by omega),if_neg (by simp[h])]
theorem bcells_apply (d:Option Nat) (e:Eff) (hm:e.mem.loose=false) (id:Nat) :
  bcells (apply σ d e).heap id=memB e.mem σ.heap.length id (placesB id e.places (bcells σ.heap id))∧(apply σ d e).heap.length=σ.heap.length:=by
 unfold apply;rw[put_heap];obtain⟨h1,h2⟩:=bcells_setPlaces e.places (pokeS σ e.poke) id;have hp:(pokeS σ e.poke).heap=σ.heap:=by cases e.poke<;>rfl
 rw[hp] at h1 h2;cases hmm:e.mem with
 | keep=>exact⟨h1,h2⟩
 | seen ks=>exact⟨h1,h2⟩
 | elem i off v =>
  simp only[setMem,memB];cases hc:bcells (setPlaces (pokeS σ e.poke) e.places).heap i with
  | none =>
   refine⟨?_,h2⟩;simp only;rw[h1];by_cases hi:i=id
   ·subst hi;rw[h1] at hc;rw[hc];simp
   ·rw[if_neg hi]
  | some ds =>
   refine⟨?_,by simp[h2]⟩
   simp only;rw[bcells_set (bcells_lt hc),h1];by_cases hi:i=id
   ·subst hi;rw[h1] at hc;rw[hc];simp
   ·rw[if_neg (Ne.symm hi),if_neg hi]
 | all H=>rw[hmm] at hm;cases hm
 | lent ks n p v H=>rw[hmm] at hm;cases hm
 | put ks H =>
  refine⟨?_,by simp only[setMem,putH_length,h2]⟩
  simp only[setMem,memB];rw[bcells_put1,h1,h2]
 | init i vs =>
  refine⟨?_,by simp[setMem,h2]⟩
  simp only[setMem,memB];rw[bcells_setB,h1,h2]
 | set i off vs =>
  simp only[setMem,memB];cases hc:bcells (setPlaces (pokeS σ e.poke) e.places).heap i with
  | none =>
   refine⟨?_,h2⟩;simp only;rw[h1];by_cases hi:i=id
   ·subst hi;rw[h1] at hc;rw[hc];simp
   ·rw[if_neg hi]
  | some ds =>
   refine⟨?_,by simp[h2]⟩
   simp only;rw[bcells_set (bcells_lt hc),h1];by_cases hi:i=id
   ·subst hi;rw[h1] at hc;rw[hc];simp
   ·rw[if_neg (Ne.symm hi),if_neg hi]
theorem placesB_none {id:Nat}:∀ {ps:List (Place×V)} {c:Option (List V)},(∀ x∈ps,plRes x.1≠.blk id)→placesB id ps c=c
 | [],c,_=>rfl
 | (.slot t,v)::ps,c,h=>by
  show placesB id ps c=c
  exact placesB_none (ps:=ps) (fun x hx=>h x (List.mem_cons_of_mem _ hx))
 | (.cell i off,v)::ps,c,h=>by
  have hne:i≠id:=fun hi=>h (.cell i off,v) (by simp) (by simp[plRes,hi])
  simp only[placesB,if_neg hne];exact placesB_none (ps:=ps) (fun x hx=>h x (List.mem_cons_of_mem _ hx))
theorem bcells_apply_none {d:Option Nat} {e:Eff} {id:Nat} (hw:Res.blk id∉writes d e) {n:Nat} (c:Option (List V)):memB e.mem n id (placesB id e.places c)=c:=by
 unfold writes at hw;simp only[List.mem_append,List.mem_flatMap,List.mem_cons,not_or,not_exists,not_and] at hw;rw[placesB_none (fun x hx he=>(hw.1.1.2 x hx).1 he.symm)]
 cases hm:e.mem with
 | keep=>rfl
 | seen _=>rfl
 | elem i off v =>
  have:i≠id:=fun hi=>hw.2 (by simp[hm,hi])
  simp[memB,this]
 | all H=>rfl
 | lent _ _ _ _ _=>rfl
 | put ks H =>
  have:ks.contains id=false:=by
   cases hk:ks.contains id with
   | false=>rfl
   | true=>exact absurd (by simp[hm];simpa using hk) hw.2
  simp only[memB,this,Bool.false_eq_true,and_false,if_false]
 | init i vs =>
  have:i≠id:=fun hi=>hw.2 (by simp[hm,hi])
  simp[memB,this]
 | set i off vs =>
  have:i≠id:=fun hi=>hw.2 (by simp[hm,hi])
  simp[memB,this]
structure Tame (e:Eff):Prop where
 ways:∀ x∈e.places,isWay x.2=false
 poke:∀ t v,e.poke=some (t,v)→isEx v=true
 all:e.mem.loose=false
theorem kills_undef {d:Option Nat} {e:Eff}:kills d e .undef=false:=by
 unfold kills;rw[memKills_nonway rfl];cases d<;>simp[killedBy,V.refsTo]
theorem told_safe {d1 d2:Option Nat} {e1 e2:Eff} (h1:Tame e1) (h2:Tame e2) (hv:∀ r∈refRes e1.val,r∉writes d2 e2) {t:Nat} {v:V} (ht:told d1 e1 t=some v):kills d2 e2 v=false:=by
 cases hk:kills d2 e2 v with
 | false=>rfl
 | true =>
  obtain⟨r,hr1,hr2⟩:=kills_writes h2.all hk;unfold told at ht;split at ht
  ·injection ht with ht;subst ht;exact absurd hr2 (hv r hr1)
  ·have:=h1.ways _ (lastAt_mem ht)
   simp only at this;have hkk:kills d2 e2 v=false:=by
    unfold kills;rw[memKills_nonway this];cases d2<;>simp[killedBy,refsTo_nonway this]
   rw[hkk] at hk;cases hk
theorem kills_ex {d:Option Nat} {e:Eff} {v:V} (h:isEx v=true):kills d e v=false:=by
 cases v<;>simp[isEx] at h
 unfold kills;rw[memKills_nonway rfl];cases d<;>simp[killedBy,V.refsTo]
theorem poke_writes {d:Option Nat} {e:Eff} {t:Nat} {v:V} (h:e.poke=some (t,v)):Res.body t∈writes d e:=by
 unfold writes;rw[h];simp
theorem poked_none {d:Option Nat} {e:Eff} {t:Nat} (h:Res.body t∉writes d e) (v:V):poked e t v=v:=by
 unfold poked;cases hp:e.poke with
 | none=>rfl
 | some y =>
  obtain⟨u,w⟩:=y;simp only;rw[if_neg (fun (hu:u=t)=>h (hu▸poke_writes hp))]
theorem poked_cases (e:Eff) (t:Nat):(∃ w,e.poke=some (t,w)∧∀ v,poked e t v=w)∨∀ v,poked e t v=v:=by
 unfold poked;cases hp:e.poke with
 | none=>exact .inr fun _=>rfl
 | some y =>
  obtain⟨u,w⟩:=y;by_cases hu:u=t
  ·subst hu;exact .inl ⟨w,rfl,fun v=>by simp⟩
  ·exact .inr fun v=>by simp[hu]
theorem comm {d1 d2:Option Nat} {e1 e2:Eff} (h1:Tame e1) (h2:Tame e2) (hw:∀ r∈writes d1 e1,r∉writes d2 e2) (hv1:∀ r∈refRes e1.val,r∉writes d2 e2) (hv2:∀ r∈refRes e2.val,r∉writes d1 e1) :
  Eqv (Vm.apply (Vm.apply σ d1 e1) d2 e2) (Vm.apply (Vm.apply σ d2 e2) d1 e1):=by
 refine⟨fun t=>?_,heap_ext ?_ fun id=>?_⟩
 ·rw[get_apply d2 e2 h2.all h2.ways,get_apply d1 e1 h1.all h1.ways,get_apply d1 e1 h1.all h1.ways,get_apply d2 e2 h2.all h2.ways]
  cases ht1:told d1 e1 t with
  | some v1 =>
   have hn:told d2 e2 t=none:=by
    cases ht2:told d2 e2 t with
    | none=>rfl
    | some v2=>exact absurd (told_writes ht2).1 (hw _ (told_writes ht1).1)
   simp only[hn,poked_none (hw _ (told_writes ht1).2),told_safe h1 h2 hv1 ht1,Bool.false_eq_true,if_false]
  | none =>
   cases ht2:told d2 e2 t with
   | some v2 =>
    have hb:Res.body t∉writes d1 e1:=fun hq=>hw _ hq (told_writes ht2).2
    simp only[poked_none hb,told_safe h2 h1 hv2 ht2,Bool.false_eq_true,if_false]
   | none =>
    simp only;rcases poked_cases e1 t with ⟨w1,p1,q1⟩ | q1
    ·have k1:=kills_ex (d:=d1) (e:=e1) (h1.poke _ _ p1)
     have k2:=kills_ex (d:=d2) (e:=e2) (h1.poke _ _ p1);have q2:=poked_none (d:=d2) (e:=e2) (t:=t) (hw _ (poke_writes p1));simp only[q1,q2,k1,k2,Bool.false_eq_true,if_false]
    rcases poked_cases e2 t with ⟨w2,p2,q2⟩ | q2
    ·have k1:=kills_ex (d:=d1) (e:=e1) (h2.poke _ _ p2)
     have k2:=kills_ex (d:=d2) (e:=e2) (h2.poke _ _ p2);simp only[q1,q2,k1,k2,Bool.false_eq_true,if_false]
    simp only[q1,q2];by_cases k1:kills d1 e1 (get σ.env t)=true<;>by_cases k2:kills d2 e2 (get σ.env t)=true<;>simp[k1,k2,kills_undef]
 ·rw[(bcells_apply d2 e2 h2.all 0).2,(bcells_apply d1 e1 h1.all 0).2,(bcells_apply d1 e1 h1.all 0).2,(bcells_apply d2 e2 h2.all 0).2]
 ·rw[(bcells_apply d2 e2 h2.all id).1,(bcells_apply d1 e1 h1.all id).1,(bcells_apply d1 e1 h1.all id).1,(bcells_apply d2 e2 h2.all id).1,(bcells_apply d1 e1 h1.all 0).2,(bcells_apply d2 e2 h2.all 0).2]
  by_cases hm:Res.blk id∈writes d1 e1
  ·have:=hw _ hm
   rw[bcells_apply_none this,bcells_apply_none this]
  ·rw[bcells_apply_none hm,bcells_apply_none hm]
end
end Go.Vm
end
section
namespace Go.Vm
open Go
def eqL (l:Bool) (v w:V):Prop:=v=w∨l=true∧∃ sz n xs ys,v=.ex sz n xs∧w=.ex sz n ys∧xs.length=ys.length
theorem eqL.refl (l:Bool) (v:V):eqL l v v:=.inl rfl
theorem eqL.symm {l:Bool} {v w:V} (h:eqL l v w):eqL l w v:=by
 rcases h with rfl | ⟨hl,sz,n,xs,ys,rfl,rfl,he⟩
 ·exact .inl rfl
 ·exact .inr ⟨hl,sz,n,ys,xs,rfl,rfl,he.symm⟩
theorem eqL.full {v w:V} (h:eqL false v w):v=w:=by
 rcases h with h | ⟨hl,_⟩
 ·exact h
 ·cases hl
theorem eqL.of_not {l:Bool} {v w:V} (h:eqL l v w) (hv:isEx v=false):v=w:=by
 rcases h with h | ⟨_,sz,n,xs,ys,rfl,_⟩
 ·exact h
 ·simp[isEx] at hv
theorem eqL.isEx {l:Bool} {v w:V} (h:eqL l v w):Vm.isEx w=Vm.isEx v:=by
 rcases h with rfl | ⟨_,sz,n,xs,ys,rfl,rfl,_⟩<;>rfl
theorem eqL.isUndef {l:Bool} {v w:V} (h:eqL l v w):Vm.isUndef w=Vm.isUndef v:=by
 rcases h with rfl | ⟨_,sz,n,xs,ys,rfl,rfl,_⟩<;>rfl
theorem eqL.refRes {l:Bool} {v w:V} (h:eqL l v w):Vm.refRes w=Vm.refRes v:=by
 rcases h with rfl | ⟨_,sz,n,xs,ys,rfl,rfl,_⟩<;>rfl
theorem eqL.refBodies {l:Bool} {v w:V} (h:eqL l v w):Vm.refBodies w=Vm.refBodies v:=by
 rcases h with rfl | ⟨_,sz,n,xs,ys,rfl,rfl,_⟩<;>rfl
structure Alike (b l:Bool) (σ τ:St) (x:Operand):Prop where
 opd:eqL l (opd σ.env x) (opd τ.env x)
 look:∀ p,(Vm.opd σ.env x).refsTo p=true→eqL l (look σ p) (look τ p)
 blk:b=true→∀ id,blkOf (Vm.opd σ.env x)=some id→bcells σ.heap id=bcells τ.heap id
def PokeOk (σ:St) (e:Eff):Prop:=∀ t v,e.poke=some (t,v)→∃ sz n xs ys,get σ.env t=.ex sz n xs∧v=.ex sz n ys∧xs.length=ys.length
section
variable {σ:St} {d:Option Nat} {e:Eff}
theorem told_none {t:Nat} (h:Res.slot t∉writes d e):told d e t=none:=by
 cases ht:told d e t with
 | none=>rfl
 | some v=>exact absurd (told_writes ht).1 h
theorem blk_left (he:Tame e) {id:Nat} (h:Res.blk id∉writes d e):bcells (apply σ d e).heap id=bcells σ.heap id:=by
 rw[(bcells_apply d e he.all id).1,bcells_apply_none h]
theorem get_left (he:Tame e) (hp:PokeOk σ e) {l:Bool} {t:Nat} (h1:Res.slot t∉writes d e) (h2:l=false→Res.body t∉writes d e) (hk:kills d e (get σ.env t)=false) :
  eqL l (get σ.env t) (get (apply σ d e).env t):=by
 rw[get_apply d e he.all he.ways,told_none h1];simp only;rcases poked_cases e t with ⟨w,p1,p2⟩ | p2
 ·obtain⟨sz,n,xs,ys,q1,q2,q3⟩:=hp _ _ p1
  rw[p2,kills_ex (he.poke _ _ p1)];simp only[Bool.false_eq_true,if_false];cases l with
  | false=>exact absurd (poke_writes p1) (h2 rfl)
  | true=>exact .inr ⟨rfl,sz,n,xs,ys,q1,q2,q3⟩
 ·rw[p2,hk];simp only[Bool.false_eq_true,if_false];exact .inl rfl
theorem reads_slot {b l:Bool} {env:Env} {t:Nat}:Res.slot t∈opReads b l env (.tmp t)∧(l=false→Res.body t∈opReads b l env (.tmp t)):=by
 unfold opReads;cases l<;>simp
theorem reads_ref {b l:Bool} {env:Env} {x:Operand} {r:Res} (h:r∈refRes (opd env x)):r∈opReads b l env x:=by unfold opReads;simp[h]
theorem reads_body {b l:Bool} {env:Env} {x:Operand} {u:Nat} (h:(opd env x).refsTo (.slot u)=true) (hl:l=false):Res.body u∈opReads b l env x:=by
 unfold opReads;subst hl;cases hv:opd env x<;>rw[hv] at h<;>simp[V.refsTo] at h<;>subst h<;>simp[refBodies,bodyRes]
theorem alike_forth {b l:Bool} (he:Tame e) (hpk:PokeOk σ e) {x:Operand} (hs:seen σ x=true) (hw:∀ r∈opReads b l σ.env x,r∉writes d e):Alike b l σ (apply σ d e) x:=by
 have hk:kills d e (opd σ.env x)=false:=by
  cases hk:kills d e (opd σ.env x) with
  | false=>rfl
  | true =>
   obtain⟨r,h1,h2⟩:=kills_writes he.all hk;exact absurd h2 (hw r (reads_ref h1))
 have ho:eqL l (opd σ.env x) (opd (apply σ d e).env x):=by
  cases x with
  | tmp t=>exact get_left he hpk (hw _ reads_slot.1) (fun hl=>hw _ (reads_slot.2 hl)) hk
  | _=>exact .inl rfl
 refine⟨ho,fun p hp=>?_,fun hb id hp=>?_⟩
 ·have hr:plRes p∉writes d e:=hw _ (reads_ref (refRes_of hp))
  have hex:isEx (look σ p)=true:=by
   unfold seen at hs;simp only[Bool.and_eq_true] at hs;cases hv:opd σ.env x<;>rw[hv] at hp hs<;>simp[V.refsTo] at hp<;>subst hp<;>exact hs.2
  cases p with
  | slot u =>
   simp only[look] at hex ⊢;exact get_left he hpk hr (fun hl=>hw _ (reads_body hp hl)) (kills_ex hex)
  | cell id off=>simp only[look];rw[blk_left he hr];exact .inl rfl
 ·subst hb;rw[blk_left he (hw _ (by unfold opReads;simp[hp]))]
theorem not_killed (he:Tame e) (hpk:PokeOk σ e) {t:Nat} (ht:Res.slot t∉writes d e) (hu:isUndef (get (apply σ d e).env t)=false):kills d e (get σ.env t)=false:=by
 rw[get_apply d e he.all he.ways,told_none ht] at hu;simp only at hu;rcases poked_cases e t with ⟨w,p1,p2⟩ | p2
 ·obtain⟨sz,n,xs,ys,q1,q2,q3⟩:=hpk _ _ p1
  rw[q1];exact kills_ex rfl
 ·rw[p2] at hu
  cases hk:kills d e (get σ.env t) with
  | false=>rfl
  | true=>rw[hk] at hu;simp[isUndef] at hu
theorem alike_back {b l:Bool} (he:Tame e) (hpk:PokeOk σ e) {x:Operand} (hs:seen (apply σ d e) x=true) (hw:∀ r∈opReads b l (apply σ d e).env x,r∉writes d e):Alike b l σ (apply σ d e) x:=by
 unfold seen at hs;simp only[Bool.and_eq_true,Bool.not_eq_true'] at hs;obtain⟨hs1,hs2⟩:=hs;have hkill:∀ t,Res.slot t∉writes d e→isUndef (get (apply σ d e).env t)=false→kills d e (get σ.env t)=false:=fun t ht hu=>not_killed he hpk ht hu
 have ho:eqL l (opd σ.env x) (opd (apply σ d e).env x):=by
  cases x with
  | tmp t=>exact get_left he hpk (hw _ reads_slot.1) (fun hl=>hw _ (reads_slot.2 hl)) (hkill t (hw _ reads_slot.1) hs1)
  | _=>exact .inl rfl
 refine⟨ho,fun p hp=>?_,fun hb id hp=>?_⟩
 ·have hne:isEx (opd σ.env x)=false:=by cases hv:opd σ.env x<;>rw[hv] at hp<;>simp[V.refsTo] at hp<;>rfl
  have ho':=ho.of_not hne;rw[ho'] at hp;have hr:plRes p∉writes d e:=hw _ (reads_ref (refRes_of hp));have hex:isEx (look (apply σ d e) p)=true:=by
   cases hv:opd (apply σ d e).env x<;>rw[hv] at hp hs2<;>simp[V.refsTo] at hp<;>subst hp<;>exact hs2
  cases p with
  | slot u =>
   simp only[look] at hex ⊢;refine get_left he hpk hr (fun hl=>hw _ (reads_body hp hl)) (hkill u hr ?_)
   cases hv:get (apply σ d e).env u<;>rw[hv] at hex<;>simp[isEx] at hex<;>rfl
  | cell id off=>simp only[look];rw[blk_left he hr];exact .inl rfl
 ·subst hb
  have ho':=ho.of_not (by cases hv:opd σ.env x<;>rw[hv] at hp<;>simp[blkOf] at hp<;>rfl)
  rw[ho'] at hp;rw[blk_left he (hw _ (by unfold opReads;simp[hp]))]
end
end Go.Vm
end
section
namespace Go.Vm
open Go
section
variable {T:Types} {call:CallF} {cx:Cx} {ops:Array Oper} {σ τ:St} {o:Oper} {e:Eff} {fr:Nat}
theorem light_pick {c a b:Operand} (ho:o.op=.pick c a b):light o=false:=by unfold light;rw[ho]
theorem rd_same (h:∀ x∈rd σ.env o,eqL (light o) (opd σ.env x) (opd τ.env x)):rd τ.env o=rd σ.env o:=by
 unfold rd at h ⊢;cases ho:o.op<;>simp only[ho] at h ⊢
 rename_i c a b;rw[light_pick ho] at h;cases hc:opd σ.env c<;>simp only[hc] at h<;>rw[←(h c (by simp)).full,hc]
theorem opReads_same {b l:Bool} {x:Operand} (h:eqL l (opd σ.env x) (opd τ.env x)):opReads b l τ.env x=opReads b l σ.env x:=by
 rcases h with h | ⟨_,sz,n,xs,ys,h1,h2,_⟩
 ·unfold opReads;rw[h]
 ·unfold opReads;rw[h1,h2];cases b<;>rfl
theorem seen_same {b l:Bool} {x:Operand} (h:Alike b l σ τ x):seen τ x=seen σ x:=by
 have h1:=h.opd;have h2:=h.look;unfold seen;rw[h1.isUndef];rcases h1 with h1 | ⟨_,sz,n,xs,ys,e1,e2,_⟩
 ·rw[←h1]
  cases hv:opd σ.env x<;>simp only
  ·rw[(h2 _ (by rw[hv];simp[V.refsTo])).isEx]
  ·rw[(h2 _ (by rw[hv];simp[V.refsTo])).isEx]
 ·rw[e1,e2]
theorem eff_light {call:CallF} (hl:light o=true) (he:eff T call cx fr o σ=some e) (h:∀ x∈rd σ.env o,Alike (derefs o) (light o) σ τ x):eff T call cx fr o τ=some e:=by
 unfold light at hl;unfold rd at h;cases ho:o.op<;>simp only[ho] at hl h he ⊢<;>try (cases hl;done)
 case move x =>
  have h1:=(h x (by simp[Op.operands])).opd
  simp only[eff,ho,moveAt] at he ⊢;rcases h1 with h1 | ⟨_,sz,n,xs,ys,e1,e2,_⟩
  ·rw[←h1];exact he
  ·rw[e1] at he;rw[e2];exact he
 case indexAddr t x k =>
  have hx:=h x (by simp[Op.operands])
  have hk:=h k (by simp[Op.operands])
  simp only[eff,ho] at he ⊢;cases hT:T t<;>simp only[hT] at he ⊢
  ·cases he
  have hkk:opd τ.env k=opd σ.env k:=by
   cases hv:opd σ.env k<;>rw[hv] at he<;>simp only at he<;>try (cases he;done)
   exact (hk.opd.of_not (by rw[hv];rfl)).symm.trans hv
  rw[hkk];cases hv:opd σ.env k<;>simp only[hv] at he ⊢<;>try (cases he;done)
  rw[←he]
  congr 1
  unfold indexAt;have hxo:=hx.opd;rcases hxo with h1 | ⟨_,sz,n,xs,ys,e1,e2,e3⟩
  ·rw[←h1]
   cases hvx:opd σ.env x<;>try rfl
   case ref m id=>cases m<;>rfl
   rename_i p;simp only;rcases hx.look p (by rw[hvx];simp[V.refsTo]) with h2 | ⟨_,sz,n,xs,ys,e1,e2,e3⟩
   ·rw[h2]
   ·rw[e1,e2];simp only[e3]
  ·rw[e1,e2];simp only[e3]
 case call c =>
  cases hc:c.callee with
  | value f=>simp[hc] at hl
  | invoke x m=>simp[hc] at hl
  | builtin b =>
   cases b<;>simp[hc] at hl
   simp only[eff,ho,hc,builtinAt] at he ⊢;unfold lenAt at he ⊢;cases ha:c.args.toList with
   | nil=>simp[ha] at he
   | cons x rest =>
    cases rest with
    | cons _ _=>simp[ha] at he
    | nil =>
     have hx:=h x (by simp[Op.operands,Call.operands,hc];rw[←Array.mem_toList_iff,ha];simp)
     cases ht:c.argTypes.toList with
     | nil=>simp[ha,ht] at he
     | cons t rest =>
      cases rest with
      | cons _ _=>simp[ha,ht] at he
      | nil =>
       simp only[ha,ht] at he ⊢;have hcont:lenV τ (opd τ.env x)=lenV σ (opd σ.env x):=by
        rcases hx.opd with h1 | ⟨_,sz,n,xs,ys,e1,e2,e3⟩
        ·rw[←h1]
         cases hvx:opd σ.env x<;>try rfl
         case ref m id=>cases m<;>rfl
         rename_i p;simp only[lenV,content];rcases hx.look p (by rw[hvx];simp[V.refsTo]) with h2 | ⟨_,sz,n,xs,ys,e1,e2,e3⟩
         ·rw[h2]
         ·rw[e1,e2];simp[e3]
        ·rw[e1,e2];simp[lenV,content,e3]
       cases hk:kindOf T t with
       | none=>simp[hk] at he
       | some kk =>
        cases kk<;>simp only[hk] at he ⊢<;>try (cases he;done)
        ·cases hv:opd σ.env x<;>rw[hv] at he<;>simp only at he<;>try (cases he;done)
         rw[←hx.opd.of_not (by rw[hv];rfl),hv];exact he
        ·rw[hcont];exact he
        ·exact he
        ·have hm:mapView τ (opd τ.env x)=mapView σ (opd σ.env x):=by
          cases hv:opd σ.env x with
          | nilm=>rw[←hx.opd.of_not (by rw[hv];rfl),hv];rfl
          | ref m id =>
           cases m with
           | yld=>simp[mapView,hv] at he
           | arr n=>simp[mapView,hv] at he
           | map =>
            rw[←hx.opd.of_not (by rw[hv];rfl),hv]
            simp only[mapView];rw[hx.blk (by simp[derefs,ho,hc]) id (by rw[hv];rfl)]
          | _=>simp[mapView,hv] at he
         rw[hm];exact he
theorem eff_rd (he:eff T call cx fr o σ=some e) (hc:calm o e=true∨Eqv σ τ) (h:∀ x∈rd σ.env o,Alike (derefs o) (light o) σ τ x)
  (hput:∀ ks,lookK e.mem=some ks→σ.heap.length=τ.heap.length∧∀ id,ks.contains id=true→bcells σ.heap id=bcells τ.heap id)
  (hfr:isFresh o=true→σ.heap.length=τ.heap.length∧bcells σ.heap fr=bcells τ.heap fr):eff T call cx fr o τ=some e:=by
 cases hl:light o with
 | true=>exact eff_light hl he h
 | false =>
 rw[hl] at h;have viaAll:rd σ.env o=o.op.operands.toList→eff T call cx fr o τ=some e:=fun hr=>by
  rw[hr] at h;exact eff_same he hc ⟨fun x hx=>(h x hx).opd.full,fun x hx p hp=>((h x hx).look p hp).full,fun hb x hx=>(h x hx).blk hb⟩ hput hfr
 cases ho:o.op
 case pick c a b =>
  simp only[eff,ho] at he ⊢;unfold rd at h;simp only[ho] at h;cases hv:opd σ.env c<;>simp only[hv] at he h<;>try (cases he;done)
  rename_i t;rw[←(h c (by simp)).opd.full,hv]
  have h2:=(h (if t then a else b) (by simp)).opd.full
  cases t
  ·simp only[Bool.false_eq_true,if_false] at he h2 ⊢
   rw[←h2];exact he
  ·simp only[if_true] at he h2 ⊢
   rw[←h2];exact he
 all_goals exact viaAll (by unfold rd;rw[ho])
def gsame (ops:Array Oper) (o:Oper) (σ τ:St):Prop:=∀ t,guardSlot ops o=some t→get σ.env t=get τ.env t
theorem wants_same (h:gsame ops o σ τ):wants ops τ.env o=wants ops σ.env o:=by
 unfold gsame guardSlot at h;unfold wants;cases hg:o.guard with
 | none=>rfl
 | some jw =>
  obtain⟨j,want⟩:=jw;simp only[hg] at h ⊢;cases ht:(ops[j]?).bind (·.dst) with
  | none=>rfl
  | some t=>simp only;rw[h t ht]
theorem effG_rd (he:effG T call cx ops fr o σ=some e) (hc:calm o e=true∨Eqv σ τ) (hg:gsame ops o σ τ) (h:∀ x∈rdG ops σ.env o,Alike (derefs o) (light o) σ τ x)
  (hput:∀ ks,lookK e.mem=some ks→σ.heap.length=τ.heap.length∧∀ id,ks.contains id=true→bcells σ.heap id=bcells τ.heap id)
  (hfr:isFresh o=true→σ.heap.length=τ.heap.length∧bcells σ.heap fr=bcells τ.heap fr):effG T call cx ops fr o τ=some e:=by
 unfold effG at he ⊢;rw[wants_same hg];cases hw:wants ops σ.env o with
 | none=>simp[hw] at he
 | some b =>
  cases b with
  | false=>simpa [hw] using he
  | true =>
   simp only[hw] at he ⊢;cases h1:eff T call cx fr o σ with
   | none=>simp[h1] at he
   | some e1 =>
    simp only[h1] at he;have hee:e1=e:=by
     split at he
     ·split at he
      ·cases he
      ·injection he
     ·simpa using he
    subst hee;rw[eff_rd h1 hc (by unfold rdG at h;simpa [hw] using h) hput hfr]
    exact he
theorem effG_guard (he:effG T call cx ops fr o σ=some e) {t:Nat} (ht:guardSlot ops o=some t):isWay (get σ.env t)=false∧isUndef (get σ.env t)=false∧isEx (get σ.env t)=false:=by
 unfold effG wants at he;unfold guardSlot at ht;cases hg:o.guard with
 | none=>simp[hg] at ht
 | some jw =>
  obtain⟨j,want⟩:=jw;simp only[hg] at he ht;rw[ht] at he;cases hv:get σ.env t<;>simp only[hv] at he<;>first
   | (cases he;done)
   | exact⟨rfl,rfl,rfl⟩
theorem rdG_same (hg:gsame ops o σ τ) (h:∀ x∈rdG ops σ.env o,eqL (light o) (opd σ.env x) (opd τ.env x)):rdG ops τ.env o=rdG ops σ.env o:=by
 unfold rdG at h ⊢;rw[wants_same hg];cases hw:wants ops σ.env o with
 | none=>rw[hw] at h;exact rd_same h
 | some b=>cases b with
  | false=>rfl
  | true=>rw[hw] at h;exact rd_same h
theorem eff_poke {call:CallF} (he:eff T call cx fr o σ=some e):PokeOk σ e:=by
 intro t v hp;have no:e.poke=none→∃ sz n xs ys,get σ.env t=.ex sz n xs∧v=.ex sz n ys∧xs.length=ys.length:=fun h=>by rw[h] at hp;cases hp
 cases ho:o.op<;>simp only[eff,ho] at he<;>try (cases he;done)
 case store t' p x =>
  split at he<;>try (cases he;done)
  rename_i i hT;have hs:∃ e0,storeAt i σ (opd σ.env p) x=some e0∧e0=e:=by
   split at he
   ·rename_i e0 h0
    refine⟨e0,h0,?_⟩;split at he
    ·split at he
     ·injection he
     ·cases he
    ·injection he
   ·cases he
  obtain⟨e0,hs,rfl⟩:=hs;unfold storeAt at hs;split at hs
  ·split at hs
   ·split at hs
    ·injection hs with hs;subst hs;cases hp
    ·cases hs
   ·cases hs
  ·rename_i q k off hpv
   split at hs
   ·rename_i v' sz n xs hv hl
    split at hs
    ·split at hs
     ·injection hs with hs;subst hs
      cases q with
      | cell qi qo=>cases hp
      | slot u =>
       simp only[rewr] at hp;injection hp with hp;injection hp with h1 h2;subst h1;subst h2;exact⟨sz,n,xs,_,hl,rfl,by simp⟩
     ·cases hs
    ·cases hs
   ·cases hs
  ·cases hs
 all_goals
  refine no ?_;clear no hp
  try simp only[assignAt,moveAt,sliceAt,builtinAt,lenAt,appendAt,mmAt,deleteAt,callAt,callGo,newsAt,newsGo,updateAt,buildRef,lendAt,glanceAt] at he
  (repeat' split at he)<;>first
   | (cases he;done)
   | (injection he with he;subst he;rfl)
   | (rw[Option.map_eq_some_iff] at he;obtain⟨_,_,rfl⟩:=he;rfl)
theorem effG_poke {call:CallF} (he:effG T call cx ops fr o σ=some e):PokeOk σ e:=by
 unfold effG at he;split at he
 ·split at he
  ·rename_i e1 h1
   have hee:e1=e:=by
    split at he
    ·split at he
     ·cases he
     ·injection he
    ·simpa using he
   subst hee;exact eff_poke h1
  ·cases he
 ·injection he with he;subst he;intro t v hp;cases hp
 ·cases he
def Stp (T:Types) (call:CallF) (cx:Cx) (ops:Array Oper) (fr:Nat→Nat) (R W:Nat→List Res) (i:Nat) (σ σ':St):Prop :=
 (∃ o e,ops[i]?=some o∧effG T call cx ops (fr i) o σ=some e∧Tame e∧calm o e=true∧(rdG ops σ.env o).all (seen σ)=true∧reads ops (fr i) o σ.env e=R i∧writes o.dst e=W i ∧
  (∀ r∈refRes e.val,r∈R i)∧σ'=apply σ o.dst e) ∨
 ∃ o e,ops[i]?=some o∧effG T call cx ops (fr i) o σ=some e∧Res.top∈R i∧σ'=apply σ o.dst e
theorem Stp.op {fr:Nat→Nat} {R W:Nat→List Res} {i:Nat} {σ σ':St} (h:Stp T call cx ops fr R W i σ σ'):∃ o e,ops[i]?=some o∧effG T call cx ops (fr i) o σ=some e∧σ'=apply σ o.dst e:=by
 rcases h with ⟨o,e,h1,h2,_,_,_,_,_,_,h3⟩ | ⟨o,e,h1,h2,_,h3⟩
 ·exact⟨o,e,h1,h2,h3⟩
 ·exact⟨o,e,h1,h2,h3⟩
theorem stp_same {fr:Nat→Nat} {i:Nat} (ho:ops[i]?=some o) (he:effG T call cx ops (fr i) o σ=some e) (hc:calm o e=true) (hs:(rdG ops σ.env o).all (seen σ)=true)
  (hg:gsame ops o σ τ) (h:∀ x∈rdG ops σ.env o,Alike (derefs o) (light o) σ τ x)
  (hput:∀ ks,lookK e.mem=some ks→σ.heap.length=τ.heap.length∧∀ id,ks.contains id=true→bcells σ.heap id=bcells τ.heap id)
  (hfr:isFresh o=true→σ.heap.length=τ.heap.length∧bcells σ.heap (fr i)=bcells τ.heap (fr i)) :
  effG T call cx ops (fr i) o τ=some e∧(rdG ops τ.env o).all (seen τ)=true∧reads ops (fr i) o τ.env e=reads ops (fr i) o σ.env e:=by
 have hr:=rdG_same (τ:=τ) hg (fun x hx=>(h x hx).opd)
 refine⟨effG_rd he (.inl hc) hg h hput hfr,?_,?_⟩
 ·rw[hr,List.all_eq_true] at *
  exact fun x hx=>by rw[seen_same (h x hx)];exact hs x hx
 ·unfold reads
  rw[hr];have:(rdG ops σ.env o).flatMap (opReads (derefs o) (light o) τ.env)=(rdG ops σ.env o).flatMap (opReads (derefs o) (light o) σ.env):=by
   simp only[List.flatMap]
   congr 1
   exact List.map_congr_left fun x hx=>opReads_same (h x hx).opd
  rw[this]
def apartR (R W R' W':List Res):Prop:=(Res.top∉R∧Res.top∉R')∧(∀ r∈W,r∉R')∧(∀ r∈W',r∉R)∧(∀ r∈W,r∉W')
theorem reads_op {x:Operand} (hx:x∈rdG ops σ.env o) {r:Res} (hr:r∈opReads (derefs o) (light o) σ.env x):r∈reads ops fr o σ.env e:=by
 unfold reads;simp only[List.mem_append,List.mem_flatMap];exact .inl (.inl (.inr ⟨x,hx,hr⟩))
theorem reads_guard {t:Nat} (h:guardSlot ops o=some t):Res.slot t∈reads ops fr o σ.env e:=by
 unfold reads;rw[h];simp
theorem reads_fresh (h:isFresh o=true):Res.blk fr∈reads ops fr o σ.env e:=by
 unfold reads;rw[h];simp
theorem reads_put {ks:List Nat} (h:lookK e.mem=some ks) {id:Nat} (hid:ks.contains id=true):Res.blk id∈reads ops fr o σ.env e:=by
 unfold reads memReads;rw[h];simp only[List.mem_append,List.mem_map];exact .inl (.inl (.inl ⟨id,by simpa using hid,rfl⟩))
theorem swap {fr:Nat→Nat} {R W:Nat→List Res} {i j:Nat} {σ1 σ2:St} (hi:Stp T call cx ops fr R W i σ σ1) (hj:Stp T call cx ops fr R W j σ1 σ2) (ha:apartR (R i) (W i) (R j) (W j)) :
  ∃ τ τ2,Stp T call cx ops fr R W j σ τ∧Stp T call cx ops fr R W i τ τ2∧Eqv σ2 τ2:=by
 obtain⟨⟨a01,a02⟩,a1,a2,a3⟩:=ha;rcases hi with ⟨oi,ei,i1,i2,i3,i4,i5,i6,i7,i8,rfl⟩ | ⟨_,_,_,_,ht,_⟩
 case inr=>exact absurd ht a01
 rcases hj with ⟨oj,ej,j1,j2,j3,j4,j5,j6,j7,j8,rfl⟩ | ⟨_,_,_,_,ht,_⟩
 case inr=>exact absurd ht a02
 rw[List.all_eq_true] at i5 j5;have pi:PokeOk σ ei:=effG_poke i2;have alj:∀ x∈rdG ops (apply σ oi.dst ei).env oj,Alike (derefs oj) (light oj) σ (apply σ oi.dst ei) x:=fun x hx =>
  alike_back i3 pi (j5 x hx) (fun r hr hw=>a1 r (i7▸hw) (j6▸reads_op hx hr))
 have alj':∀ x∈rdG ops (apply σ oi.dst ei).env oj,Alike (derefs oj) (light oj) (apply σ oi.dst ei) σ x:=fun x hx=>by
  obtain⟨q1,q2,q3⟩:=alj x hx;refine⟨q1.symm,fun p hp=>(q2 p ?_).symm,fun hb id hp=>(q3 hb id ?_).symm⟩
  ·have hne:isEx (opd (apply σ oi.dst ei).env x)=false:=by cases hv:opd (apply σ oi.dst ei).env x<;>rw[hv] at hp<;>simp[V.refsTo] at hp<;>rfl
   rw[←q1.symm.of_not hne];exact hp
  ·rw[←q1.symm.of_not (by cases hv:opd (apply σ oi.dst ei).env x<;>rw[hv] at hp<;>simp[blkOf] at hp<;>rfl)];exact hp
 have gj:gsame ops oj (apply σ oi.dst ei) σ:=fun t ht=>by
  obtain⟨_,hb,hx⟩:=effG_guard j2 ht;have hns:Res.slot t∉writes oi.dst ei:=fun hw=>a1 _ (i7▸hw) (j6▸reads_guard ht)
  exact (get_left (l:=true) i3 pi hns (fun h=>by cases h) (not_killed i3 pi hns hb)).symm.of_not hx
 obtain⟨e1,e2,e3⟩:=stp_same (τ:=σ) j1 j2 j4 (List.all_eq_true.2 j5) gj alj' (fun ks hm=>⟨(bcells_apply _ _ i3.all 0).2,fun id hid=>blk_left i3 (fun hw=>a1 _ (i7▸hw) (j6▸reads_put hm hid))⟩) (fun hf=>⟨(bcells_apply _ _ i3.all 0).2,blk_left i3 (fun hw=>a1 _ (i7▸hw) (j6▸reads_fresh hf))⟩)
 have pj:PokeOk σ ej:=effG_poke e1;have ali:∀ x∈rdG ops σ.env oi,Alike (derefs oi) (light oi) σ (apply σ oj.dst ej) x:=fun x hx=>alike_forth j3 pj (i5 x hx) (fun r hr hw=>a2 r (j7▸hw) (i6▸reads_op hx hr))
 have gi:gsame ops oi σ (apply σ oj.dst ej):=fun t ht=>by
  obtain⟨hb,_,hx⟩:=effG_guard i2 ht;have hns:Res.slot t∉writes oj.dst ej:=fun hw=>a2 _ (j7▸hw) (i6▸reads_guard ht)
  have hk:kills oj.dst ej (get σ.env t)=false:=by
   unfold kills;rw[memKills_nonway hb];cases oj.dst<;>simp[killedBy,refsTo_nonway hb]
  exact (get_left (l:=true) j3 pj hns (fun h=>by cases h) hk).of_not hx
 obtain⟨f1,f2,f3⟩:=stp_same (τ:=apply σ oj.dst ej) i1 i2 i4 (List.all_eq_true.2 i5) gi ali (fun ks hm=>⟨(bcells_apply _ _ j3.all 0).2.symm,fun id hid=>(blk_left j3 (fun hw=>a2 _ (j7▸hw) (i6▸reads_put hm hid))).symm⟩) (fun hf=>⟨(bcells_apply _ _ j3.all 0).2.symm,(blk_left j3 (fun hw=>a2 _ (j7▸hw) (i6▸reads_fresh hf))).symm⟩)
 refine⟨_,_,.inl ⟨oj,ej,j1,e1,j3,j4,e2,by rw[e3,j6],j7,j8,rfl⟩,.inl ⟨oi,ei,i1,f1,i3,i4,f2,by rw[f3,i6],i7,i8,rfl⟩,?_⟩
 exact comm i3 j3 (fun r hr hw=>a3 r (i7▸hr) (j7▸hw)) (fun r hr hw=>a2 r (j7▸hw) (i8 r hr)) (fun r hr hw=>a1 r (i7▸hw) (j8 r hr))
end
end Go.Vm
end
section
namespace Go.Vm
open Go
def Closed (ops:Array Oper) (L:Array Bool):Prop:=∀ j o,ops[j]?=some o→L.getD j false=true→∀ e∈o.after,Region.binds .any e=true→L.getD e.on false=true
theorem fold_bits (anc:List Nat) (i:Nat):∀ (l:List Edge) (b:Nat),(l.foldl (fun b e=>if Region.binds .any e then b ||| 2 ^ e.on ||| anc.getD e.on 0 else b) b).testBit i=true →
  b.testBit i=true∨∃ e∈l,Region.binds .any e=true∧(e.on=i∨(anc.getD e.on 0).testBit i=true)
 | [],b,h=>.inl h
 | e::l,b,h=>by
  simp only[List.foldl_cons] at h;rcases fold_bits anc i l _ h with h | ⟨x,hx,h⟩
  ·split at h
   ·rename_i hb
    simp only[Nat.testBit_or,Bool.or_eq_true,Nat.testBit_two_pow,decide_eq_true_eq] at h;rcases h with (h | h) | h
    ·exact .inl h
    ·exact .inr ⟨e,by simp,hb,.inl h⟩
    ·exact .inr ⟨e,by simp,hb,.inr h⟩
   ·exact .inl h
  ·exact .inr ⟨x,by simp[hx],h⟩
def AncOk (ops:Array Oper) (acc:List Nat):Prop:=∀ (L:Array Bool),Closed ops L→∀ j i o,ops[j]?=some o→(∀ e∈o.after,Region.binds .any e=true→L.getD e.on false=true)→(acc.getD j 0).testBit i=true→L.getD i false=true
theorem ancs_ok {ops:Array Oper}:∀ (l:List Oper) (acc:List Nat),AncOk ops acc→(∀ j,l[j]?=ops[acc.length+j]?)→AncOk ops (ancs l acc)
 | [],acc,h,_=>h
 | o::l,acc,h,hl=>by
  refine ancs_ok l _ (fun L hc j i o' ho' hd hb=>?_) (fun j=>by have:=hl (j+1);simpa [Nat.add_assoc,Nat.add_comm 1 j] using this)
  rcases Nat.lt_or_ge j acc.length with hlt | hge
  ·rw[List.getD_eq_getElem?_getD,List.getElem?_append_left hlt,←List.getD_eq_getElem?_getD] at hb
   exact h L hc j i o' ho' hd hb
  ·by_cases hj:j=acc.length
   ·subst hj
    have h0:ops[acc.length]?=some o:=by simpa using (hl 0).symm
    obtain rfl:o'=o:=Option.some.inj (ho'.symm.trans h0)
    have hb':(ancStep acc o').testBit i=true:=by simpa using hb
    rcases fold_bits acc i _ 0 hb' with h1 | ⟨e,he,h1,h2⟩
    ·simp at h1
    ·have he':e∈o'.after:=by simpa using he
     rcases h2 with h2 | h2
     ·rw[←h2];exact hd e he' h1
     ·cases hoe:ops[e.on]? with
      | none =>
       have hlt:e.on<acc.length:=by
        rcases Nat.lt_or_ge e.on acc.length with h' | h'
        ·exact h'
        ·simp[List.getD_eq_getElem?_getD,List.getElem?_eq_none h'] at h2
       have h3:=(Array.getElem?_eq_some_iff.1 h0).1;rw[Array.getElem?_eq_none_iff] at hoe;omega
      | some oe=>exact h L hc e.on i oe hoe (hc e.on oe hoe (hd e he' h1)) h2
   ·have:(acc++[ancStep acc o]).getD j 0=0:=by
     rw[List.getD_eq_getElem?_getD,List.getElem?_eq_none (by simp;omega)];rfl
    rw[this] at hb;simp at hb
theorem dep_listed {ops:Array Oper} {L:Array Bool} (hc:Closed ops L) (j i:Nat) (o:Oper) (ho:ops[j]?=some o) (hd:∀ e∈o.after,Region.binds .any e=true→L.getD e.on false=true)
  (h:depB ops j i=true):L.getD i false=true :=
 ancs_ok ops.toList [] (fun _ _ _ _ _ _ _ h=>by simp at h) (by simp) L hc j i o ho hd h
theorem Closed.set {ops:Array Oper} {L:Array Bool} (hc:Closed ops L) {i:Nat} (hi:i∈Region.ready .any ops L):Closed ops (L.setIfInBounds i true):=by
 obtain⟨_,oi,hoi,hall⟩:=mem_ready.1 hi;intro j o hj hl e he hb;by_cases hij:i=j
 ·subst hij
  have:o=oi:=Option.some.inj (hj.symm.trans hoi)
  subst this;exact getD_set_true (hall e he hb)
 ·rw[getD_set_ne false hij] at hl
  exact getD_set_true (hc j o hj hl e he hb)
section
variable {T:Types} {call:CallF} {cx:Cx} {ops:Array Oper} {fr:Nat→Nat} {R W:Nat→List Res} {Q:St→Prop}
theorem alike_eqv {b l:Bool} {σ τ:St} (h:Eqv σ τ) (x:Operand):Alike b l σ τ x :=
 ⟨.inl (h.opd x),fun p _=>.inl (h.look p),fun _ id _=>by rw[h.2]⟩
theorem stp_eqv {σ τ σ':St} {i:Nat} (hs:Stp T call cx ops fr R W i σ σ') (h:Eqv σ τ):∃ τ',Stp T call cx ops fr R W i τ τ'∧Eqv σ' τ':=by
 rcases hs with ⟨o,e,i1,i2,i3,i4,i5,i6,i7,i8,rfl⟩ | ⟨o,e,i1,i2,i3,rfl⟩
 ·obtain⟨f1,f2,f3⟩:=stp_same (τ:=τ) i1 i2 i4 i5 (fun t _=>h.1 t) (fun x _=>alike_eqv h x) (fun _ _=>⟨by rw[h.2],fun _ _=>by rw[h.2]⟩) (fun _=>⟨by rw[h.2],by rw[h.2]⟩)
  exact⟨_,.inl ⟨o,e,i1,f1,i3,i4,f2,by rw[f3,i6],i7,i8,rfl⟩,h.apply _ _⟩
 ·exact⟨_,.inr ⟨o,e,i1,effG_rd i2 (.inr h) (fun t _=>h.1 t) (fun x _=>alike_eqv h x) (fun _ _=>⟨by rw[h.2],fun _ _=>by rw[h.2]⟩) (fun _=>⟨by rw[h.2],by rw[h.2]⟩),i3,rfl⟩,h.apply _ _⟩
def VAny (T:Types) (call:CallF) (cx:Cx) (ops:Array Oper) (fr:Nat→Nat) (R W:Nat→List Res) (Q:St→Prop):Nat→Array Bool→St→Prop
 | 0,L,σ=>Region.ready .any ops L=[]∧Q σ
 | f+1,L,σ=>(Region.ready .any ops L=[]→Q σ)∧∀ i∈Region.ready .any ops L,∃ σ',Stp T call cx ops fr R W i σ σ'∧VAny T call cx ops fr R W Q f (L.setIfInBounds i true) σ'
theorem vany_eqv (hQ:∀ σ τ,Eqv σ τ→Q σ→Q τ):∀ (f:Nat) (L:Array Bool) (σ τ:St),VAny T call cx ops fr R W Q f L σ→Eqv σ τ→VAny T call cx ops fr R W Q f L τ
 | 0,L,σ,τ,h,he=>⟨h.1,hQ _ _ he h.2⟩
 | f+1,L,σ,τ,h,he=>by
  refine⟨fun h0=>hQ _ _ he (h.1 h0),fun i hi=>?_⟩
  obtain⟨σ',h1,h2⟩:=h.2 i hi;obtain⟨τ',g1,g2⟩:=stp_eqv h1 he;exact⟨τ',g1,vany_eqv hQ f _ σ' τ' h2 g2⟩
theorem getD_not {L:Array Bool} {i:Nat} (h:L.getD i true=false):L.getD i false=false:=by
 rcases Nat.lt_or_ge i L.size with h' | h'
 ·simp[h'] at h ⊢;exact h
 ·simp[Array.getElem?_eq_none h'] at h
theorem vany_first (hQ:∀ σ τ,Eqv σ τ→Q σ→Q τ) {i:Nat}:∀ (f:Nat) (L:Array Bool) (σ σ1:St),Closed ops L →
  (∀ j,j<ops.size→j≠i→L.getD j true=false→depB ops j i=true∨apartR (R i) (W i) (R j) (W j))→i∈Region.ready .any ops L→Stp T call cx ops fr R W i σ σ1 →
  VAny T call cx ops fr R W Q f (L.setIfInBounds i true) σ1→VAny T call cx ops fr R W Q (f+1) L σ
 | 0,L,σ,σ1,hc,hfree,hr,hs,H=>by
  refine⟨fun h=>(by rw[h] at hr;cases hr),fun j hj=>?_⟩
  by_cases hji:j=i
  ·subst hji;exact⟨σ1,hs,H⟩
  ·have:=ready_mono hj hji
   rw[H.1] at this;cases this
 | f+1,L,σ,σ1,hc,hfree,hr,hs,H=>by
  refine⟨fun h=>(by rw[h] at hr;cases hr),fun j hj=>?_⟩
  by_cases hji:j=i
  ·subst hji;exact⟨σ1,hs,H⟩
  ·obtain⟨σ2,h1,h2⟩:=H.2 j (ready_mono hj hji)
   obtain⟨hjun,oj,hoj,hall⟩:=mem_ready.1 hj;have hap:apartR (R i) (W i) (R j) (W j):=by
    rcases hfree j (Array.getElem?_eq_some_iff.1 hoj).1 hji hjun with hd | ha
    ·have:=dep_listed hc j i oj hoj hall hd
     rw[getD_not (mem_ready.1 hr).1] at this;cases this
    ·exact ha
   obtain⟨τ,τ2,g1,g2,g3⟩:=swap hs h1 hap;refine⟨τ,g1,vany_first hQ f _ τ τ2 (hc.set hj) (fun k hk hki hun=>hfree k hk hki ?_) (ready_mono hr (Ne.symm hji)) g2 ?_⟩
   ·by_cases hjk:j=k
    ·subst hjk;exact hjun
    ·rw[getD_set_ne true hjk] at hun;exact hun
   ·rw[Array.setIfInBounds_comm _ _ hji]
    exact vany_eqv hQ f _ σ2 τ2 h2 g3
def Lex (T:Types) (call:CallF) (cx:Cx) (ops:Array Oper) (fr:Nat→Nat) (R W:Nat→List Res) (Q:St→Prop):Nat→Nat→St→Prop
 | 0,_,σ=>Q σ
 | n+1,k,σ=>∃ σ',Stp T call cx ops fr R W k σ σ'∧Lex T call cx ops fr R W Q n (k+1) σ'
theorem getD_in_range {L:Array Bool} {i:Nat} (h:i<L.size) (b c:Bool):L.getD i b=L.getD i c:=by simp[h]
theorem vany_lex (hQ:∀ σ τ,Eqv σ τ→Q σ→Q τ) (hback:∀ k o,ops[k]?=some o→∀ e∈o.after,Region.binds .any e=true→e.on<k)
  (hp:∀ i j,i<j→j<ops.size→depB ops j i=true∨apartR (R i) (W i) (R j) (W j)):∀ (n k:Nat) (L:Array Bool) (σ:St),
  Closed ops L→(∀ j,j<ops.size→L.getD j true=decide (j<k))→k+n=ops.size→L.size=ops.size→Lex T call cx ops fr R W Q n k σ→VAny T call cx ops fr R W Q n L σ
 | 0,k,L,σ,hc,hl,hn,hs,h=>by
  refine⟨?_,h⟩;rw[List.eq_nil_iff_forall_not_mem];intro j hj;obtain⟨h1,o,ho,_⟩:=mem_ready.1 hj;have hlt:=(Array.getElem?_eq_some_iff.1 ho).1;rw[hl j hlt] at h1;simp at h1;omega
 | n+1,k,L,σ,hc,hl,hn,hs,h=>by
  have hk:k<ops.size:=by omega
  have hr':k∈Region.ready .any ops L:=by
   refine mem_ready.2 ⟨by rw[hl k hk];simp,ops[k],Array.getElem?_eq_getElem hk,fun e he hb=>?_⟩
   have hlt:=hback k _ (Array.getElem?_eq_getElem hk) e he hb;rw[getD_in_range (by omega) false true,hl e.on (by omega)];simpa using hlt
  obtain⟨σ1,h1,h2⟩:=h;refine vany_first hQ n L σ σ1 hc (fun j hj hjk hun=>hp k j ?_ hj) hr' h1 (vany_lex hQ hback hp n (k+1) _ σ1 (hc.set hr') (fun j hj=>?_) (by omega) (by simpa using hs) h2)
  ·rw[hl j hj] at hun;simp at hun;omega
  ·by_cases hjk:k=j
   ·subst hjk
    simp[hs,hj]
   ·rw[getD_set_ne true hjk,hl j hj]
    rw[Bool.eq_iff_iff];simp;omega
end
end Go.Vm
end
section
namespace Go.Vm
open Go
section
variable {P:Program} {T:Types} {call:CallF} {cx:Cx} {ops:Array Oper} {fr:Nat→Nat} {R W:Nat→List Res}
theorem wpAny_of_vany (hS:Sound P call) (hC:CxOk P cx) (hT:TOk P T) (r:Option Nat) (Q:Exit→Act→World→Prop) (G:St→Prop):∀ (f:Nat) (L:Array Bool) (own:Own) (β:Nat→Nat) (w:World) (σ:St) (a:Act),SR own β w σ a.tmps →
  (∀ o∈ops.toList,∀ d,o.dst=some d→d<a.tmps.size)→VAny T call cx ops fr R W G f L σ→(∀ own' β' w' a' σ',G σ'→Nxt own β w σ a own' β' w' σ' a'→Q .normal a' w')→wpAnyIn (Fw r) 0 P .any ops Q f L a w
 | 0,L,own,β,w,σ,a,h,hd,hv,hQ=>⟨hv.1,hQ _ _ _ _ _ hv.2 (Nxt.refl h)⟩
 | f+1,L,own,β,w,σ,a,h,hd,hv,hQ=>by
  refine⟨fun h0=>hQ _ _ _ _ _ (hv.1 h0) (Nxt.refl h),fun i hi=>?_⟩
  obtain⟨σ',hst,h2⟩:=hv.2 i hi;obtain⟨o,e,i1,i2,rfl⟩:=hst.op;have ho:o∈ops.toList:=by simpa using Array.mem_of_getElem? i1
  have hvop:vop T call cx ops (fr i) o σ=some (apply σ o.dst e):=by unfold vop;rw[i2];rfl
  unfold wpOpIn;simp only[i1];refine ok_vop hS hC ⟨h,hd o ho,hT⟩ hvop r _ Q (fun own1 β1 w1 a1 hn=>?_)
  exact wpAny_of_vany hS hC hT r Q G f _ own1 β1 w1 _ a1 hn.sr (fun o ho d hd'=>by rw[hn.size];exact hd o ho d hd') h2 (fun own' β' w' a' σ' hg hn'=>hQ _ _ _ _ _ hg (hn.trans hn'))
theorem Nxt.eqv {own own':Own} {β β':Nat→Nat} {w w':World} {σ σ1 σ2:St} {a a':Act} (h:Nxt own β w σ a own' β' w' σ1 a') (he:Eqv σ1 σ2):Nxt own β w σ a own' β' w' σ2 a' :=
 ⟨h.sr.congr (fun t=>(he.1 t).symm) he.2.symm,h.stay,by rw[←he.2];exact h.bx,h.defers,h.size⟩
end
end Go.Vm
end
section
namespace Go.Vm
open Go
section
variable {P:Program} {own:Own} {β:Nat→Nat} {w:World} {σ:St} {a:Act}
variable {T:Types} {call:CallF} {cx:Cx} {ops:Array Oper}
theorem tame_of {e:Eff} (h:tameB e=true):Tame e:=by
 unfold tameB at h;simp only[Bool.and_eq_true,List.all_eq_true] at h;refine⟨fun x hx=>?_,fun t v hp=>?_,?_⟩
 ·have:=h.1.1 x hx
  cases hv:x.2<;>rw[hv] at this<;>first | rfl | (simp[isWayB] at this)
 ·have:=h.1.2
  rw[hp] at this;exact this
 ·have:=h.2
  cases hm:e.mem<;>rw[hm] at this<;>first | rfl | (cases this;done)
theorem apart_of {x y:List Res×List Res} (h:apartB x y=true):apartR x.1 x.2 y.1 y.2:=by
 unfold apartB at h;simp only[Bool.and_eq_true,List.all_eq_true,Bool.not_eq_true',List.contains_eq_mem,decide_eq_false_iff_not] at h;exact⟨⟨h.1.1.1.1,h.1.1.1.2⟩,h.1.1.2,h.1.2,h.2⟩
theorem rank_append (cx:Cx):∀ (l m:List Oper),rank cx (l++m)=rank cx l+rank cx m
 | [],m=>(Nat.zero_add _).symm
 | o::l,m=>by rw[List.cons_append,rank,rank,rank_append cx l m,Nat.add_assoc]
theorem lex_of_run {fr:Nat→Nat} {R W:Nat→List Res} {σ1:St} (hfr:∀ k o,ops[k]?=some o→fr (k+1)=fr k+takesB cx o):∀ (l:List Oper) (k:Nat) (σ:St) (fpl:List (List Res×List Res)),(∀ j,l[j]?=ops[k+j]?) →
  drawRun T call cx ops (fr k) l σ=some (σ1,fpl)→(∀ j,j<l.length→R (k+j)=(fpAt fpl j).1∧W (k+j)=(fpAt fpl j).2)→Lex T call cx ops fr R W (Eqv σ1) l.length k σ
 | [],k,σ,fpl,hl,hv,hf=>by
  simp only[drawRun] at hv;injection hv with hv;injection hv with e1 e2;subst e1;exact Eqv.refl _
 | o::l,k,σ,fpl,hl,hv,hf=>by
  simp only[drawRun] at hv;have h0:ops[k]?=some o:=by simpa using (hl 0).symm
  cases he:effG T call cx ops (fr k) o σ with
  | none=>simp[he] at hv
  | some e =>
   simp only[he] at hv;split at hv
   ·rename_i hc
    simp only[Bool.and_eq_true] at hc;obtain⟨⟨⟨c1,c2⟩,c3⟩,c4⟩:=hc;rw[Option.map_eq_some_iff] at hv;obtain⟨⟨σ2,l2⟩,h1,h2⟩:=hv;injection h2 with e1 e2;subst e1;subst e2;obtain⟨f1,f2⟩:=hf 0 (by simp)
    simp only[fpAt,List.getD_cons_zero,Nat.add_zero] at f1 f2;rw[←hfr k o h0] at h1;refine⟨_,.inl ⟨o,e,h0,he,tame_of c1,c2,c3,f1.symm,f2.symm,fun r hr=>?_,rfl⟩,lex_of_run hfr l (k+1) _ l2 (fun j=>?_) h1 (fun j hj=>?_)⟩
    ·rw[f1]
     have:=List.all_eq_true.1 c4 r hr
     simpa using this
    ·have:=hl (j+1)
     simpa [Nat.add_assoc,Nat.add_comm 1 j] using this
    ·have:=hf (j+1) (by simpa using hj)
     simpa [fpAt,Nat.add_assoc,Nat.add_comm 1 j] using this
   ·split at hv
    ·rw[Option.map_eq_some_iff] at hv
     obtain⟨⟨σ2,l2⟩,h1,h2⟩:=hv;injection h2 with e1 e2;subst e1;subst e2;obtain⟨f1,f2⟩:=hf 0 (by simp)
     simp only[fpAt,List.getD_cons_zero,Nat.add_zero] at f1 f2;rw[←hfr k o h0] at h1;refine⟨_,.inr ⟨o,e,h0,he,by rw[f1];simp,rfl⟩,lex_of_run hfr l (k+1) _ l2 (fun j=>?_) h1 (fun j hj=>?_)⟩
     ·have:=hl (j+1)
      simpa [Nat.add_assoc,Nat.add_comm 1 j] using this
     ·have:=hf (j+1) (by simpa using hj)
      simpa [fpAt,Nat.add_assoc,Nat.add_comm 1 j] using this
    ·cases hv
theorem backB_get:∀ (l:List Oper) (k:Nat),backB k l=true→∀ j o,l[j]?=some o→∀ e∈o.after,Region.binds .any e=true→e.on<k+j
 | [],_,_,j,o,h=>by simp at h
 | o'::l,k,hb,j,o,h=>by
  simp only[backB,Bool.and_eq_true] at hb;cases j with
  | zero =>
   simp at h;subst h;intro e he hbi;have:=Array.all_eq_true_iff_forall_mem.1 hb.1 e he
   simpa [hbi] using this
  | succ j =>
   intro e he hbi;have:=backB_get l (k+1) hb.2 j o (by simpa using h) e he hbi
   omega
theorem ok_region {id:Nat} {draw:Bool} (hS:Sound P call) (hC:CxOk P cx) (hT:TOk P T) (r:Option Nat) (Q:Exit→Act→World→Prop) {σ':St} (h:SR own β w σ a.tmps)
  (hd:∀ o∈ops.toList,∀ d,o.dst=some d→d<a.tmps.size) (hB:draw=true→drawB ops (cx.free id)=true) (hv:vregion T call cx id ops draw σ=some σ')
  (hQ:∀ own' β' w' a',Nxt own β w σ a own' β' w' σ' a'→Q .normal a' w'):(Code.region id ops draw).wpIn (Fw r) 0 P Q a w:=by
 obtain⟨hr,hb⟩:=h.reserve cx ops;unfold vregion at hv;cases draw with
 | true =>
  simp only at hv;cases hrun:drawRun T call cx ops σ.heap.length ops.toList (reserve cx ops σ) with
  | none=>simp[hrun] at hv
  | some x =>
   obtain⟨σ1,fps⟩:=x;simp only[hrun] at hv;split at hv
   ·rename_i hfree
    injection hv with hv;subst hv;have hB:=hB rfl;simp only[drawB,Bool.and_eq_true,List.all_eq_true,List.mem_range] at hB;obtain⟨hlex,hpairs⟩:=hB
    let fr:Nat→Nat:=fun k=>σ.heap.length+rank cx (ops.toList.take k)
    have hfr:∀ k o,ops[k]?=some o→fr (k+1)=fr k+takesB cx o:=fun k o ho=>by
     have ho':ops.toList[k]?=some o:=by simpa using ho
     simp only[fr,List.take_add_one,ho',Option.toList_some,rank_append,rank,Nat.add_zero,Nat.add_assoc]
    have hl:=lex_of_run (T:=T) (call:=call) (cx:=cx) (ops:=ops) (R:=fun i=>(fpAt fps i).1) (W:=fun i=>(fpAt fps i).2) (σ1:=σ1) hfr ops.toList 0 (reserve cx ops σ) fps (by simp) (by simpa [fr,rank] using hrun) (fun j _=>by simp)
    have hva:=vany_lex (T:=T) (call:=call) (cx:=cx) (fr:=fr) (R:=fun i=>(fpAt fps i).1) (W:=fun i=>(fpAt fps i).2) (Q:=Eqv σ1) (fun τ υ h1 h2=>h2.trans h1) (fun k o ho=>by have:=backB_get _ 0 hlex k o (by simpa using ho);simpa using this) (fun i j hij hj=>by
     have:=hpairs j hj i hij
     simp only[Bool.or_eq_true,List.contains_eq_mem,decide_eq_true_eq] at this;rcases this with hp | hp
     ·exact .inr (apart_of (List.all_eq_true.1 hfree (i,j) hp))
     ·exact .inl hp) ops.size 0 (Array.replicate ops.size false) (reserve cx ops σ) (fun j o hj hl=>by
      have:(Array.replicate ops.size false).getD j false=false:=by
       rcases Nat.lt_or_ge j ops.size with h' | h'
       ·simp[h']
       ·simp[h']
      rw[this] at hl;cases hl) (fun j hj=>by simp[hj]) (by simp) (by simp) (by simpa using hl)
    have hw:SR own β {w with drawn:=w.drawn+1} (reserve cx ops σ) a.tmps:=hr.world (Nat.le_refl _) (fun _ _ _=>rfl)
    refine wpIn_region_any hT.mixed (wpAny_of_vany hS hC hT r Q (Eqv σ1) _ _ own β _ _ a hw hd hva (fun own' β' w' a' σ2 he hn=>hQ own' β' w' a' ?_))
    have hn':=hn.eqv he.symm;refine⟨hn'.sr.prune _,⟨hn'.stay.im,hn'.stay.other,hn'.stay.size,hn'.stay.os,hn'.stay.tape,hn'.stay.output,Nat.le_of_succ_le hn'.stay.drawn,hn'.stay.cells⟩,?_,hn'.defers,hn'.size⟩;have:=hb.trans hn'.bx
    cases hk:cx.keep id<;>exact this
   ·cases hv
 | false =>
  simp only[Option.map_eq_some_iff] at hv;obtain⟨σ1,h1,rfl⟩:=hv;refine wpIn_region_list (ok_vops hS hC hT r Q _ _ own β w _ a σ1 hr hd h1 (fun own' β' w' a' hn=>hQ _ _ _ _ ⟨hn.sr.prune _,hn.stay,?_,hn.defers,hn.size⟩))
  have:=hb.trans hn.bx
  cases hk:cx.keep id<;>exact this
end
end Go.Vm
end
section
namespace Go.Vm
open Go
section
variable {P:Program} {own own':Own} {β:Nat→Nat} {w:World} {σ:St} {a:Act} {k:Nat}
theorem NxtM.back {o1:Own} {β1:Nat→Nat} {w1:World} {σ1:St} {a1:Act} (h:NxtM own β w σ a o1 β1 w1 σ1 a1) (hd:Option (List Nat)) :
  ∃ o2,NxtM own β w σ a o2 β1 w1 (Vm.back σ.heap.length (Vm.prune hd σ1)) a1:=by
 have hle:=keepN_le (Vm.prune hd σ1).env ((Vm.prune hd σ1).heap.length-σ.heap.length) σ.heap.length;unfold Vm.back;generalize keepN (Vm.prune hd σ1).env ((Vm.prune hd σ1).heap.length-σ.heap.length) σ.heap.length=m at hle;refine⟨_,(h.sr.prune hd).cut _,h.stay.trans (Stay.below _ _ _),?_,h.marks.stay (Stay.below _ _ _),h.size⟩;have hh:(Vm.cut m (Vm.prune hd σ1)).heap=σ1.heap.take m:=by cases hd<;>rfl
 rw[hh];have hlen:=h.bx.1;refine⟨by simp;omega,fun id cs hi=>?_⟩
 have hlt:=bcells_lt hi;obtain⟨e,cs',hc⟩:=h.bx.2 id cs hi;exact⟨e,cs',by rw[bcells_take (by omega)];exact hc⟩
def exitOf:Ex→Exit
 | .normal=>.normal
 | .exit id=>.exit id
 | .ret=>.ret
theorem XR.undef {id:Nat} {c:Value}:XR own β w id .undef c:=⟨trivial,rfl,rfl⟩
theorem forRound_ok {tmps:Array Value} {t n0:Nat} {v:V} {c:Value} (h:ER own β w σ tmps t v c):XR own β w n0 (forRound (n0+1) v) c:=by
 unfold forRound;split
 ·rename_i cs
  split
  ·rename_i hc
   simp only[Bool.and_eq_true] at hc;have hn:noEx (.agg cs)=true:=by
    have:=hc.1
    simp only[noEx,List.all_eq_true] at this ⊢;intro y hy;have:=this y hy
    cases y<;>first | rfl | (simp[plainM] at this)
   exact⟨VR.place (L:=fun j=>.slot t 0 j) h hn,hn,hc.2⟩
  ·exact XR.undef
 ·rename_i cs off
  exact⟨h,rfl,rfl⟩
 ·split
  ·rename_i hc
   simp only[Bool.and_eq_true] at hc;obtain⟨c1,c2⟩:=hc;cases v<;>simp only[plainM] at c1<;>try (cases c1;done)
   all_goals exact⟨VR.place (L:=fun j=>.slot t 0 j) h rfl,rfl,by simpa [V.cells] using c2⟩
  ·exact XR.undef
theorem SR.dead (h:SR own β w σ a.tmps):SR own β w {σ with heap:=σ.heap++[.dead]} a.tmps:=by
 have hb:∀ id,bcells (σ.heap++[.dead]) id=bcells σ.heap id:=fun id=>bcells_reserve σ.heap 1 id
 refine⟨fun t=>?_,fun id cs hi=>h.heap.blk id cs (by rw[←hb];exact hi),fun b id hbk=>?_,h.heap.lt⟩
 ·have ht:=h.env t
  have lk:∀ p,look {σ with heap:=σ.heap++[.dead]} p=look σ p:=fun p=>by
   cases p with
   | slot x=>rfl
   | cell id off=>simp only[look];rw[hb]
  show ER own β w _ _ t (get σ.env t) _
  cases hv:get σ.env t with
  | lent p =>
   rw[hv] at ht;obtain⟨sz,n,xs,q1,q2⟩:=ht;exact⟨sz,n,xs,by rw[lk p];exact q1,q2⟩
  | xptr p i off =>
   rw[hv] at ht;obtain⟨sz,n,xs,b,len,cap,q1,q2⟩:=ht;exact⟨sz,n,xs,b,len,cap,by rw[lk p];exact q1,q2⟩
  | _=>rw[hv] at ht;exact ht
 ·obtain⟨e,cs,hc⟩:=h.heap.inv b id hbk
  exact⟨e,cs,by rw[hb];exact hc⟩
theorem Stay.putObj {own o1:Own} {w w1:World} (h:Stay own w o1 w1) {l:Nat} (hl:w.heap.size≤l) (him:∀ b,own b=.im→b<w.heap.size) (ob:Obj):Stay own w o1 (w1.putObj l ob):=by
 have ho:∀ b,b≠l→(w1.putObj l ob).heap[b]?=w1.heap[b]?:=fun b hb=>World.putObj_heap_other hb
 refine⟨fun b hb=>?_,fun b hlt hb=>?_,by simpa [World.putObj] using h.size,h.os,h.tape,h.output,h.drawn,fun b arr T hb=>?_⟩
 ·obtain⟨q1,q2⟩:=h.im b hb
  have:=him b hb
  exact⟨q1,by rw[ho b (by omega)];exact q2⟩
 ·obtain⟨q1,q2⟩:=h.other b hlt hb
  exact⟨q1,by rw[ho b (by omega)];exact q2⟩
 ·obtain⟨a2,q1,q2⟩:=h.cells b arr T hb
  have:=(Array.getElem?_eq_some_iff.1 hb).1
  exact⟨a2,by rw[ho b (by omega)];exact q1,q2⟩
set_option maxHeartbeats 1000000 in
theorem ok_range {T:Types} {call:CallF} {lp:Step→Step} {cx:Cx} (hS:Sound P call) {g:Operand} {ps:Array Tmp} {asg body:Code} {Q:Exit→Act→World→Prop} {ex:Ex} {σ':St} (h:SR own β w σ a.tmps)
  (hps:∀ p∈ps.toList,p<a.tmps.size) (hB1:codeB a.tmps.size cx asg=true) (hB2:codeB a.tmps.size cx body=true) (hv:vcode T call lp cx (.rangeFunc g ps asg body) σ=some (ex,σ'))
  (hQ:∀ own' β' w' a',NxtM own β w σ a own' β' w' σ' a'→Q (exitOf ex) a' w'):(Code.rangeFunc g ps asg body).wpIn (Fw none) 0 P Q a w:=by
 simp only[vcode] at hv;split at hv
 case h_2=>cases hv
 rename_i f first captured hrnd hg;obtain⟨H0,hH0⟩:∃ H0,H0=rangeIn cx ps.toList asg body σ:=⟨_,rfl⟩;obtain⟨vs,hvs⟩:∃ vs,vs=first++[.ref .yld σ.heap.length]++captured:=⟨_,rfl⟩;rw[←hH0,←hvs] at hv;generalize hks:reach H0 H0.length (argIds vs)=ks at hv;split at hv
 case isFalse=>cases hv
 rename_i hcl;simp only[Bool.and_eq_true] at hcl;obtain⟨⟨hcl,hak⟩,hlt⟩:=hcl;rw[Nat.blt_eq] at hlt;split at hv
 case h_2=>cases hv
 rename_i r H' hcall;unfold rangeIn at hH0;simp only at hH0;generalize hts:(cx.head (firstRegion (.seq asg body))).getD []=ts at hH0;have hfe:=opd_TR h g (by rw[hg];rfl)
 rw[hg] at hfe;obtain⟨ca,cb,hce,hc1,hc2,hc3,hc4⟩:=hfe;refine wpIn_rangeFunc fun fn _=>?_
 obtain⟨rec,hrec⟩:∃ rec:Loop,rec={state:=.ready,pending:=none,fn,tmps:=a.tmps,params:=ps,assign:=asg,body,defers:=w.heap.size}:=⟨_,rfl⟩;obtain⟨wD,hwD⟩:∃ wD,wD=w.alloc (.deferred (some [])):=⟨_,rfl⟩;have hszD:wD.heap.size=w.heap.size+1:=by rw[hwD];simp
 have hoD:∀ b,b<w.heap.size→wD.heap[b]?=w.heap[b]?:=fun b hb=>by rw[hwD];exact alloc_other w _ b hb
 have hDnew:wD.heap[w.heap.size]?=some (.deferred (some [])):=by rw[hwD];exact heap_alloc_new w _
 have hD0:own w.heap.size=.other:=by
  cases ho:own w.heap.size<;>first | rfl | exact absurd (h.heap.lt _ (by simp[ho])) (Nat.lt_irrefl _)
 have sD:SR own β wD σ a.tmps:=h.world (by omega) (fun b hb _=>hoD b (h.heap.lt b hb))
 have stD:Stay own w own wD:=⟨fun b hb=>⟨hb,hoD b (h.heap.lt b (by rw[hb];simp))⟩,fun b hlt hb=>⟨hb,hoD b hlt⟩,by omega,by rw[hwD];rfl,by rw[hwD];rfl,by rw[hwD];rfl,by rw[hwD];exact Nat.le_refl _,fun b arr T hb=>⟨arr,by rw[hoD b (Array.getElem?_eq_some_iff.1 hb).1];exact hb,rfl⟩⟩
 obtain⟨o1,β1,s1,st1,bx1,hβl,hol⟩:=sD.dead.lay (id:=σ.heap.length) (cs:=[.lp ts (ts.map fun t=>forRound (σ.heap.length+1) (get σ.env t)) ps.toList asg body cx .ready]) (.loop rec) (by simp) (by unfold bcells;simp)
  (fun own' β' hk hb hl h1 h2=>.inr ⟨h1,_,.loop rec,rfl,by rw[h2];exact heap_alloc_new wD _,rec,rfl,by rw[hrec],by rw[hrec],by rw[hrec],by rw[hrec];exact⟨rfl,rfl⟩,by rw[hrec];exact hB1,by rw[hrec];exact hB2,
   by rw[hrec];exact hps,fun t=>by
    have hg2:get (ts.zip (ts.map fun t=>forRound (σ.heap.length+1) (get σ.env t))) t=if t∈ts then forRound (σ.heap.length+1) (get σ.env t) else .undef:=by
     clear hts hH0
     induction ts with
     | nil=>rfl
     | cons x ts ih =>
      simp only[List.map_cons,List.zip_cons_cons,get];by_cases hx:x=t
      ·subst hx;simp
      ·rw[if_neg hx,ih];simp[Ne.symm hx]
    rw[hg2];split
    ·have hx:=(forRound_ok (n0:=σ.heap.length) (sD.env t)).mono hk hb
     have htm:rec.tmps=a.tmps:=by rw[hrec]
     rw[htm];exact hx
    ·exact XR.undef⟩)
 have hH0':({σ with heap:=σ.heap++[.dead]}:St).heap.set σ.heap.length (.cells [.lp ts (ts.map fun t=>forRound (σ.heap.length+1) (get σ.env t)) ps.toList asg body cx .ready])=H0:=by
  rw[hH0];simp
 rw[hH0'] at s1 bx1;obtain⟨W1,hW1⟩:∃ W1,W1=wD.alloc (.loop rec):=⟨_,rfl⟩;rw[←hW1] at s1 st1;have hsz1:W1.heap.size=w.heap.size+2:=by rw[hW1];simp[hszD]
 have hlen0:H0.length=σ.heap.length+1:=by rw[hH0];simp
 have hAR:AR o1 β1 W1 vs (ca.toList++[Value.func (.yield (w.heap.size+1)) #[] #[]]++cb.toList):=by
  rw[hvs];have old:∀ {xs:List V} {cs:Array Value},cs.size=xs.length→(∀ (j:Nat) (v:V) (c:Value),xs[j]?=some v→cs[j]?=some c→PR own β w v c)→AR o1 β1 W1 xs cs.toList:=fun hs hp=>by
   refine AR_of_PR hs (fun j v c hv hc=>(hp j v c hv hc).mono (fun b hb=>?_) (fun id hb=>?_))
   ·obtain⟨q1,q2⟩:=stD.im b hb
    obtain⟨q3,q4⟩:=st1.im b q1;exact⟨q3,q4.trans q2⟩
   ·obtain⟨_,cs,hcs⟩:=h.heap.inv _ _ hb
    have hbc:bcells ({σ with heap:=σ.heap++[.dead]}:St).heap id=some cs:=by
     have:=bcells_reserve σ.heap 1 id
     exact this.trans hcs
    obtain⟨e1,cs',hcs'⟩:=bx1.2 id cs hbc;exact⟨(s1.heap.blk id cs' hcs').own,e1⟩
  refine ((old hc1 hc3).append ⟨rfl,fun j v c hv hc=>?_⟩).append (old hc2 hc4)
  cases j with
  | zero =>
   simp at hv hc;subst hv;subst hc;refine⟨⟨?_,hol⟩,rfl⟩;simp only[refVal];rw[hβl,hszD]
  | succ j=>simp at hv
 obtain⟨⟨fnc,q1,q2,q3⟩,hC⟩:=hS.1 _ _ _ _ _ hlt hcall;obtain⟨bd,q3'⟩:=Option.isSome_iff_exists.1 q3;have hCalls:=hC _ β1 W1 _ (s1.heap.mask hcl) (hAR.mask hak) (fun b i j k=>mlower_not)
 refine⟨w.heap.size+1,[{target:=.collected w.heap.size,args:=#[]}],W1,{target:=.fn (.func f) cb,args:=ca++#[.func (.yield (w.heap.size+1)) #[] #[]]},W1,f,(ca.toList++[Value.func (.yield (w.heap.size+1)) #[] #[]]++cb.toList).toArray,W1,?_,?_,?_,?_,?_,?_⟩
 ·rw[hW1,hwD,hrec];exact run_enterLoop_outer _ _ _ _ _
 ·have hcv:∀ v,a.eval (.const v)=v:=fun _=>rfl
  simp[resolve,rangeCall,hce,hcv,Deferred.ofValue]
 ·exact fun _ _=>trivial
 ·have hargs':(ca.toList++[Value.func (.yield (w.heap.size+1)) #[] #[]]++cb.toList).toArray=ca++#[.func (.yield (w.heap.size+1)) #[] #[]]++cb:=by
   apply Array.ext';simp
  rw[hargs'];simp[invoke,callFunc,q1,q2,q3']
 ·exact fw_depth none 0
 rw[callsIn_fw];refine hCalls.mono ?_
 rintro e w3 ⟨c',o',β',rfl,t1,t2,t3,t4,t5⟩
 unfold rangeOut at hv;split at hv
 case isFalse=>cases hv
 rename_i hdead;obtain⟨o2,β2,g1,g2⟩:=back_part ks s1 t2 t3 t4 hdead t1;have hkn:ks.contains σ.heap.length=true:=List.all_eq_true.1 hak _ (by rw[hvs];unfold argIds;simp[V.cells,ptrId])
 have hpart:partS ks {env:=σ.env,heap:=H0} H'={env:=σ.env.map (fun x=>(x.1,killCellsIn ks x.2)),heap:=putH ks H0 H'++H'.drop H0.length}:=rfl
 have hb0:bcells H0 σ.heap.length=some [.lp ts (ts.map fun t=>forRound (σ.heap.length+1) (get σ.env t)) ps.toList asg body cx .ready]:=by
  unfold bcells;rw[hH0];simp
 split at hv
 case h_2=>cases hv
 rename_i ts' vs' ps' asg' body' cx' st hbl;have hbl2:bcells (partS ks {env:=σ.env,heap:=H0} H').heap σ.heap.length=some [.lp ts' vs' ps' asg' body' cx' st]:=by
  rw[hpart];exact (bcells_putH ks H0 H' _).trans ((if_neg (fun hq=>by rw[hkn] at hq;cases hq.2)).trans hbl)
 obtain⟨p1,ob,p2,rec',rfl,p3,p4,p5,p6,_⟩:=(g1.sr.heap.blk _ _ hbl2).spec rfl;have hβ2:β2 σ.heap.length=w.heap.size+1:=by
  have:=(g1.bx.2 σ.heap.length _ hb0).1
  rw[this,hβl,hszD]
 rw[hβ2] at p1 p2;have done:∀ (ex':Ex) (σ2:St) (jump:Option Code),rec'.state≠.busy→rec'.pending=jump→σ2=Vm.cut σ.heap.length (partS ks {env:=σ.env,heap:=H0} H')→ex'=ex→σ2=σ' →
   (Instr.endLoop (w.heap.size+1)).run P w3=.ok jump (w3.putObj (w.heap.size+1) (.loop {rec' with state:=.exhausted})) ∧
   NxtM own β w σ a (fun b=>below σ.heap.length (o2 b)) β2 (w3.putObj (w.heap.size+1) (.loop {rec' with state:=.exhausted})) σ' {a with defers:=[{target:=.collected w.heap.size,args:=#[]}]++a.defers}:=by
  intro ex' σ2 jump hbusy hpend h2 _ h3;subst h3;refine⟨by rw[←hpend];exact run_endLoop p2 hbusy,?_⟩
  have hsr:=g1.sr.cut σ.heap.length;rw[←h2] at hsr;have hno:(fun b=>below σ.heap.length (o2 b)) (w.heap.size+1)=.other:=by
   simp only[p1,below];rw[if_neg (Nat.lt_irrefl _)]
  have hput:∀ b,b≠w.heap.size+1→(w3.putObj (w.heap.size+1) (.loop {rec' with state:=.exhausted})).heap[b]?=w3.heap[b]?:=fun b hb=>World.putObj_heap_other hb
  have stAll:Stay own w (fun b=>below σ.heap.length (o2 b)) w3:=((stD.trans st1).trans g1.stay).trans (Stay.below _ _ _)
  have hD1:o1 w.heap.size=.other∧W1.heap[w.heap.size]?=wD.heap[w.heap.size]?:=st1.other _ (by omega) hD0
  have hD2:o2 w.heap.size=.other∧w3.heap[w.heap.size]?=W1.heap[w.heap.size]?:=g1.stay.other _ (by omega) hD1.1
  refine⟨hsr.world (by simp[World.putObj]) (fun b hb _=>hput b fun he=>hb (by rw[he];exact hno)),stAll.putObj (by omega) (fun b hb=>h.heap.lt b (by rw[hb];simp)) _,?_,⟨[w.heap.size],rfl,by simp,fun D hD=>?_⟩,rfl⟩
  ·have hlenp:σ.heap.length≤(partS ks {env:=σ.env,heap:=H0} H').heap.length:=by have:=g1.bx.1;simp only at this;omega
   refine⟨by rw[h2];simp only[Vm.cut,List.length_take];omega,fun id cs hi=>?_⟩
   have hidl:=bcells_lt hi;have hbc:bcells ({σ with heap:=σ.heap++[.dead]}:St).heap id=some cs:=(bcells_reserve σ.heap 1 id).trans hi;obtain⟨e1,cs1,hcs1⟩:=bx1.2 id cs hbc;obtain⟨e2,cs2,hcs2⟩:=g1.bx.2 id cs1 hcs1;exact⟨e2.trans e1,cs2,by rw[h2];simp only[Vm.cut];rw[bcells_take hidl];exact hcs2⟩
  ·simp at hD;subst hD
   exact⟨Nat.le_refl _,by simp only[hD2.1,below],by rw[hput _ (by omega),hD2.2,hD1.2];exact hDnew⟩
 simp only at hv;cases st with
 | busy=>cases hv
 | ready =>
  simp only at hv;injection hv with hv;injection hv with e1 e2;obtain⟨d1,d2⟩:=done .normal _ none (by rw[p6.1];simp) p6.2 rfl e1 e2
  refine⟨none,_,d1,?_⟩;subst e1;exact hQ _ _ _ _ d2
 | done ex0 =>
  simp only at hv;injection hv with hv;injection hv with e1 e2;subst e1;cases ex0 with
  | normal=>exact p6.elim
  | exit i =>
   obtain⟨d1,d2⟩:=done (.exit i) _ (some (.exit i)) (by rw[p6.1];simp) p6.2 rfl rfl e2
   exact⟨some (.exit i),_,d1,wpIn_exit (hQ _ _ _ _ d2)⟩
  | ret =>
   obtain⟨d1,d2⟩:=done .ret _ (some .ret) (by rw[p6.1];simp) p6.2 rfl rfl e2
   exact⟨some .ret,_,d1,wpIn_ret (hQ _ _ _ _ d2)⟩
section
variable {F:Fence} {n:Nat} {Q:Exit→Act→World→Prop} {b:Frame} {k:List Item} {cs:List Frame}
theorem stepR_scope {c:Code}:step P (lone (b.atR a (.code (.scope c)::k)) cs w)=.next (lone (b.atR a (.code c::.inScope c::k)) cs w) :=
 step_lone_go (by simp[stepG,stepG.exec,Frame.atR])
theorem stepR_inScope {c:Code}:step P (lone (b.atR a (.inScope c::k)) cs w)=.next (lone (b.atR a k) cs w) :=
 step_lone_go (by simp[stepG,stepG.exec,Frame.atR])
theorem wpIn_scope {c:Code} (h:c.wpIn F n P (fun e a w=>(∀ l,e≠.goto l)∧Q e a w) a w):(Code.scope c).wpIn F n P Q a w:=by
 intro b k cs hro hb hr;have h0:(lone (b.atR a (.code (.scope c)::k)) cs w).fenced P F:=fenced_calm hb hr rfl;obtain⟨e,a₁,w₁,⟨hg,hq⟩,harr⟩:=h b (.inScope c::k) cs hro hb hr;cases e with
 | normal=>exact⟨.normal,a₁,w₁,hq,.head h0 stepR_scope (StepsIn.trans harr (.one (fenced_calm hb hr rfl) stepR_inScope))⟩
 | exit id =>
  have hx:exitTo id (.inScope c::k)=exitTo id k:=by simp[exitTo]
  exact⟨_,a₁,w₁,hq,fun k' hk=>.head h0 stepR_scope (harr.1 k' (by rw[hx];exact hk)),
   fun hr' hk=>let ⟨k₁,h1,h2⟩:=harr.2 hr' (by rw[hx];exact hk);⟨k₁,h1,.head h0 stepR_scope h2⟩⟩
 | goto l=>exact absurd rfl (hg l)
 | ret=>exact⟨_,a₁,w₁,hq,.of_steps (.one h0 stepR_scope) harr⟩
 | panic ch=>exact⟨_,a₁,w₁,hq,.of_steps (.one h0 stepR_scope) harr⟩
 | outgrown=>exact⟨_,a₁,w₁,hq,.of_steps (.one h0 stepR_scope) harr⟩
end
theorem ok_code {T:Types} {call:CallF} {cx:Cx} (n:Nat) (hS:Sound P call) (hC:CxOk P cx) (hT:TOk P T) (r:Option Nat) (hrn:cx.rnd=false→r=none):∀ (c:Code) (own:Own) (β:Nat→Nat) (w:World) (σ:St) (a:Act) (Q:Exit→Act→World→Prop) (ex:Ex) (σ':St),
  SR own β w σ a.tmps→codeB a.tmps.size cx c=true→vcode T call (fun s=>rounds s n) cx c σ=some (ex,σ') →
  (∀ own' β' w' a',NxtM own β w σ a own' β' w' σ' a'→Q (exitOf ex) a' w')→c.wpIn (Fw r) 0 P Q a w
 | .skip,own,β,w,σ,a,Q,ex,σ',h,hB,hv,hQ=>by
  simp only[vcode] at hv;injection hv with hv;injection hv with e1 e2;subst e1;subst e2;exact wpIn_skip (hQ _ _ _ _ (NxtM.refl h))
 | .region id ops draw,own,β,w,σ,a,Q,ex,σ',h,hB,hv,hQ=>by
  simp only[vcode,Option.map_eq_some_iff] at hv;obtain⟨σ1,h1,h2⟩:=hv;injection h2 with e1 e2;subst e1;subst e2;simp only[codeB,Bool.and_eq_true,List.all_eq_true,Bool.or_eq_true,Bool.not_eq_true'] at hB;refine ok_region hS hC hT r Q h (fun o ho d hd=>?_) (fun hdr=>hB.2.resolve_left (by simp[hdr])) h1 (fun o' β' w' a' hn=>hQ o' β' w' a' hn.toM)
  have:=hB.1 o ho
  simpa [hd] using this
 | .seq x y,own,β,w,σ,a,Q,ex,σ',h,hB,hv,hQ=>by
  simp only[codeB,Bool.and_eq_true] at hB;simp only[vcode] at hv;refine wpIn_seq ?_;split at hv
  ·rename_i σ1 h1
   refine ok_code n hS hC hT r hrn x own β w σ a _ .normal σ1 h hB.1 h1 (fun own1 β1 w1 a1 hn=>?_)
   exact ok_code n hS hC hT r hrn y own1 β1 w1 σ1 a1 Q ex σ' hn.sr (by rw[hn.size];exact hB.2) hv (fun o2 β2 w2 a2 hn2=>hQ _ _ _ _ (hn.trans hn2))
  ·rename_i hne
   refine ok_code n hS hC hT r hrn x own β w σ a _ ex σ' h hB.1 hv (fun own1 β1 w1 a1 hn=>?_)
   cases ex with
   | normal=>exact absurd hv (hne σ')
   | exit i=>exact hQ _ _ _ _ hn
   | ret=>exact hQ _ _ _ _ hn
 | .cond c x y,own,β,w,σ,a,Q,ex,σ',h,hB,hv,hQ=>by
  simp only[codeB,Bool.and_eq_true] at hB;simp only[vcode] at hv;cases hc:opd σ.env c<;>simp only[hc] at hv<;>try (cases hv;done)
  rename_i t;refine wpIn_cond (opd_bool h hc) ?_;cases t
  ·exact ok_code n hS hC hT r hrn y own β w σ a Q ex σ' h hB.2 (by simpa using hv) hQ
  ·exact ok_code n hS hC hT r hrn x own β w σ a Q ex σ' h hB.1 (by simpa using hv) hQ
 | .block id x,own,β,w,σ,a,Q,ex,σ',h,hB,hv,hQ=>by
  simp only[codeB] at hB;simp only[vcode] at hv;refine wpIn_block ?_;split at hv
  ·rename_i i σ1 h1
   split at hv
   ·rename_i hi
    injection hv with hv;injection hv with e1 e2;subst e1;subst e2;refine ok_code n hS hC hT r hrn x own β w σ a _ (.exit i) σ1 h hB h1 (fun o1 β1 w1 a1 hn=>?_)
    simp only[exitOf,Exit.inBlock,hi,if_true];exact hQ _ _ _ _ hn
   ·rename_i hi
    injection hv with hv;injection hv with e1 e2;subst e1;subst e2;refine ok_code n hS hC hT r hrn x own β w σ a _ (.exit i) σ1 h hB h1 (fun o1 β1 w1 a1 hn=>?_)
    simp only[exitOf,Exit.inBlock,hi,if_false];exact hQ _ _ _ _ hn
  ·rename_i hne
   refine ok_code n hS hC hT r hrn x own β w σ a _ ex σ' h hB hv (fun o1 β1 w1 a1 hn=>?_)
   cases ex with
   | normal=>exact hQ _ _ _ _ hn
   | exit i=>exact absurd hv (hne i σ')
   | ret=>exact hQ _ _ _ _ hn
 | .exit id,own,β,w,σ,a,Q,ex,σ',h,hB,hv,hQ=>by
  simp only[vcode] at hv;injection hv with hv;injection hv with e1 e2;subst e1;subst e2;exact wpIn_exit (hQ _ _ _ _ (NxtM.refl h))
 | .ret,own,β,w,σ,a,Q,ex,σ',h,hB,hv,hQ=>by
  simp only[vcode] at hv;injection hv with hv;injection hv with e1 e2;subst e1;subst e2;exact wpIn_ret (hQ _ _ _ _ (NxtM.refl h))
 | .loop b,own,β,w,σ,a,Q,ex,σ',h,hB,hv,hQ=>by
  simp only[codeB] at hB;simp only[vcode] at hv;have hh:(Vm.prune (cx.head (firstRegion b)) σ).heap=σ.heap:=by cases cx.head (firstRegion b)<;>rfl
  have key:∀ (m:Nat) (o0:Own) (β0:Nat→Nat) (w0:World) (τ:St) (a0:Act),NxtM own β w (Vm.prune (cx.head (firstRegion b)) σ) a o0 β0 w0 τ a0 →
    rounds (fun τ=>match vcode T call (fun s=>rounds s n) cx b τ with
     | some (.normal,τ')=>some (.normal,Vm.back σ.heap.length (Vm.prune (cx.head (firstRegion b)) τ'))
     | r=>r) m τ=some (ex,σ')→Code.roundsIn (Fw r) 0 P b Q m a0 w0:=by
   intro m
   induction m with
   | zero=>intro o0 β0 w0 τ a0 _ hr;simp[rounds] at hr
   | succ m ih =>
    intro o0 β0 w0 τ a0 hs hr;rw[roundsIn_succ];simp only[rounds] at hr;have hB0:codeB a0.tmps.size cx b=true:=by rw[hs.size];exact hB
    have hend:∀ o3 β3 w3 σ3 a3,NxtM own β w (Vm.prune (cx.head (firstRegion b)) σ) a o3 β3 w3 σ3 a3→NxtM own β w σ a o3 β3 w3 σ3 a3:=fun o3 β3 w3 σ3 a3 hn=>by
     refine⟨hn.sr,hn.stay,?_,hn.marks,hn.size⟩;have:=hn.bx
     rwa [hh] at this
    cases hb:vcode T call (fun s=>rounds s n) cx b τ with
    | none=>simp[hb] at hr
    | some r1 =>
     obtain⟨ex1,τ1⟩:=r1;cases ex1 with
     | normal =>
      simp only[hb] at hr;refine ok_code n hS hC hT r hrn b o0 β0 w0 τ a0 _ .normal τ1 hs.sr hB0 hb (fun o1 β1 w1 a1 hn=>?_)
      obtain⟨o2,hn2⟩:=(hs.trans hn).back (cx.head (firstRegion b));rw[hh] at hn2;exact ih o2 β1 w1 _ a1 hn2 hr
     | exit i =>
      simp only[hb] at hr;injection hr with hr;injection hr with e1 e2;subst e1;subst e2;exact ok_code n hS hC hT r hrn b o0 β0 w0 τ a0 _ (.exit i) τ1 hs.sr hB0 hb (fun o1 β1 w1 a1 hn=>hQ _ _ _ _ (hend _ _ _ _ _ (hs.trans hn)))
     | ret =>
      simp only[hb] at hr;injection hr with hr;injection hr with e1 e2;subst e1;subst e2;exact ok_code n hS hC hT r hrn b o0 β0 w0 τ a0 _ .ret τ1 hs.sr hB0 hb (fun o1 β1 w1 a1 hn=>hQ _ _ _ _ (hend _ _ _ _ _ (hs.trans hn)))
  exact wpIn_loop_rounds n (key n own β w _ a (NxtM.refl (h.prune _)) hv)
 | .rangeFunc g ps asg body,own,β,w,σ,a,Q,ex,σ',h,hB,hv,hQ=>by
  have hrn0:cx.rnd=false:=by
   cases hr0:cx.rnd with
   | false=>rfl
   | true=>simp[vcode,hr0] at hv
  obtain rfl:=hrn hrn0
  simp only[codeB,Bool.and_eq_true,List.all_eq_true,decide_eq_true_eq] at hB;exact ok_range hS h hB.1.1 hB.1.2 hB.2 hv hQ
 | .scope x,own,β,w,σ,a,Q,ex,σ',h,hB,hv,hQ=>by
  simp only[codeB] at hB;simp only[vcode] at hv;exact wpIn_scope (ok_code n hS hC hT r hrn x own β w σ a _ ex σ' h hB hv (fun o1 β1 w1 a1 hn=>⟨fun l=>by cases ex<;>simp[exitOf],hQ _ _ _ _ hn⟩))
 | .label l,own,β,w,σ,a,Q,ex,σ',h,hB,hv,hQ=>by
  simp only[vcode] at hv;injection hv with hv;injection hv with e1 e2;subst e1;subst e2;exact wpIn_label (hQ _ _ _ _ (NxtM.refl h))
 | .goto _,_,_,_,_,_,_,_,_,_,_,hv,_=>by simp[vcode] at hv
 | .refuse _,_,_,_,_,_,_,_,_,_,_,hv,_=>by simp[vcode] at hv
end
end Go.Vm
end
section
namespace Go.Vm
open Go
section
variable {P:Program} {own:Own} {β:Nat→Nat} {w:World} {σ:St} {a:Act}
def slotTo (t i:Nat) (l:Loc):Loc:=match l with | .slot u _ j=>if u=t then .res i j else l | l=>l
theorem slotTo_reloc (t i:Nat):Reloc (slotTo t i):=by
 refine⟨rfl,rfl,fun _=>rfl,fun l id h=>?_,fun l h=>?_⟩
 ·cases l<;>simp only[slotTo] at h<;>first | rfl | exact h | (split at h<;>cases h)
 ·cases l<;>simp only[slotTo] at h<;>first | rfl | exact h | (split at h<;>cases h)
theorem outAt_ok {T:Types} (hT:TOk P T) (h:SR own β w σ a.tmps) (i:Nat) {r:ResultVar} {v:V} {ps:List (Place×V)} (ho:outAt T σ r=some (v,ps)) :
  ∃ c ρ,Reloc ρ∧(∀ m j,ρ (.res m j)=.res m j)∧SR (fun b=>ρ (own b)) β w (setPlaces σ ps) a.tmps∧VR (fun b=>ρ (own b)) β w (fun j=>.res i j) v c ∧
   BX β β σ.heap (setPlaces σ ps).heap∧∀ g:ResultVar→Sem Value,(∀ t,g (.tmp t)=pure (a.tmps.getD t undef))→(∀ x t,g (.cell x t)=(asAddr (a.tmps.getD x undef) >>= loadVar t))→(g r).run P w=.ok c w:=by
 cases r with
 | cell x t =>
  simp only[outAt] at ho;cases hTt:T t<;>simp only[hTt] at ho
  ·cases ho
  rename_i ti;cases hx:get σ.env x<;>simp only[hx] at ho<;>try (cases ho;done)
  rename_i id off;cases hbn:ncells σ.heap id<;>simp only[hbn] at ho
  ·cases ho
  rename_i cs;obtain⟨hb,hsp⟩:=ncells_some hbn;obtain⟨rw'⟩:=Row.of hT hTt;obtain⟨q1,q2⟩:=opd_ptr (x:=.tmp x) h (by simpa [opd] using hx)
  have q1':a.tmps.getD x undef=.pointer (some ⟨β id,off,none⟩):=q1;have hgo:∀ c,(loadVar t ⟨β id,off,none⟩).run P w=.ok c w→∀ g:ResultVar→Sem Value,(∀ t,g (.tmp t)=pure (a.tmps.getD t undef))→(∀ x t,g (.cell x t)=(asAddr (a.tmps.getD x undef) >>= loadVar t))→(g (.cell x t)).run P w=.ok c w:=by
   intro c hc g _ hg;rw[hg,q1'];simpa [asAddr] using hc
  obtain⟨b1,b2,arr,T0,b3,b4,b5⟩:=(h.heap.blk id cs hb).cells hsp;have hcell:∀ (j:Nat) (d:V),cs[j]?=some d→∃ c,w.cell? ⟨β id,j,none⟩=some c∧CR own β w (.cell id j) d c:=fun j d hd=>by
   have hlt:=(List.getElem?_eq_some_iff.1 hd).1;have ha':j<arr.size:=by omega
   refine⟨arr[j],?_,b5 j d _ hd (Array.getElem?_eq_getElem ha')⟩;rw[cell_of_row w _ _ arr T0 _ b3,Array.getElem?_eq_getElem ha']
  cases ha:asType ti ((cs.drop off).take ti.size)<;>simp only[ha] at ho
  ·cases ho
  rename_i v0;have hl:=asType_cells ha;have hplain:(((cs.drop off).take ti.size).all notEx=true)→v0=v→ps=[] →
    ∃ c ρ,Reloc ρ∧(∀ m j,ρ (.res m j)=.res m j)∧SR (fun b=>ρ (own b)) β w (setPlaces σ ps) a.tmps∧VR (fun b=>ρ (own b)) β w (fun j=>.res i j) v c ∧
    BX β β σ.heap (setPlaces σ ps).heap∧∀ g:ResultVar→Sem Value,(∀ t,g (.tmp t)=pure (a.tmps.getD t undef))→(∀ x t,g (.cell x t)=(asAddr (a.tmps.getD x undef) >>= loadVar t))→(g (.cell x t)).run P w=.ok c w:=by
   rintro hall rfl rfl
   have hget:∀ (j:Nat) (u:Value),(readCells w (β id) off ti.size)[j]?=some u→∃ d,((cs.drop off).take ti.size)[j]?=some d∧w.cell? ⟨β id,off+j,none⟩=some u∧CR own β w (.res i j) d u:=by
    intro j u hu;obtain⟨hj,rfl⟩:=readCells_get hu;have hd:((cs.drop off).take ti.size)[j]?=some (((cs.drop off).take ti.size)[j]'(by omega)):=List.getElem?_eq_getElem _
    obtain⟨_,hd'⟩:=take_drop_get hd;obtain⟨c,h1,h2⟩:=hcell _ _ hd';have hn:=List.all_eq_true.1 hall _ (List.mem_of_getElem? hd);exact⟨_,hd,by rw[h1];rfl,by rw[h1];exact h2.place (fun sz n xs he=>by rw[he] at hn;simp[notEx] at hn)⟩
   have hrun:=run_loadVar (P:=P) rw' w (β id) off (readCells w (β id) off ti.size) (readCells_length _ _ _ _) (fun j u hu=>let ⟨_,_,h1,_⟩:=hget j u hu;h1)
   have hvr:=asType_VR (L:=fun j=>.res i j) rw' ha (readCells_length w (β id) off ti.size) (fun j d c hd hc=>by
    obtain⟨d',h1,h2,h3⟩:=hget j c hc;rw[hd] at h1;injection h1 with h1;subst h1;exact h3)
   exact⟨_,fun l=>l,reloc_id,fun _ _=>rfl,h,hvr,BX.refl _ _,hgo _ hrun⟩
  have hplain':∀ u,v0=u→(if ((cs.drop off).take ti.size).all notEx then some (v0,([]:List (Place×V))) else none)=some (v,ps)→((cs.drop off).take ti.size).all notEx=true∧v0=v∧ps=[]:=by
   intro u _ hu;split at hu
   ·rename_i hq
    injection hu with hu;injection hu with e1 e2;exact⟨hq,e1,e2.symm⟩
   ·cases hu
  cases v0<;>simp only at ho
  case ex sz n xs =>
   injection ho with ho;injection ho with e1 e2;subst e1;subst e2;have hk:ti.kind.isAgg=false:=by
    cases hk:ti.kind.isAgg
    ·rfl
    ·unfold asType at ha
     rw[if_pos hl,hk] at ha;simp at ha
   have h1:=rw'.one hk;have h3:cs[off]?=some (.ex sz n xs):=by
    unfold asType at ha;rw[if_pos hl,hk] at ha;simp only[Bool.false_eq_true,if_false] at ha;simpa using (take_drop_get ha).2
   have hlook:look σ (.cell id off)=.ex sz n xs:=by
    simp only[look,hb];rw[List.getD_eq_getElem?_getD,h3];rfl
   obtain⟨o1,c,g1,g2,g3,_,rfl⟩:=h.give (.res i 0) (by simp) (by simp) hlook
   have hrun:=run_loadVar (P:=P) rw' w (β id) off [c] (by simp[h1]) (fun j u hu=>by
    cases j with
    | zero=>simp at hu;subst hu;exact g1
    | succ j=>simp at hu)
   have hm:mkV ti [c]=c:=by simp[mkV,hk]
   rw[hm] at hrun;refine⟨c,_,locOf_reloc (.cell id off) (by simp) (by simp),fun m j=>moved_ne (by simp[locOf]),g3,g2,?_,hgo _ hrun⟩
   simp only[setPlaces,setPlace,hb];refine⟨by simp,fun i ds hi=>⟨rfl,?_⟩⟩
   rw[bcells_set (bcells_lt hb)];split
   ·exact⟨_,rfl⟩
   ·exact⟨ds,hi⟩
  all_goals
   obtain⟨k1,k2,k3⟩:=hplain' _ rfl ho;exact hplain k1 k2 k3
 | tmp t =>
  have hgo:∀ g:ResultVar→Sem Value,(∀ t,g (.tmp t)=pure (a.tmps.getD t undef))→(∀ x t,g (.cell x t)=(asAddr (a.tmps.getD x undef) >>= loadVar t))→(g (.tmp t)).run P w=.ok (a.tmps.getD t undef) w:=by
   intro g hg _;rw[hg];simp
  simp only[outAt] at ho;have slotCase:∀ v',get σ.env t=v'→isWay v'=false→(∀ vs,v'≠.tup vs)→v=v'→ps=[(.slot t,.undef)] →
    ∃ ρ,Reloc ρ∧(∀ m j,ρ (.res m j)=.res m j)∧SR (fun b=>ρ (own b)) β w (setPlaces σ ps) a.tmps∧VR (fun b=>ρ (own b)) β w (fun j=>.res i j) v (a.tmps.getD t undef)∧BX β β σ.heap (setPlaces σ ps).heap:=by
   rintro v' hv hw ht rfl rfl
   have hr:=slotTo_reloc t i;refine⟨slotTo t i,hr,fun _ _=>rfl,h.slot hr (fun u i j hu=>by simp[slotTo,hu]) (fun _ _=>rfl) rfl (by simp only[TR,VR]),?_,BX.refl _ _⟩
   have hE:=h.env t;rw[hv] at hE;have hT:=hE.to_TR hw;have ho:oneT v=true:=by cases v<;>first | rfl | exact absurd rfl (ht _)
   rw[TR_one ho] at hT;have:=hT.reloc hr
   simpa [slotTo] using this
  have slotCase':∀ v',get σ.env t=v'→isWay v'=false→(∀ vs,v'≠.tup vs)→v=v'→ps=[(.slot t,.undef)] →
    ∃ c ρ,Reloc ρ∧(∀ m j,ρ (.res m j)=.res m j)∧SR (fun b=>ρ (own b)) β w (setPlaces σ ps) a.tmps∧VR (fun b=>ρ (own b)) β w (fun j=>.res i j) v c∧BX β β σ.heap (setPlaces σ ps).heap ∧
    ∀ g:ResultVar→Sem Value,(∀ t,g (.tmp t)=pure (a.tmps.getD t undef))→(∀ x t,g (.cell x t)=(asAddr (a.tmps.getD x undef) >>= loadVar t))→(g (.tmp t)).run P w=.ok c w:=by
   intro v' h1 h2 h3 h4 h5;obtain⟨ρ,k1,k2,k3,k4,k5⟩:=slotCase v' h1 h2 h3 h4 h5;exact⟨_,ρ,k1,k2,k3,k4,k5,hgo⟩
  cases hv:get σ.env t<;>simp only[hv] at ho
  case lent p =>
   have hE:=h.env t;rw[hv] at hE;obtain⟨sz,n,xs,q1,q2⟩:=hE;simp only[q1] at ho;injection ho with ho;injection ho with e1 e2;subst e1;subst e2;obtain⟨o1,c,g1,g2,g3,_,rfl⟩:=h.give (.res i 0) (by simp) (by simp) q1
   rw[q2] at g1;injection g1 with g1;subst g1;refine⟨_,_,locOf_reloc p (by simp) (by simp),fun m j=>moved_ne (by cases p<;>simp[locOf]),g3,g2,?_,hgo⟩
   simp only[setPlaces];cases p with
   | slot t=>exact BX.refl _ _
   | cell id off =>
    obtain⟨cs,hc,_⟩:=Place.cases_look q1;simp only[setPlace,hc];refine⟨by simp,fun i ds hi=>⟨rfl,?_⟩⟩
    rw[bcells_set (bcells_lt hc)];split
    ·exact⟨_,rfl⟩
    ·exact⟨ds,hi⟩
  case xptr=>cases ho
  case tup=>cases ho
  all_goals
   injection ho with ho;injection ho with e1 e2;exact slotCase' _ hv rfl (fun _=>by simp) e1.symm e2.symm
theorem outs_ok {T:Types} (hT:TOk P T):∀ (rs:List ResultVar) (i:Nat) (own:Own) (σ:St) (vs:List V) (σ':St),SR own β w σ a.tmps→outs T rs σ=some (vs,σ') →
  ∃ (cs:List Value) (ρ:Loc→Loc),Reloc ρ∧(∀ m j,ρ (.res m j)=.res m j)∧SR (fun b=>ρ (own b)) β w σ' a.tmps∧BX β β σ.heap σ'.heap∧cs.length=vs.length ∧
   (∀ (j:Nat) (v:V) (c:Value),vs[j]?=some v→cs[j]?=some c→VR (fun b=>ρ (own b)) β w (fun k=>.res (i+j) k) v c) ∧
   ∀ (g:ResultVar→Sem Value),(∀ t,g (.tmp t)=pure (a.tmps.getD t undef))→(∀ x t,g (.cell x t)=(asAddr (a.tmps.getD x undef) >>= loadVar t))→(rs.mapM g).run P w=.ok cs w
 | [],i,own,σ,vs,σ',h,ho=>by
  simp only[outs] at ho;injection ho with ho;injection ho with e1 e2;subst e1;subst e2;exact⟨[],id,reloc_id,fun _ _=>rfl,h,BX.refl _ _,rfl,by simp,fun _ _ _=>by simp⟩
 | r::rs,i,own,σ,vs,σ',h,ho=>by
  simp only[outs] at ho;split at ho
  ·rename_i v ps h1
   rw[Option.map_eq_some_iff] at ho;obtain⟨⟨us,σ2⟩,h2,h3⟩:=ho;injection h3 with e1 e2;subst e1;subst e2;obtain⟨c0,ρ,hr,hres,g1,g2,g3,g4⟩:=outAt_ok hT h i h1;obtain⟨cs,ρ',hr',hres',k1,k2,k3,k4,k5⟩:=outs_ok hT rs (i+1) _ _ _ _ g1 h2;refine⟨c0::cs,fun l=>ρ' (ρ l),⟨by rw[hr.im,hr'.im],by rw[hr.other,hr'.other],fun id=>by rw[hr.blk,hr'.blk],fun l id hl=>hr.noblk _ _ (hr'.noblk _ _ hl),fun l hl=>hr.noother _ (hr'.noother _ hl)⟩,
    fun m j=>by simp only[hres,hres'],k1,g3.trans k2,by simp[k3],fun j v c hv hc=>?_,fun g hg hg'=>?_⟩
   ·cases j with
    | zero =>
     simp at hv hc;subst hv;subst hc;have:=g2.reloc hr'
     simpa [hres'] using this
    | succ j =>
     have:=k4 j v c (by simpa using hv) (by simpa using hc)
     simpa [Nat.add_assoc,Nat.add_comm 1 j] using this
   ·simp only[List.mapM_cons,Sem.run_bind,g4 g hg hg',Result.andThen_ok,k5 g hg hg',Sem.run_pure]
  ·cases ho
theorem get_zip:∀ (vs:List V) (k t:Nat),get ((vs.zipIdx k).map fun x=>(x.2,x.1)) t=if k≤t then (vs[t-k]?).getD .undef else .undef
 | [],k,t=>by simp[get]
 | v::vs,k,t=>by
  simp only[List.zipIdx_cons,List.map_cons,get];by_cases h:k=t
  ·subst h;simp
  ·rw[if_neg h,get_zip vs (k+1) t]
   by_cases hk:k≤t
   ·rw[if_pos (by omega),if_pos hk,show t-k=(t-(k+1))+1 by omega];simp
   ·rw[if_neg (by omega),if_neg hk]
theorem codeB_mono {n m:Nat} {cx:Cx} (h:n≤m):∀ (c:Code),codeB n cx c=true→codeB m cx c=true
 | .skip,_=>rfl
 | .region id ops draw,hc=>by
  simp only[codeB,Bool.and_eq_true,List.all_eq_true] at hc ⊢;refine⟨fun o ho=>?_,hc.2⟩
  have:=hc.1 o ho
  cases hd:o.dst with
  | none=>rfl
  | some d =>
   simp only[hd,decide_eq_true_eq] at this ⊢;exact Nat.lt_of_lt_of_le this h
 | .seq x y,hc=>by simp only[codeB,Bool.and_eq_true] at hc ⊢;exact⟨codeB_mono h x hc.1,codeB_mono h y hc.2⟩
 | .cond c x y,hc=>by simp only[codeB,Bool.and_eq_true] at hc ⊢;exact⟨codeB_mono h x hc.1,codeB_mono h y hc.2⟩
 | .block id x,hc=>by simp only[codeB] at hc ⊢;exact codeB_mono h x hc
 | .loop x,hc=>by simp only[codeB] at hc ⊢;exact codeB_mono h x hc
 | .rangeFunc g ps asg body,hc=>by
  simp only[codeB,Bool.and_eq_true,List.all_eq_true,decide_eq_true_eq] at hc ⊢;exact⟨⟨fun p hp=>Nat.lt_of_lt_of_le (hc.1.1 p hp) h,codeB_mono h asg hc.1.2⟩,codeB_mono h body hc.2⟩
 | .exit _,_=>rfl
 | .scope x,hc=>by simp only[codeB] at hc ⊢;exact codeB_mono h x hc
 | .label _,_=>rfl
 | .goto _,_=>rfl
 | .ret,_=>rfl
 | .refuse _,_=>rfl
def FnsOk (P:Program) (F:Fns):Prop:=∀ f fi,F f=some fi→f<yB∧∃ fn,P.funcs[f]?=some fn∧fn.body=some fi.body∧fn.results.toList=fi.results∧fn.name≠ "runtime.NumGoroutine"∧codeB fn.ntmps fi.cx fi.body=true∧CxOk P fi.cx
def dropSlots (l:Loc):Loc:=match l with | .slot _ _ _=>.other | l=>l
theorem ok_leave {T:Types} (hT:TOk P T) {rs:List ResultVar} {fn:Func} (hrs:fn.results.toList=rs) {σ:St} {n:Nat} {r:V} {H':Heap} (h:SR own β w σ a.tmps) (hn:n≤σ.heap.length) (hl:leave T rs n σ=some (r,H')) :
  ∃ c own',(results fn a.tmps).run P w=.ok c w∧TR own' β w (fun i j=>.res i j) r c∧HR own' β w H'∧Stay own w own' w∧(∀ b i j k,own' b≠.slot i j k) ∧
   n≤H'.length∧∀ id,id<n→(∃ cs,bcells σ.heap id=some cs)→∃ cs,bcells H' id=some cs:=by
 unfold leave at hl;split at hl
 ·rename_i vs σ' ho
  injection hl with hl;injection hl with e1 e2;subst e1;obtain⟨cs,ρ,hr,hres,k1,k2,k3,k4,k5⟩:=outs_ok (P:=P) (β:=β) (w:=w) hT rs 0 own σ vs σ' h ho;have hrun:(results fn a.tmps).run P w=.ok (if h:cs.toArray.size=1 then cs.toArray[0] else .tuple cs.toArray) w:=by
   unfold results;rw[Array.mapM_eq_mapM_toList,hrs];have hk:=k5 (fun r=>match r with | .tmp t=>pure (a.tmps.getD t undef) | .cell x t=>do loadVar t (←asAddr (a.tmps.getD x undef))) (fun t=>rfl) (fun x t=>rfl)
   simp only[Sem.run_bind,Sem.run_map]
   erw[hk]
   rfl
  have hTR:TR (fun b=>ρ (own b)) β w (fun i j=>.res i j) (asResult vs) (if h:cs.toArray.size=1 then cs.toArray[0] else .tuple cs.toArray):=by
   match vs,cs,k3,k4 with
   | [v],[c],_,k4 =>
    simp only[asResult,List.size_toArray,List.length_cons,List.length_nil,Nat.zero_add,dite_true];exact (k4 0 v c rfl rfl).to_TR rfl
   | [],[],_,_=>exact⟨#[],by simp,rfl,by simp⟩
   | v::v'::vs,c::c'::cs,k3,k4 =>
    refine⟨(c::c'::cs).toArray,by simp,by simpa using k3,fun i v c hv hc=>?_⟩
    have:=k4 i v c hv (by simpa using hc)
    simpa using this
  have k6:=k2.1;have drop:∀ (o1:Own) (H1:Heap),HR o1 β w H1→TR o1 β w (fun i j=>.res i j) (asResult vs) (if h:cs.toArray.size=1 then cs.toArray[0] else .tuple cs.toArray)→Stay own w o1 w →
    HR (fun b=>dropSlots (o1 b)) β w H1∧TR (fun b=>dropSlots (o1 b)) β w (fun i j=>.res i j) (asResult vs) (if h:cs.toArray.size=1 then cs.toArray[0] else .tuple cs.toArray) ∧
     Stay own w (fun b=>dropSlots (o1 b)) w∧∀ b i j k,(fun b=>dropSlots (o1 b)) b≠.slot i j k:=by
   intro o1 H1 g1 g2 g3;refine⟨⟨fun id cs hi=>?_,fun b id hb=>?_,fun b hb=>g1.lt b fun hq=>hb (by simp only[hq,dropSlots])⟩,?_,⟨fun b hb=>?_,fun b hlt hb=>?_,Nat.le_refl _,rfl,rfl,rfl,Nat.le_refl _,fun _ arr _ h=>⟨arr,h,rfl⟩⟩,fun b i j k hq=>?_⟩
   ·exact (g1.blk id cs hi).mono (fun b hb=>⟨by simp only[hb,dropSlots],rfl⟩) (fun id hb=>⟨by simp only[hb,dropSlots],rfl⟩) (fun j b hb=>⟨by simp only[hb,dropSlots],rfl⟩) rfl
   ·refine g1.inv b id ?_
    simp only[dropSlots] at hb;split at hb
    ·cases hb
    ·exact hb
   ·exact g2.mono (fun b hb=>⟨by simp only[hb,dropSlots],rfl⟩) (fun id hb=>⟨by simp only[hb,dropSlots],rfl⟩) (fun i j b hb=>⟨by simp only[hb,dropSlots],rfl⟩)
   ·obtain⟨q1,q2⟩:=g3.im b hb
    exact⟨by simp only[q1,dropSlots],q2⟩
   ·obtain⟨q1,q2⟩:=g3.other b hlt hb
    exact⟨by simp only[q1,dropSlots],q2⟩
   ·simp only[dropSlots] at hq
    split at hq
    ·cases hq
    ·rename_i hne;exact hne i j k hq
  have hst:=Stay.reloc (own:=own) (w:=w) hr;by_cases hok:okBelowV n (asResult vs)=true
  ·rw[if_pos hok] at e2;subst e2
   have t1:=TR.cut (own':=fun b=>below n (ρ (own b))) (k:=n) (fun b hb=>by simp only[hb,below]) (fun id hi hb=>by simp only[hb,below];rw[if_pos hi]) (fun i j b hb=>by simp only[hb,below]) hTR hok
   obtain⟨d1,d2,d3,d4⟩:=drop _ _ (k1.heap.cut n) t1 (hst.trans (Stay.below _ _ _));refine⟨_,_,hrun,d2,d1,d3,d4,by simp;omega,fun id hid hc=>?_⟩
   obtain⟨cs0,hc⟩:=hc;obtain⟨_,cs',hc'⟩:=k2.2 id cs0 hc;exact⟨cs',by rw[bcells_take hid];exact hc'⟩
  ·rw[if_neg hok] at e2;subst e2
   obtain⟨d1,d2,d3,d4⟩:=drop _ _ k1.heap hTR hst;refine⟨_,_,hrun,d2,d1,d3,d4,by omega,fun id hid hc=>?_⟩
   obtain⟨cs0,hc⟩:=hc;exact⟨_,(k2.2 id cs0 hc).2.choose_spec⟩
 ·cases hl
theorem leaves_marks {fn:Func} {tmps:Array Value} {R:Ending→World→Prop}:∀ (ms:List Nat) (own:Own) (w:World),SR own β w σ tmps→ms.Nodup→(∀ D∈ms,own D=.other∧w.heap[D]?=some (.deferred (some []))) →
  (∀ w',SR own β w' σ tmps→(∀ b,own b≠.other→w'.heap[b]?=w.heap[b]?)→(∀ b,b∉ms→w'.heap[b]?=w.heap[b]?)→w'.heap.size=w.heap.size→w'.os=w.os→w'.tape=w.tape→w'.output=w.output→w'.drawn=w.drawn →
   ∃ v,(results fn tmps).run P w'=.ok v w'∧R (.returned v) w') →
  LeavesInM (Fw none) 0 P fn tmps R (ms.map fun D=>{target:=.collected D,args:=#[]}) .returning w
 | [],own,w,h,_,_,hR=>hR w h (fun _ _=>rfl) (fun _ _=>rfl) rfl rfl rfl rfl rfl
 | D::ms,own,w,h,hn,hD,hR=>by
  obtain⟨g1,g2⟩:=hD D (by simp)
  rw[List.nodup_cons] at hn;have hput:∀ b,b≠D→(w.putObj D (.deferred none)).heap[b]?=w.heap[b]?:=fun b hb=>World.putObj_heap_other hb
  refine⟨by simp,.inl ⟨D,_,rfl,run_takeDeferred g2,?_⟩⟩
  have hs:SR own β (w.putObj D (.deferred none)) σ tmps:=h.world (by simp[World.putObj]) (fun b hb _=>hput b fun he=>hb (he▸g1))
  refine leaves_marks ms own _ hs hn.2 (fun E hE=>?_) (fun w' k1 k2 k3 k4 k5 k6 k7 k8=>hR w' k1 (fun b hb=>?_) (fun b hb=>?_) ?_ k5 k6 k7 k8)
  ·obtain⟨e1,e2⟩:=hD E (by simp[hE])
   exact⟨e1,by rw[hput E (fun he=>hn.1 (he▸hE))];exact e2⟩
  ·rw[k2 b hb];exact hput b fun he=>hb (he▸g1)
  ·simp only[List.mem_cons,not_or] at hb
   rw[k3 b hb.2];exact hput b hb.1
  ·rw[k4];simp[World.putObj]
theorem ok_fun {T:Types} {F:Fns} {call:CallF} (n:Nat) (hS:Sound P call) (hT:TOk P T) (hF:FnsOk P F):∀ f vs H r H',vfun T F call (fun s=>rounds s n) f vs H=some (r,H')→(∃ fn,P.funcs[f]?=some fn∧fn.name≠ "runtime.NumGoroutine"∧fn.body.isSome=true) ∧
  ∀ (own:Own) (β:Nat→Nat) (w:World) (cs:List Value),HR own β w H→AR own β w vs cs→(∀ b i j k,own b≠.slot i j k)→Calls P f cs.toArray w (Ret own β w H r H'):=by
 intro f vs H r H' hv;unfold vfun at hv;cases hf:F f<;>simp only[hf] at hv
 ·cases hv
 rename_i fi;obtain⟨_,fn,q1,q2,q3,q4,q5,q6⟩:=hF f fi hf;refine⟨⟨fn,q1,q4,by rw[q2];rfl⟩,fun own β w cs hh ha hns=>?_⟩
 have hc:∃ ex σ1,vcode T call (fun s=>rounds s n) fi.cx fi.body (enter vs H)=some (ex,σ1)∧(ex=.normal∨ex=.ret)∧leave T fi.results H.length σ1=some (r,H'):=by
  cases hc:vcode T call (fun s=>rounds s n) fi.cx fi.body (enter vs H) with
  | none=>simp[hc] at hv
  | some x =>
   obtain⟨ex,σ1⟩:=x;cases ex with
   | exit i=>simp[hc] at hv
   | normal=>exact⟨_,_,rfl,.inl rfl,by simpa [hc] using hv⟩
   | ret=>exact⟨_,_,rfl,.inr rfl,by simpa [hc] using hv⟩
 obtain⟨ex,σ1,hc1,hex,hl⟩:=hc;refine callsIn_fw.1 (callsIn_of_wp_marks (F:=Fw none) (n:=0) q1 q2 trivial ?_);have hsr:SR own β w (enter vs H) (cs.toArray++Array.replicate (fn.ntmps-cs.toArray.size) undef):=by
  refine⟨fun t=>?_,hh⟩
  have hg:get (enter vs H).env t=(vs[t]?).getD .undef:=by
   have:=get_zip vs 0 t
   simpa [enter] using this
  rw[hg];cases hvt:vs[t]? with
  | none=>exact ER.undef _ _ _ _ _ _ _
  | some v =>
   have hlt:t<cs.length:=by rw[ha.1];exact (List.getElem?_eq_some_iff.1 hvt).1
   obtain⟨g1,g2⟩:=ha.2 t v cs[t] hvt (List.getElem?_eq_getElem hlt);have he:(cs.toArray++Array.replicate (fn.ntmps-cs.toArray.size) undef).getD t undef=cs[t]:=by
    rw[Array.getD_eq_getD_getElem?,Array.getElem?_append_left (by simpa using hlt)]
    simp[hlt]
   rw[he];exact ER.of_TR (TR_of_VR g1 g2) g1.notWay.1
 refine ok_code n hS q6 hT none (fun _=>rfl) fi.body own β w (enter vs H) {tmps:=cs.toArray++Array.replicate (fn.ntmps-cs.toArray.size) undef,defers:=[]} _ ex σ1 hsr (codeB_mono (by simp;omega) _ q5) hc1 (fun o1 β1 w1 a1 hn=>?_)
 have hlen:H.length≤σ1.heap.length:=hn.bx.1;obtain⟨ms,m1,m2,m3⟩:=hn.marks;simp only[List.append_nil] at m1;have hfin:LeavesInM (Fw none) 0 P fn a1.tmps (Ret own β w H r H') a1.defers .returning w1:=by
  rw[m1];refine leaves_marks ms o1 w1 hn.sr m2 (fun D hD=>(m3 D hD).2) (fun w2 k1 k2 k3 k4 k5 k6 k7 k8=>?_)
  obtain⟨c,o2,r1,r2,r3,r4,r5,r6,r7⟩:=ok_leave (P:=P) hT q3 k1 hlen hl;have st2:Stay own w o1 w2:=by
   refine⟨fun b hb=>?_,fun b hlt hb=>?_,by rw[k4];exact hn.stay.size,k5.trans hn.stay.os,k6.trans hn.stay.tape,k7.trans hn.stay.output,by rw[k8];exact hn.stay.drawn,fun b arr T hb=>?_⟩
   ·obtain⟨e1,e2⟩:=hn.stay.im b hb
    exact⟨e1,by rw[k2 b (by rw[e1];simp)];exact e2⟩
   ·obtain⟨e1,e2⟩:=hn.stay.other b hlt hb
    refine⟨e1,?_⟩;rw[k3 b (fun hm=>by have:=(m3 b hm).1;omega)];exact e2
   ·obtain⟨a2,e1,e2⟩:=hn.stay.cells b arr T hb
    have hbl:=(Array.getElem?_eq_some_iff.1 hb).1;exact⟨a2,by rw[k3 b (fun hm=>by have:=(m3 b hm).1;omega)];exact e1,e2⟩
  refine⟨c,r1,c,o2,β1,rfl,r2,r3,st2.trans r4,⟨r6,fun id cs hi=>?_⟩,r5⟩
  obtain⟨e,hc⟩:=hn.bx.2 id cs hi;exact⟨e,r7 id (bcells_lt hi) hc⟩
 rcases hex with rfl | rfl<;>exact hfin
theorem codeB_cx {m:Nat} {cx cx':Cx} (h:cx.free=cx'.free):∀ (c:Code),codeB m cx c=codeB m cx' c
 | .skip=>rfl
 | .region id ops draw=>by simp only[codeB,h]
 | .seq x y=>by simp only[codeB,codeB_cx h x,codeB_cx h y]
 | .cond c x y=>by simp only[codeB,codeB_cx h x,codeB_cx h y]
 | .block id x=>by simp only[codeB,codeB_cx h x]
 | .loop x=>by simp only[codeB,codeB_cx h x]
 | .rangeFunc g ps asg body=>by simp only[codeB,codeB_cx h asg,codeB_cx h body]
 | .exit _=>rfl
 | .scope x=>by simp only[codeB,codeB_cx h x]
 | .label _=>rfl
 | .goto _=>rfl
 | .ret=>rfl
 | .refuse _=>rfl
theorem HR.finish {H:Heap} (h:HR own β w H) (n:Nat):∃ o',HR o' β w (H.take n)∧Stay own w o' w∧∀ b i j k,o' b≠.slot i j k:=by
 have g1:=h.cut n;refine⟨fun b=>dropSlots (below n (own b)),⟨fun id cs hi=>?_,fun b id hb=>?_,fun b hb=>g1.lt b fun hq=>hb (by simp only[hq,dropSlots])⟩,⟨fun b hb=>⟨by simp only[hb,below,dropSlots],rfl⟩,fun b hlt hb=>⟨by simp only[hb,below,dropSlots],rfl⟩,Nat.le_refl _,rfl,rfl,rfl,Nat.le_refl _,fun _ arr _ h=>⟨arr,h,rfl⟩⟩,fun b i j k hq=>?_⟩
 ·exact (g1.blk id cs hi).mono (fun b hb=>⟨by simp only[hb,dropSlots],rfl⟩) (fun id hb=>⟨by simp only[hb,dropSlots],rfl⟩) (fun j b hb=>⟨by simp only[hb,dropSlots],rfl⟩) rfl
 ·refine g1.inv b id ?_
  simp only[dropSlots] at hb;split at hb
  ·cases hb
  ·exact hb
 ·simp only[dropSlots] at hq
  split at hq
  ·cases hq
  ·rename_i hne;exact hne i j k hq
def Lie (own:Own) (β:Nat→Nat) (w:World) (env:Env) (tmps:Array Value):Prop:=∀ t,VR own β w (fun _=>.im) (get env t) (tmps.getD t undef)∧noEx (get env t)=true
theorem lie_args:∀ (ps:List Nat) (vs:List V) (cs:List Value) (env:Env) (tmps:Array Value),ps.length=vs.length→AR own β w vs cs→(∀ p∈ps,p<tmps.size)→Lie own β w env tmps →
  Lie own β w ((ps.zip vs).reverse++env) ((ps.zip cs).foldl (fun tmps (t,a)=>tmps.setIfInBounds t a) tmps)∧((ps.zip cs).foldl (fun tmps (t,a)=>tmps.setIfInBounds t a) tmps).size=tmps.size
 | [],vs,cs,env,tmps,hl,ha,hp,h=>by
  obtain rfl:=List.eq_nil_of_length_eq_zero hl.symm
  exact⟨by simpa using h,by simp⟩
 | p::ps,[],cs,env,tmps,hl,_,_,_=>by simp at hl
 | p::ps,v::vs,[],env,tmps,hl,ha,_,_=>by have:=ha.1;simp at this
 | p::ps,v::vs,c::cs,env,tmps,hl,ha,hp,h=>by
  obtain⟨g1,g2⟩:=ha.2 0 v c rfl rfl;have h1:Lie own β w ((p,v)::env) (tmps.setIfInBounds p c):=fun t=>by
   simp only[get];by_cases ht:p=t
   ·subst ht
    rw[if_pos rfl];have hlt:p<tmps.size:=hp p (by simp)
    have:(tmps.setIfInBounds p c).getD p undef=c:=by simp[Array.getD,hlt]
    rw[this];exact⟨VR.place g1 g2,g2⟩
   ·rw[if_neg ht]
    have:(tmps.setIfInBounds p c).getD t undef=tmps.getD t undef:=by
     rw[Array.getD_eq_getD_getElem?,Array.getD_eq_getD_getElem?,Array.getElem?_setIfInBounds_ne ht]
    rw[this];exact h t
  obtain⟨k1,k2⟩:=lie_args ps vs cs _ _ (by simpa using hl) ⟨by simpa using ha.1,fun j v c hv hc=>ha.2 (j+1) v c (by simpa using hv) (by simpa using hc)⟩ (fun q hq=>by simpa using hp q (by simp[hq])) h1
  refine⟨?_,by simpa using k2⟩
  simp only[List.zip_cons_cons,List.reverse_cons,List.foldl_cons,List.append_assoc,List.singleton_append];exact k1
theorem Lie.sr {env:Env} {tmps:Array Value} {H:Heap} (h:Lie own β w env tmps) (hh:HR own β w H):SR own β w {env:=env,heap:=H} tmps :=
 ⟨fun t=>ER.of_TR (TR_of_VR (h t).1 (h t).2) (h t).1.notWay.1,hh⟩
theorem ok_round {T:Types} {F:Fns} {call:CallF} (n:Nat) (hS:Sound P call) (hT:TOk P T) (hF:FnsOk P F) (id:Nat) (args:List V) (H:Heap) (r:V) (H':Heap) (hv:vround T F call (fun s=>rounds s n) id args H=some (r,H'))
  (own:Own) (β:Nat→Nat) (w:World) (cs:List Value) (hh:HR own β w H) (ha:AR own β w args cs) (_hns:∀ b i j k,own b≠.slot i j k) :
  ∃ rec:Loop,w.heap[β id]?=some (.loop rec)∧cs.length=rec.params.size ∧
   RoundIn (Fw none) 0 P (β id) rec.fn ((rec.params.zip cs.toArray).foldl (fun tmps (t,a)=>tmps.setIfInBounds t a) rec.tmps) rec.assign rec.body w (Ret own β w H r H'):=by
 unfold vround at hv;split at hv
 case h_2=>cases hv
 rename_i ts vs ps asg body cx hb;split at hv
 case h_2=>cases hv
 rename_i fi hfi;split at hv
 case isFalse=>cases hv
 rename_i hc;obtain⟨c1,c2⟩:=hc;split at hv
 case h_2=>cases hv
 rename_i σ1 hasg;split at hv
 case h_2=>cases hv
 rename_i ts1 vs1 ps1 asg1 body1 cx1 hb1;split at hv
 case h_2=>cases hv
 rename_i ex σ3 hbody;split at hv
 case h_2=>cases hv
 rename_i ts3 vs3 ps3 asg3 body3 cx3 hb3;obtain⟨_,_,_,_,_,_,_,q6⟩:=hF _ _ hfi;have hC:CxOk P {cx with rnd:=true}:=by
  unfold CxOk at q6 ⊢;simp only;rw[c2];exact q6
 have hidl:=bcells_lt hb;obtain⟨p1,ob,p2,rec,rfl,p3,p4,p5,p6,p7,p8,p9,p10⟩:=(hh.blk _ _ hb).spec rfl;refine⟨rec,p2,?_,?_⟩
 ·rw[ha.1,←c1,←p3];simp
 have hlie:Lie own β w (ts.zip vs) rec.tmps:=fun t=>⟨(p10 t).1,(p10 t).2.1⟩
 obtain⟨l1,l2⟩:=lie_args ps args cs _ _ c1 ha p9 hlie;have hfold:(rec.params.zip cs.toArray).foldl (fun tmps (t,a)=>tmps.setIfInBounds t a) rec.tmps=(ps.zip cs).foldl (fun tmps (t,a)=>tmps.setIfInBounds t a) rec.tmps:=by
  rw[←Array.foldl_toList,Array.toList_zip,p3]
 rw[hfold];generalize (ps.zip cs).foldl (fun tmps (t,a)=>tmps.setIfInBounds t a) rec.tmps=tmps0 at l1 l2
 have s0:=l1.sr hh;refine roundIn_of_wpIn trivial ?_;rw[p4,p5];refine ok_code n hS hC hT (some (β id)) (fun h=>by cases h) asg own β w _ {tmps:=tmps0,defers:=[]} _ .normal σ1 s0 ((codeB_cx (cx:={cx with rnd:=true}) (cx':=cx) rfl asg).trans (by simp only[l2];exact p7)) hasg (fun o1 β1 w1 a1 hn=>?_)
 simp only[exitOf,Exit.then];have hβ1:β1 id=β id:=(hn.bx.2 id _ hb).1;obtain⟨u1,ob1,u2,rec1,rfl,u3,u4,u5,u6,u7,u8,u9,u10⟩:=(hn.sr.heap.blk _ _ hb1).spec rfl;have u2':=u2;rw[hβ1] at u2';refine⟨_,run_beginRound u2' u6.1,?_⟩;have hlt1:=(Array.getElem?_eq_some_iff.1 u2').1;have hput1:Nxt o1 β1 w1 σ1 a1 o1 β1 (w1.putObj (β id) (.loop {rec1 with state:=.busy})) (setMem σ1 (.set id 0 [.lp ts1 vs1 ps1 asg1 body1 cx1 .busy])) a1:=by
  refine hn.sr.putSpec (ob:=.loop {rec1 with state:=.busy}) hb1 rfl (fun b hb=>World.putObj_heap_other (by rw[←hβ1];exact hb)) (by simp[World.putObj]) rfl rfl rfl (Nat.le_refl _) (by rw[hβ1];exact World.putObj_heap_same hlt1) ⟨{rec1 with state:=.busy},rfl,u3,u4,u5,rfl,u7,u8,u9,u10⟩
 refine ok_code n hS hC hT (some (β id)) (fun h=>by cases h) body o1 β1 _ _ a1 _ ex σ3 hput1.sr ((codeB_cx (cx:={cx with rnd:=true}) (cx':=cx) rfl body).trans (by rw[hn.size];simp only[l2];exact p8)) hbody (fun o3 β3 w3 a3 hn3=>?_)
 have hnn:=(hn.trans hput1.toM).trans hn3;have hβ3:β3 id=β id:=(hnn.bx.2 id _ hb).1;obtain⟨v1,ob3,v2,rec3,rfl,v3,v4,v5,v6,v7,v8,v9,v10⟩:=(hn3.sr.heap.blk _ _ hb3).spec rfl;have v2':=v2;rw[hβ3] at v2';have hlt3:=(Array.getElem?_eq_some_iff.1 v2').1;have fin:∀ (jump:Option Code) (st:LSt),stOk st {rec3 with state:=if jump.isNone then .ready else .done,pending:=jump}→r=.bool jump.isNone→H'=(setMem σ3 (.set id 0 [.lp ts3 vs3 ps3 asg3 body3 cx3 st])).heap.take H.length →
   ∃ v w',(Instr.endRound (β id) jump).run P w3=.ok v w'∧Ret own β w H r H' (.returned v) w':=by
  intro jump st hst hr hH;refine⟨_,_,run_endRound jump v2',?_⟩;have hput:Nxt o3 β3 w3 σ3 a3 o3 β3 (w3.putObj (β id) (.loop {rec3 with state:=if jump.isNone then .ready else .done,pending:=jump})) (setMem σ3 (.set id 0 [.lp ts3 vs3 ps3 asg3 body3 cx3 st])) a3 :=
   hn3.sr.putSpec (ob:=.loop {rec3 with state:=if jump.isNone then .ready else .done,pending:=jump}) hb3 rfl (fun b hb=>World.putObj_heap_other (by rw[←hβ3];exact hb)) (by simp[World.putObj]) rfl rfl rfl (Nat.le_refl _) (by rw[hβ3];exact World.putObj_heap_same hlt3) ⟨{rec3 with state:=if jump.isNone then .ready else .done,pending:=jump},rfl,v3,v4,v5,hst,v7,v8,v9,v10⟩
  have hall:=hnn.trans hput.toM;obtain⟨o4,f1,f2,f3⟩:=hall.sr.heap.finish H.length;subst hr;subst hH;refine⟨_,o4,β3,rfl,FR.bool _,f1,hall.stay.trans f2,⟨?_,fun i ds hi=>?_⟩,f3⟩
  ·have:=hall.bx.1;simp only[List.length_take];simp only at this;omega
  ·obtain⟨e1,ds',hds⟩:=hall.bx.2 i ds hi
   exact⟨e1,ds',by rw[bcells_take (bcells_lt hi)];exact hds⟩
 cases ex with
 | normal =>
  simp only at hv;injection hv with hv;injection hv with e1 e2;exact fin none .ready ⟨rfl,rfl⟩ e1.symm e2.symm
 | exit i =>
  simp only at hv;injection hv with hv;injection hv with e1 e2;exact fin (some (.exit i)) (.done (.exit i)) ⟨rfl,rfl⟩ e1.symm e2.symm
 | ret =>
  simp only at hv;injection hv with hv;injection hv with e1 e2;exact fin (some .ret) (.done .ret) ⟨rfl,rfl⟩ e1.symm e2.symm
theorem sound {T:Types} {F:Fns} (hT:TOk P T) (hF:FnsOk P F):∀ n,Sound P (vcall T F n)
 | 0=>⟨fun f vs H r H' _ h=>by simp[vcall] at h,fun f vs H r H' h=>by simp[vcall] at h⟩
 | n+1=>by
  refine⟨fun f vs H r H' hlt h=>?_,fun id vs H r H' h=>?_⟩
  ·simp only[vcall,vany] at h
   split at h
   ·exact ok_fun n (sq_sound (sound hT hF n)) hT hF _ _ _ _ _ h
   ·rw[if_neg] at h
    ·cases h
    ·rw[Nat.ble_eq];exact Nat.not_le.2 hlt
  ·simp only[vcall,vany] at h
   have hn:F (yB+id)=none:=by
    cases hq:F (yB+id) with
    | none=>rfl
    | some fi=>exact absurd (hF _ _ hq).1 (Nat.not_lt.2 (Nat.le_add_right _ _))
   rw[hn] at h;simp only at h;rw[if_pos (by rw[Nat.ble_eq];exact Nat.le_add_right _ _),Nat.add_sub_cancel_left] at h
   exact ok_round n (sq_sound (sound hT hF n)) hT hF _ _ _ _ _ h
end
end Go.Vm
end
section
namespace Go.Vm
open Go
theorem TOk.of_all {P:Program} {T:Types} (N:Nat) (h:((List.range N).all fun t=>match T t with | some i=>rowB P t i | none=>true)=true) (h2:∀ t,N≤t→T t=none) (hm:P.follows .mixedOrders=true):TOk P T:=by
 refine⟨fun t i ht=>?_,hm⟩
 rcases Nat.lt_or_ge t N with hlt | hge
 ·have:=List.all_eq_true.1 h t (List.mem_range.2 hlt)
  simpa [ht] using this
 ·rw[h2 t hge] at ht;cases ht
def FnOk (P:Program) (f:FuncId) (fi:FI):Prop:=∃ fn,P.funcs[f]?=some fn∧fn.body=some fi.body∧fn.results.toList=fi.results∧(fn.name== "runtime.NumGoroutine")=false∧codeB fn.ntmps fi.cx fi.body=true∧CxOk P fi.cx
theorem CxOk.nil {P:Program} {cx:Cx} (h:cx.told=[]):CxOk P cx:=fun x hx=>by rw[h] at hx;cases hx
def FnOks (P:Program):Nat→List (Option FI)→Prop
 | _,[]=>True
 | k,x::xs=>(∀ fi,x=some fi→FnOk P k fi)∧FnOks P (k+1) xs
def fnsOf (l:List (Option FI)):Fns:=fun f=>match l[f]? with
 | some x=>x
 | none=>none
theorem FnOks.get {P:Program}:∀ {l:List (Option FI)} {k:Nat},FnOks P k l→∀ f fi,l[f]?=some (some fi)→FnOk P (k+f) fi
 | [],_,_,f,fi,h=>by simp at h
 | x::xs,k,hl,f,fi,h=>by
  cases f with
  | zero=>simp at h;exact hl.1 fi h
  | succ f =>
   have:=FnOks.get hl.2 f fi (by simpa using h)
   rw[show k+(f+1)=k+1+f by omega];exact this
theorem FnsOk.of_list {P:Program} {l:List (Option FI)} (h:FnOks P 0 l) (hlen:Nat.ble l.length yB=true):FnsOk P (fnsOf l):=by
 intro f fi hf;unfold fnsOf at hf;cases hl:l[f]? with
 | none=>simp[hl] at hf
 | some x =>
  simp only[hl] at hf;subst hf;obtain⟨fn,h1,h2,h3,h4,h5,h6⟩:=FnOks.get h f fi hl;rw[Nat.zero_add] at h1;rw[Nat.ble_eq] at hlen;exact⟨Nat.lt_of_lt_of_le (List.getElem?_eq_some_iff.1 hl).1 hlen,fn,h1,h2,h3,by simpa using h4,h5,h6⟩
end Go.Vm
end
section
namespace Go.Vm
open Go
def HasC (T:Types):Nat→TypeId→List V→Prop
 | 0,_,_=>False
 | m+1,t,vs=>match T t with
  | none=>False
  | some i=>match i.kind with
   | .bool=>∃ b,vs=[.bool b]
   | .int k=>∃ n,vs=[.int k n]∧(Lit.int k n).wf=true
   | .str=>∃ s:ByteArray,vs=[.str s]∧s.size≤maxLen
   | .slice e=>∃ b xs,vs=[.sl b xs]∧(b=true→xs=[])∧xs.length≤maxLen∧∀ x∈xs,∃ ei,T e=some ei∧asType ei x.cells=some x∧HasC T m e x.cells
   | .array n e=>vs.length=i.size∧∀ j,j<n→∃ ei,T e=some ei∧HasC T m e ((vs.drop (j*ei.size)).take ei.size)
   | .struct fs=>vs.length=i.size∧∀ f∈fs,∃ fi,T f.2=some fi∧HasC T m f.2 ((vs.drop f.1).take fi.size)
   | _=>False
def HasV (T:Types) (m:Nat) (t:TypeId) (v:V):Prop:=∃ i,T t=some i∧asType i v.cells=some v∧HasC T m t v.cells
def packed (T:Types):Nat→List (Nat×Nat)→Option Nat
 | o,[]=>some o
 | o,f::fs=>match T f.2 with
  | some i=>if f.1=o∧0<i.size then packed T (o+i.size) fs else none
  | none=>none
def pureT (T:Types):Nat→TypeId→Bool
 | 0,_=>false
 | m+1,t=>match T t with
  | none=>false
  | some i=>match i.kind with
   | .bool=>true
   | .int _=>true
   | .str=>true
   | .slice e=>(match T e with | some ei=>decide (0<ei.size) | none=>false)&&pureT T m e
   | .array n e=>(match T e with | some ei=>decide (0<ei.size∧n*ei.size=i.size) | none=>false)&&pureT T m e
   | .struct fs=>decide (packed T 0 fs=some i.size)&&fs.all (fun f=>pureT T m f.2)
   | _=>false
section
variable {P:Program} {T:Types} {own:Own} {w:World} {H:Type} {enc:TypeId×Value→H} {base:Nat} {spare:Nat→Bool} {held:Bool}
def Parts (own:Own) (w:World) (cs:List Value) (vs:List V):Prop:=vs.length=cs.length∧∀ (j:Nat) (v:V) (c:Value),vs[j]?=some v→cs[j]?=some c→FR own w v c
theorem Parts.append {cs cs':List Value} {vs vs':List V} (h:Parts own w cs vs) (h':Parts own w cs' vs'):Parts own w (cs++cs') (vs++vs'):=by
 refine⟨by simp[h.1,h'.1],fun j v c hv hc=>?_⟩
 rw[List.getElem?_append] at hv hc;rw[h.1] at hv;split at hv
 ·rename_i hlt;rw[if_pos hlt] at hc;exact h.2 _ _ _ hv hc
 ·rename_i hlt;rw[if_neg hlt] at hc;exact h'.2 _ _ _ hv hc
theorem read_fields {m:Nat} (cs:List Value) (ih:∀ (t:TypeId) (cs:List Value),(∃ k x,DataW.trod enc P w base spare held k t cs=some x)→pureT T m t=true→∃ vs,Parts own w cs vs∧HasC T m t vs) (hT:TOk P T) :
  ∀ (fs:List (Nat×Nat)) (fds:List Field) (o:Nat) (n:Nat),fieldsB fds fs=true→packed T o fs=some n→n≤cs.length→fs.all (fun f=>pureT T m f.2)=true →
   (∀ fd∈fds,∃ k x,DataW.trod enc P w base spare held k fd.type ((cs.drop fd.offset).take (P.cellsOf fd.type))=some x) →
   ∃ vs,Parts own w ((cs.drop o).take (n-o)) vs∧o≤n∧∀ f∈fs,∃ fi,T f.2=some fi∧o≤f.1∧f.1+fi.size≤n∧HasC T m f.2 ((vs.drop (f.1-o)).take fi.size)
 | [],fds,o,n,_,hp,hn,_,_=>by
  simp only[packed] at hp;injection hp with hp;subst hp;exact⟨[],⟨by simp,by simp⟩,Nat.le_refl _,by simp⟩
 | f::fs,[],o,n,hb,_,_,_,_=>by simp[fieldsB] at hb
 | (fo,ft)::fs,fd::fds,o,n,hb,hp,hn,hpure,hread=>by
  simp only[fieldsB,Bool.and_eq_true,beq_iff_eq] at hb;obtain⟨⟨hb1,hb2⟩,hb3⟩:=hb;simp only[packed] at hp;cases hft:T ft with
  | none=>simp[hft] at hp
  | some fi =>
   simp only[hft] at hp;split at hp
   ·rename_i hc
    obtain⟨h1,h2⟩:=hc;subst h1;simp only[List.all_cons,Bool.and_eq_true] at hpure;obtain⟨vs',p1,p2,p3⟩:=read_fields cs ih hT fs fds (fo+fi.size) n hb3 hp hn hpure.2 (fun fd hfd=>hread fd (by simp[hfd]))
    obtain⟨r⟩:=Row.of hT hft;have hsz:P.cellsOf fd.type=fi.size:=by rw[hb2];simp[Program.cellsOf,r.hinfo,r.hsize]
    have hrd:=hread fd (by simp)
    rw[hsz,hb1,hb2] at hrd;obtain⟨vs1,q1,q2⟩:=ih ft _ hrd hpure.1;have hlen:vs1.length=fi.size:=by rw[q1.1];simp;omega
    refine⟨vs1++vs',?_,by omega,?_⟩
    ·have:(cs.drop fo).take (n-fo)=(cs.drop fo).take fi.size++(cs.drop (fo+fi.size)).take (n-(fo+fi.size)):=by
      rw[show n-fo=fi.size+(n-(fo+fi.size)) by omega,List.take_add,List.drop_drop]
     rw[this];exact q1.append p1
    ·intro g hg
     rcases List.mem_cons.1 hg with rfl | hg
     ·refine⟨fi,hft,Nat.le_refl _,p2,?_⟩
      simp only[Nat.sub_self,List.drop_zero];rw[List.take_append_of_le_length (by omega),List.take_of_length_le (by omega)]
      exact q2
     ·obtain⟨gi,g1,g2,g3,g4⟩:=p3 g hg
      refine⟨gi,g1,by omega,g3,?_⟩
      rw[List.drop_append,List.drop_eq_nil_of_le (by omega),List.nil_append,hlen,show g.1-fo-fi.size=g.1-(fo+fi.size) by omega]
      exact g4
   ·cases hp
theorem read_elems {m:Nat} (cs:List Value) {e:TypeId} {sz:Nat}
  (ih:∀ (cs:List Value),(∃ k x,DataW.trod enc P w base spare held k e cs=some x)→∃ vs,Parts own w cs vs∧HasC T m e vs) :
  ∀ (n:Nat),n*sz≤cs.length→(∀ i,i<n→∃ k x,DataW.trod enc P w base spare held k e ((cs.drop (i*sz)).take sz)=some x) →
   ∃ vs,Parts own w (cs.take (n*sz)) vs∧∀ j,j<n→HasC T m e ((vs.drop (j*sz)).take sz)
 | 0,_,_=>⟨[],⟨by simp,by simp⟩,by simp⟩
 | n+1,hn,hread=>by
  rw[Nat.succ_mul] at hn;obtain⟨vs,p1,p2⟩:=read_elems cs ih n (by omega) (fun i hi=>hread i (by omega))
  obtain⟨vs1,q1,q2⟩:=ih _ (hread n (by omega))
  have hlen:vs.length=n*sz:=by rw[p1.1];simp;omega
  have hlen1:vs1.length=sz:=by rw[q1.1];simp;omega
  refine⟨vs++vs1,?_,fun j hj=>?_⟩
  ·rw[Nat.succ_mul,List.take_add]
   exact p1.append q1
  ·by_cases hjn:j=n
   ·subst hjn
    rw[List.drop_append,List.drop_eq_nil_of_le (by omega),List.nil_append,hlen,Nat.sub_self,List.drop_zero,List.take_of_length_le (by omega)]
    exact q2
   ·have hle:(j+1)*sz≤n*sz:=Nat.mul_le_mul_right _ (by omega)
    rw[Nat.succ_mul] at hle;rw[List.drop_append_of_le_length (by omega),List.take_append_of_le_length (by simp;omega)]
    exact p2 j (by omega)
theorem list_of {p:Nat→V→Prop}:∀ (n:Nat),(∀ i,i<n→∃ x,p i x)→∃ xs:List V,xs.length=n∧∀ (i:Nat) (x:V),xs[i]?=some x→p i x
 | 0,_=>⟨[],rfl,by simp⟩
 | n+1,h=>by
  obtain⟨xs,h1,h2⟩:=list_of n (fun i hi=>h i (by omega))
  obtain⟨x,hx⟩:=h n (by omega)
  refine⟨xs++[x],by simp[h1],fun i y hy=>?_⟩
  rw[List.getElem?_append] at hy;split at hy
  ·exact h2 i y hy
  ·have hi:i=n:=by
    have:=(List.getElem?_eq_some_iff.1 hy).1
    simp at this;omega
   subst hi;rw[h1] at hy;simp at hy;subst hy;exact hx
theorem Row.cellsOf {t:Nat} {i:TI} (r:Row P t i):P.cellsOf t=i.size:=by simp[Program.cellsOf,r.hinfo,r.hsize]
theorem one_cell {m:Nat} {t:TypeId} {i:TI} {y:V} (hi:T t=some i) (hk:i.kind.isAgg=false) (h:HasC T m t [y]):y.cells=[y]:=by
 cases m with
 | zero=>exact h.elim
 | succ m =>
  simp only[HasC,hi] at h;cases hkk:i.kind<;>simp only[hkk] at h<;>first
   | (obtain⟨_,h⟩:=h;simp at h;first | (subst h;rfl) | (obtain⟨rfl,_⟩:=h;rfl))
   | (obtain⟨_,_,h,_⟩:=h;simp at h;subst h;rfl)
   | exact h.elim
   | (rw[hkk] at hk;simp[TK.isAgg] at hk)
theorem asType_of {m:Nat} {t:TypeId} {i:TI} {cs:List V} (r:Row P t i) (hi:T t=some i) (hl:cs.length=i.size) (h:HasC T m t cs):∃ x,asType i x.cells=some x∧x.cells=cs:=by
 unfold asType;cases hk:i.kind.isAgg
 ·have:=r.one hk
  match cs,hl,h with
  | [y],_,h =>
   have hc:=one_cell hi hk h;exact⟨y,by rw[hc];simp[this],hc⟩
  | [],hl,_=>simp at hl;omega
  | _::_::_,hl,_=>simp at hl;omega
 ·exact⟨.agg cs,by simp[V.cells,hl],rfl⟩
theorem Parts.one {v:V} {c:Value} (h:FR own w v c):Parts own w [c] [v] :=
 ⟨rfl,fun j v' c' hv hc=>by
  cases j with
  | zero=>simp at hv hc;subst hv;subst hc;exact h
  | succ j=>simp at hv⟩
theorem Addr.spot_none {a:Addr} {v:Value} (h:w.cell? a=some v):a=⟨a.block,a.off,none⟩:=by
 unfold World.cell? at h;split at h
 ·split at h
  ·cases h
  ·rename_i hs
   obtain⟨b,o,s⟩:=a;cases s with
   | none=>rfl
   | some s=>simp at hs
 ·cases h
theorem read_ok (hT:TOk P T) (hown:∀ b,b<w.heap.size→own b=.im):∀ (m:Nat) (t:TypeId) (cs:List Value),(∃ k x,DataW.trod enc P w base spare held k t cs=some x)→pureT T m t=true→∃ vs,Parts own w cs vs∧HasC T m t vs
 | 0,_,_,_,hp=>by simp[pureT] at hp
 | m+1,t,cs,hr,hp=>by
  obtain⟨k,x,h⟩:=hr;have ih:=fun t cs hr hp=>read_ok hT hown m t cs hr hp
  simp only[pureT] at hp;cases hi:T t with
  | none=>simp[hi] at hp
  | some i =>
   obtain⟨r⟩:=Row.of hT hi;simp only[hi] at hp;simp only[HasC,hi];have hkk:=r.hkind;have hu:=r.hd;cases hk:i.kind<;>simp only[hk] at hp hkk ⊢<;>try (cases hp;done)
   case bool =>
    have hd:r.d=.bool:=by cases hd:r.d<;>simp[hd,kindB] at hkk ⊢
    rw[hd] at hu;obtain⟨b,rfl,_⟩:=DataW.trod_bool hu h;exact⟨[.bool b],.one (.bool b),b,rfl⟩
   case int kd =>
    have hd:r.d=.int kd:=by cases hd:r.d<;>simp[hd,kindB] at hkk ⊢;rw[hkk]
    rw[hd] at hu;obtain⟨n,rfl,_,hwf⟩:=DataW.trod_int hu h;exact⟨[.int kd n],.one (.int kd n),n,rfl,hwf⟩
   case str =>
    have hd:r.d=.string:=by cases hd:r.d<;>simp[hd,kindB] at hkk ⊢
    rw[hd] at hu;obtain⟨s,rfl,_,hs⟩:=DataW.trod_string hu h;exact⟨[.str s],.one (.str s),s,rfl,hs⟩
   case slice e =>
    have hus:=kind_slice r hk;simp only[Bool.and_eq_true] at hp;cases he:T e with
    | none=>simp[he] at hp
    | some ei =>
     obtain⟨re⟩:=Row.of hT he;simp only[he,decide_eq_true_eq] at hp;obtain⟨hpos,hpe⟩:=hp;rcases DataW.trod_slice hus h with ⟨rfl,_⟩ | ⟨a,len,cap,elems,rest,n,rfl,rfl,_,hb,hlc,hcm,hel,hread,_,_⟩
     ·exact⟨[.sl true []],.one .nil,true,[],rfl,fun _=>rfl,by simp,by simp⟩
     ·rw[re.cellsOf] at hread
      rcases Nat.eq_zero_or_pos len with rfl | hlen
      ·exact⟨[.sl false []],.one (.none a cap),false,[],rfl,by simp,by simp,by simp⟩
      ·have each:∀ i,i<len→∃ cs,(w.cells? base (a.add (i*ei.size)) ei.size)=some cs∧∃ x,DataW.trod enc P w base spare held n e cs=some x:=by
        intro i hi;have:=hread i hi
        rw[List.getElem?_eq_getElem (by omega),Option.bind_eq_some_iff] at this
        obtain⟨cs,h1,h2⟩:=this;exact⟨cs,h1,_,h2⟩
       obtain⟨cs0,h0,_⟩:=each 0 hlen;obtain⟨_,h01,h02⟩:=World.cells?_some h0;have hcell:w.cell? a=some (cs0[0]'(by omega)):=by
        have:=h02 0 hpos
        rw[List.getElem?_eq_getElem (by omega)] at this
        simpa [Addr.add] using this
       have ha:=Addr.spot_none hcell;have hblk:a.block<w.heap.size:=World.block_lt_of_cell? w a hcell;have addr:∀ i j,((a.add (i*ei.size)).add j)=⟨a.block,a.off+i*ei.size+j,none⟩:=by
        intro i j;rw[ha,Addr.add_mid,Addr.add_mid]
       obtain⟨xs,x1,x2⟩:=list_of (p:=fun i x=>asType ei x.cells=some x∧HasC T m e x.cells∧x.cells.length=ei.size∧∃ cs,(∀ j,j<ei.size→w.cell? ⟨a.block,a.off+i*ei.size+j,none⟩=cs[j]?)∧Parts own w cs x.cells) len (by
        intro i hi;obtain⟨cs,e1,x,e2⟩:=each i hi;obtain⟨_,e3,e4⟩:=World.cells?_some e1;obtain⟨vs,q1,q2⟩:=ih e cs ⟨n,x,e2⟩ hpe;obtain⟨y,y1,y2⟩:=asType_of re he (by rw[q1.1,e3]) q2
        exact⟨y,y1,by rw[y2];exact q2,by rw[y2,q1.1,e3],cs,fun j hj=>by rw[←addr];exact e4 j hj,by rw[y2];exact q1⟩)
       refine⟨[.sl false xs],.one ?_,false,xs,rfl,by simp,by omega,fun x hx=>?_⟩
       ·have hf:=FR.sl (own:=own) (w:=w) a.block a.off cap ei.size xs (fun i j=>(w.cell? ⟨a.block,a.off+i*ei.size+j,none⟩).getD undef) (hown _ hblk) (by omega) (fun i x hx=>by
          obtain⟨_,_,g3,cs,g4,g5⟩:=x2 i x hx;refine⟨g3,fun j hj=>?_⟩
          rw[g4 j hj,List.getElem?_eq_getElem (by rw[←g5.1,g3];exact hj)];rfl) (fun i x j y hx hy=>by
          obtain⟨_,_,g3,cs,g4,g5⟩:=x2 i x hx;have hj:j<x.cells.length:=(List.getElem?_eq_some_iff.1 hy).1;have hjc:j<cs.length:=by rw[←g5.1];exact hj
          rw[g4 j (by omega),List.getElem?_eq_getElem hjc]
          exact g5.2 j y _ hy (List.getElem?_eq_getElem hjc))
        rw[x1,←ha] at hf;exact hf
       ·obtain⟨i,hxi⟩:=List.getElem?_of_mem hx
        obtain⟨g1,g2,_⟩:=x2 i x hxi;exact⟨ei,rfl,g1,g2⟩
   case array n e =>
    have hus:=kind_array r hk;simp only[Bool.and_eq_true] at hp;cases he:T e with
    | none=>simp[he] at hp
    | some ei =>
     obtain⟨re⟩:=Row.of hT he;simp only[he,decide_eq_true_eq] at hp;obtain⟨⟨hpos,hsz⟩,hpe⟩:=hp;obtain⟨xs,k',rfl,_,hl,hxl,hread⟩:=DataW.trod_array hus h;rw[re.cellsOf] at hread;rw[r.cellsOf] at hl;obtain⟨vs,p1,p2⟩:=read_elems (sz:=ei.size) cs (fun cs hr=>ih e cs hr hpe) n (by omega) (fun i hi=>⟨k',xs[i]'(by omega),by rw[hread i hi,List.getElem?_eq_getElem]⟩)
     rw[hsz,←hl,List.take_length] at p1;exact⟨vs,p1,by rw[p1.1,hl],fun j hj=>⟨ei,rfl,p2 j hj⟩⟩
   case struct fs =>
    obtain⟨fields,hus,hfb⟩:=kind_struct r hk;simp only[Bool.and_eq_true,decide_eq_true_eq] at hp;obtain⟨xs,k',rfl,_,hl,hxl,hread⟩:=DataW.trod_struct hus h;rw[r.cellsOf] at hl;obtain⟨vs,p1,_,p3⟩:=read_fields cs ih hT fs fields.toList 0 i.size hfb hp.1 (by omega) hp.2 (fun fd hfd=>by
     obtain⟨j,hj⟩:=List.getElem?_of_mem hfd;have hj':fields[j]?=some fd:=by simpa using hj
     have hlt:j<xs.length:=by rw[hxl];exact (Array.getElem?_eq_some_iff.1 hj').1
     exact⟨k',xs[j],by rw[hread j fd hj',List.getElem?_eq_getElem]⟩)
    rw[List.drop_zero,Nat.sub_zero,←hl,List.take_length] at p1;refine⟨vs,p1,by rw[p1.1,hl],fun f hf=>?_⟩
    obtain⟨fi,g1,_,_,g4⟩:=p3 f hf;exact⟨fi,g1,by simpa using g4⟩
end
end Go.Vm
end
