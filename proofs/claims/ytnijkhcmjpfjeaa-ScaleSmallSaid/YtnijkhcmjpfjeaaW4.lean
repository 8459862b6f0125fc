/- W4: V,an evaluator that carries contents (V25,V34,V35,V36,V37,V38). No conditions. -/
import Derived.Carry
import Derived.IntWalk
import Derived.Shelf.SlBodiesN
import Derived.Shelf.SlGeneric
import Derived.Shelf.RegionOpenPlain
import Derived.WalkKit
import Derived.Deep.RegionLaw
import Derived.Lib.Walk
import Derived.Deep.LoopGhost
import Derived.Sort.WalkB12
import Derived.Lib.SliceRun
import Derived.Test.YtnijkhcmjpfjeaaW3
section
namespace Go.Vm
open Go Go.ChangeShapes Go.RowKit
def AllV (T:Types) (m:Nat):List TypeId→List V→Prop
 | [],[]=>True
 | t::ts,v::vs=>HasV T m t v∧AllV T m ts vs
 | _,_=>False
section
variable {P:Program} {T:Types} {own:Own} {β:Nat→Nat} {w:World} {H:Type} {enc:TypeId×Value→H} {base:Nat} {spare:Nat→Bool} {held:Bool}
theorem arg_ok (hT:TOk P T) (hown:∀ b,b<w.heap.size→own b=.im) {m:Nat} {t:TypeId} {v:Value} {d:DataW H} {ps:List MemPlace} {bb:Nat} (hp:pureT T m t=true)
  (hval:Value.okWide P w .any bb t v) (h:DataW.Trod enc P w base spare held t v d ps):∃ x,HasV T m t x∧VR own β w (fun _=>.other) x v∧noEx x=true:=by
 obtain⟨k,hk⟩:=h;obtain⟨vs,p1,p2⟩:=read_ok hT hown m t _ ⟨k,_,hk⟩ hp;cases m with
 | zero=>simp[pureT] at hp
 | succ m =>
  cases hi:T t with
  | none=>simp[pureT,hi] at hp
  | some i =>
   obtain⟨r⟩:=Row.of hT hi;have hu:=r.hd;have hkk:=r.hkind;cases hag:i.kind.isAgg
   ·have hna:v.cells=#[v]∧r.z.cells.size=1:=by
     refine⟨?_,by rw[r.hzs,r.one hag]⟩
     simp only[pureT,hi] at hp;unfold Value.okWide at hval;rw[hu] at hval;cases hk2:i.kind<;>rw[hk2] at hag hkk<;>simp only[hk2] at hp<;>try (simp[TK.isAgg] at hag;done)
     all_goals try (cases hp;done)
     all_goals
      cases hd:r.d<;>simp only[hd,kindB] at hkk hval<;>try (cases hkk;done)
      cases v<;>first
       | rfl
       | (simp[Cell.okWide,hu,hd,Cell.ok] at hval;done)
    rw[hna.1] at p1;have hlen:vs.length=1:=by simpa using p1.1
    match vs,hlen,p1,p2 with
    | [y],_,p1,p2 =>
     have hc:=one_cell hi hag p2;have hf:=p1.2 0 y v (by simp) (by simp)
     obtain⟨g1,g2⟩:=VR_of_FR (β:=β) (L:=fun _=>.other) hf
     refine⟨y,⟨i,hi,?_,by rw[hc];exact p2⟩,g1,g2⟩
     unfold asType;rw[hc,if_pos (by simp[r.one hag]),hag]
     rfl
   ·have harr:∃ arr,v=.agg arr∧arr.size=i.size:=by
     unfold Value.okWide at hval;rw[hu] at hval;cases hk2:i.kind<;>rw[hk2] at hag hkk<;>try (simp[TK.isAgg] at hag;done)
     all_goals
      cases hd:r.d<;>simp only[hd,kindB] at hkk hval<;>try (cases hkk;done)
      obtain⟨cs,h1,h2,_⟩:=hval;exact⟨cs,h1,by rw[h2,r.cellsOf]⟩
    obtain⟨arr,rfl,hs⟩:=harr;simp only[Value.cells] at p1;have hl:vs.length=i.size:=by rw[p1.1];simpa using hs
    have hdat:∀ y∈vs,notEx y=true:=fun y hy=>by
     obtain⟨j,hj⟩:=List.getElem?_of_mem hy;have hjl:=(List.getElem?_eq_some_iff.1 hj).1;have:=p1.2 j y (arr[j]'(by omega)) hj (by simp)
     generalize arr[j]'(by omega)=c at this
     cases this<;>rfl
    refine⟨.agg vs,⟨i,hi,by simp[asType,V.cells,hl,hag],p2⟩,⟨arr,rfl,by omega,fun j u c hu' hc=>?_⟩,by simpa [noEx] using hdat⟩
    exact CR_of_FR (p1.2 j u c hu' (by simpa using hc))
theorem args_ok (hT:TOk P T) (hown:∀ b,b<w.heap.size→own b=.im) {m:Nat} {bb:Nat}:∀ (ts:List TypeId) (vs:List Value) (ds:List (DataW H)) (ps:List MemPlace),ts.all (pureT T m)=true →
  (∀ (j:Nat) t v,ts[j]?=some t→vs[j]?=some v→Value.okWide P w .any bb t v)→DataW.TrodAll enc P w base spare held ts vs ds ps→∃ xs,AllV T m ts xs∧AR own β w xs vs
 | [],vs,ds,ps,_,_,h=>by
  obtain⟨rfl,_,_⟩:=trodAll_nil h;exact⟨[],trivial,rfl,by simp⟩
 | t::ts,vs,ds,ps,hp,hval,h=>by
  obtain⟨v,vs',d,ds',p,q,rfl,rfl,rfl,h1,h2⟩:=trodAll_cons h;simp only[List.all_cons,Bool.and_eq_true] at hp;obtain⟨x,x1,x2,x3⟩:=arg_ok (β:=β) hT hown hp.1 (hval 0 t v rfl rfl) h1;obtain⟨xs,y1,y2⟩:=args_ok hT hown ts vs' ds' q hp.2 (fun j t v ht hv=>hval (j+1) t v (by simpa using ht) (by simpa using hv)) h2
  refine⟨x::xs,⟨x1,y1⟩,by simp[y2.1],fun j u c hu hc=>?_⟩
  cases j with
  | zero=>simp at hu hc;subst hu;subst hc;exact⟨x2,x3⟩
  | succ j=>exact y2.2 j u c (by simpa using hu) (by simpa using hc)
theorem trodAll_back (hl:laidOutB P=true) {W W':World} (hb:Below W.heap.size W W'):∀ (ts:List TypeId) (vs:List Value) (ds:List (DataW H)) (ps:List MemPlace),ts.all (fun t=>P.readableRec t&&decide (t<P.types.size))=true →
  DataW.TrodAll enc P W 0 (fun _=>true) true ts vs ds ps→DataW.TrodAll enc P W' 0 (fun b=>decide (b<W.heap.size)) true ts vs ds ps
 | [],vs,ds,ps,_,h=>by
  obtain⟨rfl,rfl,rfl⟩:=trodAll_nil h;rfl
 | t::ts,vs,ds,ps,hr,h=>by
  have hlt:=h.lt;obtain⟨v,vs',d,ds',p,q,rfl,rfl,rfl,h1,h2⟩:=trodAll_cons h;simp only[List.all_cons,Bool.and_eq_true,decide_eq_true_eq] at hr;exact trodAll_cons_mk (Below.trod hl hr.1.1 hr.1.2 h1 hb (fun x hx=>hlt x (List.mem_append.2 (.inl hx)))) (trodAll_back hl hb ts vs' ds' q hr.2 h2)
theorem vcall_lt {F:Fns} (hF:FnsOk P F) {k:Nat} {f:FuncId} {xs:List V} {r:V×Heap} (h:vcall T F k f xs []=some r):f<yB:=by
 cases k with
 | zero=>simp[vcall] at h
 | succ k =>
  simp only[vcall,vany] at h;split at h
  ·rename_i fi hfi;exact (hF _ _ hfi).1
  ·split at h
   ·simp[vround,bcells] at h
   ·cases h
theorem vlaw {F:Fns} (hT:TOk P T) (hF:FnsOk P F) (hl:laidOutB P=true) {m:Nat} {ts:List TypeId} {f:FuncId} (hp:ts.all (pureT T m)=true) (hr:ts.all (fun t=>P.readableRec t&&decide (t<P.types.size))=true)
  (law:∀ xs,AllV T m ts xs→∃ k,vcall T F k f xs []=some (.bool true,[])) {W:World} {bb:Nat} {args:Array Value} {ds:List (DataW H)} {ps:List MemPlace}
  (hval:∀ (j:Nat) t v,ts[j]?=some t→args[j]?=some v→Value.okWide P W .any bb t v) (hA:DataW.TrodAll enc P W 0 (fun _=>true) true ts args.toList ds ps) :
  Calls P f args W fun e W'=>e=.returned (.bool true)∧Below W.heap.size W W'∧DataW.TrodAll enc P W' 0 (fun b=>decide (b<W.heap.size)) true ts args.toList ds ps:=by
 let own:Own:=fun b=>if b<W.heap.size then .im else .other
 have hown:∀ b,b<W.heap.size→own b=.im:=fun b hb=>by simp only[own,if_pos hb]
 obtain⟨xs,h1,h2⟩:=args_ok (β:=fun _=>0) hT hown ts args.toList ds ps hp (fun j t v ht hv=>hval j t v ht (by simpa using hv)) hA
 obtain⟨k,hk⟩:=law xs h1;have hHR:HR own (fun _=>0) W []:=by
  refine⟨fun id cs hi=>by simp[bcells] at hi,fun b id hb=>?_,fun b hb=>?_⟩
  ·simp only[own] at hb;split at hb<;>cases hb
  ·simp only[own] at hb
   split at hb
   ·assumption
   ·exact absurd rfl hb
 have hc:=((sound hT hF k).1 f xs [] _ _ (vcall_lt hF hk) hk).2 own (fun _=>0) W args.toList hHR h2 (fun b i j k hq=>by simp only[own] at hq;split at hq<;>cases hq)
 rw[Array.toArray_toList] at hc;refine hc.mono ?_
 rintro e W' ⟨c,o',β',rfl,t1,t2,t3,t4,t5⟩
 have hc':c=.bool true:=FR.of_bool (own:=o') (w:=W') t1;have hb:Below W.heap.size W W':=⟨t3.os,t3.tape,t3.output,t3.size,fun b hb=>(t3.im b (hown b hb)).2⟩
 exact⟨by rw[hc'],hb,trodAll_back hl hb ts _ ds ps hr hA⟩
end
end Go.Vm
end
section
namespace Go.Vm
open Go
inductive Tr (α:Type) where
 | ret (a:α)
 | fail
 | ask (b:Bool) (yes no:Tr α)
namespace Tr
variable {α β:Type}
def bind:Tr α→(α→Tr β)→Tr β
 | .ret a,f=>f a
 | .fail,_=>.fail
 | .ask b x y,f=>.ask b (x.bind f) (y.bind f)
def run:Tr α→Option α
 | .ret a=>some a
 | .fail=>none
 | .ask b x y=>match b with
  | true=>x.run
  | false=>y.run
def ofO:Option α→Tr α
 | some a=>.ret a
 | none=>.fail
def must (b:Bool) (x:Tr α):Tr α:=.ask b x .fail
theorem run_bind:∀ (x:Tr α) (f:α→Tr β),(x.bind f).run=x.run.bind fun a=>(f a).run
 | .ret a,f=>rfl
 | .fail,f=>rfl
 | .ask true x y,f=>run_bind x f
 | .ask false x y,f=>run_bind y f
theorem bind_some {x:Tr α} {f:α→Tr β} {r:β} (h:(x.bind f).run=some r):∃ a,x.run=some a∧(f a).run=some r:=by
 rw[run_bind,Option.bind_eq_some_iff] at h;exact h
theorem run_ofO (o:Option α):(ofO o).run=o:=by cases o<;>rfl
theorem must_some {b:Bool} {x:Tr α} {r:α} (h:(must b x).run=some r):b=true∧x.run=some r:=by
 cases b
 ·cases h
 ·exact⟨rfl,h⟩
def follow:List Bool→Tr α→Option (List (Bool×Bool)×Option α)
 | [],.ret a=>some ([],some a)
 | [],.fail=>some ([],none)
 | p::ps,.ask b x y=>(follow ps (match p with | true=>x | false=>y)).map fun r=>((b,p)::r.1,r.2)
 | _,_=>none
theorem follow_run:∀ {ps:List Bool} {t:Tr α} {cs:List (Bool×Bool)} {r:Option α},follow ps t=some (cs,r)→(∀ c∈cs,c.1=c.2)→t.run=r
 | [],.ret a,cs,r,h,_=>by simp only[follow,Option.some.injEq,Prod.mk.injEq] at h;exact h.2
 | [],.fail,cs,r,h,_=>by simp only[follow,Option.some.injEq,Prod.mk.injEq] at h;exact h.2
 | [],.ask _ _ _,cs,r,h,_=>by simp[follow] at h
 | p::ps,.ret _,cs,r,h,_=>by simp[follow] at h
 | p::ps,.fail,cs,r,h,_=>by simp[follow] at h
 | p::ps,.ask b x y,cs,r,h,hc=>by
  simp only[follow,Option.map_eq_some_iff] at h;obtain⟨⟨cs',r'⟩,h1,h2⟩:=h;injection h2 with e1 e2;subst e1;subst e2;have hb:=hc (b,p) (by simp)
  simp only at hb;subst hb;have:=follow_run h1 (fun c hc'=>hc c (by simp[hc']))
  cases b<;>exact this
end Tr
def intOf:V→Int
 | .int _ n=>n
 | _=>0
def boolOf:V→Bool
 | .bool b=>b
 | _=>false
def strOf:V→ByteArray
 | .str s=>s
 | _=>ByteArray.empty
def nilOf:V→Bool
 | .sl n _=>n
 | _=>false
def listOf:V→List V
 | .sl _ xs=>xs
 | _=>[]
def fld (j:Nat) (v:V):V:=v.cells.getD j .undef
def leafOf:TK→V→V
 | .int k,v=>.int k (intOf v)
 | .bool,v=>.bool (boolOf v)
 | .str,v=>.str (strOf v)
 | .slice _,v=>.sl (nilOf v) (listOf v)
 | _,v=>v
def leafFits:TK→V→Bool
 | .int k,.int k' _=>decide (k'=k)
 | .bool,.bool _=>true
 | .str,.str _=>true
 | .slice _,.sl _ _=>true
 | _,_=>false
def canonP:List TK→Nat→V→List V
 | [],_,_=>[]
 | k::ks,off,v=>leafOf k (fld off v)::canonP ks (off+1) v
def fitP:List TK→Nat→V→Bool
 | [],_,_=>true
 | k::ks,off,v=>leafFits k (fld off v)&&fitP ks (off+1) v
theorem leafOf_fits {k:TK} {v:V} (h:leafFits k v=true):leafOf k v=v∧v≠.undef:=by
 cases k<;>cases v<;>simp_all [leafFits,leafOf,intOf,boolOf,strOf,nilOf,listOf]
theorem canonP_eq:∀ (ks:List TK) (off:Nat) (v:V),fitP ks off v=true→(v.cells.drop off).take ks.length=canonP ks off v
 | [],off,v,_=>by simp[canonP]
 | k::ks,off,v,h=>by
  simp only[fitP,Bool.and_eq_true] at h;obtain⟨h1,h2⟩:=leafOf_fits h.1;have hlt:off<v.cells.length:=by
   rcases Nat.lt_or_ge off v.cells.length with hq | hq
   ·exact hq
   ·exact absurd (by simp[fld,hq]) h2
  have hd:v.cells.drop off=fld off v::v.cells.drop (off+1):=by
   rw[List.drop_eq_getElem_cons hlt];simp[fld,hlt]
  rw[hd];simp only[List.length_cons,List.take_succ_cons,canonP];rw[h1,canonP_eq ks (off+1) v h.2]
abbrev Spec:=FuncId→List V→Heap→Tr (V×Heap)
abbrev LSpec:=Nat→St→Tr (Ex×St)
section
variable (T:Types) (sh:Nat→List TK) (S:Spec) (L:LSpec)
def goK (f:FuncId) (vs:List V) (ps:List (Place×V)) (H:Heap) (ks:List Nat):Tr Eff :=
 (S f vs (maskH ks H)).bind fun x =>
  if deadOut ks H.length x.2 then
   if x.2.length=H.length then (match ps with
    | []=>.ret {val:=x.1,places:=[],mem:=.put ks x.2}
    | ps=>.ask (staysB ks ps x.1 x.2) (.ret {val:=x.1,places:=[],mem:=.put ks x.2}) (.ret {val:=x.1,places:=ps,mem:=.put ks x.2})) else .ret {val:=x.1,places:=ps,mem:=.all (putH ks H x.2++x.2.drop H.length)}
  else .fail
def goT (arr:Bool) (σ:St) (f:FuncId) (vs:List V) (ids:List Nat) (ps:List (Place×V)):Tr Eff :=
  if vs.all noPtr&&ids.isEmpty then
   (S f vs []).bind fun x=>match x.2 with
    | []=>match ps with
     | []=>.ret {val:=x.1,places:=[]}
     | ps=>.ask (apart x.1) (.ret {val:=x.1,places:=[]}) (.ret {val:=x.1,places:=ps})
    | H1 =>
     let σ1:=setPlaces σ ps
     .ret {val:=shift σ1.heap.length x.1,places:=ps,mem:=.all (σ1.heap++H1.map (shiftB σ1.heap.length))}
  else
   let H:=(setPlaces σ ps).heap
   match arr with
   | true=>.must (decide (reach H H.length (ids++argIds vs)=ids++argIds vs)) (.must (closedK (ids++argIds vs) H) (if (ids++argIds vs).all (ids++argIds vs).contains then goK S f vs ps H (ids++argIds vs) else .fail))
   | false =>
    let ks:=reach H H.length (ids++argIds vs)
    if closedK ks H&&(ids++argIds vs).all ks.contains then goK S f vs ps H ks else .fail
def callT (arr:Bool) (σ:St) (f:V) (args:List V) (ps:List (Place×V)):Tr Eff :=
 match f with
 | .clo (.func f) first captured=>if Nat.blt f yB then goT S arr σ f (first++args++captured) [] ps else .fail
 | .ref .yld id=>goT S arr σ (yB+id) args [id] ps
 | _=>.fail
def indexT (i:TI) (σ:St) (x:Operand) (k:Int):Tr V :=
 match i.kind with
 | .slice e=>match T e with
  | some ei=>match opd σ.env x with
   | .sl _ xs=>if (sh e).length=ei.size then
     .must (decide (0≤k)) (.must (decide (k<xs.length)) (.must (((xs.getD k.toNat .undef).cells.length==ei.size)&&fitP (sh e) 0 (xs.getD k.toNat .undef)) (.ret (.rptr (canonP (sh e) 0 (xs.getD k.toNat .undef)) 0)))) else .fail
   | .lent p=>match look σ p with
    | .ex sz _ xs=>if sz=ei.size then .must (decide (0≤k)) (.must (decide (k<xs.length)) (.ret (.xptr p k.toNat 0))) else .fail
    | _=>.fail
   | .ex sz _ xs=>match tmpOf x with
    | some t=>if sz=ei.size then .must (decide (0≤k)) (.must (decide (k<xs.length)) (.ret (.xptr (.slot t) k.toNat 0))) else .fail
    | none=>.fail
   | .ref (.arr n) id=>.must (decide (0≤k)) (.must (decide (k<n)) (.ret (.ptr id (k.toNat*ei.size))))
   | _=>.fail
  | none=>.fail
 | .array n e=>match T e with
  | some ei=>.must (decide (0≤k)) (.must (decide (k<n)) (match opd σ.env x with
    | .ptr id off=>.ret (.ptr id (off+k.toNat*ei.size))
    | .rptr cs off=>.ret (.rptr cs (off+k.toNat*ei.size))
    | .xptr q j off=>.ret (.xptr q j (off+k.toNat*ei.size))
    | _=>.fail))
  | none=>.fail
 | _=>.fail
def simpleK:TK→Bool
 | .int _ | .bool | .str | .slice _=>true
 | _=>false
def plainK:TK→Bool
 | .int _ | .bool | .str=>true
 | _=>false
theorem simple_of_plain {l:List TK} (h:l.all plainK=true):l.all simpleK=true:=by
 rw[List.all_eq_true] at h ⊢;intro x hx;have:=h x hx
 cases x<;>first | rfl | (simp[plainK] at this)
def loadT (arr:Bool) (t:Nat) (i:TI) (σ:St) (p:V):Tr (V×List (Place×V)) :=
 match p with
 | .ptr id off=>match arr&&(sh t).all plainK&&Nat.beq (sh t).length i.size with
  | true=>match bcells σ.heap id with
   | some cs=>.must (!specB cs) <| .must (fitP (sh t) off (.agg cs)) (Tr.ofO (noPl (asType i (canonP (sh t) off (.agg cs)))))
   | none=>.fail
  | false=>Tr.ofO (loadAt i σ (.ptr id off))
 | .xptr q k off=>match look σ q with
  | .ex _ _ xs=>if (sh t).length=i.size then .must (decide (k<xs.length)) (.must (fitP (sh t) off (xs.getD k .undef)) (Tr.ofO (noPl (asType i (canonP (sh t) off (xs.getD k .undef)))))) else .fail
  | _=>.fail
 | p=>Tr.ofO (loadAt i σ p)
def storeT (arr:Bool) (i:TI) (σ:St) (p:V) (x:Operand):Tr Eff :=
 match p with
 | .ptr id off=>match arr with
  | true=>match take σ x,bcells σ.heap id with
   | some (v,ps),some cs=>if v.cells.length=i.size∧ps.all isSlot=true then .must (!specB cs) <| .must (decide (off+i.size≤cs.length)) (.ret {val:=.undef,places:=ps,mem:=.set id off v.cells}) else .fail
   | _,_=>.fail
  | false=>Tr.ofO (storeAt i σ (.ptr id off) x)
 | .xptr q k off=>match takeDat σ x,look σ q with
  | some (v,ps),.ex sz n xs=>if v.cells.length=i.size∧ps.all (fun y=>isSlot y&&!(y.1==q))=true then .must (decide (k<xs.length)) (.must (decide (off+i.size≤(xs.getD k .undef).cells.length))
    (.ret (alsoPl ps (rewr q (.ex sz n (xs.set k (mkOf (xs.getD k .undef) (setCells (xs.getD k .undef).cells off v.cells)))))))) else .fail
  | _,_=>.fail
 | p=>Tr.ofO (storeAt i σ p x)
def contentQ (i:TI) (σ:St) (v:V):Tr (Bool×List V) :=
 match v with
 | .ref (.arr n) id=>match bcells σ.heap id with
  | some cs=>.must (!specB cs) <| .must (cs.all cellDat) (.must (decide (0<n)) (.must (chunks i n cs).isSome (.ret (false,(chunks i n cs).getD []))))
  | none=>.fail
 | v=>Tr.ofO (content σ v)
def appendT (σ:St) (c:Call):Tr Eff :=
 match c.args.toList,c.argTypes.toList with
 | [s,x],[t,tx]=>match kindOf T t,kindOf T tx with
  | some (.slice e),some (.slice _)=>match T e with
   | some ei=>match base ei.size σ s with
    | some (n,xs,ps)=>if 0<ei.size then (contentQ ei σ (opd σ.env x)).bind fun y=>match y with
     | (_,ys)=>.must (rooms (xs.length+ys.length) ei.bytes) (.must (decide (xs.length+ys.length<2 ^ 62)) (.must (ys.all fun y=>y.cells.length==ei.size)
      (.ret {val:=.ex ei.size (n&&ys.isEmpty) (xs++ys),places:=ps}))) else .fail
    | none=>.fail
   | none=>.fail
  | _,_=>.fail
 | _,_=>.fail
noncomputable def eqB {α:Type} (a b:α):Bool:=@decide (a=b) (Classical.propDecidable _)
theorem eqB_self {α:Type} (a:α):eqB a a=true:=by unfold eqB;exact @decide_eq_true _ (Classical.propDecidable _) rfl
theorem eqB_eq {α:Type} {a b:α} (h:a=b):eqB a b=true:=by rw[h];exact eqB_self b
theorem of_eqB {α:Type} {a b:α} (h:eqB a b=true):a=b:=@of_decide_eq_true _ (Classical.propDecidable _) h
def dataC (cs:List V):Bool:=cs.all cellDat
noncomputable def lendT (σ:St) (f:FuncId) (k:Nat) (p:Place) (sz:Nat) (xs:List V) (rest:List Operand):Tr Eff :=
 match views (setPlace σ p .undef) rest with
 | some (vs,ps) =>
  let σ1:=setPlaces (setPlace σ p .undef) ps
  let n:=σ1.heap.length
  let ks:=reach σ1.heap n (argIds vs)
  if closedK ks σ1.heap&&(argIds vs).all ks.contains&&hides ks p then
   (S f (amid k (.ref (.arr xs.length) n) vs) (maskH (n::ks) (σ1.heap++[.cells (xs.flatMap V.cells)]))).bind fun x =>
    if deadOut (n::ks) (n+1) x.2&&okBelowV n x.1 then
     match bcells x.2 n with
     | some cs=>.ask (eqB cs (xs.flatMap V.cells))
       (.must (dataC cs) (.ret {val:=x.1,places:=(p,.undef)::ps,mem:=.lent (n::ks) n p (.ex sz false xs) (putH (n::ks) (σ1.heap++[.cells (xs.flatMap V.cells)]) x.2++x.2.drop (n+1))}))
       (.must (cs.all cellDat) (.must (cs.length==(xs.flatMap V.cells).length)
       (.ret {val:=x.1,places:=(p,.undef)::ps,mem:=.lent (n::ks) n p (.ex sz false (regroup xs cs)) (putH (n::ks) (σ1.heap++[.cells (xs.flatMap V.cells)]) x.2++x.2.drop (n+1))})))
     | none=>.fail
    else .fail
  else .fail
 | none=>.fail
noncomputable def glanceT (σ:St) (f:FuncId) (args:List Operand):Tr Eff :=
 match glances σ args with
 | some (vs,ks)=>(S f vs []).bind fun x=>match x.2 with
  | []=>.ret {val:=dim x.1,mem:=.seen ks}
  | _=>.fail
 | none=>.fail
noncomputable def viewT (arr:Bool) (σ:St) (f:V) (args:List Operand):Tr Eff :=
 match views σ args with
 | some (vs,ps)=>callT S arr σ f vs ps
 | none=>.fail
noncomputable def lentT (cx:Cx) (σ:St) (f:V) (args:List Operand):Tr Eff :=
 match lendFn cx f with
 | some (g,k)=>match args.drop k with
  | x::post=>match placeOf σ x with
   | some p=>match look σ p with
    | .ex sz _ xs=>.ask xs.isEmpty (viewT S cx.arr σ f args) (lendT S σ g k p sz xs (args.take k++post))
    | _=>viewT S cx.arr σ f args
   | none=>viewT S cx.arr σ f args
  | []=>viewT S cx.arr σ f args
 | none=>viewT S cx.arr σ f args
noncomputable def newsT (σ:St) (fr n:Nat) (f:V) (args:List Operand):Tr Eff :=
 match views σ args,f with
 | some (vs,[]),.clo (.func f) first captured=>if Nat.blt f yB=true∧(first++vs++captured).all noPtr=true then
   (S f (first++vs++captured) []).bind fun x=>match x.2 with
    | []=>.ret {val:=x.1}
    | H1=>if H1.length=n∧fr+n≤σ.heap.length∧(newIds fr n).all (fun id=>(bcells σ.heap id).isNone)=true then
      .ret {val:=shift fr x.1,mem:=.put (newIds fr n) (List.replicate fr .dead++H1.map (shiftB fr))} else .fail
   else .fail
 | _,_=>.fail
noncomputable def deleteT (sz:Nat) (σ:St) (args:List Operand):Tr Eff :=
 match args with
 | [x,i,j]=>match base sz σ x,opd σ.env i,opd σ.env j with
  | some (_,xs,ps),.int .i64 i,.int .i64 j=>.must (decide (0≤i)) (.must (decide (i≤j)) (.must (decide (j≤xs.length)) (.must (decide (0<xs.length))
   (.ret {val:=.ex sz false (xs.take i.toNat++xs.drop j.toNat),places:=ps}))))
  | _,_,_=>.fail
 | _=>.fail
noncomputable def sliceT (σ:St) (t:Nat) (x:Operand) (lo hi mx:Option Operand):Tr Eff :=
 match kindOf T t with
 | some (.slice e)=>match opd σ.env x with
  | .sl n xs=>match T e,numOf σ lo 0,numOf σ hi xs.length with
   | some ei,some l,some h =>
    .must (decide (0≤l)) (.must (decide (l≤h)) (.must (decide (h≤xs.length)) (.must (xs.all (fun x=>x.cells.length==ei.size)) (
     match mx with
     | none=>.ret {val:=.sl n ((xs.drop l.toNat).take (h.toNat-l.toNat))}
     | some m=>.must (decide (hi.isSome∧numOf σ (some m) 0=some l∧h=l)) (.ret {val:=.ex ei.size n []})))))
   | _,_,_=>.fail
  | _=>.fail
 | _=>.fail
noncomputable def binT (op:BinOp) (i:TI) (one:Bool) (σ:St) (x y:V):Tr V :=
 match x,y,op,i.kind.isAgg with
 | .int k a,.int k' b,.quo,false=>if k=k' then .must (!decide (b=0)) (.ret (.int k (k.wrap (a.tdiv b)))) else .fail
 | .int k a,.int k' b,.rem,false=>if k=k' then .must (!decide (b=0)) (.ret (.int k (a.tmod b))) else .fail
 | .int k a,.int _ b,.shl,false=>.must (!decide (b<0)) (.ret (.int k (k.wrap (a*2 ^ (min b.toNat k.bits)))))
 | .int k a,.int _ b,.shr,false=>.must (!decide (b<0)) (.ret (.int k (a.fdiv (2 ^ (min b.toNat k.bits)))))
 | x,y,op,_=>Tr.ofO (vbinop op i one σ x y)
noncomputable def makeT (t:Nat) (σ:St) (l c:Operand):Tr Eff :=
 match kindOf T t,opd σ.env l,opd σ.env c with
 | some (.slice e),.int _ l,.int _ c=>match T e with
  | some ei=>if 0<ei.size∧ei.zero.dat=true∧ei.zero.cells.length=ei.size then
    .must (decide (0≤l)) (.must (decide (l≤c)) (.must (rooms c.toNat ei.bytes) (.must (decide (c.toNat<2 ^ 62)) (.ret {val:=.ex ei.size false (List.replicate l.toNat ei.zero)})))) else .fail
  | none=>.fail
 | _,_,_=>.fail
noncomputable def updateT (σ:St) (t:Nat) (m k x:Operand):Tr Eff :=
 match kindOf T t,mapOf σ (opd σ.env m),takeMap σ x with
 | some (.map kt et),some (id,ks,vs),some (v,ps)=>match T kt,T et with
  | some ki,some ei=>.must (keyFits ki (opd σ.env k)) (.must (ks.all (keyFits ki)) (.must (v.cells.all (okBelow (id+1))) (if v.cells.length=ei.size∧ps.all isSlot=true then
    .ask (findK (opd σ.env k) ks).isSome
     (.ret {val:=.undef,places:=ps,mem:=.set id 0 [.mp (ks.set ((findK (opd σ.env k) ks).getD 0) (opd σ.env k)) (vs.set ((findK (opd σ.env k) ks).getD 0) v)]})
     (.ret {val:=.undef,places:=ps,mem:=.set id 0 [.mp (ks++[opd σ.env k]) (vs++[v])]})
    else .fail)))
  | _,_=>.fail
 | _,_,_=>.fail
noncomputable def lookupT (σ:St) (t:Nat) (m k:Operand) (ok:Bool):Tr V :=
 match kindOf T t with
 | some (.map kt et)=>match T kt,T et with
  | some ki,some ei=>match mapView σ (opd σ.env m) with
   | some (ks,vs)=>.must (keyFits ki (opd σ.env k)) (.must (ks.all (keyFits ki)) (.ask (findK (opd σ.env k) ks).isSome
     (if (sh et).length=ei.size&&(sh et).all simpleK then
      .must (decide ((findK (opd σ.env k) ks).getD 0<vs.length)) (.must ((vs.getD ((findK (opd σ.env k) ks).getD 0) .undef).cells.length==ei.size&&fitP (sh et) 0 (vs.getD ((findK (opd σ.env k) ks).getD 0) .undef))
       (.must (isAggV (vs.getD ((findK (opd σ.env k) ks).getD 0) .undef)==ei.kind.isAgg) ((Tr.ofO (asType ei (canonP (sh et) 0 (vs.getD ((findK (opd σ.env k) ks).getD 0) .undef)))).bind fun v=>.ret (okV ok v true))))
     else (Tr.ofO (vs[(findK (opd σ.env k) ks).getD 0]?)).bind fun v=>.ret (okV ok v true))
     (.ret (okV ok ei.zero false))))
   | none=>.fail
  | _,_=>.fail
 | _=>.fail
noncomputable def effT (cx:Cx) (fresh:Nat) (o:Oper) (σ:St):Tr (Eff×List Operand) :=
 match o.op with
 | .pick c a b=>match opd σ.env c with
  | .bool t=>.ask t
    (match opd σ.env a with | .bool r=>.ret ({val:=.bool r},[c,a]) | .int k n=>.ret ({val:=.int k n},[c,a]) | _=>.fail)
    (match opd σ.env b with | .bool r=>.ret ({val:=.bool r},[c,b]) | .int k n=>.ret ({val:=.int k n},[c,b]) | _=>.fail)
  | _=>.fail
 | .load t p=>match T t with
  | some i=>(loadT sh cx.arr t i σ (opd σ.env p)).bind fun v=>.ret ({val:=v.1,places:=v.2},o.op.operands.toList)
  | none=>.fail
 | .store t p x=>match T t with
  | some i=>(storeT cx.arr i σ (opd σ.env p) x).bind fun e=>match e.mem with
   | .set id _ cs=>if cs.all (okBelow (id+1)) then .ret (e,o.op.operands.toList) else .fail
   | _=>.ret (e,o.op.operands.toList)
  | none=>.fail
 | .binOp op t x y _=>match T t with
  | some i=>(binT op i (isConst x || isConst y) σ (opd σ.env x) (opd σ.env y)).bind fun v=>.ret ({val:=v},o.op.operands.toList)
  | none=>.fail
 | .slice t x lo hi mx=>(sliceT T σ t x lo hi mx).bind fun e=>.ret (e,o.op.operands.toList)
 | .indexAddr t x k=>match T t,opd σ.env k with
  | some i,.int _ k=>(indexT T sh i σ x k).bind fun v=>.ret ({val:=v},o.op.operands.toList)
  | _,_=>.fail
 | .call c=>match c.callee with
  | .builtin .append=>(appendT T σ c).bind fun e=>.ret (e,o.op.operands.toList)
  | .value f=>match toldOf cx (opd σ.env f) with
   | some sz=>(deleteT sz σ c.args.toList).bind fun e=>.ret (e,o.op.operands.toList)
   | none=>match isNews cx c with
    | some n=>(newsT S σ fresh n (opd σ.env f) c.args.toList).bind fun e=>.ret (e,o.op.operands.toList)
    | none=>match glanceOf cx (opd σ.env f) with
     | some g=>(glanceT S σ g c.args.toList).bind fun e=>.ret (e,o.op.operands.toList)
     | none=>(lentT S cx σ (opd σ.env f) c.args.toList).bind fun e=>.ret (e,o.op.operands.toList)
  | _=>(Tr.ofO (eff T (fun _ _ _=>none) cx fresh o σ)).bind fun e=>.ret (e,o.op.operands.toList)
 | .insert t m k x=>(updateT T σ t m k x).bind fun e=>.ret (e,o.op.operands.toList)
 | .mapUpdate t m k x=>(updateT T σ t m k x).bind fun e=>.ret (e,o.op.operands.toList)
 | .lookup t m k ok=>(lookupT T sh σ t m k ok).bind fun v=>.ret ({val:=v},o.op.operands.toList)
 | .makeSlice t l c=>(makeT T t σ l c).bind fun e=>.ret (e,o.op.operands.toList)
 | _=>(Tr.ofO (eff T (fun _ _ _=>none) cx fresh o σ)).bind fun e=>.ret (e,o.op.operands.toList)
noncomputable def effG1 (cx:Cx) (fresh:Nat) (o:Oper) (σ:St):Tr (Eff×List Operand) :=
 (effT T sh S cx fresh o σ).bind fun x=>if (match o.dst with | some d=>x.1.val.refsTo (.slot d) | none=>false) then .fail else .ret x
noncomputable def effGT (cx:Cx) (ops:Array Oper) (fresh:Nat) (o:Oper) (σ:St):Tr (Eff×List Operand) :=
 match o.guard with
 | none=>effG1 T sh S cx fresh o σ
 | some (j,want)=>match (ops[j]?).bind (·.dst) with
  | some t=>match get σ.env t with
   | .bool b=>match want with
    | true=>.ask b (effG1 T sh S cx fresh o σ) (.ret ({val:=.tup []},[]))
    | false=>.ask b (.ret ({val:=.tup []},[])) (effG1 T sh S cx fresh o σ)
   | .tup []=>.ret ({val:=.tup []},[])
   | _=>.fail
  | none=>.fail
noncomputable def vopsT (cx:Cx) (ops:Array Oper):Nat→List Oper→St→Tr St
 | _,[],σ=>.ret σ
 | fresh,o::rest,σ=>(effGT T sh S cx ops fresh o σ).bind fun x=>vopsT cx ops (fresh+takesB cx o) rest (apply σ o.dst x.1)
noncomputable def readsL (ops:Array Oper) (fr:Nat) (o:Oper) (env:Env) (e:Eff) (l:List Operand):List Res :=
 memReads e++l.flatMap (opReads (derefs o) (light o) env)++(match guardSlot ops o with | some t=>[.slot t] | none=>[])++(if isFresh o then [.blk fr] else [])
noncomputable def drawRunT (cx:Cx) (ops:Array Oper):Nat→List Oper→St→Tr (St×List (List Res×List Res))
 | _,[],σ=>.ret (σ,[])
 | fr,o::rest,σ=>(effGT T sh S cx ops fr o σ).bind fun x =>
   if tameB x.1&&calm o x.1&&x.2.all (seen σ)&&(refRes x.1.val).all (fun r=>(readsL ops fr o σ.env x.1 x.2).contains r) then
    (drawRunT cx ops (fr+takesB cx o) rest (apply σ o.dst x.1)).bind fun y=>.ret (y.1,(readsL ops fr o σ.env x.1 x.2,writes o.dst x.1)::y.2)
   else if wildOp o then
    (drawRunT cx ops (fr+takesB cx o) rest (apply σ o.dst x.1)).bind fun y=>.ret (y.1,([.top],[.top])::y.2)
   else .fail
noncomputable def regionT (cx:Cx) (id:Nat) (ops:Array Oper) (draw:Bool) (σ:St):Tr St :=
 match draw with
 | false=>(vopsT T sh S cx ops σ.heap.length ops.toList (reserve cx ops σ)).bind fun σ'=>.ret (prune (cx.keep id) σ')
 | true=>(drawRunT T sh S cx ops σ.heap.length ops.toList (reserve cx ops σ)).bind fun x =>
   if (cx.free id).all (fun y=>apartB (fpAt x.2 y.1) (fpAt x.2 y.2)) then .ret (prune (cx.keep id) x.1) else .fail
noncomputable def codeT (cx:Cx):Code→St→Tr (Ex×St)
 | .skip,σ=>.ret (.normal,σ)
 | .region id ops draw,σ=>(regionT T sh S cx id ops draw σ).bind fun σ'=>.ret (.normal,σ')
 | .seq a b,σ=>(codeT cx a σ).bind fun x=>match x.1 with
  | .normal=>codeT cx b x.2
  | ex=>.ret (ex,x.2)
 | .cond c a b,σ=>match opd σ.env c with
  | .bool t=>.ask t (codeT cx a σ) (codeT cx b σ)
  | _=>.fail
 | .block id b,σ=>(codeT cx b σ).bind fun x=>match x.1 with
  | .exit i=>if i=id then .ret (.normal,x.2) else .ret (.exit i,x.2)
  | ex=>.ret (ex,x.2)
 | .exit id,σ=>.ret (.exit id,σ)
 | .ret,σ=>.ret (.ret,σ)
 | .loop b,σ=>L (firstRegion b) (prune (cx.head (firstRegion b)) σ)
 | .rangeFunc g ps asg body,σ=>match cx.rnd,opd σ.env g with
  | false,.clo (.func f) first captured =>
   let H0:=rangeIn cx ps.toList asg body σ
   let vs:=first++[.ref .yld σ.heap.length]++captured
   let ks:=reach H0 H0.length (argIds vs)
   if closedK ks H0&&(argIds vs).all ks.contains&&Nat.blt f yB then (S f vs (maskH ks H0)).bind fun x=>Tr.ofO (rangeOut σ ks H0 x.2) else .fail
  | _,_=>.fail
 | .scope b,σ=>codeT cx b σ
 | .label _,σ=>.ret (.normal,σ)
 | _,_=>.fail
noncomputable def roundT (cx:Cx) (n:Nat) (b:Code) (τ:St):Tr (Ex×St) :=
 (codeT T sh S L cx b τ).bind fun x=>match x.1 with
  | .normal=>.ret (.normal,back n (prune (cx.head (firstRegion b)) x.2))
  | ex=>.ret (ex,x.2)
noncomputable def unrollT (cx:Cx) (b:Code):Nat→Nat→St→Tr (Ex×St)
 | _,0,_=>.fail
 | n,m+1,τ=>(roundT T sh S L cx n b τ).bind fun x=>match x.1 with
  | .normal=>unrollT cx b n m x.2
  | ex=>.ret (ex,x.2)
noncomputable def yldT (F:Fns) (id:Nat) (args:List V) (H:Heap):Tr (V×Heap) :=
 match bcells H id with
 | some [.lp ts vs ps asg body cx .ready]=>match F cx.self with
  | some fi=>if ps.length=args.length∧cx.told=fi.cx.told then
    (codeT T sh S L {cx with rnd:=true} asg {env:=(ps.zip args).reverse++ts.zip vs,heap:=H}).bind fun x=>match x.1 with
     | .normal=>match bcells x.2.heap id with
      | some [.lp ts1 vs1 ps1 asg1 body1 cx1 .ready] =>
       (codeT T sh S L {cx with rnd:=true} body (setMem x.2 (.set id 0 [.lp ts1 vs1 ps1 asg1 body1 cx1 .busy]))).bind fun y=>match bcells y.2.heap id with
        | some [.lp ts vs ps asg body cx .busy]=>match y.1 with
         | .normal=>.ret (.bool true,(setMem y.2 (.set id 0 [.lp ts vs ps asg body cx .ready])).heap.take H.length)
         | ex=>.ret (.bool false,(setMem y.2 (.set id 0 [.lp ts vs ps asg body cx (.done ex)])).heap.take H.length)
        | _=>.fail
      | _=>.fail
     | _=>.fail
   else .fail
  | none=>.fail
 | _=>.fail
noncomputable def funT (fi:FI) (args:List V) (H:Heap):Tr (V×Heap) :=
 (codeT T sh S L fi.cx fi.body (enter args H)).bind fun x=>match x.1 with
  | .exit _=>.fail
  | _=>Tr.ofO (leave T fi.results H.length x.2)
end
noncomputable def loopsOf:Code→List Code
 | .seq a b=>loopsOf a++loopsOf b
 | .cond _ a b=>loopsOf a++loopsOf b
 | .block _ b=>loopsOf b
 | .loop b=>b::loopsOf b
 | .scope b=>loopsOf b
 | _=>[]
noncomputable def lb (fi:FI) (i:Nat):Code:=(loopsOf fi.body).getD i .skip
end Go.Vm
end
section
namespace Go.Vm
open Go
def Ev (p:Nat→Prop):Prop:=∃ k0,∀ k,k0≤k→p k
theorem Ev.all {p:Nat→Prop} (h:∀ k,p k):Ev p:=⟨0,fun k _=>h k⟩
theorem Ev.and {p q:Nat→Prop} (h:Ev p) (g:Ev q):Ev fun k=>p k∧q k:=by
 obtain⟨a,ha⟩:=h;obtain⟨b,hb⟩:=g;exact⟨max a b,fun k hk=>⟨ha k (by omega),hb k (by omega)⟩⟩
theorem Ev.mono {p q:Nat→Prop} (h:Ev p) (f:∀ k,p k→q k):Ev q:=by
 obtain⟨a,ha⟩:=h;exact⟨a,fun k hk=>f k (ha k hk)⟩
theorem Ev.of_and {p q:Nat→Prop} (h:Ev p) (g:Ev q) {r:Nat→Prop} (f:∀ k,p k→q k→r k):Ev r:=(h.and g).mono fun k x=>f k x.1 x.2
section
variable {T:Types} {call:CallF} {calls:Nat→CallF} {lp:Step→Step} {lps:Nat→Step→Step} {cx:Cx} {ops:Array Oper}
theorem ev_callGo (hc:∀ f a H r,call f a H=some r→Ev fun k=>calls k f a H=some r) {σ:St} {f:FuncId} {vs:List V} {ids:List Nat} {ps:List (Place×V)} {e:Eff} (h:callGo call σ f vs ids ps=some e) :
  Ev fun k=>callGo (calls k) σ f vs ids ps=some e:=by
 unfold callGo at h;by_cases hp:(vs.all noPtr&&ids.isEmpty)=true
 ·rw[if_pos hp] at h
  cases hcall:call f vs [] with
  | none=>rw[hcall] at h;cases h
  | some x =>
   refine (hc _ _ _ _ hcall).mono fun k hk=>?_
   unfold callGo;simp only[if_pos hp,hk];rw[hcall] at h;exact h
 ·rw[if_neg hp] at h
  simp only at h;split at h
  ·rename_i hcl
   cases hcall:call f vs (maskH (reach (setPlaces σ ps).heap (setPlaces σ ps).heap.length (ids++argIds vs)) (setPlaces σ ps).heap) with
   | none=>rw[hcall] at h;cases h
   | some x =>
    refine (hc _ _ _ _ hcall).mono fun k hk=>?_
    unfold callGo;simp only[if_neg hp,if_pos hcl,hk];rw[hcall] at h;exact h
  ·cases h
theorem ev_callAt (hc:∀ f a H r,call f a H=some r→Ev fun k=>calls k f a H=some r) {σ:St} {f:V} {args:List V} {ps:List (Place×V)} {e:Eff} (h:callAt call σ f args ps=some e) :
  Ev fun k=>callAt (calls k) σ f args ps=some e:=by
 unfold callAt at h ⊢;split at h
 ·rename_i fid first captured
  split at h
  ·rename_i hl;simp only[hl,if_true];exact ev_callGo hc h
  ·cases h
 ·exact ev_callGo hc h
 ·cases h
theorem ev_lendAt (hc:∀ f a H r,call f a H=some r→Ev fun k=>calls k f a H=some r) {σ:St} {f:FuncId} {ka:Nat} {p:Place} {sz:Nat} {xs:List V} {rest:List Operand} {e:Eff} (h:lendAt call σ f ka p sz xs rest=some e) :
  Ev fun k=>lendAt (calls k) σ f ka p sz xs rest=some e:=by
 unfold lendAt at h ⊢;cases hv:views (setPlace σ p .undef) rest with
 | none=>simp[hv] at h
 | some vp =>
  obtain⟨vs,ps⟩:=vp;simp only[hv] at h ⊢;split at h
  ·rename_i hcl
   simp only[if_pos hcl];split at h
   ·rename_i r H' hcall
    refine (hc _ _ _ _ hcall).mono fun k hk=>?_
    simp only[hk];exact h
   ·cases h
  ·cases h
theorem ev_eff (hc:∀ f a H r,call f a H=some r→Ev fun k=>calls k f a H=some r) {fr:Nat} {o:Oper} {σ:St} {e:Eff} (h:eff T call cx fr o σ=some e):Ev fun k=>eff T (calls k) cx fr o σ=some e:=by
 cases ho:o.op
 case call c =>
  simp only[eff,ho] at h ⊢;cases hcal:c.callee with
  | value f =>
   simp only[hcal] at h ⊢;cases ht:toldOf cx (opd σ.env f) with
   | some sz=>simp only[ht] at h ⊢;exact .all fun _=>h
   | none =>
   simp only[ht] at h ⊢;cases hnw:isNews cx c with
   | some n =>
    simp only[hnw] at h ⊢;unfold newsAt at h ⊢;split at h
    case h_2=>cases h
    rename_i vs fid first captured _ _;split at h
    case isFalse=>cases h
    rename_i hlt;simp only[hlt,if_true];unfold newsGo at h ⊢;split at h
    case isFalse=>cases h
    rename_i hcnd;simp only[if_pos hcnd];cases hcall:call fid (first++vs++captured) [] with
    | none=>rw[hcall] at h;cases h
    | some x=>exact (hc _ _ _ _ hcall).mono fun k hk=>by rw[hcall] at h;simp only[hk];exact h
   | none =>
   simp only[hnw] at h ⊢;have other:∀ {e:Eff},(match views σ c.args.toList with | some (vs,ps)=>callAt call σ (opd σ.env f) vs ps | none=>none)=some e →
     Ev fun k=>(match views σ c.args.toList with | some (vs,ps)=>callAt (calls k) σ (opd σ.env f) vs ps | none=>none)=some e:=fun {e} h=>by
    cases hv:views σ c.args.toList with
    | none=>simp[hv] at h
    | some x =>
     simp only[hv] at h;exact (ev_callAt hc h).mono fun k hk=>by simpa only [hv] using hk
   cases hg:glanceOf cx (opd σ.env f) with
   | some g =>
    simp only[hg] at h ⊢;unfold glanceAt at h ⊢;cases hv:glances σ c.args.toList with
    | none=>simp[hv] at h
    | some vk =>
     obtain⟨vs,ks⟩:=vk;simp only[hv] at h ⊢;cases hcall:call g vs [] with
     | none=>simp[hcall] at h
     | some x=>exact (hc _ _ _ _ hcall).mono fun k hk=>by rw[hcall] at h;simp only[hk];exact h
   | none =>
   cases hl:lendOf cx σ (opd σ.env f) c.args.toList with
   | none=>simp only[hg,hl] at h ⊢;exact other h
   | some q =>
    obtain⟨g,ka,p,sz,xs,rest⟩:=q;cases xs with
    | nil=>simp only[hg,hl] at h ⊢;exact other h
    | cons x xs=>simp only[hg,hl] at h ⊢;exact ev_lendAt hc h
  | builtin b=>simp only[hcal] at h ⊢;exact .all fun _=>h
  | invoke x m=>simp only[hcal] at h;cases h
 all_goals exact .all fun k=>by simpa only [eff,ho] using h
theorem ev_effG (hc:∀ f a H r,call f a H=some r→Ev fun k=>calls k f a H=some r) {fr:Nat} {o:Oper} {σ:St} {e:Eff} (h:effG T call cx ops fr o σ=some e):Ev fun k=>effG T (calls k) cx ops fr o σ=some e:=by
 unfold effG at h ⊢;cases hw:wants ops σ.env o with
 | none=>simp[hw] at h
 | some b =>
  cases b with
  | false=>exact .all fun k=>by simpa [hw] using h
  | true =>
   simp only[hw] at h ⊢;cases he:eff T call cx fr o σ with
   | none=>simp[he] at h
   | some x =>
    rw[he] at h;exact (ev_eff hc he).mono fun k hk=>by simp only[hk];exact h
theorem ev_vops (hc:∀ f a H r,call f a H=some r→Ev fun k=>calls k f a H=some r):∀ (l:List Oper) (fr:Nat) (σ τ:St),vops T call cx ops fr l σ=some τ→Ev fun k=>vops T (calls k) cx ops fr l σ=some τ
 | [],fr,σ,τ,h=>.all fun _=>h
 | o::l,fr,σ,τ,h=>by
  simp only[vops,Option.bind_eq_some_iff] at h ⊢;obtain⟨σ1,h1,h2⟩:=h;unfold vop at h1 ⊢;rw[Option.map_eq_some_iff] at h1;obtain⟨e,h3,h4⟩:=h1;refine (ev_effG hc h3).of_and (ev_vops hc l _ _ _ h2) fun k g1 g2=>⟨σ1,by rw[g1];simp[h4],g2⟩
theorem ev_draw (hc:∀ f a H r,call f a H=some r→Ev fun k=>calls k f a H=some r):∀ (l:List Oper) (fr:Nat) (σ:St) (r:St×List (List Res×List Res)),drawRun T call cx ops fr l σ=some r→Ev fun k=>drawRun T (calls k) cx ops fr l σ=some r
 | [],fr,σ,τ,h=>.all fun _=>h
 | o::l,fr,σ,τ,h=>by
  simp only[drawRun] at h ⊢;cases he:effG T call cx ops fr o σ with
  | none=>simp[he] at h
  | some e =>
   simp only[he] at h;split at h
   ·rename_i hb
    rw[Option.map_eq_some_iff] at h;obtain⟨x,h1,h2⟩:=h;exact (ev_effG hc he).of_and (ev_draw hc l _ _ _ h1) fun k g1 g2=>by simp only[g1,if_pos hb,g2];simp[←h2]
   ·rename_i hb
    split at h
    ·rename_i hw
     rw[Option.map_eq_some_iff] at h;obtain⟨x,h1,h2⟩:=h;exact (ev_effG hc he).of_and (ev_draw hc l _ _ _ h1) fun k g1 g2=>by simp only[g1,if_neg hb,if_pos hw,g2];simp[←h2]
    ·cases h
theorem ev_region (hc:∀ f a H r,call f a H=some r→Ev fun k=>calls k f a H=some r) {id:Nat} {draw:Bool} {σ τ:St} (h:vregion T call cx id ops draw σ=some τ):Ev fun k=>vregion T (calls k) cx id ops draw σ=some τ:=by
 unfold vregion at h ⊢;cases draw with
 | false =>
  simp only[Option.map_eq_some_iff] at h ⊢;obtain⟨x,h1,h2⟩:=h;exact (ev_vops hc _ _ _ _ h1).mono fun k g=>⟨x,g,h2⟩
 | true =>
  simp only at h ⊢;cases hr:drawRun T call cx ops σ.heap.length ops.toList (reserve cx ops σ) with
  | none=>simp[hr] at h
  | some x=>exact (ev_draw hc _ _ _ _ hr).mono fun k g=>by rw[g];rw[hr] at h;exact h
def EvStep (step:Step) (steps:Nat→Step):Prop:=∀ σ r,step σ=some r→Ev fun k=>steps k σ=some r
theorem ev_code (hc:∀ f a H r,call f a H=some r→Ev fun k=>calls k f a H=some r) (hl:∀ step steps,EvStep step steps→EvStep (lp step) fun k=>lps k (steps k)) :
  ∀ (c:Code),EvStep (vcode T call lp cx c) fun k=>vcode T (calls k) (lps k) cx c
 | .skip=>fun σ r h=>.all fun _=>h
 | .region id ops draw=>fun σ r h=>by
  simp only[vcode,Option.map_eq_some_iff] at h ⊢;obtain⟨x,h1,h2⟩:=h;exact (ev_region hc h1).mono fun k g=>⟨x,g,h2⟩
 | .seq a b=>fun σ r h=>by
  simp only[vcode] at h ⊢;cases ha:vcode T call lp cx a σ with
  | none=>simp[ha] at h
  | some x =>
   obtain⟨ex,σ1⟩:=x;have h1:=ev_code hc hl a σ _ ha;cases ex with
   | normal =>
    simp only[ha] at h;exact h1.of_and (ev_code hc hl b _ _ h) fun k (g1:vcode T (calls k) (lps k) cx a σ=_) g2=>by rw[g1];exact g2
   | exit i=>rw[ha] at h;exact h1.mono fun k (g:vcode T (calls k) (lps k) cx a σ=_)=>by rw[g];exact h
   | ret=>rw[ha] at h;exact h1.mono fun k (g:vcode T (calls k) (lps k) cx a σ=_)=>by rw[g];exact h
 | .cond c a b=>fun σ r h=>by
  simp only[vcode] at h ⊢;cases hv:opd σ.env c<;>simp only[hv] at h ⊢<;>try (cases h;done)
  rename_i t;cases t
  ·simp only[Bool.false_eq_true,if_false] at h ⊢;exact ev_code hc hl b σ r h
  ·simp only[if_true] at h ⊢;exact ev_code hc hl a σ r h
 | .block id b=>fun σ r h=>by
  simp only[vcode] at h ⊢;cases ha:vcode T call lp cx b σ with
  | none=>simp[ha] at h
  | some x=>exact (ev_code hc hl b σ _ ha).mono fun k (g:vcode T (calls k) (lps k) cx b σ=_)=>by rw[g];rw[ha] at h;exact h
 | .loop b=>fun σ r h=>by
  simp only[vcode] at h ⊢;refine hl _ _ (fun τ r h=>?_) _ _ h
  cases ha:vcode T call lp cx b τ with
  | none=>simp[ha] at h
  | some x=>exact (ev_code hc hl b τ _ ha).mono fun k (g:vcode T (calls k) (lps k) cx b τ=_)=>by rw[g];rw[ha] at h;exact h
 | .exit id=>fun σ r h=>.all fun _=>h
 | .ret=>fun σ r h=>.all fun _=>h
 | .rangeFunc g ps asg body=>fun σ r h=>by
  simp only[vcode] at h ⊢;split at h
  ·rename_i f first captured hr hg
   split at h
   ·rename_i hcl
    cases hcall:call f (first++[.ref .yld σ.heap.length]++captured) (maskH (reach (rangeIn cx ps.toList asg body σ) (rangeIn cx ps.toList asg body σ).length (argIds (first++[.ref .yld σ.heap.length]++captured))) (rangeIn cx ps.toList asg body σ)) with
    | none=>rw[hcall] at h;cases h
    | some x =>
     refine (hc _ _ _ _ hcall).mono fun k hk=>?_
     simp only[hcl,if_true,hk];rw[hcall] at h;exact h
   ·cases h
  ·cases h
 | .scope x=>fun σ r h=>by
  simp only[vcode] at h ⊢;exact ev_code hc hl x σ r h
 | .label _=>fun σ r h=>.all fun _=>h
 | .goto _=>fun σ r h=>by cases h
 | .refuse _=>fun σ r h=>by cases h
theorem ev_rounds {step:Step} {steps:Nat→Step} (h:EvStep step steps):∀ (n:Nat) (σ:St) (r:Ex×St),rounds step n σ=some r→Ev fun k=>∀ m,n≤m→rounds (steps k) m σ=some r
 | 0,σ,r,hr=>by simp[rounds] at hr
 | n+1,σ,r,hr=>by
  simp only[rounds] at hr;cases hs:step σ with
  | none=>simp[hs] at hr
  | some x =>
   obtain⟨ex,σ1⟩:=x;cases ex with
   | normal =>
    simp only[hs] at hr;refine (h _ _ hs).of_and (ev_rounds h n σ1 r hr) fun k g1 g2 m hm=>?_
    match m,hm with
    | m+1,hm=>simp only[rounds,g1];exact g2 m (by omega)
   | exit i =>
    refine (h _ _ hs).mono fun k g1 m hm=>?_
    match m,hm with
    | m+1,hm=>simp only[rounds,g1];simpa [hs] using hr
   | ret =>
    refine (h _ _ hs).mono fun k g1 m hm=>?_
    match m,hm with
    | m+1,hm=>simp only[rounds,g1];simpa [hs] using hr
theorem rounds_mono {step:Step} {n m:Nat} (hn:n≤m) {σ:St} {r:Ex×St} (h:rounds step n σ=some r):rounds step m σ=some r:=by
 obtain⟨k0,hk⟩:=ev_rounds (steps:=fun _=>step) (fun σ r h=>.all fun _=>h) n σ r h
 exact hk k0 (Nat.le_refl _) m hn
theorem rounds_le {step step':Step} (hs:∀ σ r,step σ=some r→step' σ=some r) {n m:Nat} (hn:n≤m) {σ:St} {r:Ex×St} (h:rounds step n σ=some r):rounds step' m σ=some r:=by
 obtain⟨k0,hk⟩:=ev_rounds (steps:=fun _=>step') (fun σ r h=>.all fun _=>hs σ r h) n σ r h
 exact hk k0 (Nat.le_refl _) m hn
theorem ev_any {F:Fns} (hc:∀ f a H r,call f a H=some r→Ev fun k=>calls k f a H=some r) (hl:∀ step steps,EvStep step steps→EvStep (lp step) fun k=>lps k (steps k)) {f:FuncId} {a:List V} {H:Heap} {r:V×Heap}
  (h:vany T F call lp f a H=some r):Ev fun k=>vany T F (calls k) (lps k) f a H=some r:=by
 unfold vany at h ⊢;cases hf:F f with
 | some fi =>
  simp only[hf] at h ⊢;unfold vfun at h ⊢;simp only[hf] at h ⊢;cases hv:vcode T call lp fi.cx fi.body (enter a H) with
  | none=>simp[hv] at h
  | some x=>exact (ev_code hc hl fi.body _ _ hv).mono fun k (g:vcode T (calls k) (lps k) fi.cx fi.body (enter a H)=_)=>by rw[g];rw[hv] at h;exact h
 | none =>
  simp only[hf] at h ⊢;split at h
  ·rename_i hb
   simp only[hb,if_true];unfold vround at h ⊢;split at h
   ·rename_i ts vs ps asg body cx hbc
    split at h
    ·rename_i fi hfi
     split at h
     ·rename_i hcond
      cases h1:vcode T call lp {cx with rnd:=true} asg {env:=(ps.zip a).reverse++ts.zip vs,heap:=H} with
      | none=>simp[h1] at h
      | some x =>
       obtain⟨ex,σ1⟩:=x;have e1:=ev_code (cx:={cx with rnd:=true}) hc hl asg _ _ h1;simp only[h1] at h;cases ex with
       | normal =>
        simp only at h;split at h
        ·rename_i ts1 vs1 ps1 asg1 body1 cx1 hb1
         cases h2:vcode T call lp {cx with rnd:=true} body (setMem σ1 (.set (f-yB) 0 [.lp ts1 vs1 ps1 asg1 body1 cx1 .busy])) with
         | none=>simp[h2] at h
         | some y =>
          have e2:=ev_code (cx:={cx with rnd:=true}) hc hl body _ _ h2;refine e1.of_and e2 fun k (g1:vcode T (calls k) (lps k) {cx with rnd:=true} asg {env:=(ps.zip a).reverse++ts.zip vs,heap:=H}=_) (g2:vcode T (calls k) (lps k) {cx with rnd:=true} body (setMem σ1 (.set (f-yB) 0 [.lp ts1 vs1 ps1 asg1 body1 cx1 .busy]))=_)=>?_
          simp only[if_pos hcond,g1,hb1,g2];rw[h2] at h;exact h
        ·cases h
       | exit i=>cases h
       | ret=>cases h
     ·cases h
    ·cases h
   ·cases h
  ·cases h
theorem vcall_succ {F:Fns}:∀ (k:Nat) (f:FuncId) (a:List V) (H:Heap) (r:V×Heap),vcall T F k f a H=some r→vcall T F (k+1) f a H=some r
 | 0,f,a,H,r,h=>by simp[vcall] at h
 | k+1,f,a,H,r,h=>by
  obtain⟨k0,hk⟩:=ev_any (calls:=fun _=>sq (vcall T F (k+1))) (lps:=fun _ s=>rounds s (k+1)) (fun f a H r h=>.all fun _=>sq_mono (fun f a H r h=>vcall_succ k f a H r h) h)
   (fun step steps hs σ r h=>by
    obtain⟨k0,hk⟩:=ev_rounds hs k σ r h;exact⟨k0,fun j hj=>hk j hj (k+1) (by omega)⟩) h
  exact hk k0 (Nat.le_refl _)
theorem vcall_mono {F:Fns} {f:FuncId} {a:List V} {H:Heap} {r:V×Heap} {k m:Nat} (hk:k≤m) (h:vcall T F k f a H=some r):vcall T F m f a H=some r:=by
 induction hk with
 | refl=>exact h
 | step _ ih=>exact vcall_succ _ f a H r ih
def Runs (T:Types) (F:Fns) (f:FuncId) (a:List V) (H:Heap) (r:V×Heap):Prop:=∃ k,vcall T F k f a H=some r
theorem Runs.det {F:Fns} {f:FuncId} {a:List V} {H:Heap} {r s:V×Heap} (h:Runs T F f a H r) (g:Runs T F f a H s):r=s:=by
 obtain⟨k,h⟩:=h;obtain⟨m,g⟩:=g;have h1:=vcall_mono (Nat.le_max_left k m) h;rw[vcall_mono (Nat.le_max_right k m) g] at h1;exact (Option.some.inj h1).symm
open Classical in
noncomputable def vlim0 (T:Types) (F:Fns):CallF:=fun f a H=>if h:∃ r,Runs T F f a H r then some h.choose else none
theorem vlim_iff {F:Fns} {f:FuncId} {a:List V} {H:Heap} {r:V×Heap}:vlim0 T F f a H=some r↔Runs T F f a H r:=by
 unfold vlim0;split
 ·rename_i h
  have hc:=h.choose_spec;constructor
  ·intro g;injection g with g;rw[←g];exact hc
  ·intro g;rw[hc.det g]
 ·rename_i h
  exact⟨fun g=>(by cases g),fun g=>absurd ⟨r,g⟩ h⟩
noncomputable def vlim (T:Types) (F:Fns):CallF:=sq (vlim0 T F)
theorem sq_ev {call:CallF} {calls:Nat→CallF} (hc:∀ f a H r,call f a H=some r→Ev fun k=>calls k f a H=some r) {f:FuncId} {a:List V} {H:Heap} {r:V×Heap} (h:sq call f a H=some r):Ev fun k=>sq (calls k) f a H=some r:=by
 unfold sq at h ⊢;cases hb:Nat.beq (liveB H).length H.length with
 | true=>rw[hb] at h;exact hc _ _ _ _ h
 | false =>
  rw[hb] at h;simp only at h ⊢;cases hf:sqF (liveB H) f with
  | none=>rw[hf] at h;cases h
  | some f' =>
   rw[hf] at h;simp only at h ⊢;cases hcl:call f' (a.map (map1 (downG (liveB H)))) (packH (liveB H) H) with
   | none=>rw[hcl] at h;cases h
   | some x =>
    rw[hcl] at h;exact (hc _ _ _ _ hcl).mono fun k hk=>by rw[hk];exact h
def LRuns (step:Step) (σ:St) (r:Ex×St):Prop:=∃ n,rounds step n σ=some r
theorem LRuns.det {step:Step} {σ:St} {r s:Ex×St} (h:LRuns step σ r) (g:LRuns step σ s):r=s:=by
 obtain⟨k,h⟩:=h;obtain⟨m,g⟩:=g;have h1:=rounds_mono (Nat.le_max_left k m) h;rw[rounds_mono (Nat.le_max_right k m) g] at h1;exact (Option.some.inj h1).symm
open Classical in
noncomputable def lplim (step:Step):Step:=fun σ=>if h:∃ r,LRuns step σ r then some h.choose else none
theorem lplim_iff {step:Step} {σ:St} {r:Ex×St}:lplim step σ=some r↔LRuns step σ r:=by
 unfold lplim;split
 ·rename_i h
  have hc:=h.choose_spec;constructor
  ·intro g;injection g with g;rw[←g];exact hc
  ·intro g;rw[hc.det g]
 ·rename_i h
  exact⟨fun g=>(by cases g),fun g=>absurd ⟨r,g⟩ h⟩
theorem runs_of_any {F:Fns} {f:FuncId} {a:List V} {H:Heap} {r:V×Heap} (h:vany T F (vlim T F) lplim f a H=some r):Runs T F f a H r:=by
 obtain⟨k0,hk⟩:=ev_any (calls:=fun k=>sq (vcall T F k)) (lps:=fun k s=>rounds s k)
  (fun f a H r h=>sq_ev (fun f a H r h=>by
   obtain⟨k,hk⟩:=vlim_iff.1 h;exact⟨k,fun m hm=>vcall_mono hm hk⟩) h)
  (fun step steps hs σ r h=>by
   obtain⟨n,hn⟩:=lplim_iff.1 h;obtain⟨k0,hk⟩:=ev_rounds hs n σ r hn;exact⟨max k0 n,fun k hkk=>hk k (by omega) k (by omega)⟩) h
 exact⟨k0+1,hk k0 (Nat.le_refl _)⟩
theorem runs_of_lim {F:Fns} {f:FuncId} {a:List V} {H:Heap} {r:V×Heap} (h:vfun T F (vlim T F) lplim f a H=some r):Runs T F f a H r:=by
 refine runs_of_any ?_;unfold vany;cases hf:F f with
 | none=>simp[vfun,hf] at h
 | some fi=>exact h
end
end Go.Vm
end
section
namespace Go.Vm
open Go
section
variable {T:Types} {sh:Nat→List TK} {S:Spec} {L:LSpec} {call:CallF} {cx:Cx} {ops:Array Oper} {fr:Nat} {o:Oper} {σ:St}
def Good (call:CallF) (S:Spec):Prop:=∀ f a H r,(S f a H).run=some r→call f a H=some r
theorem if_fail {α:Type} {c:Prop} [Decidable c] {x:Tr α} {r:α} (h:(if c then x else .fail).run=some r):c∧x.run=some r:=by
 split at h
 ·rename_i hc;exact⟨hc,h⟩
 ·cases h
theorem eff_none {e:Eff} (h:eff T (fun _ _ _=>none) cx fr o σ=some e):eff T call cx fr o σ=some e:=by
 obtain⟨k0,hk⟩:=ev_eff (calls:=fun _=>call) (fun _ _ _ _ h=>by cases h) h
 exact hk k0 (Nat.le_refl _)
theorem getD_some {α:Type} {l:List α} {k:Nat} (h:k<l.length) (d:α):l[k]?=some (l.getD k d):=by
 rw[List.getD_eq_getElem?_getD,List.getElem?_eq_getElem h];rfl
theorem ask_some' {α:Type} {b:Bool} {x y:Tr α} {r:α} (h:(Tr.ask b x y).run=some r):(b=true∧x.run=some r)∨(b=false∧y.run=some r):=by
 cases b
 ·exact .inr ⟨rfl,h⟩
 ·exact .inl ⟨rfl,h⟩
theorem goT_ok (hS:Good call S) {f:FuncId} {vs:List V} {ids:List Nat} {ps:List (Place×V)} {e:Eff} {arr:Bool} (h:(goT S arr σ f vs ids ps).run=some e):callGo call σ f vs ids ps=some e:=by
 unfold goT at h;unfold callGo;by_cases hp:(vs.all noPtr&&ids.isEmpty)=true
 ·rw[if_pos hp] at h ⊢
  obtain⟨x,h1,h2⟩:=Tr.bind_some h;rw[hS _ _ _ _ h1];obtain⟨r,H1⟩:=x;cases H1 with
  | nil =>
   simp only at h2 ⊢;cases ps with
   | nil=>simpa [Tr.run] using h2
   | cons p ps =>
    simp only[Tr.run] at h2;cases ha:apart r<;>simpa [ha,Tr.run] using h2
  | cons b H1=>simpa [Tr.run] using h2
 ·rw[if_neg hp] at h ⊢
  simp only at h ⊢;generalize reach (setPlaces σ ps).heap (setPlaces σ ps).heap.length (ids++argIds vs)=ks at h ⊢;have hk:(closedK ks (setPlaces σ ps).heap&&(ids++argIds vs).all ks.contains)=true∧(goK S f vs ps (setPlaces σ ps).heap ks).run=some e:=by
   cases arr with
   | true =>
    obtain⟨h1,ha⟩:=Tr.must_some h;obtain⟨h2,hb⟩:=Tr.must_some ha;obtain⟨h3,hc⟩:=if_fail hb;simp only[decide_eq_true_eq] at h1;rw[h1];exact⟨by rw[h2,h3];rfl,hc⟩
   | false =>
    obtain⟨hcl,h⟩:=if_fail h;exact⟨hcl,h⟩
  obtain⟨hcl,h⟩:=hk;rw[if_pos hcl];unfold goK at h;obtain⟨x,h1,h2⟩:=Tr.bind_some h;rw[hS _ _ _ _ h1];obtain⟨hd,h2⟩:=if_fail h2;simp only;rw[if_pos hd];split at h2
  ·rename_i hl
   rw[if_pos hl];cases ps with
   | nil =>
    have:staysB ks [] x.1 x.2=false:=rfl
    simp only[this];simpa [Tr.run] using h2
   | cons p ps =>
    rcases ask_some' h2 with ⟨hb,h2⟩ | ⟨hb,h2⟩
    ·simp only[hb,if_true];simpa [Tr.run] using h2
    ·simp only[hb];simpa [Tr.run] using h2
  ·rename_i hl;rw[if_neg hl];simpa [Tr.run] using h2
theorem callT_ok (hS:Good call S) {f:V} {args:List V} {ps:List (Place×V)} {e:Eff} {arr:Bool} (h:(callT S arr σ f args ps).run=some e):callAt call σ f args ps=some e:=by
 unfold callT at h;unfold callAt;split at h
 ·obtain⟨hl,h⟩:=if_fail h
  simp only[hl,if_true];exact goT_ok hS h
 ·exact goT_ok hS h
 ·cases h
theorem ask_some {α:Type} {b:Bool} {x y:Tr α} {r:α} (h:(Tr.ask b x y).run=some r):(b=true∧x.run=some r)∨(b=false∧y.run=some r):=by
 cases b
 ·exact .inr ⟨rfl,h⟩
 ·exact .inl ⟨rfl,h⟩
theorem updateT_ok {t:Nat} {m k x:Operand} {e:Eff} (h:(updateT T σ t m k x).run=some e):updateAt T σ t m k x=some e:=by
 unfold updateT at h;unfold updateAt;cases hk:kindOf T t with
 | none=>simp only[hk] at h;cases h
 | some kk =>
  cases kk<;>simp only[hk] at h ⊢<;>try (cases h;done)
  rename_i kt et;cases hm:mapOf σ (opd σ.env m) with
  | none=>simp only[hm] at h;cases h
  | some mm =>
   obtain⟨id,ks,vs⟩:=mm;cases hx:takeMap σ x with
   | none=>simp only[hm,hx] at h;cases h
   | some vp =>
    obtain⟨v,ps⟩:=vp;simp only[hm,hx] at h ⊢;cases h1:T kt with
    | none=>simp only[h1] at h;cases h
    | some ki =>
     cases h2:T et with
     | none=>simp only[h1,h2] at h;cases h
     | some ei =>
      simp only[h1,h2] at h ⊢;obtain⟨c1,h⟩:=Tr.must_some h;obtain⟨c2,h⟩:=Tr.must_some h;obtain⟨c3,h⟩:=Tr.must_some h;obtain⟨c4,h⟩:=if_fail h;rw[if_pos ⟨c1,c2,c4.1,c3,c4.2⟩];rcases ask_some h with ⟨hb,h⟩ | ⟨hb,h⟩
      ·obtain⟨j,hj⟩:=Option.isSome_iff_exists.1 hb
       have h:=(show some _=some _ from h);rw[←h];simp only[mapPut,hj,Option.getD_some]
      ·have hn:findK (opd σ.env k) ks=none:=by simpa using hb
       have h:=(show some _=some _ from h);rw[←h];simp only[mapPut,hn]
theorem canon_all {v:V} {l:List TK} {i:TI} (hl:l.length=i.size) (hc:v.cells.length=i.size) (hf:fitP l 0 v=true) (ha:isAggV v=i.kind.isAgg):asType i (canonP l 0 v)=some v:=by
 have h:=canonP_eq l 0 v hf;rw[List.drop_zero,hl,←hc,List.take_length] at h;rw[←h];unfold asType;rw[if_pos hc];cases hk:i.kind.isAgg<;>rw[hk] at ha<;>simp only[Bool.false_eq_true,if_false,if_true]
 ·cases v<;>first | rfl | (simp[isAggV] at ha)
 ·cases v<;>first | rfl | (simp[isAggV] at ha)
theorem lookupT_ok {t:Nat} {m k:Operand} {ok:Bool} {v:V} (h:(lookupT T sh σ t m k ok).run=some v):lookupAt T σ t m k ok=some v:=by
 unfold lookupT at h;unfold lookupAt;cases hk:kindOf T t with
 | none=>simp only[hk] at h;cases h
 | some kk =>
  cases kk<;>simp only[hk] at h ⊢<;>try (cases h;done)
  rename_i kt et;cases h1:T kt with
  | none=>simp only[h1] at h;cases h
  | some ki =>
   cases h2:T et with
   | none=>simp only[h1,h2] at h;cases h
   | some ei =>
    simp only[h1,h2] at h ⊢;cases hm:mapView σ (opd σ.env m) with
    | none=>simp only[hm] at h;cases h
    | some mm =>
     obtain⟨ks,vs⟩:=mm;simp only[hm] at h ⊢;obtain⟨c1,h⟩:=Tr.must_some h;obtain⟨c2,h⟩:=Tr.must_some h;rw[if_pos ⟨c1,c2⟩];rcases ask_some h with ⟨hb,h⟩ | ⟨hb,h⟩
     ·obtain⟨j,hj⟩:=Option.isSome_iff_exists.1 hb
      simp only[hj,Option.getD_some] at h ⊢;split at h
      ·rename_i hs
       simp only[Bool.and_eq_true,decide_eq_true_eq] at hs;obtain⟨d1,h⟩:=Tr.must_some h;obtain⟨d2,h⟩:=Tr.must_some h;obtain⟨d3,h⟩:=Tr.must_some h;simp only[decide_eq_true_eq,Bool.and_eq_true,beq_iff_eq] at d1 d2 d3;rw[canon_all hs.1 d2.1 d2.2 d3] at h;obtain⟨x,g1,g2⟩:=Tr.bind_some h;rw[Tr.run_ofO] at g1;injection g1 with g1;subst g1;rw[getD_some d1 .undef];simpa [Tr.run] using g2
      ·obtain⟨x,g1,g2⟩:=Tr.bind_some h
       rw[Tr.run_ofO] at g1;rw[g1];simpa [Tr.run] using g2
     ·have hn:findK (opd σ.env k) ks=none:=by simpa using hb
      simp only[hn];simpa [Tr.run] using h
theorem indexT_ok {i:TI} {x:Operand} {k:Int} {v:V} (h:(indexT T sh i σ x k).run=some v):indexAt T i σ x k=some v:=by
 unfold indexT at h;unfold indexAt;cases hk:i.kind<;>simp only[hk] at h ⊢<;>try (cases h;done)
 ·rename_i e
  cases he:T e<;>simp only[he] at h ⊢
  ·cases h
  rename_i ei;cases hx:opd σ.env x<;>simp only[hx] at h ⊢<;>try (cases h;done)
  ·rename_i n xs
   obtain⟨hs,h⟩:=if_fail h;obtain⟨h1,h⟩:=Tr.must_some h;obtain⟨h2,h⟩:=Tr.must_some h;obtain⟨h3,h⟩:=Tr.must_some h;simp only[decide_eq_true_eq,Bool.and_eq_true,beq_iff_eq] at h1 h2 h3;have hc:=canonP_eq _ 0 _ h3.2;rw[List.drop_zero,hs,←h3.1,List.take_length] at hc;rw[if_pos ⟨h1,h2,h3.1⟩,hc];simpa [Tr.run] using h
  ·cases ht:tmpOf x<;>simp only[ht] at h ⊢
   ·cases h
   obtain⟨hs,h⟩:=if_fail h;obtain⟨h1,h⟩:=Tr.must_some h;obtain⟨h2,h⟩:=Tr.must_some h;simp only[decide_eq_true_eq] at h1 h2;rw[if_pos ⟨h1,h2,hs⟩];simpa [Tr.run] using h
  ·rename_i p
   cases hl:look σ p<;>simp only[hl] at h ⊢<;>try (cases h;done)
   obtain⟨hs,h⟩:=if_fail h;obtain⟨h1,h⟩:=Tr.must_some h;obtain⟨h2,h⟩:=Tr.must_some h;simp only[decide_eq_true_eq] at h1 h2;rw[if_pos ⟨h1,h2,hs⟩];simpa [Tr.run] using h
  ·rename_i q id
   cases q<;>simp only at h ⊢<;>try (cases h;done)
   obtain⟨h1,h⟩:=Tr.must_some h;obtain⟨h2,h⟩:=Tr.must_some h;simp only[decide_eq_true_eq] at h1 h2;rw[if_pos ⟨h1,h2⟩];simpa [Tr.run] using h
 ·rename_i n e
  cases he:T e<;>simp only[he] at h ⊢
  ·cases h
  obtain⟨h1,h⟩:=Tr.must_some h;obtain⟨h2,h⟩:=Tr.must_some h;simp only[decide_eq_true_eq] at h1 h2;rw[if_pos ⟨h1,h2⟩];cases hx:opd σ.env x<;>simp only[hx] at h ⊢<;>first | (cases h;done) | simpa [Tr.run] using h
theorem ncells_of {H:Heap} {id:Nat} {cs:List V} (h:bcells H id=some cs) (hs:(!specB cs)=true):ncells H id=some cs:=by
 unfold ncells;rw[h];simp only;rw[if_neg (by simpa using hs)]
theorem canonP_plain:∀ (l:List TK) (off:Nat) (v:V),l.all simpleK=true→∀ d∈canonP l off v,notEx d=true∧∀ es,d≠.agg es
 | [],_,_,_,d,hd=>by cases hd
 | k::ks,off,v,h,d,hd=>by
  simp only[List.all_cons,Bool.and_eq_true] at h;simp only[canonP,List.mem_cons] at hd;rcases hd with rfl | hd
  ·cases k<;>first | exact⟨rfl,fun es he=>by cases he⟩ | (simp[simpleK] at h)
  ·exact canonP_plain ks (off+1) v h.2 d hd
theorem loadT_ok {arr:Bool} {t:Nat} {i:TI} {p:V} {v:V×List (Place×V)} (h:(loadT sh arr t i σ p).run=some v):loadAt i σ p=some v:=by
 unfold loadT at h;split at h
 ·rename_i id off
  split at h
  ·rename_i harr
   simp only[Bool.and_eq_true] at harr;have hs:=Nat.eq_of_beq_eq_true harr.2;unfold loadAt;cases hb:bcells σ.heap id<;>simp only[hb] at h
   ·cases h
   rename_i cs;obtain⟨h0,h⟩:=Tr.must_some h;have hn:ncells σ.heap id=some cs:=ncells_of hb h0;simp only[hn];obtain⟨h1,h⟩:=Tr.must_some h;rw[Tr.run_ofO] at h;have hc:=canonP_eq (sh t) off (.agg cs) h1;simp only[V.cells] at hc;rw[hs] at hc;rw[hc];have hne:=canonP_plain (sh t) off (.agg cs) (simple_of_plain harr.1.2);generalize canonP (sh t) off (.agg cs)=ds at h hne;unfold noPl at h;cases ha:asType i ds<;>rw[ha] at h
   ·cases h
   rename_i u;have hu:notEx u=true∧∀ es,u=.agg es→es.all notEx=true:=by
    unfold asType at ha;split at ha
    ·cases hk:i.kind.isAgg<;>rw[hk] at ha<;>simp only[Bool.false_eq_true,if_false,if_true] at ha
     ·have hm:=hne u (List.mem_of_getElem? ha)
      exact⟨hm.1,fun es he=>absurd he (hm.2 es)⟩
     ·injection ha with ha;subst ha
      refine⟨rfl,fun es he=>?_⟩
      injection he with he;subst he;exact List.all_eq_true.2 fun d hd=>(hne d hd).1
    ·cases ha
   cases u<;>first
    | (simp[notEx] at hu;done)
    | (simp only;rw[if_pos (hu.2 _ rfl)];simpa using h)
    | exact h
  ·rwa [Tr.run_ofO] at h
 ·rename_i q k off
  unfold loadAt;cases hl:look σ q<;>simp only[hl] at h ⊢<;>try (cases h;done)
  rename_i sz n xs;obtain⟨hs,h⟩:=if_fail h;obtain⟨h1,h⟩:=Tr.must_some h;obtain⟨h2,h⟩:=Tr.must_some h;simp only[decide_eq_true_eq] at h1;rw[getD_some h1 .undef];simp only;rw[←hs,canonP_eq _ _ _ h2]
  rwa [Tr.run_ofO] at h
 ·rwa [Tr.run_ofO] at h
theorem storeT_ok {arr:Bool} {i:TI} {p:V} {x:Operand} {e:Eff} (h:(storeT arr i σ p x).run=some e):storeAt i σ p x=some e:=by
 unfold storeT at h;split at h
 ·rename_i id off
  split at h
  ·split at h
   ·rename_i v ps cs h1 h2
    unfold storeAt;obtain⟨hs,h⟩:=if_fail h;obtain⟨h0,h⟩:=Tr.must_some h;simp only[h1,ncells_of h2 h0];obtain⟨h3,h⟩:=Tr.must_some h;simp only[decide_eq_true_eq] at h3;rw[if_pos ⟨hs.1,h3,hs.2⟩];simpa [Tr.run] using h
   ·cases h
  ·rwa [Tr.run_ofO] at h
 ·rename_i q k off
  unfold storeAt;simp only;split at h
  ·rename_i v ps sz n xs h1 h2
   simp only[h1,h2];obtain⟨hs,h⟩:=if_fail h;obtain⟨h3,h⟩:=Tr.must_some h;obtain⟨h4,h⟩:=Tr.must_some h;simp only[decide_eq_true_eq] at h3 h4;rw[getD_some h3 .undef];simp only;rw[if_pos ⟨hs.1,h4,hs.2⟩];simpa [Tr.run] using h
  ·cases h
 ·rwa [Tr.run_ofO] at h
theorem contentQ_ok {i:TI} {v:V} {r:Bool×List V} (h:(contentQ i σ v).run=some r):contentT i σ v=some r:=by
 unfold contentQ at h;unfold contentT;split at h
 ·rename_i n id
  cases hb:bcells σ.heap id<;>simp only[hb] at h
  ·cases h
  rename_i cs;obtain⟨h0,h⟩:=Tr.must_some h;simp only[ncells_of hb h0];obtain⟨h1,h⟩:=Tr.must_some h;obtain⟨h2,h⟩:=Tr.must_some h;obtain⟨h3,h⟩:=Tr.must_some h;simp only[decide_eq_true_eq] at h2;rw[if_pos ⟨h1,h2⟩];obtain⟨xs,hx⟩:=Option.isSome_iff_exists.1 h3;rw[hx] at h ⊢;simpa [Tr.run] using h
 ·rename_i hno
  rw[Tr.run_ofO] at h;split
  ·rename_i n id;exact absurd rfl (hno n id)
  ·exact h
theorem appendT_ok {c:Call} {e:Eff} (h:(appendT T σ c).run=some e):appendAt T σ c=some e:=by
 unfold appendT at h;unfold appendAt;split at h<;>try (cases h;done)
 rename_i s x t tx ha ht;simp only[ha,ht];split at h<;>try (cases h;done)
 rename_i el el' k1 k2;simp only[k1,k2];cases hel:T el<;>simp only[hel] at h ⊢
 ·cases h
 rename_i ei;cases hb:base ei.size σ s<;>simp only[hb] at h ⊢
 ·cases h
 obtain⟨hs,h⟩:=if_fail h;obtain⟨⟨_,ys⟩,hy,h⟩:=Tr.bind_some h;rw[contentQ_ok hy];simp only;obtain⟨h1,h⟩:=Tr.must_some h;obtain⟨h2,h⟩:=Tr.must_some h;obtain⟨h3,h⟩:=Tr.must_some h;simp only[decide_eq_true_eq] at h2;rw[if_pos ⟨h1,hs,h2,h3⟩];simpa [Tr.run] using h
theorem regroup_self:∀ xs:List V,regroup xs (xs.flatMap V.cells)=xs
 | []=>rfl
 | x::xs=>by
  rw[List.flatMap_cons];simp only[regroup];rw[List.take_left,List.drop_left,regroup_self xs]
  congr 1
  cases x<;>rfl
theorem lendT_ok (hS:Good call S) {f:FuncId} {k:Nat} {p:Place} {sz:Nat} {xs:List V} {rest:List Operand} {e:Eff} (h:(lendT S σ f k p sz xs rest).run=some e):lendAt call σ f k p sz xs rest=some e:=by
 unfold lendT at h;unfold lendAt;cases hv:views (setPlace σ p .undef) rest with
 | none=>simp only[hv] at h;cases h
 | some vp =>
  obtain⟨vs,ps⟩:=vp;simp only[hv] at h ⊢;obtain⟨hcl,h⟩:=if_fail h;rw[if_pos hcl];obtain⟨x,h1,h⟩:=Tr.bind_some h;rw[hS _ _ _ _ h1];obtain⟨hd,h⟩:=if_fail h;simp only;rw[if_pos hd];split at h
  ·rename_i cs hcs
   rw[hcs];simp only;cases hq:eqB cs (xs.flatMap V.cells) with
   | true =>
    rw[hq] at h;obtain⟨h2,h'⟩:=Tr.must_some h;clear h;have:=of_eqB hq;subst this
    unfold dataC at h2;rw[if_pos (by rw[h2];simp),regroup_self]
    exact h'
   | false =>
    rw[hq] at h;obtain⟨h2,h⟩:=Tr.must_some h;obtain⟨h3,h⟩:=Tr.must_some h;rw[if_pos (by rw[h2,h3];rfl)]
    simpa [Tr.run] using h
  ·cases h
theorem viewT_ok (hS:Good call S) {f:V} {args:List Operand} {e:Eff} {arr:Bool} (h:(viewT S arr σ f args).run=some e):(match views σ args with | some (vs,ps)=>callAt call σ f vs ps | none=>none)=some e:=by
 unfold viewT at h;split at h
 ·rename_i vs ps hv;first | exact callT_ok hS h | (simp only[hv];exact callT_ok hS h)
 ·cases h
theorem lentT_ok (hS:Good call S) {f:V} {args:List Operand} {e:Eff} (h:(lentT S cx σ f args).run=some e) :
  (match lendOf cx σ f args with
   | some ⟨g,k,p,sz,x::xs,rest⟩=>lendAt call σ g k p sz (x::xs) rest
   | _=>match views σ args with
    | some (vs,ps)=>callAt call σ f vs ps
    | none=>none)=some e:=by
 unfold lentT at h;unfold lendOf;cases hf:lendFn cx f with
 | none=>simp only[hf] at h ⊢;exact viewT_ok hS h
 | some gk =>
  obtain⟨g,k⟩:=gk;simp only[hf] at h ⊢;cases hd:args.drop k with
  | nil=>simp only[hd] at h ⊢;exact viewT_ok hS h
  | cons x post =>
   simp only[hd] at h ⊢;cases hp:placeOf σ x with
   | none=>simp only[hp] at h ⊢;exact viewT_ok hS h
   | some p =>
    simp only[hp] at h ⊢;split at h
    ·rename_i sz n xs hl
     simp only[hl];rcases ask_some h with ⟨hb,h⟩ | ⟨hb,h⟩
     ·cases xs with
      | nil=>exact viewT_ok hS h
      | cons y ys=>cases hb
     ·cases xs with
      | nil=>cases hb
      | cons y ys=>exact lendT_ok hS h
    ·rename_i hl
     cases hq:look σ p<;>first
      | exact viewT_ok hS h
      | exact absurd hq (hl _ _ _)
theorem newsT_ok (hS:Good call S) {fr n:Nat} {f:V} {args:List Operand} {e:Eff} (h:(newsT S σ fr n f args).run=some e):newsAt call σ fr n f args=some e:=by
 unfold newsT at h;unfold newsAt;split at h
 case h_2=>cases h
 rename_i hv;obtain⟨hc,h⟩:=if_fail h;simp only[hv,hc.1,if_true];unfold newsGo;rw[if_pos hc.2];obtain⟨x,h1,h⟩:=Tr.bind_some h;rw[hS _ _ _ _ h1];obtain⟨r,H1⟩:=x;simp only at h;split at h
 ·simpa [Tr.run] using h
 ·obtain⟨h2,h⟩:=if_fail h
  simp only[if_pos h2];simpa [Tr.run] using h
theorem glanceT_ok (hS:Good call S) {f:FuncId} {args:List Operand} {e:Eff} (h:(glanceT S σ f args).run=some e):glanceAt call σ f args=some e:=by
 unfold glanceT at h;unfold glanceAt;split at h
 ·rename_i vs ks hv
  simp only[hv];obtain⟨x,h1,h⟩:=Tr.bind_some h;rw[hS _ _ _ _ h1];obtain⟨r,H1⟩:=x;cases H1 with
  | nil=>simpa [Tr.run] using h
  | cons _ _=>cases h
 ·cases h
theorem deleteT_ok {sz:Nat} {args:List Operand} {e:Eff} (h:(deleteT sz σ args).run=some e):deleteAt sz σ args=some e:=by
 unfold deleteT at h;unfold deleteAt;split at h<;>try (cases h;done)
 split at h<;>try (cases h;done)
 rename_i n xs ps i' j' k1 k2 k3;simp only[k1,k2,k3];obtain⟨h1,h⟩:=Tr.must_some h;obtain⟨h2,h⟩:=Tr.must_some h;obtain⟨h3,h⟩:=Tr.must_some h;obtain⟨h4,h⟩:=Tr.must_some h;simp only[decide_eq_true_eq] at h1 h2 h3 h4;rw[if_pos ⟨h1,h2,h3,h4⟩];simpa [Tr.run] using h
theorem sliceT_ok {t:Nat} {x:Operand} {lo hi mx:Option Operand} {e:Eff} (h:(sliceT T σ t x lo hi mx).run=some e):sliceAt T σ t x lo hi mx=some e:=by
 unfold sliceT at h;unfold sliceAt;split at h<;>try (cases h;done)
 rename_i el k1;simp only[k1];split at h<;>try (cases h;done)
 rename_i n xs k2;simp only[k2];split at h<;>try (cases h;done)
 rename_i ei l u k3 k4 k5;simp only[k3,k4,k5];obtain⟨h1,h⟩:=Tr.must_some h;obtain⟨h2,h⟩:=Tr.must_some h;obtain⟨h3,h⟩:=Tr.must_some h;obtain⟨h4,h⟩:=Tr.must_some h;simp only[decide_eq_true_eq] at h1 h2 h3;rw[if_pos ⟨h1,h2,h3,h4⟩];cases mx with
 | none=>simpa [Tr.run] using h
 | some m =>
  obtain⟨h5,h⟩:=Tr.must_some h;simp only[decide_eq_true_eq] at h5;simp only;rw[if_pos h5];simpa [Tr.run] using h
theorem makeT_ok {t:Nat} {l c:Operand} {e:Eff} (ho:o.op=.makeSlice t l c) (h:(makeT T t σ l c).run=some e):eff T call cx fr o σ=some e:=by
 unfold makeT at h;simp only[eff,ho];split at h<;>try (cases h;done)
 rename_i el k l' k' c' k1 k2 k3;simp only[k1,k2,k3];cases hel:T el<;>simp only[hel] at h ⊢
 ·cases h
 obtain⟨hs,h⟩:=if_fail h;obtain⟨h1,h⟩:=Tr.must_some h;obtain⟨h2,h⟩:=Tr.must_some h;obtain⟨h3,h⟩:=Tr.must_some h;obtain⟨h4,h⟩:=Tr.must_some h;simp only[decide_eq_true_eq] at h1 h2 h4;rw[if_pos ⟨h1,h2,h3,by omega,hs⟩]
 simpa [Tr.run] using h
theorem binT_ok {op:BinOp} {i:TI} {one:Bool} {x y v:V} (h:(binT op i one σ x y).run=some v):vbinop op i one σ x y=some v:=by
 unfold binT at h;split at h
 ·rename_i k a k' b hk
  obtain⟨hs,h⟩:=if_fail h;obtain⟨h1,h⟩:=Tr.must_some h;simp only[Bool.not_eq_true',decide_eq_false_iff_not] at h1;simp only[vbinop,hk,vbin,if_pos hs,if_neg h1];simpa [Tr.run] using h
 ·rename_i k a k' b hk
  obtain⟨hs,h⟩:=if_fail h;obtain⟨h1,h⟩:=Tr.must_some h;simp only[Bool.not_eq_true',decide_eq_false_iff_not] at h1;simp only[vbinop,hk,vbin,if_pos hs,if_neg h1];simpa [Tr.run] using h
 ·rename_i k a k' b hk
  obtain⟨h1,h⟩:=Tr.must_some h;simp only[Bool.not_eq_true',decide_eq_false_iff_not] at h1;simp only[vbinop,hk,vbin,if_neg h1];simpa [Tr.run] using h
 ·rename_i k a k' b hk
  obtain⟨h1,h⟩:=Tr.must_some h;simp only[Bool.not_eq_true',decide_eq_false_iff_not] at h1;simp only[vbinop,hk,vbin,if_neg h1];simpa [Tr.run] using h
 ·rwa [Tr.run_ofO] at h
theorem ret_some {α:Type} {a r:α} (h:(Tr.ret a).run=some r):a=r:=by simpa [Tr.run] using h
theorem effT_ok (hS:Good call S) {e:Eff} {l:List Operand} (h:(effT T sh S cx fr o σ).run=some (e,l)):eff T call cx fr o σ=some e∧rd σ.env o=l:=by
 have dflt:rd σ.env o=o.op.operands.toList→((Tr.ofO (eff T (fun _ _ _=>none) cx fr o σ)).bind fun e=>Tr.ret (e,o.op.operands.toList)).run=some (e,l)→eff T call cx fr o σ=some e∧rd σ.env o=l:=by
  intro hr h;obtain⟨e',h1,h2⟩:=Tr.bind_some h;rw[Tr.run_ofO] at h1;have h2:=ret_some h2;injection h2 with e1 e2;subst e1;subst e2;exact⟨eff_none h1,hr⟩
 cases ho:o.op<;>simp only[effT,ho] at h
 case pick c a b =>
  cases hc:opd σ.env c<;>simp only[hc] at h<;>try (cases h;done)
  rename_i t;simp only[eff,rd,ho,hc];cases t
  ·simp only[Tr.run,Bool.false_eq_true,if_false] at h ⊢
   cases ha:opd σ.env b<;>simp only[ha] at h ⊢<;>first | (cases h;done) | (have h:=ret_some h;injection h with e1 e2;subst e1;subst e2;exact⟨rfl,rfl⟩)
  ·simp only[Tr.run,if_true] at h ⊢
   cases ha:opd σ.env a<;>simp only[ha] at h ⊢<;>first | (cases h;done) | (have h:=ret_some h;injection h with e1 e2;subst e1;subst e2;exact⟨rfl,rfl⟩)
 case load t p =>
  cases hT:T t<;>simp only[hT] at h
  ·cases h
  obtain⟨v,h1,h2⟩:=Tr.bind_some h;have h2:=ret_some h2;injection h2 with e1 e2;subst e1;subst e2;simp only[eff,rd,ho,hT];exact⟨by rw[loadT_ok h1];rfl,trivial⟩
 case store t p x =>
  cases hT:T t<;>simp only[hT] at h
  ·cases h
  obtain⟨e',h1,h2⟩:=Tr.bind_some h;simp only[eff,rd,ho,hT];rw[storeT_ok h1];simp only;cases hm:e'.mem<;>simp only[hm] at h2 ⊢
  case set id off cs =>
   obtain⟨h3,h2⟩:=if_fail h2;have h2:=ret_some h2;injection h2 with e1 e2;subst e1;subst e2;exact⟨by rw[if_pos h3],rfl⟩
  all_goals
   have h2:=ret_some h2;injection h2 with e1 e2;subst e1;subst e2;exact⟨rfl,rfl⟩
 case binOp op t x y g =>
  cases hT:T t<;>simp only[hT] at h
  ·cases h
  obtain⟨v,h1,h2⟩:=Tr.bind_some h;have h2:=ret_some h2;injection h2 with e1 e2;subst e1;subst e2;simp only[eff,rd,ho,hT];exact⟨by rw[binT_ok h1];rfl,trivial⟩
 case slice t x lo hi mx =>
  obtain⟨v,h1,h2⟩:=Tr.bind_some h;have h2:=ret_some h2;injection h2 with e1 e2;subst e1;subst e2;simp only[eff,rd,ho];exact⟨sliceT_ok h1,trivial⟩
 case indexAddr t x k =>
  split at h<;>try (cases h;done)
  rename_i i kk k' hT hk;obtain⟨v,h1,h2⟩:=Tr.bind_some h;have h2:=ret_some h2;injection h2 with e1 e2;subst e1;subst e2;simp only[eff,rd,ho,hT,hk];exact⟨by rw[indexT_ok h1];rfl,trivial⟩
 case makeSlice t l c =>
  obtain⟨v,h1,h2⟩:=Tr.bind_some h;have h2:=ret_some h2;injection h2 with e1 e2;subst e1;subst e2;exact⟨makeT_ok ho h1,by simp only[rd,ho]⟩
 case insert t m k x =>
  obtain⟨v,h1,h2⟩:=Tr.bind_some h;have h2:=ret_some h2;injection h2 with e1 e2;subst e1;subst e2;refine⟨?_,by simp only[rd,ho]⟩
  simp only[eff,ho];exact updateT_ok h1
 case mapUpdate t m k x =>
  obtain⟨v,h1,h2⟩:=Tr.bind_some h;have h2:=ret_some h2;injection h2 with e1 e2;subst e1;subst e2;refine⟨?_,by simp only[rd,ho]⟩
  simp only[eff,ho];exact updateT_ok h1
 case lookup t m k ok =>
  obtain⟨v,h1,h2⟩:=Tr.bind_some h;have h2:=ret_some h2;injection h2 with e1 e2;subst e1;subst e2;refine⟨?_,by simp only[rd,ho]⟩
  simp only[eff,ho,lookupT_ok h1,Option.map_some]
 case call c =>
  have hrd:rd σ.env o=o.op.operands.toList:=by simp only[rd,ho]
  cases hcal:c.callee with
  | value f =>
   simp only[hcal] at h;cases ht:toldOf cx (opd σ.env f) with
   | some sz =>
    simp only[ht] at h;obtain⟨v,h1,h2⟩:=Tr.bind_some h;have h2:=ret_some h2;injection h2 with e1 e2;subst e1;subst e2;refine⟨?_,by simp only[rd,ho]⟩
    simp only[eff,ho,hcal,ht];exact deleteT_ok h1
   | none =>
   simp only[ht] at h;cases hnw:isNews cx c with
   | some n =>
    simp only[hnw] at h;obtain⟨v,h1,h2⟩:=Tr.bind_some h;have h2:=ret_some h2;injection h2 with e1 e2;subst e1;subst e2;refine⟨?_,by simp only[rd,ho]⟩
    simp only[eff,ho,hcal,ht,hnw];exact newsT_ok hS h1
   | none =>
   simp only[hnw] at h;cases hg:glanceOf cx (opd σ.env f) with
   | some g =>
    simp only[hg] at h;obtain⟨v,h1,h2⟩:=Tr.bind_some h;have h2:=ret_some h2;injection h2 with e1 e2;subst e1;subst e2;refine⟨?_,by simp only[rd,ho]⟩
    simp only[eff,ho,hcal,ht,hnw,hg];exact glanceT_ok hS h1
   | none =>
   simp only[hg] at h;obtain⟨v,h1,h2⟩:=Tr.bind_some h;have h2:=ret_some h2;injection h2 with e1 e2;subst e1;subst e2;refine⟨?_,by simp only[rd,ho]⟩
   simp only[eff,ho,hcal,ht,hnw,hg];have:=lentT_ok hS h1
   split at this
   ·rename_i hl;simp only[hl];exact this
   ·rename_i hl
    split
    ·rename_i q;cases q
    ·rename_i g k p sz x xs rest _ hl';exact absurd hl' (hl g k p sz x xs rest)
    ·exact this
  | builtin b =>
   simp only[hcal] at h;cases b
   case append =>
    obtain⟨v,h1,h2⟩:=Tr.bind_some h;have h2:=ret_some h2;injection h2 with e1 e2;subst e1;subst e2;refine⟨?_,by simp only[rd,ho]⟩
    simp only[eff,ho,hcal,builtinAt];exact appendT_ok h1
   all_goals exact dflt hrd (by rw[ho];exact h)
  | invoke x m =>
   simp only[hcal] at h;exact dflt hrd (by rw[ho];exact h)
 all_goals exact dflt (by simp only[rd,ho]) (by rw[ho];exact h)
theorem effG1_ok (hS:Good call S) {e:Eff} {l:List Operand} (h:(effG1 T sh S cx fr o σ).run=some (e,l)):eff T call cx fr o σ=some e∧rd σ.env o=l∧(match o.dst with | some d=>e.val.refsTo (.slot d) | none=>false)=false:=by
 unfold effG1 at h;obtain⟨⟨e',l'⟩,h1,h2⟩:=Tr.bind_some h;cases hd:o.dst with
 | none =>
  simp only[hd,Bool.false_eq_true,if_false] at h2;have h2:=ret_some h2;injection h2 with e1 e2;subst e1;subst e2;obtain⟨q1,q2⟩:=effT_ok hS h1;exact⟨q1,q2,rfl⟩
 | some d =>
  simp only[hd] at h2;cases hr:e'.val.refsTo (.slot d)<;>simp only[hr,Bool.false_eq_true,if_false,if_true] at h2
  ·have h2:=ret_some h2
   injection h2 with e1 e2;subst e1;subst e2;obtain⟨q1,q2⟩:=effT_ok hS h1;exact⟨q1,q2,hr⟩
  ·cases h2
theorem effGT_ok (hS:Good call S) {e:Eff} {l:List Operand} (h:(effGT T sh S cx ops fr o σ).run=some (e,l)):effG T call cx ops fr o σ=some e∧rdG ops σ.env o=l:=by
 have run:wants ops σ.env o=some true→(effG1 T sh S cx fr o σ).run=some (e,l)→effG T call cx ops fr o σ=some e∧rdG ops σ.env o=l:=by
  intro hw h;obtain⟨h1,h2,h3⟩:=effG1_ok hS h;unfold effG rdG;simp only[hw,h1,h2,and_true];cases hd:o.dst with
  | none=>simp
  | some d=>simp only[hd] at h3;simp[h3]
 have skip:wants ops σ.env o=some false→(Tr.ret (({val:=.tup []}:Eff),([]:List Operand))).run=some (e,l)→effG T call cx ops fr o σ=some e∧rdG ops σ.env o=l:=by
  intro hw h;have h:=ret_some h;injection h with e1 e2;subst e1;subst e2;unfold effG rdG;simp only[hw,and_self]
 unfold effGT at h;cases hg:o.guard with
 | none=>simp only[hg] at h;exact run (by simp[wants,hg]) h
 | some jw =>
  obtain⟨j,want⟩:=jw;simp only[hg] at h;cases ht:(ops[j]?).bind (·.dst) with
  | none=>simp only[ht] at h;cases h
  | some t =>
   simp only[ht] at h;cases hv:get σ.env t<;>simp only[hv] at h<;>try (cases h;done)
   case tup us =>
    cases us with
    | nil=>exact skip (by simp[wants,hg,ht,hv]) h
    | cons u us=>cases h
   rename_i b;have hw:wants ops σ.env o=some (b==want):=by simp[wants,hg,ht,hv]
   cases want<;>cases b<;>simp only[Tr.run] at h
   ·exact run hw h
   ·exact skip hw h
   ·exact skip hw h
   ·exact run hw h
theorem vopsT_ok (hS:Good call S):∀ (l:List Oper) (fr:Nat) (σ τ:St),(vopsT T sh S cx ops fr l σ).run=some τ→vops T call cx ops fr l σ=some τ
 | [],fr,σ,τ,h=>by simpa [vopsT,vops,Tr.run] using h
 | o::l,fr,σ,τ,h=>by
  simp only[vopsT] at h;obtain⟨⟨e,rl⟩,h1,h2⟩:=Tr.bind_some h;simp only[vops,vop,(effGT_ok hS h1).1,Option.map_some,Option.bind_some];exact vopsT_ok hS l _ _ _ h2
theorem drawT_ok (hS:Good call S):∀ (l:List Oper) (fr:Nat) (σ:St) (r:St×List (List Res×List Res)),(drawRunT T sh S cx ops fr l σ).run=some r→drawRun T call cx ops fr l σ=some r
 | [],fr,σ,r,h=>by simpa [drawRunT,drawRun,Tr.run] using h
 | o::l,fr,σ,r,h=>by
  simp only[drawRunT] at h;obtain⟨⟨e,rl⟩,h1,h2⟩:=Tr.bind_some h;obtain⟨g1,g2⟩:=effGT_ok hS h1;have hrd:readsL ops fr o σ.env e rl=reads ops fr o σ.env e:=by unfold readsL reads;rw[g2];rfl
  simp only[drawRun,g1];simp only[hrd] at h2;rw[g2];by_cases hb:(tameB e&&calm o e&&rl.all (seen σ)&&(refRes e.val).all (fun r=>(reads ops fr o σ.env e).contains r))=true
  ·rw[if_pos hb] at h2 ⊢
   obtain⟨y,h3,h4⟩:=Tr.bind_some h2;rw[drawT_ok hS l _ _ _ h3];have h4:=ret_some h4;simp[←h4]
  ·rw[if_neg hb] at h2 ⊢
   obtain⟨hw,h2⟩:=if_fail h2;rw[if_pos hw];obtain⟨y,h3,h4⟩:=Tr.bind_some h2;rw[drawT_ok hS l _ _ _ h3];have h4:=ret_some h4;simp[←h4]
theorem regionT_ok (hS:Good call S) {id:Nat} {draw:Bool} {τ:St} (h:(regionT T sh S cx id ops draw σ).run=some τ):vregion T call cx id ops draw σ=some τ:=by
 unfold regionT at h;unfold vregion;cases draw with
 | false =>
  simp only at h ⊢;obtain⟨x,h1,h2⟩:=Tr.bind_some h;rw[vopsT_ok hS _ _ _ _ h1];have h2:=ret_some h2;simp[h2]
 | true =>
  simp only at h ⊢;obtain⟨x,h1,h2⟩:=Tr.bind_some h;rw[drawT_ok hS _ _ _ _ h1];obtain⟨h3,h2⟩:=if_fail h2;have h2:=ret_some h2;simp only[if_pos h3,h2]
def vstep (T:Types) (call:CallF) (lp:Step→Step) (cx:Cx) (n:Nat) (b:Code):Step:=fun τ=>match vcode T call lp cx b τ with
 | some (.normal,τ')=>some (.normal,back n (prune (cx.head (firstRegion b)) τ'))
 | r=>r
def LGood (T:Types) (call:CallF) (lp:Step→Step) (cx:Cx) (L:LSpec) (c:Code):Prop:=∀ b∈loopsOf c,∀ σ r,(L (firstRegion b) σ).run=some r→lp (vstep T call lp cx σ.heap.length b) σ=some r
theorem prune_heap (k:Option (List Nat)) (σ:St):(prune k σ).heap=σ.heap:=by cases k<;>rfl
theorem codeT_ok {lp:Step→Step} (hS:Good call S):∀ (c:Code) (σ:St) (r:Ex×St),LGood T call lp cx L c→(codeT T sh S L cx c σ).run=some r→vcode T call lp cx c σ=some r
 | .skip,σ,r,hL,h=>by simpa [codeT,vcode,Tr.run] using h
 | .region id ops draw,σ,r,hL,h=>by
  simp only[codeT] at h;obtain⟨x,h1,h2⟩:=Tr.bind_some h;simp only[vcode,regionT_ok hS h1];simpa [Tr.run] using h2
 | .seq a b,σ,r,hL,h=>by
  simp only[codeT] at h;obtain⟨⟨ex,σ1⟩,h1,h2⟩:=Tr.bind_some h;have ha:=codeT_ok hS a σ _ (fun b hb=>hL b (by simp[loopsOf,hb])) h1
  simp only[vcode,ha];cases ex with
  | normal=>exact codeT_ok hS b _ _ (fun b hb=>hL b (by simp[loopsOf,hb])) h2
  | exit i=>simpa [Tr.run] using h2
  | ret=>simpa [Tr.run] using h2
 | .cond c a b,σ,r,hL,h=>by
  simp only[codeT] at h;simp only[vcode];cases hv:opd σ.env c<;>simp only[hv] at h ⊢<;>try (cases h;done)
  rename_i t;cases t
  ·simp only[Tr.run,Bool.false_eq_true,if_false] at h ⊢
   exact codeT_ok hS b σ r (fun b hb=>hL b (by simp[loopsOf,hb])) h
  ·simp only[Tr.run,if_true] at h ⊢
   exact codeT_ok hS a σ r (fun b hb=>hL b (by simp[loopsOf,hb])) h
 | .block id b,σ,r,hL,h=>by
  simp only[codeT] at h;obtain⟨⟨ex,σ1⟩,h1,h2⟩:=Tr.bind_some h;have ha:=codeT_ok hS b σ _ (fun b hb=>hL b (by simp[loopsOf,hb])) h1
  simp only[vcode,ha];cases ex with
  | normal=>simpa [Tr.run] using h2
  | exit i =>
   simp only at h2 ⊢;split at h2<;>rename_i hi
   ·rw[if_pos hi];simpa [Tr.run] using h2
   ·rw[if_neg hi];simpa [Tr.run] using h2
  | ret=>simpa [Tr.run] using h2
 | .exit id,σ,r,hL,h=>by simpa [codeT,vcode,Tr.run] using h
 | .ret,σ,r,hL,h=>by simpa [codeT,vcode,Tr.run] using h
 | .loop b,σ,r,hL,h=>by
  simp only[codeT] at h;have:=hL b (by simp[loopsOf]) _ _ h
  rw[prune_heap] at this;exact this
 | .rangeFunc g ps asg body,σ,r,hL,h=>by
  simp only[codeT] at h;simp only[vcode];split at h
  ·rename_i f first captured hr hg
   obtain⟨hcl,h⟩:=if_fail h;obtain⟨x,h1,h2⟩:=Tr.bind_some h;rw[Tr.run_ofO] at h2;simp only[hr,hg];rw[if_pos hcl,hS _ _ _ _ h1];exact h2
  ·cases h
 | .scope x,σ,r,hL,h=>by
  simp only[codeT] at h;simp only[vcode];exact codeT_ok hS x σ r (fun b hb=>hL b (by simpa [loopsOf] using hb)) h
 | .label _,σ,r,hL,h=>by simpa [codeT,vcode,Tr.run] using h
 | .goto _,σ,r,hL,h=>by cases h
 | .refuse _,σ,r,hL,h=>by cases h
theorem roundT_ok {lp:Step→Step} (hS:Good call S) {n:Nat} {b:Code} {τ:St} {r:Ex×St} (hL:LGood T call lp cx L b) (h:(roundT T sh S L cx n b τ).run=some r):vstep T call lp cx n b τ=some r:=by
 unfold roundT at h;obtain⟨⟨ex,σ1⟩,h1,h2⟩:=Tr.bind_some h;unfold vstep;rw[codeT_ok hS b τ _ hL h1];cases ex<;>simpa [Tr.run] using h2
theorem LRuns.step {step:Step} {σ τ:St} {r:Ex×St} (h:step σ=some (.normal,τ)) (g:LRuns step τ r):LRuns step σ r:=by
 obtain⟨n,hn⟩:=g;exact⟨n+1,by simp only[rounds,h];exact hn⟩
theorem LRuns.stop {step:Step} {σ τ:St} {ex:Ex} (h:step σ=some (ex,τ)) (hx:ex≠.normal):LRuns step σ (ex,τ) :=
 ⟨1,by cases ex<;>simp_all [rounds]⟩
theorem unrollT_ok {lp:Step→Step} (hS:Good call S) {n:Nat} {b:Code} (hL:LGood T call lp cx L b):∀ (m:Nat) (τ:St) (r:Ex×St),(unrollT T sh S L cx b n m τ).run=some r→LRuns (vstep T call lp cx n b) τ r
 | 0,τ,r,h=>by cases h
 | m+1,τ,r,h=>by
  simp only[unrollT] at h;obtain⟨⟨ex,σ1⟩,h1,h2⟩:=Tr.bind_some h;have h3:=roundT_ok hS hL h1;cases ex with
  | normal=>exact LRuns.step h3 (unrollT_ok hS hL m _ _ h2)
  | exit i =>
   have h2:=ret_some h2;subst h2;exact LRuns.stop h3 (by simp)
  | ret =>
   have h2:=ret_some h2;subst h2;exact LRuns.stop h3 (by simp)
theorem funT_ok {F:Fns} {f:FuncId} {fi:FI} {a:List V} {H:Heap} {r:V×Heap} (hS:Good (vlim T F) S) (hf:F f=some fi) (hL:LGood T (vlim T F) lplim fi.cx L fi.body)
  (h:(funT T sh S L fi a H).run=some r):Runs T F f a H r:=by
 refine runs_of_lim ?_;unfold funT at h;obtain⟨⟨ex,σ1⟩,h1,h2⟩:=Tr.bind_some h;unfold vfun;simp only[hf];rw[codeT_ok hS fi.body _ _ hL h1];cases ex with
 | normal=>rwa [Tr.run_ofO] at h2
 | ret=>rwa [Tr.run_ofO] at h2
 | exit i=>cases h2
theorem yldT_ok {F:Fns} (hF:∀ id,F (yB+id)=none) {id:Nat} {a:List V} {H:Heap} {r:V×Heap} (hS:Good (vlim T F) S) (hL:∀ cx c,LGood T (vlim T F) lplim cx L c)
  (h:(yldT T sh S L F id a H).run=some r):Runs T F (yB+id) a H r:=by
 refine runs_of_any ?_;unfold vany;rw[hF];simp only;rw[if_pos (by rw[Nat.ble_eq];exact Nat.le_add_right _ _),Nat.add_sub_cancel_left]
 unfold yldT at h;unfold vround;split at h
 ·rename_i ts vs ps asg body cx hb
  split at h
  ·rename_i fi hfi
   obtain⟨hc,h⟩:=if_fail h;simp only[hb,hfi];rw[if_pos hc];obtain⟨⟨ex,σ1⟩,h1,h⟩:=Tr.bind_some h;rw[codeT_ok hS asg _ _ (hL _ _) h1];cases ex with
   | normal =>
    simp only at h ⊢;split at h
    ·rename_i ts1 vs1 ps1 asg1 body1 cx1 hb1
     obtain⟨⟨ex,σ2⟩,h2,h⟩:=Tr.bind_some h;simp only[hb1];rw[codeT_ok hS body _ _ (hL _ _) h2];simp only at h ⊢;split at h
     ·rename_i hb2
      simp only[hb2];cases ex<;>simpa [Tr.run] using h
     ·cases h
    ·cases h
   | exit i=>cases h
   | ret=>cases h
  ·cases h
 ·cases h
def noSpec:Spec:=fun _ _ _=>.fail
theorem Good.no:Good call noSpec:=fun _ _ _ _ h=>by cases h
def dataX:V→Bool
 | .ptr _ _ | .ref _ _ | .clo _ _ _ | .mp _ _ | .lp _ _ _ _ _ _ _=>false
 | _=>true
def dataB (cs:List V):Bool:=cs.all dataX
theorem dataB_map {cs:List V} (h:dataB cs=true) (g:Nat→Nat):cs.map (mapX g)=cs:=by
 induction cs with
 | nil=>rfl
 | cons c cs ih =>
  simp only[dataB,List.all_cons,Bool.and_eq_true] at h ih;rw[List.map_cons,ih h.2]
  congr 1
  cases c<;>first | rfl | (simp[dataX] at h)
def renT (g:Nat→Nat) (b:B):Tr B:=match b with
 | .dead=>.ret .dead
 | .cells cs=>.ask (dataB cs) (.ret (.cells cs)) (.ret (.cells (cs.map (mapX g))))
theorem renT_run {g:Nat→Nat} {b b':B} (h:(renT g b).run=some b'):b'=mapB g b:=by
 cases b with
 | dead=>exact (ret_some h).symm
 | cells cs =>
  unfold renT at h;simp only at h;cases hd:dataB cs with
  | true =>
   rw[hd] at h;have:=ret_some (show (Tr.ret (B.cells cs)).run=some b' from h);subst this
   simp only[mapB,dataB_map hd]
  | false =>
   rw[hd] at h;exact (ret_some (show (Tr.ret (B.cells (cs.map (mapX g)))).run=some b' from h)).symm
def mapsT {α:Type} (f:α→Tr B):List α→Tr Heap
 | []=>.ret []
 | a::l=>(f a).bind fun b=>(mapsT f l).bind fun t=>.ret (b::t)
theorem mapsT_run {α:Type} {f:α→Tr B} {h:α→B} (hf:∀ a b,(f a).run=some b→b=h a):∀ {l:List α} {r:Heap},(mapsT f l).run=some r→r=l.map h
 | [],r,hr=>(ret_some hr).symm
 | a::l,r,hr=>by
  obtain⟨b,h1,h2⟩:=Tr.bind_some hr;obtain⟨t,h3,h4⟩:=Tr.bind_some h2;have:=ret_some h4;subst this
  rw[hf a b h1,mapsT_run hf h3];rfl
noncomputable def sqT (g:List V→Heap→Tr (V×Heap)):List V→Heap→Tr (V×Heap):=fun a H=>match Nat.beq (liveB H).length H.length with
 | true=>g a H
 | false=>(mapsT (fun i=>renT (downG (liveB H)) (H.getD i .dead)) (liveB H)).bind fun H0=>(g (a.map (map1 (downG (liveB H)))) H0).bind fun x =>
   (mapsT (fun i=>match (liveB H).contains i with | true=>renT (upG (liveB H) H.length) (x.2.getD (downG (liveB H) i) .dead) | false=>.ret .dead) (List.range H.length)).bind fun H1 =>
   (mapsT (renT (upG (liveB H) H.length)) (x.2.drop (liveB H).length)).bind fun H2=>.ret (mapT (upG (liveB H) H.length) x.1,H1++H2)
theorem sqT_out {g:List V→Heap→Tr (V×Heap)} {a:List V} {H:Heap} {r:V×Heap} (hb:Nat.beq (liveB H).length H.length=false) (h:(sqT g a H).run=some r) :
  ∃ x,(g (a.map (map1 (downG (liveB H)))) (packH (liveB H) H)).run=some x∧r=(mapT (upG (liveB H) H.length) x.1,openH (liveB H) H.length x.2):=by
 unfold sqT at h;rw[hb] at h;simp only at h;obtain⟨H0,h0,h⟩:=Tr.bind_some h;obtain⟨x,h1,h⟩:=Tr.bind_some h;obtain⟨H1,h2,h⟩:=Tr.bind_some h;obtain⟨H2,h3,h⟩:=Tr.bind_some h;have:=ret_some h;subst this
 have e0:H0=packH (liveB H) H:=mapsT_run (fun i b hb=>renT_run hb) h0
 have e1:=mapsT_run (h:=fun i=>match (liveB H).contains i with | true=>mapB (upG (liveB H) H.length) (x.2.getD (downG (liveB H) i) .dead) | false=>.dead) (fun i b hb=>by
  cases hc:(liveB H).contains i<;>rw[hc] at hb
  ·exact (ret_some hb).symm
  ·exact renT_run hb) h2
 have e2:=mapsT_run (fun b b' hb=>renT_run hb) h3
 exact⟨x,by rw[←e0];exact h1,by rw[e1,e2];rfl⟩
theorem sqT_ok {c:CallF} {f f':FuncId} {g:List V→Heap→Tr (V×Heap)} (h0:∀ a H r,(g a H).run=some r→c f a H=some r) (h1:∀ a H r,(g a H).run=some r→c f' a H=some r) {a:List V} {H:Heap} {r:V×Heap} (hq:∀ _:Nat.beq (liveB H).length H.length=false,sqF (liveB H) f=some f')
  (h:(sqT g a H).run=some r):sq c f a H=some r:=by
 cases hb:Nat.beq (liveB H).length H.length with
 | true =>
  unfold sqT at h;unfold sq;rw[hb] at h ⊢;exact h0 _ _ _ h
 | false =>
  obtain⟨x,h2,h3⟩:=sqT_out hb h;subst h3;unfold sq;rw[hb];simp only;rw[hq hb];simp only;rw[h1 _ _ _ h2]
noncomputable def Spec.add (S:Spec) (f:FuncId) (g:List V→Heap→Tr (V×Heap)):Spec:=fun f' a H=>match Nat.beq f' f with
 | true=>sqT g a H
 | false=>S f' a H
theorem Good.add {F:Fns} (hS:Good (vlim T F) S) {f:FuncId} {g:List V→Heap→Tr (V×Heap)} (h:∀ a H r,(g a H).run=some r→Runs T F f a H r) (hf:Nat.blt f yB=true:=by decide):Good (vlim T F) (S.add f g):=by
 intro f' a H r hr;unfold Spec.add at hr;cases hb:Nat.beq f' f<;>simp only[hb] at hr
 ·exact hS _ _ _ _ hr
 ·have:=Nat.eq_of_beq_eq_true hb;subst this
  have h0:∀ a H r,(g a H).run=some r→vlim0 T F f' a H=some r:=fun a H r hr=>vlim_iff.2 (h _ _ _ hr)
  exact sqT_ok h0 h0 (fun _=>by unfold sqF;rw[hf]) hr
noncomputable def Spec.yields (S:Spec) (g:Nat→List V→Heap→Tr (V×Heap)):Spec:=fun f a H=>match Nat.ble yB f with
 | true=>match Nat.beq (liveB H).length H.length with
  | true=>g (f-yB) a H
  | false=>match (liveB H).contains (f-yB) with
   | true=>sqT (g (downG (liveB H) (f-yB))) a H
   | false=>.fail
 | false=>S f a H
def noLoop:LSpec:=fun _ _=>.fail
theorem LGood.no {lp:Step→Step} {c:Code}:LGood T call lp cx noLoop c:=fun _ _ _ _ h=>by cases h
theorem Good.yields {F:Fns} (hS:Good (vlim T F) S) (hF:∀ id,F (yB+id)=none):Good (vlim T F) (S.yields (yldT T sh S noLoop F)):=by
 intro f a H r hr;unfold Spec.yields at hr;cases hb:Nat.ble yB f<;>simp only[hb] at hr
 ·exact hS _ _ _ _ hr
 ·rw[Nat.ble_eq] at hb
  have e:yB+(f-yB)=f:=Nat.add_sub_cancel' hb;have hy:∀ id a H r,(yldT T sh S noLoop F id a H).run=some r→vlim0 T F (yB+id) a H=some r:=fun id a H r h=>vlim_iff.2 (yldT_ok hF hS (fun _ _=>LGood.no) h)
  unfold vlim;cases hl:Nat.beq (liveB H).length H.length with
  | true =>
   rw[hl] at hr;unfold sq;rw[hl];have:=hy _ _ _ _ hr
   rwa [e] at this
  | false =>
   rw[hl] at hr;simp only at hr;cases hc:(liveB H).contains (f-yB) with
   | false=>rw[hc] at hr;cases hr
   | true =>
    rw[hc] at hr;simp only at hr;obtain⟨x,h2,h3⟩:=sqT_out hl hr;subst h3;unfold sq sqF;rw[hl,show Nat.blt f yB=false by cases hq:Nat.blt f yB;rfl;rw[Nat.blt_eq] at hq;omega,hc]
    simp only;rw[hy _ _ _ _ h2]
theorem LGood.none {lp:Step→Step} {c:Code} (h:loopsOf c=[]):LGood T call lp cx L c:=fun b hb=>by rw[h] at hb;cases hb
theorem LGood.of_list {lp:Step→Step} {c:Code} {l:List Code} (h:loopsOf c=l) (hl:∀ b∈l,∀ σ r,(L (firstRegion b) σ).run=some r→lp (vstep T call lp cx σ.heap.length b) σ=some r):LGood T call lp cx L c:=fun b hb=>hl b (h▸hb)
noncomputable def unrolled (T:Types) (sh:Nat→List TK) (S:Spec) (cx:Cx) (m:Nat) (l:List Code):Nat→LSpec
 | 0=>fun _ _=>.fail
 | d+1=>fun id σ=>match l.find? (fun b=>Nat.beq (firstRegion b) id) with
  | some b=>unrollT T sh S (unrolled T sh S cx m l d) cx b σ.heap.length m σ
  | none=>.fail
theorem loopsOf_sub:∀ (c:Code) {b:Code},b∈loopsOf c→∀ x∈loopsOf b,x∈loopsOf c
 | .seq p q,b,hb,x,hx=>by
  simp only[loopsOf,List.mem_append] at hb ⊢;rcases hb with hb | hb
  ·exact .inl (loopsOf_sub p hb x hx)
  ·exact .inr (loopsOf_sub q hb x hx)
 | .cond _ p q,b,hb,x,hx=>by
  simp only[loopsOf,List.mem_append] at hb ⊢;rcases hb with hb | hb
  ·exact .inl (loopsOf_sub p hb x hx)
  ·exact .inr (loopsOf_sub q hb x hx)
 | .block _ p,b,hb,x,hx=>loopsOf_sub p (by simpa [loopsOf] using hb) x hx
 | .loop p,b,hb,x,hx=>by
  simp only[loopsOf,List.mem_cons] at hb ⊢;rcases hb with rfl | hb
  ·exact .inr hx
  ·exact .inr (loopsOf_sub p hb x hx)
 | .skip,b,hb,x,hx=>by simp[loopsOf] at hb
 | .region _ _ _,b,hb,x,hx=>by simp[loopsOf] at hb
 | .exit _,b,hb,x,hx=>by simp[loopsOf] at hb
 | .ret,b,hb,x,hx=>by simp[loopsOf] at hb
 | .rangeFunc _ _ _ _,b,hb,x,hx=>by simp[loopsOf] at hb
 | .scope p,b,hb,x,hx=>by
  simp only[loopsOf] at hb ⊢;exact loopsOf_sub p hb x hx
 | .label _,b,hb,x,hx=>by simp[loopsOf] at hb
 | .goto _,b,hb,x,hx=>by simp[loopsOf] at hb
 | .refuse _,b,hb,x,hx=>by simp[loopsOf] at hb
def apartL:List Code→Bool
 | []=>true
 | b::l=>(l.all fun x=>!Nat.beq (firstRegion x) (firstRegion b))&&apartL l
theorem apartL_find:∀ {l:List Code},apartL l=true→∀ b∈l,l.find? (fun x=>Nat.beq (firstRegion x) (firstRegion b))=some b
 | [],_,b,hb=>by cases hb
 | y::l,h,b,hb=>by
  simp only[apartL,Bool.and_eq_true,List.all_eq_true,Bool.not_eq_true'] at h;rcases List.mem_cons.1 hb with rfl | hb
  ·rw[List.find?_cons_of_pos (by simp)]
  ·rw[List.find?_cons_of_neg,apartL_find h.2 b hb]
   intro hq;have:=h.1 b hb
   rw[Nat.eq_of_beq_eq_true hq] at this;simp at this
theorem unrolled_ok {F:Fns} {cx:Cx} (hS:Good (vlim T F) S) {m:Nat} {c0:Code} (ha:apartL (loopsOf c0)=true):∀ (d:Nat) (c:Code),(∀ b∈loopsOf c,b∈loopsOf c0)→LGood T (vlim T F) lplim cx (unrolled T sh S cx m (loopsOf c0) d) c
 | 0,c,_,b,hb,σ,r,h=>by cases h
 | d+1,c,hc,b,hb,σ,r,h=>by
  simp only[unrolled,apartL_find ha b (hc b hb)] at h;exact lplim_iff.2 (unrollT_ok hS (unrolled_ok hS ha d b (fun x hx=>loopsOf_sub c0 (hc b hb) x hx)) m σ r h)
noncomputable def inl (T:Types) (sh:Nat→List TK) (S:Spec) (m d:Nat) (fi:FI):List V→Heap→Tr (V×Heap) :=
 funT T sh S (unrolled T sh S fi.cx m (loopsOf fi.body) d) fi
theorem inl_ok {F:Fns} (hS:Good (vlim T F) S) {f:FuncId} {fi:FI} (hf:F f=some fi) (m d:Nat) (ha:apartL (loopsOf fi.body)=true):∀ a H r,(inl T sh S m d fi a H).run=some r→Runs T F f a H r :=
 fun _ _ _ h=>funT_ok hS hf (unrolled_ok hS ha d fi.body (fun _ hb=>hb)) h
theorem Good.inl {F:Fns} (hS:Good (vlim T F) S) {f:FuncId} {fi:FI} (hf:F f=some fi) (m d:Nat) (ha:apartL (loopsOf fi.body)=true) (hfl:Nat.blt f yB=true:=by decide):Good (vlim T F) (S.add f (Vm.inl T sh S m d fi)) :=
 hS.add (inl_ok hS hf m d ha) hfl
end
end Go.Vm
end
section
namespace Go.Vm
open Go
noncomputable def is (σ σ0:St):Bool:=@decide (σ=σ0) (Classical.propDecidable _)
theorem is_self (σ:St):is σ σ=true:=by unfold is;exact @decide_eq_true _ (Classical.propDecidable _) rfl
theorem is_eq {σ σ0:St} (h:σ=σ0):is σ σ0=true:=by rw[h];exact is_self σ0
theorem of_is {σ σ0:St} (h:is σ σ0=true):σ=σ0:=@of_decide_eq_true _ (Classical.propDecidable _) h
noncomputable def loopsIs:List (Nat×St×(Ex×St))→LSpec
 | [],_,_=>.fail
 | x::l,id,σ=>match Nat.beq id x.1 with
  | true=>.must (is σ x.2.1) (.ret x.2.2)
  | false=>loopsIs l id σ
section
variable {T:Types} {sh:Nat→List TK} {S:Spec} {L:LSpec} {F:Fns} {cx:Cx} {c:Code}
theorem LGood.is:∀ {l:List (Nat×St×(Ex×St))},(∀ b∈loopsOf c,∀ x∈l,firstRegion b=x.1→LRuns (vstep T (vlim T F) lplim cx x.2.1.heap.length b) x.2.1 x.2.2)→LGood T (vlim T F) lplim cx (loopsIs l) c
 | [],_,b,hb,σ,r,h=>by cases h
 | x::l,hl,b,hb,σ,r,h=>by
  unfold loopsIs at h;cases hbq:Nat.beq (firstRegion b) x.1<;>simp only[hbq] at h
  ·exact LGood.is (l:=l) (fun b hb y hy=>hl b hb y (by simp[hy])) b hb σ r h
  ·obtain⟨h1,h2⟩:=Tr.must_some h
   have:=of_is h1;subst this
   have h2:=ret_some h2;subst h2;exact lplim_iff.2 (hl b hb x (by simp) (Nat.eq_of_beq_eq_true hbq))
theorem LGood.one {b:Code} {k:Nat} {σ0:St} {r:Ex×St} (h:loopsOf c=[b]) (hr:LRuns (vstep T (vlim T F) lplim cx σ0.heap.length b) σ0 r):LGood T (vlim T F) lplim cx (loopsIs [(k,σ0,r)]) c:=by
 refine LGood.is fun b' hb x hx _=>?_
 rw[h] at hb;simp at hb hx;subst hb;subst hx;exact hr
theorem LGood.two {b0 b1:Code} {k0 k1:Nat} {σ0 σ1:St} {r0 r1:Ex×St} (h:loopsOf c=[b0,b1]) (e0:Nat.beq (firstRegion b0) k1=false) (e1:Nat.beq (firstRegion b1) k0=false)
  (h0:LRuns (vstep T (vlim T F) lplim cx σ0.heap.length b0) σ0 r0) (h1:LRuns (vstep T (vlim T F) lplim cx σ1.heap.length b1) σ1 r1):LGood T (vlim T F) lplim cx (loopsIs [(k0,σ0,r0),(k1,σ1,r1)]) c:=by
 refine LGood.is fun b' hb x hx hf=>?_
 rw[h] at hb;simp at hb hx;rcases hb with rfl | rfl<;>rcases hx with rfl | rfl
 ·exact h0
 ·simp only at hf;rw[hf] at e0;simp at e0
 ·simp only at hf;rw[hf] at e1;simp at e1
 ·exact h1
def spread (cs:List (Bool×Bool)):List Nat→List (Bool×Bool)
 | []=>[]
 | 0::l=>(true,true)::spread cs l
 | 1::l=>(false,false)::spread cs l
 | (j+2)::l=>cs.getD j (true,true)::spread cs l
def AllOk:List (Bool×Bool)→Prop
 | []=>True
 | c::l=>c.1=c.2∧AllOk l
theorem AllOk.get:∀ {cs:List (Bool×Bool)},AllOk cs→∀ j,(cs.getD j (true,true)).1=(cs.getD j (true,true)).2
 | [],_,j=>by simp
 | c::l,h,0=>h.1
 | c::l,h,j+1=>by simpa using AllOk.get (cs:=l) h.2 j
theorem spread_ok {cs:List (Bool×Bool)} (h:AllOk cs):∀ (l:List Nat),∀ c∈spread cs l,c.1=c.2
 | [],c,hc=>by cases hc
 | 0::l,c,hc=>by
  rcases List.mem_cons.1 hc with rfl | hc
  ·rfl
  ·exact spread_ok h l c hc
 | 1::l,c,hc=>by
  rcases List.mem_cons.1 hc with rfl | hc
  ·rfl
  ·exact spread_ok h l c hc
 | (j+2)::l,c,hc=>by
  rcases List.mem_cons.1 hc with rfl | hc
  ·exact h.get j
  ·exact spread_ok h l c hc
def answers (cs:List (Bool×Bool)) (l:List Nat):List Bool:=(spread cs l).map (·.2)
theorem LRuns.next (hS:Good (vlim T F) S) {n:Nat} {b:Code} {τ τ':St} {r:Ex×St} (hL:LGood T (vlim T F) lplim cx L b) (cs:List (Bool×Bool)) (l:List Nat)
  (h:(roundT T sh S L cx n b τ).follow (answers cs l)=some (spread cs l,some (.normal,τ'))) (hc:AllOk cs) (hr:LRuns (vstep T (vlim T F) lplim cx n b) τ' r):LRuns (vstep T (vlim T F) lplim cx n b) τ r :=
 LRuns.step (roundT_ok hS hL (Tr.follow_run h (spread_ok hc l))) hr
theorem LRuns.last (hS:Good (vlim T F) S) {n:Nat} {b:Code} {τ:St} {r:Ex×St} (hL:LGood T (vlim T F) lplim cx L b) (cs:List (Bool×Bool)) (l:List Nat)
  (h:(roundT T sh S L cx n b τ).follow (answers cs l)=some (spread cs l,some r)) (hx:r.1≠.normal) (hc:AllOk cs):LRuns (vstep T (vlim T F) lplim cx n b) τ r :=
 LRuns.stop (roundT_ok hS hL (Tr.follow_run h (spread_ok hc l))) hx
theorem Runs.way (hS:Good (vlim T F) S) {f:FuncId} {fi:FI} (hf:F f=some fi) (hL:LGood T (vlim T F) lplim fi.cx L fi.body) (cs:List (Bool×Bool)) (l:List Nat) {a:List V} {H:Heap} {r:V×Heap}
  (h:(funT T sh S L fi a H).follow (answers cs l)=some (spread cs l,some r)) (hc:AllOk cs):Runs T F f a H r:=funT_ok hS hf hL (Tr.follow_run h (spread_ok hc l))
theorem Good.way {call:CallF} (hS:Good call S) {f:FuncId} (cs:List (Bool×Bool)) (l:List Nat) {a:List V} {H:Heap} {r:V×Heap}
  (h:(S f a H).follow (answers cs l)=some (spread cs l,some r)) (hc:AllOk cs):call f a H=some r:=hS _ _ _ _ (Tr.follow_run h (spread_ok hc l))
end
theorem i64in {n:Int} (h1:-9223372036854775808≤n) (h2:n≤9223372036854775807):IntKind.i64.wrap n=n:=Go.IntWalk.i64_in n ⟨h1,h2⟩
@[simp] theorem getD_map {α:Type} (f:α→V) (l:List α) (i:Nat) (h:i<l.length):(l.map f).getD i .undef=f l[i]:=by
 rw[List.getD_eq_getElem?_getD];simp[h]
@[simp] theorem fld_agg (j:Nat) (cs:List V):fld j (.agg cs)=cs.getD j .undef:=rfl
@[simp] theorem intOf_int (k:IntKind) (n:Int):intOf (.int k n)=n:=rfl
@[simp] theorem boolOf_bool (b:Bool):boolOf (.bool b)=b:=rfl
@[simp] theorem cells_agg (cs:List V):(V.agg cs).cells=cs:=rfl
@[simp] theorem fld_int (k:IntKind) (n:Int):fld 0 (.int k n)=.int k n:=rfl
@[simp] theorem fld_bool (b:Bool):fld 0 (.bool b)=.bool b:=rfl
end Go.Vm
end
section
namespace Go.Vm
open Go Go.Shelf Go.RowKit Go.Lib Go.Proofs
theorem step_append_row {P:Program} {ops:Array Oper} {o:Oper} {a:Act} {w:World} {K:Act→World→Prop} {Q:Exit→Act→World→Prop} {E:Prop}
  (hg:o.guard=none) (s x:Operand) (t:TypeId) (hop:o.op=Op.call {callee:=Callee.builtin Builtin.append,args:=#[s,x],argTypes:=#[t,t]})
  (e:TypeId) (i:TypeInfo) (h1:P.underlying t=some (.slice e)) (h2:P.info? e=some i) (b n cap:Nat) (hs:a.eval s=.slice (some ⟨b,0,none⟩) n cap)
  (X:Value) (hx:a.eval x=X) (m:Nat) (news:List Value) (hsrc:Src P i.size t X m news w) (hroom:n+m≤cap) (T:TypeId) (arr:Array Value)
  (hb:w.heap[b]?=some (.cells arr T (0,0))) (hfit:n*i.size+news.length≤arr.size)
  (hK:K (a.put o.dst (.slice (some ⟨b,0,none⟩) (n+m) cap)) (w.setRow b (patch arr (n*i.size) news))) :
  if Region.wanted o (yielded ops a.tmps)=true then Oper.wp P o a w K Q else E:=by
 have hw:Region.wanted o (yielded ops a.tmps)=true:=by simp[Region.wanted,hg]
 rw[if_pos hw];have hrun:=append_room (P:=P) w t t o.type e T i h1 h2 b n cap arr X m news hsrc hroom hb hfit;unfold Oper.wp;simp[execOp,hop,resolve,invoke,builtin,hs,hx,hrun,Result.andThen];exact hK
set_option maxRecDepth 1000000 in
theorem del_ok {P:Program} {ρ:Ren} (mixed:P.follows .mixedOrders=true) (FG:Bears P (ρ.f 45) (SlBodyN.n45 ρ))
  (t3:P.underlying (ρ.t 3)=some (TypeDesc.int IntKind.i64)) (a3:∀ w,(isAgg (ρ.t 3)).run P w=.ok false w) (z3:∀ w,(Go.sizeOf (ρ.t 3)).run P w=.ok 1 w)
  (t4:P.underlying (ρ.t 4)=some (TypeDesc.bool)) (a4:∀ w,(isAgg (ρ.t 4)).run P w=.ok false w) (z4:∀ w,(Go.sizeOf (ρ.t 4)).run P w=.ok 1 w)
  (t22:P.underlying (ρ.t 22)=some (TypeDesc.slice (ρ.t 23))) (a22:∀ w,(isAgg (ρ.t 22)).run P w=.ok false w) (z22:∀ w,(Go.sizeOf (ρ.t 22)).run P w=.ok 1 w)
  (k:Nat) (i0:TypeInfo) (hi0:P.info? (ρ.t 23)=some i0) (hz:i0.size=k) (z:Value) (hv:i0.zero=some z) (hzs:z.cells.size=k) (hz1:∀ c∈z.cells.toList,c.oneCell'=true) :
  DelOk P (ρ.f 45) k:=by
 have z23:∀ w,(Go.sizeOf (ρ.t 23)).run P w=.ok k w:=fun w=>by simp[sizeOf,typeInfo,hi0,hz]
 refine⟨?_,?_⟩
 ·obtain⟨nm,hn,hf⟩:=FG
  exact⟨_,hf,by simpa using hn,rfl⟩
 intro w b n cap T arr i j hb hncap hsz hone hij hj;by_cases heq:i=j
 ·subst heq
  have h0:Calls P (ρ.f 45) #[.slice (some ⟨b,0,none⟩) n cap,.int .i64 i,.int .i64 i] w fun e w'=>e=.returned (.slice (some ⟨b,0,none⟩) n cap)∧w'=w:=by
   clear hb hone;obtain⟨_,_,FG⟩:=FG
   go_enter FG,SlBodyN.n45_ntmps ρ
   go_wp2
   all_goals (go_ret;exact⟨rfl,rfl⟩)
  refine h0.mono ?_
  rintro e w' ⟨rfl,rfl⟩
  exact⟨by rw[Nat.sub_self,Nat.sub_zero],arr,hb,rfl,fun m _=>by simp,fun _ _=>rfl,rfl,rfl,rfl,rfl,Nat.le_refl _⟩
 ·have hlt:i<j:=by omega
  obtain⟨news,hnews⟩:∃ news,news=(arr.toList.drop (j*k)).take ((n-j)*k):=⟨_,rfl⟩;have hnk:n*k≤arr.size:=by rw[hsz];exact Nat.mul_le_mul_right _ hncap
  have hjk:j*k+(n-j)*k=n*k:=by rw[←Nat.add_mul];congr 1;omega
  have hik:i*k+(n-j)*k≤n*k:=by rw[←Nat.add_mul];exact Nat.mul_le_mul_right _ (by omega)
  have hlen:news.length=(n-j)*k:=by rw[hnews];simp;omega
  have hget:∀ t,t<(n-j)*k→news[t]?=arr[j*k+t]?:=by
   intro t ht;rw[hnews,List.getElem?_take,if_pos ht,List.getElem?_drop,Array.getElem?_toList]
  have hone':∀ u∈news,u.oneCell'=true:=by
   intro u hu;obtain⟨t,ht⟩:=List.getElem?_of_mem hu;have htl:t<(n-j)*k:=by rw[←hlen];exact (List.getElem?_eq_some_iff.1 ht).1
   exact hone (j*k+t) u (by omega) (by rw[←hget t htl];exact ht)
  obtain⟨A,hA,hsrc⟩:∃ A:Addr,(if cap=j then (some ⟨b,0,none⟩:Option Addr) else some ⟨b,j*k,none⟩)=some A∧Hid (∀ t u,news[t]?=some u→w.drew.cell? (A.add t)=some u):=by
   by_cases h:cap=j
   ·refine⟨⟨b,0,none⟩,by simp[h],fun t u hu=>?_⟩
    have h0:news.length=0:=by rw[hlen,show n-j=0 by omega,Nat.zero_mul]
    rw[List.length_eq_zero_iff.1 h0] at hu;simp at hu
   ·refine⟨⟨b,j*k,none⟩,by simp[h],fun t u hu=>?_⟩
    have ht:t<(n-j)*k:=by
     have:=(List.getElem?_eq_some_iff.1 hu).1
     rwa [hlen] at this
    rw[hget t ht] at hu;rw[Addr.add_lit];rw[cell_of_row w.drew b (j*k+t) arr T _ hb];exact hu
  have hsr:Hid (∀ cp,Src P i0.size (ρ.t 22) (.slice (some A) (n-j) cp) (n-j) news w.drew):=fun cp =>
   Src.ofSlice w.drew t22 A (n-j) cp news (by rw[hlen,hz]) hsrc.out hone'
  obtain⟨W1,hW1⟩:∃ W1,W1=w.drew.setRow b (patch arr (i*i0.size) news):=⟨_,rfl⟩;have hfit:i*k+news.length≤arr.size:=by rw[hlen];omega
  have hb1:W1.heap[b]?=some (.cells (patch arr (i*k) news) T (0,0)):=by rw[hW1,hz];exact setRow_at w.drew b arr _ T _ hb
  obtain⟨zs,hzl⟩:∃ zs,zs=(Builtin.zeroCells z.cells (n-(i+(n-j)))).toList:=⟨_,rfl⟩;have hzsl:zs.length=(n-(i+(n-j)))*k:=by rw[hzl];simp[Builtin.zeroCells,hzs]
  have hcl:∀ ty,(Builtin.clear_ #[ρ.t 22] ty #[.slice (some ⟨b,(i+(n-j))*k,none⟩) (n-(i+(n-j))) (cap-(i+(n-j)))]).run P W1 =
    .ok (.tuple #[]) (W1.setRow b (patch (patch arr (i*k) news) ((i+(n-j))*k) zs)):=by
   intro ty;have hzone:∀ u∈zs,u.oneCell'=true:=by
    intro u hu;rw[hzl] at hu;simp only[Builtin.zeroCells,Array.toList_map,List.mem_map,Array.toList_range,List.mem_range] at hu;obtain⟨m,hm,rfl⟩:=hu;have hk0:0<z.cells.size:=by
     rcases Nat.eq_zero_or_pos z.cells.size with h0 | h0
     ·rw[h0] at hm;simp at hm
     ·exact h0
    have hml:m % z.cells.size<z.cells.size:=Nat.mod_lt _ hk0;rw[getElem!_pos z.cells _ hml];exact hz1 _ (by simp)
   have hst:=run_storeCells_at P b ((i+(n-j))*k) T zs 0 _ W1 hb1 (by rw[patch_size _ _ _ hfit,hzsl,Nat.add_zero,←Nat.add_mul];refine Nat.le_trans (Nat.mul_le_mul_right k ?_) hnk;omega) hzone
   simp only[Nat.add_zero] at hst;obtain⟨m,hm⟩:∃ m,n-(i+(n-j))=m+1:=⟨n-(i+(n-j))-1,by omega⟩
   rw[hm] at hzl ⊢;simp[Builtin.clear_,run_underlying t22,zeroValue,typeInfo,hi0,hv,←hzl,hst,patch]
  have hW:Hid (W1=w.drew.setRow b (patch arr (i*i0.size) news)):=hW1;have hic:i≤cap:=by omega
  have hjc:j≤cap:=by omega
  have HB:Hid (w.heap[b]?=some (.cells arr T (0,0))):=hb;have HF:Hid (i*i0.size+news.length≤arr.size):=by rw[hz];exact hfit
  have HG:Hid (∀ t,t<(n-j)*k→news[t]?=arr[j*k+t]?):=hget;have HL:Hid (news.length=(n-j)*k):=hlen;have HZ:Hid (zs.length=(n-(i+(n-j)))*k):=hzsl;have HN:Hid (n*k≤arr.size):=hnk;have HI:Hid (i*k+(n-j)*k≤n*k):=hik;have HJ:Hid (j*k+(n-j)*k=n*k):=hjk;have HB1:Hid (W1.heap[b]?=some (.cells (patch arr (i*k) news) T (0,0))):=hb1;clear hW1 hb hone hget hnews hlen hzl hzsl hfit hb1 hnk hik hjk hone';obtain⟨_,_,FG⟩:=FG
  go_enter FG,SlBodyN.n45_ntmps ρ
  go_wp2_with fail
  go_region_law_o (refine step_append_row rfl (.tmp 22) (.tmp 25) (ρ.t 22) rfl (ρ.t 23) i0 t22 hi0 b i cap (by simp[Act.eval,Act.put]) (.slice (some A) (n-j) (cap-j)) (by simp[Act.eval,Act.put]) (n-j) news (hsr.out _) (by omega) T arr HB.out HF.out ?_;rw[←hW.out])
  go_wp2
  go_ret
  have hb:=HB.out;have hf:=HF.out;have hg:=HG.out;have hl:=HL.out;have hzl:=HZ.out;have hn:=HN.out;have hi:=HI.out;have hjj:=HJ.out;have hb1:=HB1.out;have hw:=hW.out;rw[hz] at hf hw;have e1:n-(j-i)=i+(n-j):=by omega
  have hle:(i+(n-j))*k=i*k+(n-j)*k:=Nat.add_mul _ _ _;have hfit2:(i+(n-j))*k+zs.length≤(patch arr (i*k) news).size:=by
   rw[patch_size _ _ _ hf,hzl,←Nat.add_mul];exact Nat.le_trans (Nat.mul_le_mul_right k (by omega)) hn
  refine⟨by rw[e1];rfl,patch (patch arr (i*k) news) ((i+(n-j))*k) zs,setRow_at W1 b _ _ T _ hb1,?_,fun m hm=>?_,fun q hq=>?_,?_,?_,?_,?_,?_⟩
  ·rw[patch_size _ _ _ hfit2,patch_size _ _ _ hf]
  ·rw[e1] at hm
   rw[patch_get _ _ _ hfit2,if_neg (by omega),patch_get _ _ _ hf]
   by_cases hmi:m<i*k
   ·rw[if_neg (by omega),if_pos hmi]
   ·rw[if_pos (by omega),if_neg hmi,hg _ (by omega)]
    have:(j-i)*k+i*k=j*k:=by rw[←Nat.add_mul];congr 1;omega
    congr 1;omega
  ·rw[setRow_other W1 b q _ hq,hw,setRow_other w.drew b q _ hq];rfl
  ·rw[hw];simp only[World.setRow,Array.size_modify];rfl
  ·rw[hw];rfl
  ·rw[hw];rfl
  ·rw[hw];rfl
  ·rw[hw];exact Nat.le_succ _
theorem del_of_rows {P:Program} {T:Types} (hT:TOk P T) (ρ:Ren) (FG:Bears P (ρ.f 45) (SlBodyN.n45 ρ)) {i3 i4 i22 i23:TI} (h3:T (ρ.t 3)=some i3) (k3:i3.kind=.int .i64)
  (h4:T (ρ.t 4)=some i4) (k4:i4.kind=.bool) (h22:T (ρ.t 22)=some i22) (k22:i22.kind=.slice (ρ.t 23)) (h23:T (ρ.t 23)=some i23) (s3:i3.size=1) (s4:i4.size=1) (s22:i22.size=1) :
  DelOk P (ρ.f 45) i23.size:=by
 obtain⟨r3⟩:=Row.of hT h3;obtain⟨r4⟩:=Row.of hT h4;obtain⟨r22⟩:=Row.of hT h22;obtain⟨r23⟩:=Row.of hT h23;have u3:P.underlying (ρ.t 3)=some (TypeDesc.int IntKind.i64):=by
  have h:=r3.hkind;rw[r3.hd];rw[k3] at h;cases hd:r3.d<;>simp[hd,kindB] at h
  rw[h]
 have u4:P.underlying (ρ.t 4)=some TypeDesc.bool:=by
  have h:=r4.hkind;rw[r4.hd];rw[k4] at h;cases hd:r4.d<;>simp[hd,kindB] at h
  rfl
 refine del_ok hT.mixed FG u3 (fun w=>by rw[r3.isAgg,k3];rfl) (fun w=>by rw[run_sizeOf_row r3,s3]) u4 (fun w=>by rw[r4.isAgg,k4];rfl) (fun w=>by rw[run_sizeOf_row r4,s4])
  (kind_slice r22 k22) (fun w=>by rw[r22.isAgg,k22];rfl) (fun w=>by rw[run_sizeOf_row r22,s22]) i23.size r23.info r23.hinfo r23.hsize r23.z r23.hz r23.hzs (fun c hc=>?_)
 obtain⟨j,hj⟩:=List.getElem?_of_mem hc;have hjl:j<i23.zero.cells.length:=by
  have:=(List.getElem?_eq_some_iff.1 hj).1
  rw[r23.hzl,←r23.hzs];simpa using this
 exact (r23.hzc (fun _=>.other) default j _ c (List.getElem?_eq_getElem hjl) (by simpa using hj)).one
end Go.Vm
end
