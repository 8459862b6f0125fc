/- W1: V,an evaluator that carries contents (V1,V2,V3,V4,V5,V6,V7,V8,V9,V10). No conditions. -/
import Derived.Orders
import Derived.Below
import Derived.RowKit
import Derived.KernelRfl
import Derived.Laws.AppendOwn
import Derived.Laws.Rows
import Derived.Laws.Cells
import Derived.Deep.AppendSrc
import Derived.Deep.MidRow
import Derived.Laws.CopyRow
import Derived.Laws.MakeOwn
import Derived.Great.BuildSlice
import Derived.ChangeKeysEq
import Derived.DeepKeys
import Derived.CallsIn
section
namespace Go.Vm
inductive Place where
 | slot (t:Nat)
 | cell (id off:Nat)
 deriving DecidableEq
structure Cx where
 mu:List Nat:=[]
 keep:Nat→Option (List Nat):=fun _=>none
 head:Nat→Option (List Nat):=fun _=>none
 free:Nat→List (Nat×Nat):=fun _=>[]
 msz:Nat→Option Nat:=fun _=>none
 told:List (Nat×Nat):=[]
 lend:List (Nat×Nat):=[]
 glance:List Nat:=[]
 news:List (Nat×Nat):=[]
 arr:Bool:=false
 self:Nat:=0
 rnd:Bool:=false
inductive Ex where
 | normal | exit (id:Nat) | ret
 deriving DecidableEq
inductive LSt where
 | ready | busy | done (ex:Ex)
 deriving DecidableEq
inductive RK where
 | map | yld | arr (n:Nat)
 deriving DecidableEq
inductive V where
 | undef
 | bool (b:Bool)
 | int (k:IntKind) (n:Int)
 | str (s:ByteArray)
 | nilp
 | nilf
 | ptr (id off:Nat)
 | rptr (cs:List V) (off:Nat)
 | xptr (p:Place) (i off:Nat)
 | sl (isNil:Bool) (xs:List V)
 | ex (sz:Nat) (isNil:Bool) (xs:List V)
 | lent (p:Place)
 | clo (fn:Fn) (first captured:List V)
 | agg (cs:List V)
 | tup (vs:List V)
 | nilm
 | ref (m:RK) (id:Nat)
 | mp (ks vs:List V)
 | lp (ts:List Nat) (vs:List V) (ps:List Nat) (asg body:Code) (cx:Cx) (st:LSt)
 deriving Inhabited
def V.cells:V→List V
 | .agg cs=>cs
 | v=>[v]
inductive Dat:V→Prop where
 | undef:Dat .undef
 | bool (b:Bool):Dat (.bool b)
 | int (k:IntKind) (n:Int):Dat (.int k n)
 | str (s:ByteArray):Dat (.str s)
 | nilp:Dat .nilp
 | nilf:Dat .nilf
 | sl (b:Bool) (xs:List V):Dat (.sl b xs)
 | nilm:Dat .nilm
 | agg (cs:List V) (h:∀ c∈cs,Dat c):Dat (.agg cs)
def cellDat:V→Bool
 | .undef | .bool _ | .int _ _ | .str _ | .nilp | .nilf | .nilm | .sl _ _=>true
 | _=>false
def V.dat:V→Bool
 | .agg cs=>cs.all cellDat
 | v=>cellDat v
def cellOf:Value→V
 | .bool b=>.bool b
 | .int k n=>.int k n
 | .string s=>.str s
 | .pointer none=>.nilp
 | .nilFunc=>.nilf
 | .map none=>.nilm
 | .slice none 0 0=>.sl true []
 | _=>.undef
def ofValue:Value→V
 | .agg cs=>.agg (cs.toList.map cellOf)
 | v=>cellOf v
inductive B where
 | dead
 | cells (cs:List V)
 deriving Inhabited
abbrev Env:=List (Nat×V)
abbrev Heap:=List B
def get:Env→Nat→V
 | [],_=>.undef
 | (u,v)::r,t=>if u=t then v else get r t
structure St where
 env:Env
 heap:Heap
inductive TK where
 | bool | int (k:IntKind) | str | ptr | func
 | slice (elem:Nat)
 | array (n elem:Nat)
 | struct (fields:List (Nat×Nat))
 | map (key elem:Nat)
 | other
 deriving DecidableEq
structure TI where
 kind:TK
 size:Nat
 bytes:Nat
 zero:V
 leaves:List TK:=[]
abbrev Types:=Nat→Option TI
def kindOf (T:Types) (t:Nat):Option TK:=match T t with
 | some i=>some i.kind
 | none=>none
def TK.isAgg:TK→Bool
 | .array _ _ | .struct _=>true
 | _=>false
def asType (i:TI) (cs:List V):Option V :=
 if cs.length=i.size then
  if i.kind.isAgg then some (.agg cs) else cs[0]?
 else none
def bcells (H:Heap) (id:Nat):Option (List V) :=
 match H[id]? with
 | some (.cells cs)=>some cs
 | _=>none
def isSpec:V→Bool
 | .mp _ _ | .lp _ _ _ _ _ _ _=>true
 | _=>false
def specB:List V→Bool
 | [v]=>isSpec v
 | _=>false
def ncells (H:Heap) (id:Nat):Option (List V) :=
 match bcells H id with
 | some cs=>if specB cs then none else some cs
 | none=>none
def look (σ:St):Place→V
 | .slot t=>get σ.env t
 | .cell id off=>match bcells σ.heap id with
  | some cs=>cs.getD off .undef
  | none=>.undef
def opd (env:Env):Operand→V
 | .tmp t=>get env t
 | .const v=>cellOf v
 | .global _=>.undef
 | .func f=>.clo (.func f) [] []
def content (σ:St):V→Option (Bool×List V)
 | .sl n xs=>some (n,xs)
 | .ex _ n xs=>some (n,xs)
 | .lent p=>match look σ p with
  | .ex _ n xs=>some (n,xs)
  | _=>none
 | _=>none
def nilness (σ:St) (v:V):Option Bool :=
 match v with
 | .ref (.arr _) _=>some false
 | v=>(content σ v).map fun x=>x.1
def chunks (i:TI):Nat→List V→Option (List V)
 | 0,_=>some []
 | n+1,cs=>match asType i (cs.take i.size),chunks i n (cs.drop i.size) with
  | some v,some vs=>some (v::vs)
  | _,_=>none
def contentT (i:TI) (σ:St) (v:V):Option (Bool×List V) :=
 match v with
 | .ref (.arr n) id=>match ncells σ.heap id with
  | some cs=>if cs.all cellDat=true∧0<n then (chunks i n cs).map fun xs=>(false,xs) else none
  | none=>none
 | v=>content σ v
inductive HE where
 | keep
 | set (id off:Nat) (cs:List V)
 | init (id:Nat) (cs:List V)
 | all (H:Heap)
 | put (ks:List Nat) (H:Heap)
 | seen (ks:List Nat)
 | elem (id off:Nat) (v:V)
 | lent (ks:List Nat) (n:Nat) (p:Place) (v:V) (H:Heap)
structure Eff where
 val:V
 places:List (Place×V):=[]
 mem:HE:=.keep
 poke:Option (Nat×V):=none
def V.refsTo (p:Place):V→Bool
 | .lent q=>q==p
 | .xptr q _ _=>q==p
 | _=>false
def kill (p:Place) (env:Env):Env:=env.map fun x=>(x.1,if x.2.refsTo p then .undef else x.2)
def setCells (cs:List V) (off:Nat):List V→List V
 | []=>cs
 | v::rest=>setCells (cs.set off v) (off+1) rest
def setPlace (σ:St) (p:Place) (v:V):St :=
 match p with
 | .slot t=>{σ with env:=(t,v)::kill p σ.env}
 | .cell id off=>{env:=kill p σ.env,heap:=match bcells σ.heap id with
   | some cs=>σ.heap.set id (.cells (cs.set off v))
   | none=>σ.heap}
def setPlaces (σ:St):List (Place×V)→St
 | []=>σ
 | (p,v)::rest=>setPlaces (setPlace σ p v) rest
def tmpOf:Operand→Option Nat
 | .tmp t=>some t
 | _=>none
def take (σ:St) (x:Operand):Option (V×List (Place×V)) :=
 match opd σ.env x with
 | .ex sz n xs=>match tmpOf x with
  | some t=>some (.ex sz n xs,[(.slot t,.undef)])
  | none=>none
 | .lent p=>match look σ p with
  | .ex _ n xs=>some (.sl n xs,[(p,.sl n xs)])
  | _=>none
 | .agg cs=>if cs.all cellDat then some (.agg cs,[]) else match tmpOf x with
  | some t=>some (.agg cs,[(.slot t,.undef)])
  | none=>none
 | .tup _=>none
 | .undef=>none
 | .xptr _ _ _=>none
 | .rptr _ _=>none
 | v=>some (v,[])
def frz:V→V
 | .ex _ n xs=>.sl n xs
 | v=>v
def takeDat (σ:St) (x:Operand):Option (V×List (Place×V)) :=
 match opd σ.env x with
 | .ex _ n xs=>match tmpOf x with
  | some t=>some (.sl n xs,[(.slot t,.sl n xs)])
  | none=>none
 | .lent p=>match look σ p with
  | .ex _ n xs=>some (.sl n xs,[(p,.sl n xs)])
  | _=>none
 | .undef=>none
 | .agg cs=>if cs.all cellDat then some (.agg cs,[]) else match tmpOf x with
  | some t=>if (cs.map frz).all cellDat then some (.agg (cs.map frz),[(.slot t,.agg (cs.map frz))]) else none
  | none=>none
 | v=>if v.dat then some (v,[]) else none
def view (σ:St) (x:Operand):Option (V×List (Place×V)) :=
 match opd σ.env x with
 | .ex _ n xs=>match tmpOf x with
  | some t=>some (.sl n xs,[(.slot t,.sl n xs)])
  | none=>none
 | .lent p=>match look σ p with
  | .ex _ n xs=>some (.sl n xs,[(p,.sl n xs)])
  | _=>none
 | .xptr _ _ _=>none
 | .tup _=>none
 | .undef=>none
 | .agg cs=>if cs.all cellDat then some (.agg cs,[]) else none
 | v=>some (v,[])
def noPtr:V→Bool
 | .agg cs=>cs.all cellDat
 | .clo _ first captured=>first.all cellDat&&captured.all cellDat
 | v=>cellDat v
def flatC:V→Bool
 | .bool _ | .int _ _ | .str _ | .nilp | .nilf | .nilm | .undef=>true
 | _=>false
def V.flat (v:V):Bool:=v.cells.all flatC
def apartC:V→Bool
 | .bool _ | .int _ _ | .str _ | .nilp | .nilf | .nilm | .undef=>true
 | .ex _ _ xs=>xs.all V.flat
 | .sl n xs=>n&&xs.isEmpty
 | _=>false
def apart:V→Bool
 | .tup vs=>vs.all fun v=>v.cells.all apartC
 | v=>v.cells.all apartC
def shiftP (n:Nat):V→V
 | .ptr id off=>.ptr (id+n) off
 | .ref m id=>.ref m (id+n)
 | v=>v
def shiftC (n:Nat):V→V
 | .ptr id off=>.ptr (id+n) off
 | .ref m id=>.ref m (id+n)
 | .clo f a b=>.clo f (a.map (shiftP n)) (b.map (shiftP n))
 | v=>v
def shift1 (n:Nat):V→V
 | .agg cs=>.agg (cs.map (shiftC n))
 | v=>shiftC n v
def shift (n:Nat):V→V
 | .tup vs=>.tup (vs.map (shift1 n))
 | v=>shift1 n v
def shiftX (n:Nat):V→V
 | .mp ks vs=>.mp ks (vs.map (shift1 n))
 | .lp ts vs ps asg body cx st=>.lp ts (vs.map (shift1 n)) ps asg body cx st
 | v=>shiftC n v
def shiftB (n:Nat):B→B
 | .dead=>.dead
 | .cells cs=>.cells (cs.map (shiftX n))
def vbin (op:BinOp) (T:TI) (constOne:Bool) (σ:St) (x y:V):Option V :=
 match x,y with
 | .int k a,.int k' b =>
  match op with
  | .shl=>if b<0 then none else some (.int k (k.wrap (a*2 ^ (min b.toNat k.bits))))
  | .shr=>if b<0 then none else some (.int k (a.fdiv (2 ^ (min b.toNat k.bits))))
  | _ =>
   if k=k' then
    match op with
    | .add=>some (.int k (k.wrap (a+b)))
    | .sub=>some (.int k (k.wrap (a-b)))
    | .mul=>some (.int k (k.wrap (a*b)))
    | .quo=>if b=0 then none else some (.int k (k.wrap (a.tdiv b)))
    | .rem=>if b=0 then none else some (.int k (a.tmod b))
    | .and=>some (.int k (k.wrap (BitVec.ofInt k.bits a &&& BitVec.ofInt k.bits b).toNat))
    | .or=>some (.int k (k.wrap (BitVec.ofInt k.bits a ||| BitVec.ofInt k.bits b).toNat))
    | .xor=>some (.int k (k.wrap (BitVec.ofInt k.bits a ^^^ BitVec.ofInt k.bits b).toNat))
    | .andNot=>some (.int k (k.wrap (BitVec.ofInt k.bits a &&& ~~~ BitVec.ofInt k.bits b).toNat))
    | .eql=>some (.bool (a==b))
    | .neq=>some (.bool (a != b))
    | .lss=>some (.bool (a<b))
    | .leq=>some (.bool (a≤b))
    | .gtr=>some (.bool (a>b))
    | .geq=>some (.bool (a≥b))
    | _=>none
   else none
 | .bool a,.bool b=>match T.kind,op with
  | .bool,.eql=>some (.bool (a==b))
  | .bool,.neq=>some (.bool (!(a==b)))
  | _,_=>none
 | .str a,.str b=>match op with
  | .eql=>some (.bool (a.toList==b.toList))
  | .neq=>some (.bool (!(a.toList==b.toList)))
  | .lss=>some (.bool (Op.bytesLess a.toList b.toList))
  | .leq=>some (.bool (Op.bytesLess a.toList b.toList || a.toList==b.toList))
  | .gtr=>some (.bool (!(Op.bytesLess a.toList b.toList || a.toList==b.toList)))
  | .geq=>some (.bool (!Op.bytesLess a.toList b.toList))
  | .add=>if ((a.size+b.size:Nat):Int)≤IntKind.i64.max then some (.str (a++b)) else none
  | _=>none
 | .nilp,.nilp=>match T.kind,op with
  | .ptr,.eql=>some (.bool true)
  | .ptr,.neq=>some (.bool false)
  | _,_=>none
 | .ptr _ _,.nilp | .nilp,.ptr _ _=>match T.kind,op with
  | .ptr,.eql=>some (.bool false)
  | .ptr,.neq=>some (.bool true)
  | _,_=>none
 | .nilm,.nilm=>match T.kind,op with
  | .map _ _,.eql=>some (.bool true)
  | .map _ _,.neq=>some (.bool false)
  | _,_=>none
 | .ref .map _,.nilm | .nilm,.ref .map _=>match T.kind,op with
  | .map _ _,.eql=>some (.bool false)
  | .map _ _,.neq=>some (.bool true)
  | _,_=>none
 | .agg _,_=>none
 | x,y=>match T.kind,constOne,op with
  | .slice _,true,.eql=>match nilness σ x,nilness σ y with
   | some n,some m=>some (.bool (n==m))
   | _,_=>none
  | .slice _,true,.neq=>match nilness σ x,nilness σ y with
   | some n,some m=>some (.bool (!(n==m)))
   | _,_=>none
  | _,_,_=>none
def leafV:TK→V→Bool
 | .bool,.bool _=>true
 | .int k,.int k' _=>decide (k'=k)
 | .str,.str _=>true
 | _,_=>false
def fits:List TK→List V→Bool
 | [],[]=>true
 | k::ks,a::as=>leafV k a&&fits ks as
 | _,_=>false
def cellEqv:V→V→Bool
 | .bool a,.bool b=>a==b
 | .int _ a,.int _ b=>a==b
 | .str a,.str b=>a.toList==b.toList
 | _,_=>false
def cellsEqv:List V→List V→Bool
 | a::as,b::bs=>cellEqv a b&&cellsEqv as bs
 | _,_=>true
def vaggEq (op:BinOp) (T:TI) (x y:V):Option V :=
 match x,y with
 | .agg as,.agg bs=>match op with
  | .eql=>if T.leaves≠[]∧fits T.leaves as=true∧fits T.leaves bs=true then some (.bool (cellsEqv as bs)) else none
  | .neq=>if T.leaves≠[]∧fits T.leaves as=true∧fits T.leaves bs=true then some (.bool (!cellsEqv as bs)) else none
  | _=>none
 | _,_=>none
def vbinop (op:BinOp) (T:TI) (constOne:Bool) (σ:St) (x y:V):Option V :=
 match T.kind.isAgg with
 | true=>vaggEq op T x y
 | false=>vbin op T constOne σ x y
def vun (op:UnOp) (x:V):Option V :=
 match op,x with
 | .neg,.int k n=>some (.int k (k.wrap (0-n)))
 | .xor,.int k n=>some (.int k (k.wrap (BitVec.ofInt k.bits (if k.signed then -1 else k.max) ^^^ BitVec.ofInt k.bits n).toNat))
 | .not,.bool b=>some (.bool (!b))
 | _,_=>none
def isConst:Operand→Bool
 | .const _=>true
 | _=>false
def maxRoom:Nat:=2 ^ 47
def rooms (n bytes:Nat):Bool:=n*bytes≤maxRoom
def base (size:Nat) (σ:St) (x:Operand):Option (Bool×List V×List (Place×V)) :=
 match opd σ.env x with
 | .sl true []=>some (true,[],[])
 | .ex sz n xs=>match tmpOf x with
  | some t=>if sz=size then some (n,xs,[(.slot t,.undef)]) else none
  | none=>none
 | .lent p=>match look σ p with
  | .ex sz n xs=>if sz=size then some (n,xs,[(p,.undef)]) else none
  | _=>none
 | _=>none
def notEx:V→Bool
 | .ex _ _ _=>false
 | _=>true
def frzCells (id:Nat):Nat→List V→List (Place×V)
 | _,[]=>[]
 | off,.ex _ n xs::cs=>(.cell id off,.sl n xs)::frzCells id (off+1) cs
 | off,_::cs=>frzCells id (off+1) cs
def noPl (v:Option V):Option (V×List (Place×V)):=v.map fun v=>(v,[])
def loadAt (i:TI) (σ:St) (p:V):Option (V×List (Place×V)) :=
 match p with
 | .ptr id off=>match ncells σ.heap id with
  | some cs=>match asType i ((cs.drop off).take i.size) with
   | some (.ex _ _ _)=>some (.lent (.cell id off),[])
   | some (.agg ds)=>if ds.all notEx then some (.agg ds,[]) else some (.agg (ds.map frz),frzCells id off ds)
   | v=>noPl v
  | none=>none
 | .rptr cs off=>noPl (asType i ((cs.drop off).take i.size))
 | .xptr p k off=>match look σ p with
  | .ex _ _ xs=>match xs[k]? with
   | some x=>noPl (asType i ((x.cells.drop off).take i.size))
   | none=>none
  | _=>none
 | _=>none
def mkOf (x:V) (cs:List V):V :=
 match x with
 | .agg _=>.agg cs
 | x=>cs.getD 0 x
def isSlot (x:Place×V):Bool :=
 match x.1 with
 | .slot _=>true
 | _=>false
def rewr (q:Place) (v:V):Eff :=
 match q with
 | .slot t=>{val:=.undef,poke:=some (t,v)}
 | .cell id off=>{val:=.undef,mem:=.elem id off v}
def alsoPl (ps:List (Place×V)) (e:Eff):Eff:={val:=e.val,places:=ps++e.places,mem:=e.mem,poke:=e.poke}
def storeAt (i:TI) (σ:St) (p:V) (x:Operand):Option Eff :=
 match p with
 | .ptr id off=>match take σ x,ncells σ.heap id with
  | some (v,ps),some cs=>if v.cells.length=i.size∧off+i.size≤cs.length∧ps.all isSlot=true then some {val:=.undef,places:=ps,mem:=.set id off v.cells} else none
  | _,_=>none
 | .xptr q k off=>match takeDat σ x,look σ q with
  | some (v,ps),.ex sz n xs=>match xs[k]? with
   | some e=>if v.cells.length=i.size∧off+i.size≤e.cells.length∧ps.all (fun y=>isSlot y&&!(y.1==q))=true then
     some (alsoPl ps (rewr q (.ex sz n (xs.set k (mkOf e (setCells e.cells off v.cells)))))) else none
   | none=>none
  | _,_=>none
 | _=>none
def indexAt (T:Types) (i:TI) (σ:St) (x:Operand) (k:Int):Option V :=
 match i.kind with
 | .slice e=>match T e with
  | some ei=>match opd σ.env x with
   | .sl _ xs=>if 0≤k∧k<xs.length∧(xs.getD k.toNat .undef).cells.length=ei.size then some (.rptr (xs.getD k.toNat .undef).cells 0) else none
   | .lent p=>match look σ p with
    | .ex sz _ xs=>if 0≤k∧k<xs.length∧sz=ei.size then some (.xptr p k.toNat 0) else none
    | _=>none
   | .ex sz _ xs=>match tmpOf x with
    | some t=>if 0≤k∧k<xs.length∧sz=ei.size then some (.xptr (.slot t) k.toNat 0) else none
    | none=>none
   | .ref (.arr n) id=>if 0≤k∧k<n then some (.ptr id (k.toNat*ei.size)) else none
   | _=>none
  | none=>none
 | .array n e=>match T e with
  | some ei=>if 0≤k∧k<n then match opd σ.env x with
    | .ptr id off=>some (.ptr id (off+k.toNat*ei.size))
    | .rptr cs off=>some (.rptr cs (off+k.toNat*ei.size))
    | .xptr q j off=>some (.xptr q j (off+k.toNat*ei.size))
    | _=>none
   else none
  | none=>none
 | _=>none
def fill (cs:List V) (place:Nat→Option (Nat×Nat)):List (Nat×V)→Option (List V)
 | []=>some cs
 | (i,v)::rest=>match place i with
  | some (off,size)=>if v.cells.length=size∧off+size≤cs.length then fill (setCells cs off v.cells) place rest else none
  | none=>none
def takes (f:St→Operand→Option (V×List (Place×V))):St→List (Nat×Operand)→Option (List (Nat×V)×List (Place×V))
 | _,[]=>some ([],[])
 | σ,(i,x)::rest=>match f σ x with
  | some (v,ps)=>match takes f (setPlaces σ ps) rest with
   | some (vs,qs)=>some ((i,v)::vs,ps++qs)
   | none=>none
  | none=>none
def elems (z:V) (n:Nat) (vs:List (Nat×V)):List V:=vs.foldl (fun l x=>l.set x.1 x.2) (List.replicate n z)
def views (σ:St):List Operand→Option (List V×List (Place×V))
 | []=>some ([],[])
 | x::rest=>match view σ x,views σ rest with
  | some (v,l),some (vs,m)=>some (v::vs,l++m)
  | _,_=>none
def ptr0:V→List Nat
 | .ptr id _=>[id]
 | .ref _ id=>[id]
 | _=>[]
def ptrId:V→List Nat
 | .ptr id _=>[id]
 | .ref _ id=>[id]
 | .clo _ a b=>(a++b).flatMap ptr0
 | _=>[]
def ptrX:V→List Nat
 | .mp _ vs=>vs.flatMap fun v=>v.cells.flatMap ptrId
 | .lp _ vs _ _ _ _ _=>vs.flatMap fun v=>v.cells.flatMap ptrId
 | v=>ptrId v
def cellIds (H:Heap) (id:Nat):List Nat:=match bcells H id with
 | some cs=>cs.flatMap ptrX
 | none=>[]
def more (H:Heap) (l:List Nat):List Nat:=(l.flatMap (cellIds H)).foldl (fun acc i=>if acc.contains i then acc else acc++[i]) l
def reach (H:Heap):Nat→List Nat→List Nat
 | 0,l=>l
 | n+1,l=>reach H n (more H l)
def argIds (vs:List V):List Nat:=vs.flatMap fun v=>v.cells.flatMap ptrId
def closedK (ks:List Nat) (H:Heap):Bool:=ks.all fun id=>(cellIds H id).all ks.contains
def maskH (ks:List Nat) (H:Heap):Heap:=H.zipIdx.map fun x=>if ks.contains x.2 then x.1 else .dead
def putH (ks:List Nat) (H H':Heap):Heap:=H.zipIdx.map fun x=>if ks.contains x.2 then H'.getD x.2 .dead else x.1
def isDead:B→Bool
 | .dead=>true
 | _=>false
def deadOut (ks:List Nat) (n:Nat) (H:Heap):Bool:=(List.range n).all fun i=>ks.contains i || isDead (H.getD i .dead)
abbrev CallF:=FuncId→List V→Heap→Option (V×Heap)
def yB:Nat:=2 ^ 60
def apartP:V→Bool
 | .ptr _ _=>true
 | .ref _ _=>true
 | v=>flatC v
def apartK:V→Bool
 | .ptr _ _=>true
 | .ref _ _=>true
 | .clo _ a b=>a.all apartP&&b.all apartP
 | .mp _ vs=>vs.all fun v=>v.cells.all apartP
 | v=>apartC v
def apartH (ks:List Nat) (H:Heap):Bool:=ks.all fun id=>match bcells H id with
 | some cs=>cs.all apartK
 | none=>true
def staysB (ks:List Nat) (ps:List (Place×V)) (r:V) (H':Heap):Bool:=!ps.isEmpty&&apart r&&apartH ks H'
def callGo (call:CallF) (σ:St) (f:FuncId) (vs:List V) (ids:List Nat) (ps:List (Place×V)):Option Eff :=
  if vs.all noPtr&&ids.isEmpty then
   match call f vs [] with
   | some (r,[])=>some {val:=r,places:=if apart r then [] else ps}
   | some (r,H1) =>
    let σ1:=setPlaces σ ps
    some {val:=shift σ1.heap.length r,places:=ps,mem:=.all (σ1.heap++H1.map (shiftB σ1.heap.length))}
   | none=>none
  else
   let H:=(setPlaces σ ps).heap
   let ks:=reach H H.length (ids++argIds vs)
   if closedK ks H&&(ids++argIds vs).all ks.contains then
    match call f vs (maskH ks H) with
    | some (r,H')=>if deadOut ks H.length H' then
      if H'.length=H.length then some {val:=r,places:=(if staysB ks ps r H' then [] else ps),mem:=.put ks H'} else some {val:=r,places:=ps,mem:=.all (putH ks H H'++H'.drop H.length)}
     else none
    | none=>none
   else none
def callAt (call:CallF) (σ:St) (f:V) (args:List V) (ps:List (Place×V)):Option Eff :=
 match f with
 | .clo (.func f) first captured=>if Nat.blt f yB then callGo call σ f (first++args++captured) [] ps else none
 | .ref .yld id=>callGo call σ (yB+id) args [id] ps
 | _=>none
def newIds (fr n:Nat):List Nat:=(List.range n).map (·+fr)
def newsGo (call:CallF) (σ:St) (fr n:Nat) (f:FuncId) (vs:List V):Option Eff :=
 if vs.all noPtr=true then
  match call f vs [] with
  | some (r,[])=>some {val:=r}
  | some (r,H1)=>if H1.length=n∧fr+n≤σ.heap.length∧(newIds fr n).all (fun id=>(bcells σ.heap id).isNone)=true then
    some {val:=shift fr r,mem:=.put (newIds fr n) (List.replicate fr .dead++H1.map (shiftB fr))} else none
  | _=>none
 else none
def newsAt (call:CallF) (σ:St) (fr n:Nat) (f:V) (args:List Operand):Option Eff :=
 match views σ args,f with
 | some (vs,[]),.clo (.func f) first captured=>if Nat.blt f yB then newsGo call σ fr n f (first++vs++captured) else none
 | _,_=>none
def isNews (cx:Cx) (c:Call):Option Nat :=
 match cx.news with
 | []=>none
 | l=>match c.callee with
  | .value (.func f)=>l.lookup f
  | _=>none
def toldOf (cx:Cx) (v:V):Option Nat :=
 match v with
 | .clo (.func f) [] []=>cx.told.lookup f
 | _=>none
def deleteAt (sz:Nat) (σ:St) (args:List Operand):Option Eff :=
 match args with
 | [x,i,j]=>match base sz σ x,opd σ.env i,opd σ.env j with
  | some (_,xs,ps),.int .i64 i,.int .i64 j=>if 0≤i∧i≤j∧j≤xs.length∧0<xs.length then some {val:=.ex sz false (xs.take i.toNat++xs.drop j.toNat),places:=ps} else none
  | _,_,_=>none
 | _=>none
def okBelow (n:Nat):V→Bool
 | .ptr id _=>id<n
 | .ref _ id=>id<n
 | .clo _ a b=>(a++b).all fun | .ptr id _=>id<n | .ref _ id=>id<n | _=>true
 | .lent (.cell id _)=>id<n
 | .xptr (.cell id _) _ _=>id<n
 | _=>true
def okBelowV (n:Nat) (v:V):Bool :=
 match v with
 | .tup vs=>vs.all fun v=>v.cells.all (okBelow n)
 | v=>v.cells.all (okBelow n)
def mapOf (σ:St) (v:V):Option (Nat×List V×List V) :=
 match v with
 | .ref .map id=>match bcells σ.heap id with
  | some [.mp ks vs]=>some (id,ks,vs)
  | _=>none
 | _=>none
def mapView (σ:St) (v:V):Option (List V×List V) :=
 match v with
 | .nilm=>some ([],[])
 | .ref .map id=>match bcells σ.heap id with
  | some [.mp ks vs]=>some (ks,vs)
  | _=>none
 | _=>none
def keyFits (i:TI) (k:V):Bool :=
 match i.kind.isAgg,k with
 | true,.agg cs=>(!i.leaves.isEmpty)&&fits i.leaves cs
 | true,_=>false
 | false,k=>leafV i.kind k
def findK (k:V):List V→Option Nat
 | []=>none
 | x::l=>match cellsEqv k.cells x.cells with
  | true=>some 0
  | false=>(findK k l).map (·+1)
def plainM:V→Bool
 | .ex _ _ _ | .lent _ | .xptr _ _ _ | .rptr _ _ | .tup _ | .mp _ _ | .lp _ _ _ _ _ _ _ | .undef | .agg _=>false
 | _=>true
def takeMap (σ:St) (x:Operand):Option (V×List (Place×V)) :=
 match opd σ.env x with
 | .ex _ n xs=>match tmpOf x with
  | some t=>some (.sl n xs,[(.slot t,.sl n xs)])
  | none=>none
 | .lent p=>match look σ p with
  | .ex _ n xs=>some (.sl n xs,[(p,.sl n xs)])
  | _=>none
 | .agg cs=>if cs.all plainM then some (.agg cs,[]) else none
 | v=>if plainM v then some (v,[]) else none
def mapPut (ks vs:List V) (k v:V):V :=
 match findK k ks with
 | some j=>.mp (ks.set j k) (vs.set j v)
 | none=>.mp (ks++[k]) (vs++[v])
def updateAt (T:Types) (σ:St) (t:Nat) (m k x:Operand):Option Eff :=
 match kindOf T t,mapOf σ (opd σ.env m),takeMap σ x with
 | some (.map kt et),some (id,ks,vs),some (v,ps)=>match T kt,T et with
  | some ki,some ei=>if keyFits ki (opd σ.env k)=true∧ks.all (keyFits ki)=true∧v.cells.length=ei.size∧v.cells.all (okBelow (id+1))=true∧ps.all isSlot=true then
    some {val:=.undef,places:=ps,mem:=.set id 0 [mapPut ks vs (opd σ.env k) v]} else none
  | _,_=>none
 | _,_,_=>none
def okV (ok:Bool) (v:V) (b:Bool):V:=match ok with
 | true=>.tup [v,.bool b]
 | false=>v
def lookupAt (T:Types) (σ:St) (t:Nat) (m k:Operand) (ok:Bool):Option V :=
 match kindOf T t with
 | some (.map kt et)=>match T kt,T et with
  | some ki,some ei=>match mapView σ (opd σ.env m) with
   | some (ks,vs)=>if keyFits ki (opd σ.env k)=true∧ks.all (keyFits ki)=true then
     match findK (opd σ.env k) ks with
     | some j=>match vs[j]? with
      | some v=>some (okV ok v true)
      | none=>none
     | none=>some (okV ok ei.zero false)
    else none
   | none=>none
  | _,_=>none
 | _=>none
def killCellsIn (ks:List Nat) (v:V):V :=
 match v with
 | .lent (.cell i o)=>if ks.contains i then .undef else .lent (.cell i o)
 | .xptr (.cell i o) a b=>if ks.contains i then .undef else .xptr (.cell i o) a b
 | v=>v
def cut (n:Nat) (σ:St):St:={env:=σ.env.map fun x=>(x.1,if okBelowV n x.2 then x.2 else .undef),heap:=σ.heap.take n}
def partS (ks:List Nat) (σ:St) (H1:Heap):St:={env:=σ.env.map (fun x=>(x.1,killCellsIn ks x.2)),heap:=putH ks σ.heap H1++H1.drop σ.heap.length}
def placeOf (σ:St) (x:Operand):Option Place :=
 match opd σ.env x with
 | .ex _ _ _=>(tmpOf x).map .slot
 | .lent p=>some p
 | _=>none
def lendFn (cx:Cx) (f:V):Option (FuncId×Nat) :=
 match cx.lend with
 | []=>none
 | l=>match f with
  | .clo (.func g) [] []=>match l.lookup g with
   | some k=>if Nat.blt g yB then some (g,k) else none
   | none=>none
  | _=>none
structure Lent where
 g:FuncId
 k:Nat
 p:Place
 sz:Nat
 xs:List V
 rest:List Operand
def lendOf (cx:Cx) (σ:St) (f:V) (args:List Operand):Option Lent :=
 match lendFn cx f with
 | some (g,k)=>match args.drop k with
  | x::post=>match placeOf σ x with
   | some p=>match look σ p with
    | .ex sz _ xs=>some ⟨g,k,p,sz,xs,args.take k++post⟩
    | _=>none
   | none=>none
  | []=>none
 | none=>none
def amid (k:Nat) (v:V) (vs:List V):List V:=vs.take k++v::vs.drop k
def regroup:List V→List V→List V
 | [],_=>[]
 | x::xs,cs=>mkOf x (cs.take x.cells.length)::regroup xs (cs.drop x.cells.length)
def adoptS (σ:St) (cs:List V):St:={env:=σ.env,heap:=σ.heap++[.cells cs]}
def hides (ks:List Nat):Place→Bool
 | .slot _=>true
 | .cell id _=>!ks.contains id
def lendAt (call:CallF) (σ:St) (f:FuncId) (k:Nat) (p:Place) (sz:Nat) (xs:List V) (rest:List Operand):Option Eff :=
 match views (setPlace σ p .undef) rest with
 | some (vs,ps) =>
  let σ1:=setPlaces (setPlace σ p .undef) ps
  let n:=σ1.heap.length
  let ks:=reach σ1.heap n (argIds vs)
  if closedK ks σ1.heap&&(argIds vs).all ks.contains&&hides ks p then
   match call f (amid k (.ref (.arr xs.length) n) vs) (maskH (n::ks) (σ1.heap++[.cells (xs.flatMap V.cells)])) with
   | some (r,H')=>if deadOut (n::ks) (n+1) H'&&okBelowV n r then
     match bcells H' n with
     | some cs=>if cs.all cellDat&&(cs.length==(xs.flatMap V.cells).length) then
       some {val:=r,places:=(p,.undef)::ps,mem:=.lent (n::ks) n p (.ex sz false (regroup xs cs)) (putH (n::ks) (σ1.heap++[.cells (xs.flatMap V.cells)]) H'++H'.drop (n+1))} else none
     | none=>none
    else none
   | none=>none
  else none
 | none=>none
def glanceOf (cx:Cx) (f:V):Option FuncId :=
 match cx.glance with
 | []=>none
 | l=>match f with
  | .clo (.func g) [] []=>if l.contains g&&Nat.blt g yB then some g else none
  | _=>none
def blurC (v:V):V :=
 match v with
 | .ex _ n xs=>.sl n xs
 | v=>if cellDat v then v else .undef
def glance1 (σ:St) (x:Operand):Option (V×List Nat) :=
 match opd σ.env x with
 | .ptr id off=>match ncells σ.heap id with
  | some cs=>some (.rptr (cs.map blurC) off,[id])
  | none=>none
 | .bool b=>some (.bool b,[])
 | .int k n=>some (.int k n,[])
 | .str s=>some (.str s,[])
 | .agg cs=>if cs.all cellDat then some (.agg cs,[]) else none
 | _=>none
def glances (σ:St):List Operand→Option (List V×List Nat)
 | []=>some ([],[])
 | x::l=>match glance1 σ x,glances σ l with
  | some (v,i),some (vs,is)=>some (v::vs,i++is)
  | _,_=>none
def dimC (v:V):V:=if apartC v then v else .undef
def dimD (v:V):V:=match v with
 | .sl _ _=>.undef
 | v=>dimC v
def dim1:V→V
 | .agg cs=>.agg (cs.map dimD)
 | v=>dimC v
def dim:V→V
 | .tup vs=>.tup (vs.map dim1)
 | v=>dim1 v
def glanceAt (call:CallF) (σ:St) (f:FuncId) (args:List Operand):Option Eff :=
 match glances σ args with
 | some (vs,ks)=>match call f vs [] with
  | some (r,[])=>some {val:=dim r,mem:=.seen ks}
  | _=>none
 | none=>none
def lenV (σ:St) (v:V):Option Nat :=
 match v with
 | .ref (.arr n) _=>some n
 | v=>(content σ v).map fun x=>x.2.length
def lenAt (T:Types) (σ:St) (c:Call):Option Eff :=
 match c.args.toList,c.argTypes.toList with
 | [x],[t]=>match kindOf T t with
  | some .str=>match opd σ.env x with
   | .str s=>some {val:=.int .i64 s.size}
   | _=>none
  | some (.array n _)=>some {val:=.int .i64 n}
  | some (.slice _)=>match lenV σ (opd σ.env x) with
   | some n=>some {val:=.int .i64 n}
   | none=>none
  | some (.map _ _)=>match mapView σ (opd σ.env x) with
   | some (ks,_)=>some {val:=.int .i64 ks.length}
   | none=>none
  | _=>none
 | _,_=>none
def appendAt (T:Types) (σ:St) (c:Call):Option Eff :=
 match c.args.toList,c.argTypes.toList with
 | [s,x],[t,tx]=>match kindOf T t,kindOf T tx with
  | some (.slice e),some (.slice _)=>match T e with
   | some ei=>match base ei.size σ s,contentT ei σ (opd σ.env x) with
    | some (n,xs,ps),some (_,ys)=>if rooms (xs.length+ys.length) ei.bytes=true∧0<ei.size∧xs.length+ys.length<2 ^ 62∧(ys.all fun y=>y.cells.length==ei.size)=true
     then some {val:=.ex ei.size (n&&ys.isEmpty) (xs++ys),places:=ps} else none
    | _,_=>none
   | none=>none
  | _,_=>none
 | _,_=>none
def mmAt (big:Bool) (σ:St) (c:Call):Option Eff :=
 match c.args.toList with
 | [x,y]=>match opd σ.env x,opd σ.env y with
  | .int k a,.int _ b=>some {val:=.int k (if (if big then b>a else b<a) then b else a)}
  | _,_=>none
 | _=>none
def builtinAt (T:Types) (σ:St) (b:Builtin) (c:Call):Option Eff :=
 match b with
 | .len=>lenAt T σ c
 | .append=>appendAt T σ c
 | .max=>mmAt true σ c
 | .min=>mmAt false σ c
 | _=>none
def capOk:V→Bool
 | .ptr _ _ | .ref _ _ | .bool _ | .int _ _ | .str _ | .nilp | .nilf | .nilm | .sl _ _=>true
 | _=>false
def assignAt (cx:Cx) (σ:St) (d:Nat) (x:Operand):Option Eff :=
 match opd σ.env x with
 | .ex sz n xs=>match tmpOf x with
  | some t=>if cx.mu.contains d then some {val:=.ex sz n xs,places:=[(.slot t,.undef)]} else some {val:=.sl n xs,places:=[(.slot t,.sl n xs)]}
  | none=>none
 | .lent p=>match look σ p with
  | .ex sz n xs=>if cx.mu.contains d then some {val:=.ex sz n xs,places:=[(p,.undef)]} else some {val:=.sl n xs,places:=[(p,.sl n xs)]}
  | _=>none
 | .agg cs=>if cs.all cellDat then some {val:=.agg cs} else match tmpOf x with
  | some t=>some {val:=.agg cs,places:=[(.slot t,.undef)]}
  | none=>none
 | .tup _=>none
 | .sl true []=>match cx.msz d with
  | some sz=>some {val:=.ex sz true []}
  | none=>some {val:=.sl true []}
 | v=>some {val:=v}
def moveAt (σ:St) (x:Operand):Option Eff :=
 match opd σ.env x with
 | .ex _ _ _=>match tmpOf x with
  | some t=>some {val:=.lent (.slot t)}
  | none=>none
 | .agg cs=>if cs.all cellDat then some {val:=.agg cs} else none
 | .tup vs=>match tmpOf x with
  | some t=>some {val:=.tup vs,places:=[(.slot t,.undef)]}
  | none=>none
 | v=>some {val:=v}
def numOf (σ:St) (o:Option Operand) (d:Int):Option Int:=match o with
 | none=>some d
 | some x=>match opd σ.env x with
  | .int _ n=>some n
  | _=>none
def sliceAt (T:Types) (σ:St) (t:Nat) (x:Operand) (lo hi mx:Option Operand):Option Eff :=
 match kindOf T t with
 | some (.slice e)=>match opd σ.env x with
  | .sl n xs=>match T e,numOf σ lo 0,numOf σ hi xs.length with
   | some ei,some l,some h =>
    if 0≤l∧l≤h∧h≤xs.length∧xs.all (fun x=>x.cells.length==ei.size)=true then
     match mx with
     | none=>some {val:=.sl n ((xs.drop l.toNat).take (h.toNat-l.toNat))}
     | some m=>if hi.isSome∧numOf σ (some m) 0=some l∧h=l then some {val:=.ex ei.size n []} else none
    else none
   | _,_,_=>none
  | _=>none
 | _=>none
def buildRef (T:Types) (σ:St) (e len:Nat) (parts:List (Nat×Operand)):Option Eff :=
 match takes takeMap σ parts,T e with
 | some (vs,[]),some ei=>if (decide (0<ei.size)&&decide (0<len)&&decide (len*ei.size≤2 ^ 24)&&(vs.map (·.1)==List.range len)&&vs.all fun x=>x.2.cells.length==ei.size&&x.2.cells.all (okBelow (σ.heap.length+1)))=true
   then some {val:=.ref (.arr len) σ.heap.length,mem:=.all (σ.heap++[.cells (vs.flatMap fun x=>x.2.cells)])} else none
 | _,_=>none
def eff (T:Types) (call:CallF) (cx:Cx) (fresh:Nat) (o:Oper) (σ:St):Option Eff :=
 match o.op with
 | .move x=>moveAt σ x
 | .assign x=>match o.dst with
  | some d=>assignAt cx σ d x
  | none=>none
 | .pick c a b=>match opd σ.env c with
  | .bool t=>match (if t then opd σ.env a else opd σ.env b) with
   | .bool r=>some {val:=.bool r}
   | .int k n=>some {val:=.int k n}
   | _=>none
  | _=>none
 | .alloc t=>match T t with
  | some i=>if fresh<σ.heap.length∧bcells σ.heap fresh=none∧i.zero.cells.all (okBelow (fresh+1))=true then some {val:=.ptr fresh 0,mem:=.init fresh i.zero.cells} else none
  | none=>none
 | .box t x=>match T t,take σ x with
  | some i,some (v,ps)=>if fresh<σ.heap.length∧bcells σ.heap fresh=none∧(v.cells.all (okBelow (fresh+1))&&v.cells.length==i.size&&ps.all isSlot)=true then some {val:=.ptr fresh 0,places:=ps,mem:=.init fresh v.cells} else none
  | _,_=>none
 | .build t parts=>match T t,takes take σ parts.toList with
  | some i,some (vs,ps) =>
   match i.kind with
   | .struct fs=>if !(fs.all fun g=>(T g.2).isSome) then none else match fill i.zero.cells (fun j=>match fs[j]? with
     | some (off,ft)=>(T ft).map fun fi=>(off,fi.size)
     | none=>none) vs with
    | some cs=>some {val:=.agg cs,places:=ps}
    | none=>none
   | .array _ e=>match T e with
    | some ei=>match fill i.zero.cells (fun j=>some (j*ei.size,ei.size)) vs with
     | some cs=>some {val:=.agg cs,places:=ps}
     | none=>none
    | none=>none
   | _=>none
  | _,_=>none
 | .buildSlice t len parts=>match kindOf T t,takes takeDat σ parts.toList with
  | some (.slice e),some (vs,ps)=>match T e with
   | some ei=>if len*ei.size≤2 ^ 24&&(0<ei.size)&&(vs.all fun (i,v)=>i<len&&v.cells.length==ei.size)&&ei.zero.dat&&ei.zero.cells.length==ei.size
    then some {val:=.ex ei.size false (elems ei.zero len vs),places:=ps} else none
   | none=>none
  | some (.slice e),none=>buildRef T σ e len parts.toList
  | _,_=>none
 | .load t p=>match T t with
  | some i=>(loadAt i σ (opd σ.env p)).map fun x=>{val:=x.1,places:=x.2}
  | none=>none
 | .store t p x=>match T t with
  | some i=>match storeAt i σ (opd σ.env p) x with
   | some e=>match e.mem with
    | .set id _ cs=>if cs.all (okBelow (id+1)) then some e else none
    | _=>some e
   | none=>none
  | none=>none
 | .nilCheck x=>match opd σ.env x with
  | .ptr id off=>some {val:=.ptr id off}
  | .rptr cs off=>some {val:=.rptr cs off}
  | .xptr q k off=>some {val:=.xptr q k off}
  | _=>none
 | .binOp op t x y _=>match T t with
  | some i=>(vbinop op i (isConst x || isConst y) σ (opd σ.env x) (opd σ.env y)).map fun v=>{val:=v}
  | none=>none
 | .unOp op _ x=>(vun op (opd σ.env x)).map fun v=>{val:=v}
 | .convert src dst x=>match kindOf T src,kindOf T dst,opd σ.env x with
  | some (.int _),some (.int k),.int _ n=>some {val:=.int k (k.wrap n)}
  | _,_,_=>none
 | .makeFunc fn first captured =>
  let a:=first.toList.map (opd σ.env)
  let b:=captured.toList.map (opd σ.env)
  if (a++b).all capOk then some {val:=.clo fn a b} else none
 | .slice t x lo hi mx=>sliceAt T σ t x lo hi mx
 | .fieldAddr t p f=>match kindOf T t,opd σ.env p with
  | some (.struct fs),v=>match fs[f]? with
   | some (off,ft)=>match T ft with
    | some fi=>if 0<fi.size then match v with
     | .ptr id o=>some {val:=.ptr id (o+off)}
     | .rptr cs o=>some {val:=.rptr cs (o+off)}
     | .xptr q k o=>some {val:=.xptr q k (o+off)}
     | _=>none
     else none
    | none=>none
   | none=>none
  | _,_=>none
 | .field t x f=>match kindOf T t,opd σ.env x with
  | some (.struct fs),.agg cs=>match fs[f]? with
   | some (off,ft)=>match T ft with
    | some fi=>if cs.all cellDat=true∧0<fi.size then (asType fi ((cs.drop off).take fi.size)).map fun v=>{val:=v} else none
    | none=>none
   | none=>none
  | _,_=>none
 | .indexAddr t x k=>match T t,opd σ.env k with
  | some i,.int _ k=>(indexAt T i σ x k).map fun v=>{val:=v}
  | _,_=>none
 | .index t x k=>match T t,opd σ.env x,opd σ.env k with
  | some i,.agg cs,.int _ k=>match i.kind with
   | .array n e=>match T e with
    | some ei=>if 0≤k∧k<n∧cs.all cellDat=true∧0<ei.size then (asType ei ((cs.drop (k.toNat*ei.size)).take ei.size)).map fun v=>{val:=v} else none
    | none=>none
   | _=>none
  | some i,.str s,.int _ k=>match i.kind with
   | .str=>match (if 0≤k then s[k.toNat]? else none) with
    | some b=>some {val:=.int .u8 b.toNat}
    | none=>none
   | _=>none
  | _,_,_=>none
 | .extract x j=>match opd σ.env x,tmpOf x with
  | .tup vs,some t=>match vs[j]? with
   | some v=>if v.dat then some {val:=v} else some {val:=v,places:=[(.slot t,.tup (vs.set j .undef))]}
   | none=>none
  | _,_=>none
 | .call c=>match c.callee with
  | .builtin b=>builtinAt T σ b c
  | .value f=>match toldOf cx (opd σ.env f) with
   | some sz=>deleteAt sz σ c.args.toList
   | none=>match isNews cx c with
    | some n=>newsAt call σ fresh n (opd σ.env f) c.args.toList
    | none=>match glanceOf cx (opd σ.env f),lendOf cx σ (opd σ.env f) c.args.toList with
     | some g,_=>glanceAt call σ g c.args.toList
     | none,some ⟨g,k,p,sz,x::xs,rest⟩=>lendAt call σ g k p sz (x::xs) rest
     | none,_=>match views σ c.args.toList with
      | some (vs,ps)=>callAt call σ (opd σ.env f) vs ps
      | none=>none
  | _=>none
 | .makeMap t r=>match kindOf T t,r with
  | some (.map _ _),none=>if fresh<σ.heap.length∧bcells σ.heap fresh=none then some {val:=.ref .map fresh,mem:=.init fresh [.mp [] []]} else none
  | some (.map _ _),some n=>match opd σ.env n with
   | .int _ _=>if fresh<σ.heap.length∧bcells σ.heap fresh=none then some {val:=.ref .map fresh,mem:=.init fresh [.mp [] []]} else none
   | _=>none
  | _,_=>none
 | .insert t m k x=>updateAt T σ t m k x
 | .mapUpdate t m k x=>updateAt T σ t m k x
 | .lookup t m k ok=>(lookupAt T σ t m k ok).map fun v=>{val:=v}
 | .makeSlice t l c=>match kindOf T t,opd σ.env l,opd σ.env c with
  | some (.slice e),.int _ l,.int _ c=>match T e with
   | some ei=>if 0≤l∧l≤c∧rooms c.toNat ei.bytes=true∧c<2 ^ 62∧0<ei.size∧ei.zero.dat=true∧ei.zero.cells.length=ei.size then some {val:=.ex ei.size false (List.replicate l.toNat ei.zero)} else none
   | none=>none
  | _,_,_=>none
 | _=>none
def isFresh (o:Oper):Bool :=
 match o.op with
 | .alloc _ | .box _ _ | .makeMap _ _=>true
 | _=>false
def takesB (cx:Cx) (o:Oper):Nat :=
 match o.op with
 | .call c=>(isNews cx c).getD 0
 | _=>if isFresh o then 1 else 0
def rank (cx:Cx):List Oper→Nat
 | []=>0
 | o::l=>takesB cx o+rank cx l
def killIn (id off n:Nat) (v:V):V :=
 match v with
 | .lent (.cell i o)=>if i=id∧off≤o∧o<off+n then .undef else v
 | .xptr (.cell i o) _ _=>if i=id∧off≤o∧o<off+n then .undef else v
 | v=>v
def killCell (v:V):V :=
 match v with
 | .lent (.cell _ _)=>.undef
 | .xptr (.cell _ _) _ _=>.undef
 | v=>v
def setMem (σ:St):HE→St
 | .keep=>σ
 | .set id off cs=>{env:=σ.env.map (fun x=>(x.1,killIn id off cs.length x.2)),heap:=match bcells σ.heap id with
  | some ds=>σ.heap.set id (.cells (setCells ds off cs))
  | none=>σ.heap}
 | .init id cs=>{σ with heap:=σ.heap.set id (.cells cs)}
 | .all H=>{env:=σ.env.map (fun x=>(x.1,killCell x.2)),heap:=H}
 | .put ks H'=>{env:=σ.env.map (fun x=>(x.1,killCellsIn ks x.2)),heap:=putH ks σ.heap H'}
 | .seen _=>σ
 | .elem id off v=>match bcells σ.heap id with
  | some cs=>{σ with heap:=σ.heap.set id (.cells (cs.set off v))}
  | none=>σ
 | .lent ks n p v H=>setPlace (cut n {env:=σ.env.map (fun x=>(x.1,killCellsIn ks x.2)),heap:=H}) p v
def put (σ:St) (d:Option Nat) (v:V):St :=
 match d with
 | some d=>{σ with env:=(d,v)::kill (.slot d) σ.env}
 | none=>σ
def pokeS (σ:St):Option (Nat×V)→St
 | some (t,v)=>{σ with env:=(t,v)::σ.env}
 | none=>σ
def apply (σ:St) (d:Option Nat) (e:Eff):St:=put (setMem (setPlaces (pokeS σ e.poke) e.places) e.mem) d e.val
def wants (ops:Array Oper) (env:Env) (o:Oper):Option Bool :=
 match o.guard with
 | none=>some true
 | some (j,want)=>match (ops[j]?).bind (·.dst) with
  | some t=>match get env t with
   | .bool b=>some (b==want)
   | .tup []=>some false
   | _=>none
  | none=>none
def effG (T:Types) (call:CallF) (cx:Cx) (ops:Array Oper) (fresh:Nat) (o:Oper) (σ:St):Option Eff :=
 match wants ops σ.env o with
 | some true=>match eff T call cx fresh o σ with
  | some e=>if (match o.dst with | some d=>e.val.refsTo (.slot d) | none=>false) then none else some e
  | none=>none
 | some false=>some {val:=.tup []}
 | none=>none
def vop (T:Types) (call:CallF) (cx:Cx) (ops:Array Oper) (fresh:Nat) (o:Oper) (σ:St):Option St :=
 (effG T call cx ops fresh o σ).map (apply σ o.dst)
def vops (T:Types) (call:CallF) (cx:Cx) (ops:Array Oper):Nat→List Oper→St→Option St
 | _,[],σ=>some σ
 | fresh,o::rest,σ=>(vop T call cx ops fresh o σ).bind (vops T call cx ops (fresh+takesB cx o) rest)
def slotRef:V→Option Nat
 | .lent (.slot t)=>some t
 | .xptr (.slot t) _ _=>some t
 | _=>none
def prune (k:Option (List Nat)) (σ:St):St :=
 match k with
 | none=>σ
 | some l =>
  let env:=l.map fun t=>(t,get σ.env t)
  {σ with env:=env++(env.filterMap fun x=>slotRef x.2).map fun t=>(t,get σ.env t)}
def keepN (env:Env):Nat→Nat→Nat
 | 0,n=>n
 | d+1,n=>match env.all fun x=>okBelowV n x.2 with
  | true=>n
  | false=>keepN env d (n+1)
def back (n:Nat) (σ:St):St:=cut (keepN σ.env (σ.heap.length-n) n) σ
theorem keepN_le (env:Env):∀ d n,n≤keepN env d n
 | 0,n=>Nat.le_refl n
 | d+1,n=>by
  simp only[keepN];split
  ·exact Nat.le_refl n
  ·exact Nat.le_trans (Nat.le_succ n) (keepN_le env d (n+1))
inductive Res where
 | slot (t:Nat)
 | body (t:Nat)
 | blk (id:Nat)
 | top
 deriving DecidableEq
def plRes:Place→Res
 | .slot t=>.slot t
 | .cell id _=>.blk id
def bodyRes:Place→List Res
 | .slot t=>[.body t]
 | .cell _ _=>[]
def refBodies:V→List Res
 | .lent p=>bodyRes p
 | .xptr p _ _=>bodyRes p
 | _=>[]
def refRes:V→List Res
 | .lent p=>[plRes p]
 | .xptr p _ _=>[plRes p]
 | _=>[]
def writes (d:Option Nat) (e:Eff):List Res :=
 (match d with | some d=>[.slot d,.body d] | none=>[])++e.places.flatMap (fun x=>plRes x.1::bodyRes x.1)++(match e.poke with | some (t,_)=>[.body t] | none=>[])++(match e.mem with | .keep=>[] | .set id _ _=>[.blk id] | .init id _=>[.blk id] | .all _=>[.top] | .seen _=>[] | .elem id _ _=>[.blk id] | .lent _ _ _ _ _=>[.top] | .put ks _=>ks.map .blk)
def calm (o:Oper) (e:Eff):Bool :=
 (match e.mem with | .all _=>false | .lent _ _ _ _ _=>false | _=>true)&&(match o.op with | .build _ _=>e.places.isEmpty | .buildSlice _ _ _=>e.places.isEmpty | _=>true)
def rd (env:Env) (o:Oper):List Operand :=
 match o.op with
 | .pick c a b=>match opd env c with
  | .bool t=>[c,if t then a else b]
  | _=>[c,a,b]
 | op=>op.operands.toList
def derefs (o:Oper):Bool:=match o.op with
 | .load _ _ | .store _ _ _ | .insert _ _ _ _ | .mapUpdate _ _ _ _ | .lookup _ _ _ _=>true
 | .call c=>match c.callee with
  | .builtin .len=>true
  | .builtin .append=>true
  | _=>false
 | _=>false
def blkOf:V→Option Nat
 | .ptr id _=>some id
 | .ref .map id=>some id
 | .ref (.arr _) id=>some id
 | _=>none
def light (o:Oper):Bool:=match o.op with
 | .move _ | .indexAddr _ _ _=>true
 | .call c=>match c.callee with
  | .builtin .len=>true
  | _=>false
 | _=>false
def opReads (b l:Bool) (env:Env) (x:Operand):List Res :=
 (match x with | .tmp t=>if l then [.slot t] else [.slot t,.body t] | _=>[])++refRes (opd env x)++(if l then [] else refBodies (opd env x))++(match b,blkOf (opd env x) with | true,some id=>[.blk id] | _,_=>[])
def guardSlot (ops:Array Oper) (o:Oper):Option Nat :=
 match o.guard with
 | some (j,_)=>(ops[j]?).bind (·.dst)
 | none=>none
def rdG (ops:Array Oper) (env:Env) (o:Oper):List Operand :=
 match wants ops env o with
 | some false=>[]
 | _=>rd env o
def lookK:HE→Option (List Nat)
 | .put ks _=>some ks
 | .seen ks=>some ks
 | _=>none
def memReads (e:Eff):List Res:=match lookK e.mem with
 | some ks=>ks.map .blk
 | none=>[]
def reads (ops:Array Oper) (fr:Nat) (o:Oper) (env:Env) (e:Eff):List Res :=
 memReads e++(rdG ops env o).flatMap (opReads (derefs o) (light o) env)++(match guardSlot ops o with | some t=>[.slot t] | none=>[])++(if isFresh o then [.blk fr] else [])
def isEx:V→Bool
 | .ex _ _ _=>true
 | _=>false
def isUndef:V→Bool
 | .undef=>true
 | _=>false
def seen (σ:St) (x:Operand):Bool :=
 !(isUndef (opd σ.env x))&&(match opd σ.env x with | .lent p=>isEx (look σ p) | .xptr p _ _=>isEx (look σ p) | _=>true)
def ancStep (anc:List Nat) (o:Oper):Nat:=o.after.toList.foldl (fun b e=>if Region.binds .any e then b ||| 2 ^ e.on ||| anc.getD e.on 0 else b) 0
def ancs:List Oper→List Nat→List Nat
 | [],acc=>acc
 | o::os,acc=>ancs os (acc++[ancStep acc o])
def depB (ops:Array Oper) (j i:Nat):Bool:=((ancs ops.toList []).getD j 0).testBit i
def isWayB:V→Bool
 | .lent _ | .xptr _ _ _=>true
 | _=>false
def tameB (e:Eff):Bool:=e.places.all (fun x=>!isWayB x.2)&&(match e.poke with | some (_,v)=>isEx v | none=>true)&&(match e.mem with | .all _=>false | .lent _ _ _ _ _=>false | _=>true)
def wildOp (o:Oper):Bool:=match o.op with
 | .call _ | .build _ _ | .buildSlice _ _ _=>true
 | _=>false
def drawRun (T:Types) (call:CallF) (cx:Cx) (ops:Array Oper):Nat→List Oper→St→Option (St×List (List Res×List Res))
 | _,[],σ=>some (σ,[])
 | fr,o::rest,σ=>match effG T call cx ops fr o σ with
  | some e=>if tameB e&&calm o e&&(rdG ops σ.env o).all (seen σ)&&(refRes e.val).all (fun r=>(reads ops fr o σ.env e).contains r) then
    (drawRun T call cx ops (fr+takesB cx o) rest (apply σ o.dst e)).map fun (σ',l)=>(σ',(reads ops fr o σ.env e,writes o.dst e)::l)
   else if wildOp o then
    (drawRun T call cx ops (fr+takesB cx o) rest (apply σ o.dst e)).map fun (σ',l)=>(σ',([.top],[.top])::l)
   else none
  | none=>none
def apartB (x y:List Res×List Res):Bool :=
 !x.1.contains .top&&!y.1.contains .top&&x.2.all (fun r=>!y.1.contains r)&&y.2.all (fun r=>!x.1.contains r)&&x.2.all (fun r=>!y.2.contains r)
def fpAt (l:List (List Res×List Res)) (i:Nat):List Res×List Res:=l.getD i ([],[])
def reserve (cx:Cx) (ops:Array Oper) (σ:St):St:={σ with heap:=σ.heap++List.replicate (rank cx ops.toList) .dead}
def vregion (T:Types) (call:CallF) (cx:Cx) (id:Nat) (ops:Array Oper) (draw:Bool) (σ:St):Option St :=
 match draw with
 | false=>(vops T call cx ops σ.heap.length ops.toList (reserve cx ops σ)).map (prune (cx.keep id))
 | true=>match drawRun T call cx ops σ.heap.length ops.toList (reserve cx ops σ) with
  | some (σ',fps)=>if (cx.free id).all (fun x=>apartB (fpAt fps x.1) (fpAt fps x.2)) then some (prune (cx.keep id) σ') else none
  | none=>none
def firstRegion:Code→Nat
 | .region id _ _=>id
 | .seq a _=>firstRegion a
 | .block _ b=>firstRegion b
 | .scope b=>firstRegion b
 | .loop b=>firstRegion b
 | _=>0
abbrev Step:=St→Option (Ex×St)
def rounds (step:Step):Nat→Step
 | 0,_=>none
 | n+1,σ=>match step σ with
  | some (.normal,σ')=>rounds step n σ'
  | r=>r
def forRound (n:Nat) (v:V):V :=
 match v with
 | .agg cs=>if cs.all plainM&&cs.all (okBelow n) then .agg cs else .undef
 | .rptr cs off=>.rptr cs off
 | v=>if plainM v&&okBelow n v then v else .undef
def rangeIn (cx:Cx) (ps:List Nat) (asg body:Code) (σ:St):Heap :=
 let ts:=(cx.head (firstRegion (.seq asg body))).getD []
 σ.heap++[.cells [.lp ts (ts.map fun t=>forRound (σ.heap.length+1) (get σ.env t)) ps asg body cx .ready]]
def rangeOut (σ:St) (ks:List Nat) (H0 H':Heap):Option (Ex×St) :=
 if deadOut ks H0.length H' then
  match bcells H' σ.heap.length with
  | some [.lp _ _ _ _ _ _ st] =>
   let σ':=cut σ.heap.length {env:=σ.env.map (fun x=>(x.1,killCellsIn ks x.2)),heap:=putH ks H0 H'++H'.drop H0.length}
   match st with
   | .ready=>some (.normal,σ')
   | .busy=>none
   | .done ex=>some (ex,σ')
  | _=>none
 else none
def vcode (T:Types) (call:CallF) (lp:Step→Step) (cx:Cx):Code→Step
 | .skip,σ=>some (.normal,σ)
 | .region id ops draw,σ=>(vregion T call cx id ops draw σ).map fun σ'=>(.normal,σ')
 | .seq a b,σ=>match vcode T call lp cx a σ with
  | some (.normal,σ')=>vcode T call lp cx b σ'
  | r=>r
 | .cond c a b,σ=>match opd σ.env c with
  | .bool t=>if t then vcode T call lp cx a σ else vcode T call lp cx b σ
  | _=>none
 | .block id b,σ=>match vcode T call lp cx b σ with
  | some (.exit i,σ')=>if i=id then some (.normal,σ') else some (.exit i,σ')
  | r=>r
 | .exit id,σ=>some (.exit id,σ)
 | .ret,σ=>some (.ret,σ)
 | .loop b,σ=>lp (fun τ=>match vcode T call lp cx b τ with
   | some (.normal,τ')=>some (.normal,back σ.heap.length (prune (cx.head (firstRegion b)) τ'))
   | r=>r) (prune (cx.head (firstRegion b)) σ)
 | .rangeFunc g ps asg body,σ=>match cx.rnd,opd σ.env g with
  | false,.clo (.func f) first captured =>
   let H0:=rangeIn cx ps.toList asg body σ
   let vs:=first++[.ref .yld σ.heap.length]++captured
   let ks:=reach H0 H0.length (argIds vs)
   if closedK ks H0&&(argIds vs).all ks.contains&&Nat.blt f yB then
    match call f vs (maskH ks H0) with
    | some (_,H')=>rangeOut σ ks H0 H'
    | none=>none
   else none
  | _,_=>none
 | .scope b,σ=>vcode T call lp cx b σ
 | .label _,σ=>some (.normal,σ)
 | _,_=>none
structure FI where
 body:Code
 results:List ResultVar
 cx:Cx
abbrev Fns:=FuncId→Option FI
def bodyOf (f:Func):Code:=match f.body with
 | some c=>c
 | none=>.skip
def outAt (T:Types) (σ:St):ResultVar→Option (V×List (Place×V))
 | .tmp t=>match get σ.env t with
  | .lent p=>match look σ p with
   | .ex sz n xs=>some (.ex sz n xs,[(p,.undef)])
   | _=>none
  | .xptr _ _ _=>none
  | .tup _=>none
  | v=>some (v,[(.slot t,.undef)])
 | .cell x t=>match T t,get σ.env x with
  | some i,.ptr id off=>match ncells σ.heap id with
   | some cs=>match asType i ((cs.drop off).take i.size) with
    | some (.ex sz n xs)=>some (.ex sz n xs,[(.cell id off,.undef)])
    | some v=>if ((cs.drop off).take i.size).all notEx then some (v,[]) else none
    | none=>none
   | none=>none
  | _,_=>none
def outs (T:Types):List ResultVar→St→Option (List V×St)
 | [],σ=>some ([],σ)
 | r::rest,σ=>match outAt T σ r with
  | some (v,ps)=>(outs T rest (setPlaces σ ps)).map fun (vs,σ')=>(v::vs,σ')
  | none=>none
def asResult:List V→V
 | [v]=>v
 | vs=>.tup vs
def leave (T:Types) (results:List ResultVar) (n:Nat) (σ:St):Option (V×Heap) :=
 match outs T results σ with
 | some (vs,σ')=>some (asResult vs,if okBelowV n (asResult vs) then σ'.heap.take n else σ'.heap)
 | none=>none
def enter (args:List V) (H:Heap):St:={env:=args.zipIdx.map fun x=>(x.2,x.1),heap:=H}
def vfun (T:Types) (F:Fns) (call:CallF) (lp:Step→Step) (f:FuncId) (args:List V) (H:Heap):Option (V×Heap) :=
 match F f with
 | none=>none
 | some fi=>match vcode T call lp fi.cx fi.body (enter args H) with
  | some (.exit _,_)=>none
  | some (_,σ)=>leave T fi.results H.length σ
  | none=>none
def vround (T:Types) (F:Fns) (call:CallF) (lp:Step→Step) (id:Nat) (args:List V) (H:Heap):Option (V×Heap) :=
 match bcells H id with
 | some [.lp ts vs ps asg body cx .ready]=>match F cx.self with
  | some fi=>if ps.length=args.length∧cx.told=fi.cx.told then
    match vcode T call lp {cx with rnd:=true} asg {env:=(ps.zip args).reverse++ts.zip vs,heap:=H} with
    | some (.normal,σ1)=>match bcells σ1.heap id with
     | some [.lp ts1 vs1 ps1 asg1 body1 cx1 .ready] =>
      match vcode T call lp {cx with rnd:=true} body (setMem σ1 (.set id 0 [.lp ts1 vs1 ps1 asg1 body1 cx1 .busy])) with
      | some (ex,σ)=>match bcells σ.heap id with
       | some [.lp ts vs ps asg body cx .busy]=>match ex with
        | .normal=>some (.bool true,(setMem σ (.set id 0 [.lp ts vs ps asg body cx .ready])).heap.take H.length)
        | ex=>some (.bool false,(setMem σ (.set id 0 [.lp ts vs ps asg body cx (.done ex)])).heap.take H.length)
       | _=>none
      | none=>none
     | _=>none
    | _=>none
   else none
  | none=>none
 | _=>none
def vany (T:Types) (F:Fns) (call:CallF) (lp:Step→Step) (f:FuncId) (args:List V) (H:Heap):Option (V×Heap) :=
 match F f with
 | some _=>vfun T F call lp f args H
 | none=>if Nat.ble yB f then vround T F call lp (f-yB) args H else none
def backB:Nat→List Oper→Bool
 | _,[]=>true
 | k,o::l=>(o.after.all fun e=>!Region.binds .any e || decide (e.on<k))&&backB (k+1) l
def drawB (ops:Array Oper) (pairs:List (Nat×Nat)):Bool :=
 backB 0 ops.toList&&(List.range ops.size).all fun j=>(List.range j).all fun i=>pairs.contains (i,j) || depB ops j i
def codeB (n:Nat) (cx:Cx):Code→Bool
 | .region id ops draw=>(ops.toList.all fun o=>match o.dst with | some d=>d<n | none=>true)&&(!draw || drawB ops (cx.free id))
 | .seq x y=>codeB n cx x&&codeB n cx y
 | .cond _ x y=>codeB n cx x&&codeB n cx y
 | .block _ x=>codeB n cx x
 | .loop x=>codeB n cx x
 | .scope x=>codeB n cx x
 | .rangeFunc _ ps asg body=>(ps.toList.all fun p=>p<n)&&codeB n cx asg&&codeB n cx body
 | _=>true
end Go.Vm
end
section
namespace Go.Vm
open Go
inductive Loc where
 | im
 | other
 | slot (t i j:Nat)
 | cell (id j:Nat)
 | blk (id:Nat)
 | res (i j:Nat)
 deriving DecidableEq
abbrev Own:=Nat→Loc
inductive FR (own:Own) (w:World):V→Value→Prop where
 | undef (c:Value) (h1:c.oneCell'=true):FR own w .undef c
 | bool (b:Bool):FR own w (.bool b) (.bool b)
 | int (k:IntKind) (n:Int):FR own w (.int k n) (.int k n)
 | str (s:ByteArray):FR own w (.str s) (.string s)
 | nilp:FR own w .nilp (.pointer none)
 | nilf:FR own w .nilf .nilFunc
 | nilm:FR own w .nilm (.map Option.none)
 | nil:FR own w (.sl true []) (.slice none 0 0)
 | none (a:Addr) (cap:Nat):FR own w (.sl false []) (.slice (some a) 0 cap)
 | sl (b o cap sz:Nat) (xs:List V) (cv:Nat→Nat→Value) (him:own b=.im) (hcap:xs.length≤cap)
   (hcells:∀ (i:Nat) (x:V),xs[i]?=some x→x.cells.length=sz∧∀ j,j<sz→w.cell? ⟨b,o+i*sz+j,none⟩=some (cv i j))
   (hfr:∀ (i:Nat) (x:V) (j:Nat) (y:V),xs[i]?=some x→x.cells[j]?=some y→FR own w y (cv i j)) :
   FR own w (.sl false xs) (.slice (some ⟨b,o,none⟩) xs.length cap)
theorem FR.one {own:Own} {w:World} {v:V} {c:Value} (h:FR own w v c):c.oneCell'=true:=by
 cases h<;>first | rfl | assumption
theorem FR.mono {own own':Own} {w w':World} {v:V} {c:Value} (h:FR own w v c)
  (hk:∀ b,own b=.im→own' b=.im∧w'.heap[b]?=w.heap[b]?):FR own' w' v c:=by
 induction h with
 | undef c h1=>exact .undef c h1
 | bool b=>exact .bool b
 | int k n=>exact .int k n
 | str s=>exact .str s
 | nilp=>exact .nilp
 | nilf=>exact .nilf
 | nilm=>exact .nilm
 | nil=>exact .nil
 | none a cap=>exact .none a cap
 | sl b o cap sz xs cv him hcap hcells hfr ih =>
  obtain⟨h1,h2⟩:=hk b him;refine .sl b o cap sz xs cv h1 hcap (fun i x hx=>⟨(hcells i x hx).1,fun j hj=>?_⟩) ih
  rw[World.cell?_of_block (w:=w) (by exact h2)]
  exact (hcells i x hx).2 j hj
def Lay (own:Own) (w:World) (sz:Nat) (xs:List V) (arr:Array Value):Prop :=
 ∀ (i:Nat) (x:V),xs[i]?=some x→x.cells.length=sz∧∀ (j:Nat) (y:V) (c:Value),x.cells[j]?=some y→arr[i*sz+j]?=some c→FR own w y c
def EXR (own:Own) (w:World) (l:Loc) (sz:Nat) (n:Bool) (xs:List V) (c:Value):Prop :=
 (xs=[]∧n=true∧c=.slice none 0 0)∨(xs=[]∧n=false∧∃ a,c=.slice (some a) 0 0) ∨
 (n=false∧∃ b cap T arr,c=.slice (some ⟨b,0,none⟩) xs.length cap∧own b=l∧w.heap[b]?=some (.cells arr T (0,0)) ∧
  xs.length≤cap∧arr.size=cap*sz∧Lay own w sz xs arr)
def refVal (m:RK) (b:Nat) (c:Value):Prop:=match m with
 | .map=>c=.map (some b)
 | .yld=>c=.func (.yield b) #[] #[]
 | .arr n=>∃ cap,n≤cap∧c=.slice (some ⟨b,0,none⟩) n cap
def PR (own:Own) (β:Nat→Nat) (w:World) (v:V) (c:Value):Prop :=
 match v with
 | .ptr id off=>c=.pointer (some ⟨β id,off,none⟩)∧own (β id)=.blk id
 | .ref m id=>refVal m (β id) c∧own (β id)=.blk id
 | v=>FR own w v c
def CR (own:Own) (β:Nat→Nat) (w:World) (l:Loc) (v:V) (c:Value):Prop :=
 match v with
 | .ptr id off=>c=.pointer (some ⟨β id,off,none⟩)∧own (β id)=.blk id
 | .ref m id=>refVal m (β id) c∧own (β id)=.blk id
 | .ex sz n xs=>EXR own w l sz n xs c
 | .clo fn a b=>∃ ca cb:Array Value,c=.func fn ca cb∧ca.size=a.length∧cb.size=b.length ∧
   (∀ (j:Nat) (v:V) (c:Value),a[j]?=some v→ca[j]?=some c→PR own β w v c)∧(∀ (j:Nat) (v:V) (c:Value),b[j]?=some v→cb[j]?=some c→PR own β w v c)
 | v=>FR own w v c
theorem EXR.one {own:Own} {w:World} {l:Loc} {sz:Nat} {n:Bool} {xs:List V} {c:Value} (h:EXR own w l sz n xs c):c.oneCell'=true:=by
 rcases h with ⟨_,_,rfl⟩ | ⟨_,_,_,rfl⟩ | ⟨_,_,_,_,_,rfl,_⟩<;>rfl
theorem refVal_one {m:RK} {b:Nat} {c:Value} (h:refVal m b c):c.oneCell'=true:=by
 cases m
 ·rw[h];rfl
 ·rw[h];rfl
 ·obtain⟨cap,_,h⟩:=h;rw[h];rfl
theorem CR.one {own:Own} {β:Nat→Nat} {w:World} {l:Loc} {v:V} {c:Value} (h:CR own β w l v c):c.oneCell'=true:=by
 cases v<;>simp only[CR] at h<;>first
  | exact FR.one h
  | (obtain⟨rfl,_⟩:=h;rfl)
  | exact refVal_one h.1
  | exact EXR.one h
  | (obtain⟨_,_,rfl,_⟩:=h;rfl)
def VR (own:Own) (β:Nat→Nat) (w:World) (L:Nat→Loc) (v:V) (c:Value):Prop :=
 match v with
 | .undef=>True
 | .agg cs=>∃ arr,c=.agg arr∧arr.size=cs.length∧∀ (j:Nat) (v:V) (c:Value),cs[j]?=some v→arr[j]?=some c→CR own β w (L j) v c
 | .rptr cs off=>∃ b o,c=.pointer (some ⟨b,o+off,none⟩)∧own b=.im∧∀ (j:Nat) (v:V),cs[j]?=some v→∃ c',w.cell? ⟨b,o+j,none⟩=some c'∧FR own w v c'
 | v=>CR own β w (L 0) v c
def TR (own:Own) (β:Nat→Nat) (w:World) (L:Nat→Nat→Loc) (v:V) (c:Value):Prop :=
 match v with
 | .tup vs=>∃ arr,c=.tuple arr∧arr.size=vs.length∧∀ (i:Nat) (v:V) (c:Value),vs[i]?=some v→arr[i]?=some c→VR own β w (L i) v c
 | v=>VR own β w (L 0) v c
def locOf:Place→Loc
 | .slot t=>.slot t 0 0
 | .cell id off=>.cell id off
def conc (β:Nat→Nat) (tmps:Array Value) (w:World):Place→Option Value
 | .slot t=>some (tmps.getD t undef)
 | .cell id off=>w.cell? ⟨β id,off,none⟩
def ER (own:Own) (β:Nat→Nat) (w:World) (σ:St) (tmps:Array Value) (t:Nat) (v:V) (c:Value):Prop :=
 match v with
 | .lent p=>∃ sz n xs,look σ p=.ex sz n xs∧conc β tmps w p=some c
 | .xptr p i off=>∃ sz n xs b len cap,look σ p=.ex sz n xs∧conc β tmps w p=some (.slice (some ⟨b,0,none⟩) len cap)∧own b=locOf p ∧
   i<xs.length∧c=.pointer (some ⟨b,i*sz+off,none⟩)
 | v=>TR own β w (fun i j=>.slot t i j) v c
def noEx:V→Bool
 | .ex _ _ _=>false
 | .agg cs=>cs.all notEx
 | .tup _=>false
 | _=>true
def BRc (own:Own) (β:Nat→Nat) (w:World) (id:Nat) (cs:List V):Prop :=
 own (β id)=.blk id∧(∀ v∈cs,okBelow (id+1) v=true)∧∃ arr T,w.heap[β id]?=some (.cells arr T (0,0))∧cs.length≤arr.size ∧
  ∀ (j:Nat) (v:V) (c:Value),cs[j]?=some v→arr[j]?=some c→CR own β w (.cell id j) v c
def stOk (st:LSt) (r:Loop):Prop:=match st with
 | .ready=>r.state=.ready∧r.pending=none
 | .busy=>r.state=.busy
 | .done .normal=>False
 | .done (.exit i)=>r.state=.done∧r.pending=some (.exit i)
 | .done .ret=>r.state=.done∧r.pending=some .ret
def XR (own:Own) (β:Nat→Nat) (w:World) (id:Nat) (v:V) (c:Value):Prop :=
 VR own β w (fun _=>.im) v c∧noEx v=true∧v.cells.all (okBelow (id+1))=true
def OR (own:Own) (β:Nat→Nat) (w:World) (id:Nat) (v:V) (o:Obj):Prop :=
 match v with
 | .mp ks vs=>∃ es:Array MapEntry,o=.map es es.size∧es.size=ks.length∧vs.length=ks.length∧∀ (j:Nat) (e:MapEntry),es[j]?=some e→e.born=j ∧
   (∀ k,ks[j]?=some k→XR own β w id k e.key∧k.flat=true)∧(∀ v,vs[j]?=some v→XR own β w id v e.val)
 | .lp ts vs ps asg body cx st=>∃ r:Loop,o=.loop r∧r.params.toList=ps∧r.assign=asg∧r.body=body∧stOk st r∧codeB r.tmps.size cx asg=true∧codeB r.tmps.size cx body=true ∧
   (∀ p∈ps,p<r.tmps.size)∧∀ t,XR own β w id (get (ts.zip vs) t) (r.tmps.getD t undef)
 | _=>False
def BR (own:Own) (β:Nat→Nat) (w:World) (id:Nat) (cs:List V):Prop :=
 BRc own β w id cs∨(own (β id)=.blk id∧∃ v o,cs=[v]∧w.heap[β id]?=some o∧OR own β w id v o)
theorem OR.spec {own:Own} {β:Nat→Nat} {w:World} {id:Nat} {v:V} {o:Obj} (h:OR own β w id v o):isSpec v=true:=by
 cases v<;>first | rfl | (simp only[OR] at h)
theorem CR.notSpec {own:Own} {β:Nat→Nat} {w:World} {l:Loc} {v:V} {c:Value} (h:CR own β w l v c):isSpec v=false:=by
 cases v<;>first | rfl | (simp only[CR] at h;cases h;done)
theorem BR.own {own:Own} {β:Nat→Nat} {w:World} {id:Nat} {cs:List V} (h:BR own β w id cs):own (β id)=.blk id:=by
 rcases h with h | h
 ·exact h.1
 ·exact h.1
theorem BR.there {own:Own} {β:Nat→Nat} {w:World} {id:Nat} {cs:List V} (h:BR own β w id cs):∃ o,w.heap[β id]?=some o:=by
 rcases h with ⟨_,_,_,_,h,_⟩ | ⟨_,_,o,_,h,_⟩
 ·exact⟨_,h⟩
 ·exact⟨_,h⟩
theorem BRc.notSpec {own:Own} {β:Nat→Nat} {w:World} {id:Nat} {cs:List V} (h:BRc own β w id cs):specB cs=false:=by
 obtain⟨_,_,arr,_,_,h4,h5⟩:=h
 match cs,h4,h5 with
 | [],_,_=>rfl
 | [v],h4,h5 =>
  have hlt:0<arr.size:=h4;exact (h5 0 v arr[0] rfl (Array.getElem?_eq_getElem hlt)).notSpec
 | _::_::_,_,_=>rfl
theorem BR.cells {own:Own} {β:Nat→Nat} {w:World} {id:Nat} {cs:List V} (h:BR own β w id cs) (hs:specB cs=false):BRc own β w id cs:=by
 rcases h with h | ⟨_,v,o,rfl,_,h⟩
 ·exact h
 ·rw[specB,h.spec] at hs;cases hs
theorem BR.spec {own:Own} {β:Nat→Nat} {w:World} {id:Nat} {v:V} (h:BR own β w id [v]) (hs:isSpec v=true):own (β id)=.blk id∧∃ o,w.heap[β id]?=some o∧OR own β w id v o:=by
 rcases h with h | ⟨h1,v',o,h2,h3,h4⟩
 ·have:=h.notSpec;rw[specB,hs] at this;cases this
 ·injection h2 with h2 _;subst h2
  exact⟨h1,o,h3,h4⟩
theorem specB_of_ex {cs:List V} {j sz:Nat} {n:Bool} {xs:List V} (h:cs[j]?=some (.ex sz n xs)):specB cs=false:=by
 match cs,h with
 | [],_=>rfl
 | [v],h =>
  cases j with
  | zero=>simp at h;subst h;rfl
  | succ j=>simp at h
 | _::_::_,_=>rfl
theorem specB_set {cs:List V} {j:Nat} {v:V} (h:specB cs=false) (hv:isSpec v=false):specB (cs.set j v)=false:=by
 match cs,h with
 | [],_=>rfl
 | [x],h=>cases j<;>simp[specB,hv]<;>simpa [specB] using h
 | _::_::_,_=>cases j<;>simp[specB]<;>(rename_i j;cases j<;>simp)
theorem ncells_some {H:Heap} {id:Nat} {cs:List V} (h:ncells H id=some cs):bcells H id=some cs∧specB cs=false:=by
 unfold ncells at h;split at h
 ·rename_i ds hd
  split at h
  ·cases h
  ·rename_i hs;injection h with h;subst h;exact⟨hd,by simpa using hs⟩
 ·cases h
structure HR (own:Own) (β:Nat→Nat) (w:World) (H:Heap):Prop where
 blk:∀ id cs,bcells H id=some cs→BR own β w id cs
 inv:∀ b id,own b=.blk id→β id=b∧∃ cs,bcells H id=some cs
 lt:∀ b,own b≠.other→b<w.heap.size
structure SR (own:Own) (β:Nat→Nat) (w:World) (σ:St) (tmps:Array Value):Prop where
 env:∀ t,ER own β w σ tmps t (get σ.env t) (tmps.getD t undef)
 heap:HR own β w σ.heap
structure Stay (own:Own) (w:World) (own':Own) (w':World):Prop where
 im:∀ b,own b=.im→own' b=.im∧w'.heap[b]?=w.heap[b]?
 other:∀ b,b<w.heap.size→own b=.other→own' b=.other∧w'.heap[b]?=w.heap[b]?
 size:w.heap.size≤w'.heap.size
 os:w'.os=w.os
 tape:w'.tape=w.tape
 output:w'.output=w.output
 drawn:w.drawn≤w'.drawn
 cells:∀ (b:Nat) (arr:Array Value) (T:TypeId),w.heap[b]?=some (.cells arr T (0,0))→∃ arr':Array Value,w'.heap[b]?=some (.cells arr' T (0,0))∧arr'.size=arr.size
theorem Stay.refl (own:Own) (w:World):Stay own w own w:=⟨fun _ h=>⟨h,rfl⟩,fun _ _ h=>⟨h,rfl⟩,Nat.le_refl _,rfl,rfl,rfl,Nat.le_refl _,fun _ arr _ h=>⟨arr,h,rfl⟩⟩
theorem Stay.trans {o1 o2 o3:Own} {w1 w2 w3:World} (h:Stay o1 w1 o2 w2) (k:Stay o2 w2 o3 w3):Stay o1 w1 o3 w3 :=
 ⟨fun b hb=>let ⟨x,y⟩:=h.im b hb;let ⟨x',y'⟩:=k.im b x;⟨x',y'.trans y⟩,
  fun b hl hb=>let ⟨x,y⟩:=h.other b hl hb;let ⟨x',y'⟩:=k.other b (Nat.lt_of_lt_of_le hl h.size) x;⟨x',y'.trans y⟩,
  Nat.le_trans h.size k.size,k.os.trans h.os,k.tape.trans h.tape,k.output.trans h.output,Nat.le_trans h.drawn k.drawn,
  fun b arr T hb=>let ⟨a1,e1,s1⟩:=h.cells b arr T hb;let ⟨a2,e2,s2⟩:=k.cells b a1 T e1;⟨a2,e2,s2.trans s1⟩⟩
def BX (β β':Nat→Nat) (H H':Heap):Prop :=
 H.length≤H'.length∧∀ id cs,bcells H id=some cs→β' id=β id∧∃ cs',bcells H' id=some cs'
theorem BX.refl (β:Nat→Nat) (H:Heap):BX β β H H:=⟨Nat.le_refl _,fun _ cs h=>⟨rfl,cs,h⟩⟩
theorem BX.trans {β1 β2 β3:Nat→Nat} {H1 H2 H3:Heap} (h:BX β1 β2 H1 H2) (k:BX β2 β3 H2 H3):BX β1 β3 H1 H3 :=
 ⟨Nat.le_trans h.1 k.1,fun id cs hc=>let ⟨x,cs',hc'⟩:=h.2 id cs hc;let ⟨x',r⟩:=k.2 id cs' hc';⟨x'.trans x,r⟩⟩
section
variable {own own':Own} {β β':Nat→Nat} {w w':World}
theorem EXR.mono {l:Loc} {sz:Nat} {n:Bool} {xs:List V} {c:Value} (h:EXR own w l sz n xs c)
  (hk:∀ b,own b=.im→own' b=.im∧w'.heap[b]?=w.heap[b]?) (hl:∀ b,own b=l→own' b=l∧w'.heap[b]?=w.heap[b]?):EXR own' w' l sz n xs c:=by
 rcases h with h | h | ⟨hn,b,cap,T,arr,h1,h2,h3,h4,h5,h6⟩
 ·exact .inl h
 ·exact .inr (.inl h)
 ·exact .inr (.inr ⟨hn,b,cap,T,arr,h1,(hl b h2).1,by rw[(hl b h2).2];exact h3,h4,h5,fun i x hx=>⟨(h6 i x hx).1,fun j y c hy hc=>((h6 i x hx).2 j y c hy hc).mono hk⟩⟩)
theorem PR.mono {v:V} {c:Value} (h:PR own β w v c) (hk:∀ b,own b=.im→own' b=.im∧w'.heap[b]?=w.heap[b]?)
  (hb:∀ id,own (β id)=.blk id→own' (β' id)=.blk id∧β' id=β id):PR own' β' w' v c:=by
 cases v<;>simp only[PR] at h ⊢<;>first
  | exact h.mono hk
  | exact⟨by rw[(hb _ h.2).2];exact h.1,(hb _ h.2).1⟩
theorem CR.mono {l:Loc} {v:V} {c:Value} (h:CR own β w l v c) (hk:∀ b,own b=.im→own' b=.im∧w'.heap[b]?=w.heap[b]?)
  (hb:∀ id,own (β id)=.blk id→own' (β' id)=.blk id∧β' id=β id) (hl:∀ b,own b=l→own' b=l∧w'.heap[b]?=w.heap[b]?):CR own' β' w' l v c:=by
 cases v<;>simp only[CR] at h ⊢<;>first
  | exact h.mono hk
  | exact⟨by rw[(hb _ h.2).2];exact h.1,(hb _ h.2).1⟩
  | exact EXR.mono h hk hl
  | (obtain⟨ca,cb,h1,h2,h3,h4,h5⟩:=h
     exact⟨ca,cb,h1,h2,h3,fun j v c hv hc=>(h4 j v c hv hc).mono hk hb,fun j v c hv hc=>(h5 j v c hv hc).mono hk hb⟩)
theorem CR.place {l l':Loc} {v:V} {c:Value} (h:CR own β w l v c) (hn:∀ sz n xs,v≠.ex sz n xs):CR own β w l' v c:=by
 cases v<;>simp only[CR] at h ⊢<;>first
  | exact h
  | exact absurd rfl (hn _ _ _)
theorem VR.place {L L':Nat→Loc} {v:V} {c:Value} (h:VR own β w L v c) (hn:noEx v=true):VR own β w L' v c:=by
 cases v with
 | agg cs =>
  obtain⟨arr,h1,h2,h3⟩:=h;refine⟨arr,h1,h2,fun j v c hv hc=>(h3 j v c hv hc).place ?_⟩
  rintro sz n xs rfl
  simp only[noEx,List.all_eq_true] at hn;have:=hn _ (List.mem_of_getElem? hv)
  simp[notEx] at this
 | rptr cs off=>exact h
 | ex sz n xs=>simp[noEx] at hn
 | undef=>trivial
 | _=>exact h
theorem VR.mono {L:Nat→Loc} {v:V} {c:Value} (h:VR own β w L v c) (hk:∀ b,own b=.im→own' b=.im∧w'.heap[b]?=w.heap[b]?)
  (hb:∀ id,own (β id)=.blk id→own' (β' id)=.blk id∧β' id=β id) (hl:∀ j b,own b=L j→own' b=L j∧w'.heap[b]?=w.heap[b]?):VR own' β' w' L v c:=by
 cases v with
 | agg cs =>
  obtain⟨arr,h1,h2,h3⟩:=h;exact⟨arr,h1,h2,fun j v c hv hc=>(h3 j v c hv hc).mono hk hb (hl j)⟩
 | rptr cs off =>
  obtain⟨b,o,h1,h2,h3⟩:=h;refine⟨b,o,h1,(hk b h2).1,fun j v hv=>?_⟩
  obtain⟨c',h4,h5⟩:=h3 j v hv;exact⟨c',by rw[World.cell?_of_block (w:=w) (by exact (hk b h2).2)];exact h4,h5.mono hk⟩
 | undef=>trivial
 | _=>simp only[VR] at h ⊢;exact CR.mono h hk hb (hl 0)
theorem TR.mono {L:Nat→Nat→Loc} {v:V} {c:Value} (h:TR own β w L v c) (hk:∀ b,own b=.im→own' b=.im∧w'.heap[b]?=w.heap[b]?)
  (hb:∀ id,own (β id)=.blk id→own' (β' id)=.blk id∧β' id=β id) (hl:∀ i j b,own b=L i j→own' b=L i j∧w'.heap[b]?=w.heap[b]?):TR own' β' w' L v c:=by
 cases v with
 | tup vs =>
  obtain⟨arr,h1,h2,h3⟩:=h;exact⟨arr,h1,h2,fun i v c hv hc=>(h3 i v c hv hc).mono hk hb (hl i)⟩
 | _=>simp only[TR] at h ⊢;exact VR.mono h hk hb (hl 0)
theorem BRc.mono {id:Nat} {cs:List V} (h:BRc own β w id cs) (hk:∀ b,own b=.im→own' b=.im∧w'.heap[b]?=w.heap[b]?)
  (hb:∀ id,own (β id)=.blk id→own' (β' id)=.blk id∧β' id=β id) (hl:∀ j b,own b=.cell id j→own' b=.cell id j∧w'.heap[b]?=w.heap[b]?)
  (hw:w'.heap[β id]?=w.heap[β id]?):BRc own' β' w' id cs:=by
 obtain⟨h1,h2,arr,T,h3,h4,h5⟩:=h;refine⟨(hb id h1).1,h2,arr,T,by rw[(hb id h1).2,hw];exact h3,h4,fun j v c hv hc=>(h5 j v c hv hc).mono hk hb (hl j)⟩
theorem XR.mono {id:Nat} {v:V} {c:Value} (h:XR own β w id v c) (hk:∀ b,own b=.im→own' b=.im∧w'.heap[b]?=w.heap[b]?)
  (hb:∀ id,own (β id)=.blk id→own' (β' id)=.blk id∧β' id=β id):XR own' β' w' id v c :=
 ⟨h.1.mono hk hb (fun _ b h=>hk b h),h.2⟩
def valsOf:V→List V
 | .mp _ vs=>vs
 | .lp _ vs _ _ _ _ _=>vs
 | _=>[]
def withVals (f:V→V):V→V
 | .mp ks vs=>.mp ks (vs.map f)
 | .lp ts vs ps asg body cx st=>.lp ts (vs.map f) ps asg body cx st
 | v=>v
theorem get_zip_mem:∀ (ts:List Nat) (vs:List V) (t:Nat),get (ts.zip vs) t∈vs∨get (ts.zip vs) t=.undef
 | [],_,_=>.inr rfl
 | _::_,[],_=>.inr rfl
 | x::ts,y::vs,t=>by
  simp only[List.zip_cons_cons,get];split
  ·exact .inl (by simp)
  ·rcases get_zip_mem ts vs t with h | h
   ·exact .inl (by simp[h])
   ·exact .inr h
theorem get_zip_map {f:V→V} (hu:f .undef=.undef):∀ (ts:List Nat) (vs:List V) (t:Nat),get (ts.zip (vs.map f)) t=f (get (ts.zip vs) t)
 | [],_,_=>by simp[get,hu]
 | _::_,[],_=>by simp[get,hu]
 | x::ts,y::vs,t=>by
  simp only[List.map_cons,List.zip_cons_cons,get];split
  ·rfl
  ·exact get_zip_map hu ts vs t
theorem OR.imp {id id':Nat} {v:V} {o:Obj} (h:OR own β w id v o) (f:V→V) (hf:∀ u c,u∈valsOf v∨u=.undef→XR own β w id u c→XR own' β' w' id' (f u) c) (hu:f .undef=.undef)
  (hk:∀ v c,XR own β w id v c→V.flat v=true→XR own' β' w' id' v c):OR own' β' w' id' (withVals f v) o:=by
 cases v with
 | mp ks vs =>
  obtain⟨es,h1,h2,h3,h4⟩:=h;refine⟨es,h1,h2,by simpa using h3,fun j e he=>⟨(h4 j e he).1,fun k hk'=>?_,fun v hv=>?_⟩⟩
  ·obtain⟨g1,g2⟩:=(h4 j e he).2.1 k hk'
   exact⟨hk _ _ g1 g2,g2⟩
  ·rw[List.getElem?_map,Option.map_eq_some_iff] at hv
   obtain⟨u,hu,rfl⟩:=hv;exact hf _ _ (.inl (List.mem_of_getElem? hu)) ((h4 j e he).2.2 u hu)
 | lp ts vs ps asg body cx st =>
  obtain⟨r,h1,h2,h3,h4,h5,h6,h7,h8,h9⟩:=h;refine⟨r,h1,h2,h3,h4,h5,h6,h7,h8,fun t=>?_⟩
  rw[get_zip_map hu];exact hf _ _ (get_zip_mem ts vs t) (h9 t)
 | _=>simp only[OR] at h
theorem withVals_id (v:V):withVals (fun v=>v) v=v:=by cases v<;>simp[withVals]
theorem OR.mono {id:Nat} {v:V} {o:Obj} (h:OR own β w id v o) (hk:∀ b,own b=.im→own' b=.im∧w'.heap[b]?=w.heap[b]?)
  (hb:∀ id,own (β id)=.blk id→own' (β' id)=.blk id∧β' id=β id):OR own' β' w' id v o :=
 withVals_id v▸h.imp (fun v=>v) (fun _ _ _ h=>h.mono hk hb) rfl (fun _ _ h _=>h.mono hk hb)
theorem BR.mono {id:Nat} {cs:List V} (h:BR own β w id cs) (hk:∀ b,own b=.im→own' b=.im∧w'.heap[b]?=w.heap[b]?)
  (hb:∀ id,own (β id)=.blk id→own' (β' id)=.blk id∧β' id=β id) (hl:∀ j b,own b=.cell id j→own' b=.cell id j∧w'.heap[b]?=w.heap[b]?)
  (hw:w'.heap[β id]?=w.heap[β id]?):BR own' β' w' id cs:=by
 rcases h with h | ⟨h1,v,o,h2,h3,h4⟩
 ·exact .inl (h.mono hk hb hl hw)
 ·exact .inr ⟨(hb id h1).1,v,o,h2,by rw[(hb id h1).2,hw];exact h3,h4.mono hk hb⟩
end
end Go.Vm
end
section
namespace Go.Vm
open Go
theorem get_cons_same (t:Nat) (v:V) (r:Env):get ((t,v)::r) t=v:=by simp[get]
theorem get_cons_ne {t u:Nat} (v:V) (r:Env) (h:u≠t):get ((u,v)::r) t=get r t:=by simp[get,h]
theorem get_map (f:V→V) (hf:f .undef=.undef) (t:Nat):∀ env:Env,get (env.map fun x=>(x.1,f x.2)) t=f (get env t)
 | []=>by simp[get,hf]
 | (u,v)::r=>by
  simp only[List.map_cons,get];split
  ·rfl
  ·exact get_map f hf t r
theorem get_kill (p:Place) (env:Env) (t:Nat):get (kill p env) t=if (get env t).refsTo p then .undef else get env t :=
 get_map (fun v=>if v.refsTo p then .undef else v) (by simp[V.refsTo]) t env
theorem ER.keep {own own':Own} {β β':Nat→Nat} {w w':World} {σ σ':St} {tmps tmps':Array Value} {t:Nat} {v:V} {c:Value}
  (h:ER own β w σ tmps t v c) (hk:∀ b,own b=.im→own' b=.im∧w'.heap[b]?=w.heap[b]?)
  (hb:∀ id,own (β id)=.blk id→own' (β' id)=.blk id∧β' id=β id)
  (hl:∀ i j b,own b=.slot t i j→own' b=.slot t i j∧w'.heap[b]?=w.heap[b]?)
  (hp:∀ p,v.refsTo p=true→(∀ sz n xs,look σ p=.ex sz n xs→∃ n' xs',look σ' p=.ex sz n' xs'∧xs'.length=xs.length) ∧
   (∀ c,conc β tmps w p=some c→conc β' tmps' w' p=some c)∧∀ b,own b=locOf p→own' b=locOf p):ER own' β' w' σ' tmps' t v c:=by
 cases v with
 | lent p =>
  obtain⟨sz,n,xs,h1,h2⟩:=h;obtain⟨hp1,hp2,hp3⟩:=hp p (by simp[V.refsTo])
  obtain⟨n',xs',h3,_⟩:=hp1 _ _ _ h1;exact⟨sz,n',xs',h3,hp2 _ h2⟩
 | xptr p i off =>
  obtain⟨sz,n,xs,b,len,cap,h1,h2,h3,h4,h5⟩:=h;obtain⟨hp1,hp2,hp3⟩:=hp p (by simp[V.refsTo])
  obtain⟨n',xs',h6,h7⟩:=hp1 _ _ _ h1;exact⟨sz,n',xs',b,len,cap,h6,hp2 _ h2,hp3 b h3,by rw[h7];exact h4,h5⟩
 | _=>simp only[ER] at h ⊢;exact h.mono hk hb hl
theorem ER.undef (own:Own) (β:Nat→Nat) (w:World) (σ:St) (tmps:Array Value) (t:Nat) (c:Value):ER own β w σ tmps t .undef c:=by
 simp only[ER,TR,VR]
structure Reloc (ρ:Loc→Loc):Prop where
 im:ρ .im=.im
 other:ρ .other=.other
 blk:∀ id,ρ (.blk id)=.blk id
 noblk:∀ l id,ρ l=.blk id→l=.blk id
 noother:∀ l,ρ l=.other→l=.other
theorem FR.reloc {own:Own} {w:World} {ρ:Loc→Loc} (hr:Reloc ρ) {v:V} {c:Value} (h:FR own w v c):FR (fun b=>ρ (own b)) w v c :=
 h.mono fun b hb=>⟨by simp only[hb,hr.im],rfl⟩
theorem EXR.reloc {own:Own} {w:World} {ρ:Loc→Loc} (hr:Reloc ρ) {l:Loc} {sz:Nat} {n:Bool} {xs:List V} {c:Value} (h:EXR own w l sz n xs c) :
  EXR (fun b=>ρ (own b)) w (ρ l) sz n xs c:=by
 rcases h with h | h | ⟨hn,b,cap,T,arr,h1,h2,h3,h4,h5,h6⟩
 ·exact .inl h
 ·exact .inr (.inl h)
 ·exact .inr (.inr ⟨hn,b,cap,T,arr,h1,by simp only[h2],h3,h4,h5,fun i x hx=>⟨(h6 i x hx).1,fun j y c hy hc=>((h6 i x hx).2 j y c hy hc).reloc hr⟩⟩)
theorem PR.reloc {own:Own} {β:Nat→Nat} {w:World} {ρ:Loc→Loc} (hr:Reloc ρ) {v:V} {c:Value} (h:PR own β w v c):PR (fun b=>ρ (own b)) β w v c :=
 h.mono (fun b hb=>⟨by simp only[hb,hr.im],rfl⟩) fun id hb=>⟨by simp only[hb,hr.blk],rfl⟩
theorem CR.reloc {own:Own} {β:Nat→Nat} {w:World} {ρ:Loc→Loc} (hr:Reloc ρ) {l:Loc} {v:V} {c:Value} (h:CR own β w l v c) :
  CR (fun b=>ρ (own b)) β w (ρ l) v c:=by
 cases v<;>simp only[CR] at h ⊢<;>first
  | exact FR.reloc hr h
  | exact⟨h.1,by simp only[h.2,hr.blk]⟩
  | exact EXR.reloc hr h
  | (obtain⟨ca,cb,h1,h2,h3,h4,h5⟩:=h
     exact⟨ca,cb,h1,h2,h3,fun j v c hv hc=>(h4 j v c hv hc).reloc hr,fun j v c hv hc=>(h5 j v c hv hc).reloc hr⟩)
theorem VR.reloc {own:Own} {β:Nat→Nat} {w:World} {ρ:Loc→Loc} (hr:Reloc ρ) {L:Nat→Loc} {v:V} {c:Value} (h:VR own β w L v c) :
  VR (fun b=>ρ (own b)) β w (fun j=>ρ (L j)) v c:=by
 cases v with
 | agg cs =>
  obtain⟨arr,h1,h2,h3⟩:=h;exact⟨arr,h1,h2,fun j v c hv hc=>(h3 j v c hv hc).reloc hr⟩
 | rptr cs off =>
  obtain⟨b,o,h1,h2,h3⟩:=h;refine⟨b,o,h1,by simp only[h2,hr.im],fun j v hv=>?_⟩
  obtain⟨c',h4,h5⟩:=h3 j v hv;exact⟨c',h4,h5.reloc hr⟩
 | undef=>trivial
 | _=>simp only[VR] at h ⊢;exact h.reloc hr
theorem TR.reloc {own:Own} {β:Nat→Nat} {w:World} {ρ:Loc→Loc} (hr:Reloc ρ) {L:Nat→Nat→Loc} {v:V} {c:Value} (h:TR own β w L v c) :
  TR (fun b=>ρ (own b)) β w (fun i j=>ρ (L i j)) v c:=by
 cases v with
 | tup vs =>
  obtain⟨arr,h1,h2,h3⟩:=h;exact⟨arr,h1,h2,fun i v c hv hc=>(h3 i v c hv hc).reloc hr⟩
 | _=>simp only[TR] at h ⊢;exact h.reloc hr
theorem Stay.reloc {own:Own} {w:World} {ρ:Loc→Loc} (hr:Reloc ρ):Stay own w (fun b=>ρ (own b)) w :=
 ⟨fun b h=>⟨by simp only[h,hr.im],rfl⟩,fun b _ h=>⟨by simp only[h,hr.other],rfl⟩,Nat.le_refl _,rfl,rfl,rfl,Nat.le_refl _,fun _ arr _ h=>⟨arr,h,rfl⟩⟩
theorem EXR.freeze {own:Own} {w:World} {sz:Nat} {n:Bool} {xs:List V} {c:Value} (h:EXR own w .im sz n xs c):FR own w (.sl n xs) c:=by
 rcases h with ⟨rfl,rfl,rfl⟩ | ⟨rfl,rfl,a,rfl⟩ | ⟨rfl,b,cap,T,arr,rfl,h2,h3,h4,h5,h6⟩
 ·exact .nil
 ·exact .none a 0
 ·refine .sl b 0 cap sz xs (fun i j=>arr.getD (i*sz+j) undef) h2 h4 (fun i x hx=>⟨(h6 i x hx).1,fun j hj=>?_⟩) (fun i x j y hx hy=>?_)
  ·have hi:i<xs.length:=(List.getElem?_eq_some_iff.1 hx).1
   have hlt:i*sz+j<arr.size:=by
    rw[h5];have:(i+1)*sz≤cap*sz:=Nat.mul_le_mul_right _ (by omega)
    rw[Nat.succ_mul] at this;omega
   rw[Nat.zero_add,cell_of_row w b _ arr T _ h3,Array.getElem?_eq_getElem hlt];simp[Array.getD,hlt]
  ·have hi:i<xs.length:=(List.getElem?_eq_some_iff.1 hx).1
   have hj:j<sz:=by rw[←(h6 i x hx).1];exact (List.getElem?_eq_some_iff.1 hy).1
   have hlt:i*sz+j<arr.size:=by
    rw[h5];have:(i+1)*sz≤cap*sz:=Nat.mul_le_mul_right _ (by omega)
    rw[Nat.succ_mul] at this;omega
   refine (h6 i x hx).2 j y _ hy ?_;rw[Array.getElem?_eq_getElem hlt];simp[Array.getD,hlt]
def moved (a b:Loc) (l:Loc):Loc:=if l=a then b else l
theorem moved_reloc {a b:Loc} (h1:a≠.im) (h2:a≠.other) (h3:∀ id,a≠.blk id) (h4:∀ id,b≠.blk id) (h5:b≠.other):Reloc (moved a b):=by
 refine⟨by simp[moved,h1.symm],by simp[moved,h2.symm],fun id=>by simp[moved,(h3 id).symm],fun l id h=>?_,fun l h=>?_⟩
 ·unfold moved at h;split at h
  ·exact absurd h (h4 id)
  ·exact h
 ·unfold moved at h;split at h
  ·exact absurd h h5
  ·exact h
def slotOut (t:Nat) (l:Loc):Loc:=match l with | .slot u i j=>if u=t then .res i j else l | l=>l
theorem slotOut_reloc (t:Nat):Reloc (slotOut t):=by
 refine⟨rfl,rfl,fun _=>rfl,fun l id h=>?_,fun l h=>?_⟩
 ·cases l<;>simp only[slotOut] at h<;>first | rfl | exact h | (split at h<;>cases h)
 ·cases l<;>simp only[slotOut] at h<;>first | rfl | exact h | (split at h<;>cases h)
def resIn (d:Nat) (l:Loc):Loc:=match l with | .res i j=>.slot d i j | l=>l
theorem resIn_reloc (d:Nat):Reloc (resIn d):=by
 refine⟨rfl,rfl,fun _=>rfl,fun l id h=>?_,fun l h=>?_⟩
 ·cases l<;>simp only[resIn] at h<;>first | rfl | exact h | cases h
 ·cases l<;>simp only[resIn] at h<;>first | rfl | exact h | cases h
theorem HR.reloc {own:Own} {β:Nat→Nat} {w:World} {H:Heap} {ρ:Loc→Loc} (hr:Reloc ρ) (h:HR own β w H)
  (hc:∀ id j,ρ (.cell id j)=.cell id j):HR (fun b=>ρ (own b)) β w H:=by
 refine⟨fun id cs hi=>?_,fun b id hb=>h.inv b id (hr.noblk _ _ hb),fun b hb=>h.lt b fun he=>hb (by simp only[he,hr.other])⟩
 exact (h.blk id cs hi).mono (fun b hb=>⟨by simp only[hb,hr.im],rfl⟩) (fun id hb=>⟨by simp only[hb,hr.blk],rfl⟩) (fun j b hb=>⟨by simp only[hb,hc],rfl⟩) rfl
theorem HR.reloc_cell {own:Own} {β:Nat→Nat} {w:World} {H:Heap} {ρ:Loc→Loc} (hr:Reloc ρ) (h:HR own β w H) {id off:Nat} {cs:List V} {v':V}
  (hcs:bcells H id=some cs) (hsp:specB cs=false) (hc:∀ i j,(i≠id∨j≠off)→ρ (.cell i j)=.cell i j) (hok:okBelow (id+1) v'=true)
  (hv:∀ v c,cs[off]?=some v→w.cell? ⟨β id,off,none⟩=some c→CR own β w (.cell id off) v c→CR (fun b=>ρ (own b)) β w (.cell id off) v' c) :
  HR (fun b=>ρ (own b)) β w (H.set id (.cells (cs.set off v'))):=by
 have hid:id<H.length:=by
  unfold bcells at hcs;cases hh:H[id]? with
  | none=>simp[hh] at hcs
  | some x=>exact (List.getElem?_eq_some_iff.1 hh).1
 have hb:∀ i,bcells (H.set id (.cells (cs.set off v'))) i=if i=id then some (cs.set off v') else bcells H i:=by
  intro i;unfold bcells;by_cases hi:i=id
  ·subst hi;simp[hid]
  ·rw[List.getElem?_set_ne (Ne.symm hi)];simp[hi]
 refine⟨fun i ds hi=>?_,fun b i hbi=>?_,fun b hb=>h.lt b fun he=>hb (by simp only[he,hr.other])⟩
 ·rw[hb] at hi
  split at hi
  ·rename_i hii
   subst hii;injection hi with hi;subst hi;obtain⟨h1,h2,arr,T,h3,h4,h5⟩:=(h.blk i cs hcs).cells hsp;refine .inl ⟨by simp only[h1,hr.blk],fun v hv'=>?_,arr,T,h3,by simpa using h4,fun j v c hvj hcj=>?_⟩
   ·rcases List.mem_or_eq_of_mem_set hv' with hm | rfl
    ·exact h2 v hm
    ·exact hok
   ·by_cases hj:j=off
    ·subst hj
     have hlt:j<cs.length:=by
      have:=(List.getElem?_eq_some_iff.1 hvj).1;simpa using this
     rw[List.getElem?_set_self hlt] at hvj;injection hvj with hvj;subst hvj;have hold:cs[j]?=some cs[j]:=List.getElem?_eq_getElem hlt;exact hv _ c hold (by rw[cell_of_row w _ j arr T _ h3];exact hcj) (h5 j _ c hold hcj)
    ·rw[List.getElem?_set_ne (Ne.symm hj)] at hvj
     have:=(h5 j v c hvj hcj).reloc hr
     rwa [hc i j (.inr hj)] at this
  ·rename_i hii
   exact (h.blk i ds hi).mono (fun b hb=>⟨by simp only[hb,hr.im],rfl⟩) (fun id hb=>⟨by simp only[hb,hr.blk],rfl⟩) (fun j b hb=>⟨by simp only[hb,hc i j (.inl hii)],rfl⟩) rfl
 ·obtain⟨h1,ds,h2⟩:=h.inv b i (hr.noblk _ _ hbi)
  refine⟨h1,?_⟩;rw[hb];split
  ·exact⟨_,rfl⟩
  ·exact⟨ds,h2⟩
theorem bcells_lt {H:Heap} {id:Nat} {cs:List V} (h:bcells H id=some cs):id<H.length:=by
 unfold bcells at h;cases hh:H[id]? with
 | none=>simp[hh] at h
 | some x=>exact (List.getElem?_eq_some_iff.1 hh).1
theorem bcells_set {H:Heap} {id:Nat} (hid:id<H.length) (cs:List V) (i:Nat):bcells (H.set id (.cells cs)) i=if i=id then some cs else bcells H i:=by
 unfold bcells;by_cases hi:i=id
 ·subst hi;simp[hid]
 ·rw[List.getElem?_set_ne (Ne.symm hi)];simp[hi]
def isWay:V→Bool
 | .lent _ | .xptr _ _ _=>true
 | _=>false
theorem ER.of_TR {own:Own} {β:Nat→Nat} {w:World} {σ:St} {tmps:Array Value} {t:Nat} {v:V} {c:Value} (h:TR own β w (fun i j=>.slot t i j) v c)
  (hv:isWay v=false):ER own β w σ tmps t v c:=by
 cases v<;>first | exact h | (simp[isWay] at hv)
theorem ER.to_TR {own:Own} {β:Nat→Nat} {w:World} {σ:St} {tmps:Array Value} {t:Nat} {v:V} {c:Value} (h:ER own β w σ tmps t v c)
  (hv:isWay v=false):TR own β w (fun i j=>.slot t i j) v c:=by
 cases v<;>first | exact h | (simp[isWay] at hv)
theorem SR.slot {own:Own} {β:Nat→Nat} {w:World} {σ:St} {tmps:Array Value} {ρ:Loc→Loc} (hr:Reloc ρ) (h:SR own β w σ tmps) {t:Nat} {v':V}
  (hs:∀ u i j,u≠t→ρ (.slot u i j)=.slot u i j) (hc:∀ id j,ρ (.cell id j)=.cell id j) (hv:isWay v'=false)
  (hn:TR (fun b=>ρ (own b)) β w (fun i j=>.slot t i j) v' (tmps.getD t undef)) :
  SR (fun b=>ρ (own b)) β w (setPlace σ (.slot t) v') tmps:=by
 refine⟨fun u=>?_,h.heap.reloc hr hc⟩
 by_cases hu:u=t
 ·subst hu
  simp only[setPlace,get_cons_same];exact ER.of_TR hn hv
 ·simp only[setPlace,get_cons_ne _ _ (Ne.symm hu),get_kill]
  split
  ·exact ER.undef _ _ _ _ _ _ _
  ·rename_i hk
   refine (h.env u).keep (fun b hb=>⟨by simp only[hb,hr.im],rfl⟩) (fun id hb=>⟨by simp only[hb,hr.blk],rfl⟩)
    (fun i j b hb=>⟨by simp only[hb,hs u i j hu],rfl⟩) (fun p hp=>?_)
   have hne:p≠.slot t:=fun he=>hk (he▸hp)
   refine⟨fun sz n xs hl=>⟨n,xs,?_,rfl⟩,fun c hc=>hc,fun b hb=>?_⟩
   ·cases p with
    | slot x =>
     have hx:x≠t:=fun he=>hne (by rw[he])
     simp only[look] at hl ⊢;rw[get_cons_ne _ _ (Ne.symm hx),get_kill,hl];rfl
    | cell id off=>exact hl
   ·cases p with
    | slot x =>
     have hx:x≠t:=fun he=>hne (by rw[he])
     simp only[locOf] at hb ⊢;simp only[hb,hs x 0 0 hx]
    | cell id off=>simp only[locOf] at hb ⊢;simp only[hb,hc]
theorem SR.cell {own:Own} {β:Nat→Nat} {w:World} {σ:St} {tmps:Array Value} {ρ:Loc→Loc} (hr:Reloc ρ) (h:SR own β w σ tmps) {id off:Nat} {cs:List V} {v':V}
  (hcs:bcells σ.heap id=some cs) (hsp:specB cs=false) (hs:∀ u i j,ρ (.slot u i j)=.slot u i j) (hc:∀ i j,(i≠id∨j≠off)→ρ (.cell i j)=.cell i j)
  (hok:okBelow (id+1) v'=true)
  (hv:∀ v c,cs[off]?=some v→w.cell? ⟨β id,off,none⟩=some c→CR own β w (.cell id off) v c→CR (fun b=>ρ (own b)) β w (.cell id off) v' c) :
  SR (fun b=>ρ (own b)) β w (setPlace σ (.cell id off) v') tmps:=by
 have hh:=h.heap.reloc_cell hr hcs hsp hc hok hv;refine⟨fun u=>?_,by simpa only [setPlace,hcs] using hh⟩
 simp only[setPlace,get_kill,hcs];split
 ·exact ER.undef _ _ _ _ _ _ _
 ·rename_i hk
  refine (h.env u).keep (fun b hb=>⟨by simp only[hb,hr.im],rfl⟩) (fun id hb=>⟨by simp only[hb,hr.blk],rfl⟩)
   (fun i j b hb=>⟨by simp only[hb,hs u i j],rfl⟩) (fun p hp=>?_)
  have hne:p≠.cell id off:=fun he=>hk (he▸hp)
  refine⟨fun sz n xs hl=>⟨n,xs,?_,rfl⟩,fun c hc=>hc,fun b hb=>?_⟩
  ·cases p with
   | slot x =>
    simp only[look] at hl ⊢;rw[get_kill,hl];rfl
   | cell i o =>
    simp only[look] at hl ⊢;rw[bcells_set (bcells_lt hcs)];by_cases hi:i=id
    ·subst hi
     have ho:o≠off:=fun he=>hne (by rw[he])
     simp only[hcs] at hl;simp only[if_true];rw[←hl];simp[List.getD_eq_getElem?_getD,List.getElem?_set_ne (Ne.symm ho)]
    ·simp only[if_neg hi];exact hl
  ·cases p with
   | slot x=>simp only[locOf] at hb ⊢;simp only[hb,hs]
   | cell i o =>
    simp only[locOf] at hb ⊢;have:i≠id∨o≠off:=by
     by_cases hi:i=id
     ·exact .inr fun ho=>hne (by rw[hi,ho])
     ·exact .inl hi
    simp only[hb,hc i o this]
theorem SR.at_ {own:Own} {β:Nat→Nat} {w:World} {σ:St} {tmps:Array Value} (h:SR own β w σ tmps) {p:Place} {sz:Nat} {n:Bool} {xs:List V}
  (hl:look σ p=.ex sz n xs):∃ c,conc β tmps w p=some c∧EXR own w (locOf p) sz n xs c:=by
 cases p with
 | slot t =>
  have:=h.env t
  simp only[look] at hl;rw[hl] at this;exact⟨_,rfl,this⟩
 | cell id off =>
  simp only[look] at hl;cases hc:bcells σ.heap id with
  | none=>simp[hc] at hl
  | some cs =>
   simp only[hc] at hl;have hlt:off<cs.length:=by
    rcases Nat.lt_or_ge off cs.length with h' | h'
    ·exact h'
    ·simp[List.getD_eq_getElem?_getD,List.getElem?_eq_none h'] at hl
   have hcs:cs[off]?=some (.ex sz n xs):=by
    rw[List.getD_eq_getElem?_getD,List.getElem?_eq_getElem hlt] at hl;rw[List.getElem?_eq_getElem hlt];simpa using hl
   obtain⟨h1,h2,arr,T,h3,h4,h5⟩:=(h.heap.blk id cs hc).cells (specB_of_ex hcs);have ha:off<arr.size:=by omega
   have:=h5 off _ arr[off] hcs (Array.getElem?_eq_getElem ha)
   refine⟨arr[off],?_,this⟩;simp only[conc];rw[cell_of_row w _ _ arr T _ h3,Array.getElem?_eq_getElem ha]
theorem Place.cases_look {σ:St} {id off:Nat} {sz:Nat} {n:Bool} {xs:List V} (hl:look σ (.cell id off)=.ex sz n xs) :
  ∃ cs,bcells σ.heap id=some cs∧cs[off]?=some (.ex sz n xs):=by
 simp only[look] at hl;cases hc:bcells σ.heap id with
 | none=>simp[hc] at hl
 | some cs =>
  simp only[hc] at hl;refine⟨cs,rfl,?_⟩;have hlt:off<cs.length:=by
   rcases Nat.lt_or_ge off cs.length with h' | h'
   ·exact h'
   ·simp[List.getD_eq_getElem?_getD,List.getElem?_eq_none h'] at hl
  rw[List.getD_eq_getElem?_getD,List.getElem?_eq_getElem hlt] at hl;rw[List.getElem?_eq_getElem hlt];simpa using hl
theorem moved_at (a b:Loc):moved a b a=b:=by simp[moved]
theorem moved_ne {a b l:Loc} (h:l≠a):moved a b l=l:=by simp[moved,h]
theorem locOf_reloc (p:Place) {b:Loc} (h4:∀ id,b≠.blk id) (h5:b≠.other):Reloc (moved (locOf p) b):=by
 cases p<;>exact moved_reloc (by simp[locOf]) (by simp[locOf]) (by simp[locOf]) h4 h5
theorem SR.freeze {own:Own} {β:Nat→Nat} {w:World} {σ:St} {tmps:Array Value} (h:SR own β w σ tmps) {p:Place} {sz:Nat} {n:Bool} {xs:List V}
  (hl:look σ p=.ex sz n xs):∃ own' c,conc β tmps w p=some c∧FR own' w (.sl n xs) c∧SR own' β w (setPlace σ p (.sl n xs)) tmps∧Stay own w own' w ∧
   own'=fun b=>moved (locOf p) .im (own b):=by
 obtain⟨c,h1,h2⟩:=h.at_ hl;have hr:Reloc (moved (locOf p) .im):=locOf_reloc p (by simp) (by simp)
 have hf:FR (fun b=>moved (locOf p) .im (own b)) w (.sl n xs) c:=by
  have:=h2.reloc hr
  rw[moved_at] at this;exact this.freeze
 refine⟨_,c,h1,hf,?_,Stay.reloc hr,rfl⟩;cases p with
 | slot t =>
  refine h.slot hr (fun u i j hu=>moved_ne (by simp[locOf,hu])) (fun id j=>moved_ne (by simp[locOf])) rfl ?_
  simp only[conc] at h1;injection h1 with h1;rw[h1];exact hf
 | cell id off =>
  obtain⟨cs,hc,hcs⟩:=Place.cases_look hl;refine h.cell hr hc (specB_of_ex hcs) (fun u i j=>moved_ne (by simp[locOf])) (fun i j hij=>moved_ne (by simp only[locOf];rintro ⟨⟩;simp at hij)) rfl ?_
  intro v c' hv _ hcr;rw[hcs] at hv;injection hv with hv;subst hv;have:=(show EXR own w (.cell id off) sz n xs c' from hcr).reloc hr
  rw[show moved (locOf (.cell id off)) .im (.cell id off)=.im from moved_at _ _] at this;exact this.freeze
theorem SR.give {own:Own} {β:Nat→Nat} {w:World} {σ:St} {tmps:Array Value} (h:SR own β w σ tmps) {p:Place} {sz:Nat} {n:Bool} {xs:List V} (l:Loc)
  (h4:∀ id,l≠.blk id) (h5:l≠.other)
  (hl:look σ p=.ex sz n xs):∃ own' c,conc β tmps w p=some c∧EXR own' w l sz n xs c∧SR own' β w (setPlace σ p .undef) tmps∧Stay own w own' w ∧
   own'=fun b=>moved (locOf p) l (own b):=by
 obtain⟨c,h1,h2⟩:=h.at_ hl;have hr:Reloc (moved (locOf p) l):=locOf_reloc p h4 h5;have hf:EXR (fun b=>moved (locOf p) l (own b)) w l sz n xs c:=by
  have:=h2.reloc hr
  rwa [moved_at] at this
 refine⟨_,c,h1,hf,?_,Stay.reloc hr,rfl⟩;cases p with
 | slot t=>exact h.slot hr (fun u i j hu=>moved_ne (by simp[locOf,hu])) (fun id j=>moved_ne (by simp[locOf])) rfl (by simp only[TR,VR])
 | cell id off =>
  obtain⟨cs,hc,hcs⟩:=Place.cases_look hl;exact h.cell hr hc (specB_of_ex hcs) (fun u i j=>moved_ne (by simp[locOf])) (fun i j hij=>moved_ne (by simp only[locOf];rintro ⟨⟩;simp at hij)) rfl (fun v c' hv _ hcr=>.undef _ hcr.one)
theorem SR.giveSlot {own:Own} {β:Nat→Nat} {w:World} {σ:St} {tmps:Array Value} (h:SR own β w σ tmps) (t:Nat) (hw:isWay (get σ.env t)=false) :
  TR (fun b=>slotOut t (own b)) β w (fun i j=>.res i j) (get σ.env t) (tmps.getD t undef) ∧
   SR (fun b=>slotOut t (own b)) β w (setPlace σ (.slot t) .undef) tmps∧Stay own w (fun b=>slotOut t (own b)) w:=by
 have hr:=slotOut_reloc t;refine⟨?_,h.slot hr (fun u i j hu=>by simp[slotOut,hu]) (fun id j=>rfl) rfl (by simp only[TR,VR]),Stay.reloc hr⟩
 have:=((h.env t).to_TR hw).reloc hr
 simpa [slotOut] using this
theorem SR.put {own:Own} {β:Nat→Nat} {w:World} {σ:St} {tmps:Array Value} (h:SR own β w σ tmps) {d:Nat} {v:V} {c:Value} (hd:d<tmps.size)
  (hv:isWay v=false) (hn:TR own β w (fun i j=>.res i j) v c) :
  SR (fun b=>resIn d (own b)) β w (Go.Vm.put σ (some d) v) (tmps.setIfInBounds d c)∧Stay own w (fun b=>resIn d (own b)) w:=by
 have hr:=resIn_reloc d;refine⟨⟨fun u=>?_,h.heap.reloc hr (fun _ _=>rfl)⟩,Stay.reloc hr⟩
 by_cases hu:u=d
 ·subst hu
  simp only[Go.Vm.put,get_cons_same];have he:(tmps.setIfInBounds u c).getD u undef=c:=by simp[hd]
  rw[he];exact ER.of_TR (hn.reloc hr) hv
 ·have he:(tmps.setIfInBounds d c).getD u undef=tmps.getD u undef:=by simp[Array.getElem?_setIfInBounds_ne (Ne.symm hu)]
  rw[he];simp only[Go.Vm.put,get_cons_ne _ _ (Ne.symm hu),get_kill];split
  ·exact ER.undef _ _ _ _ _ _ _
  ·rename_i hk
   refine (h.env u).keep (fun b hb=>⟨by simp only[hb,hr.im],rfl⟩) (fun id hb=>⟨by simp only[hb,hr.blk],rfl⟩)
    (fun i j b hb=>⟨by simp only[hb,resIn],rfl⟩) (fun p hp=>?_)
   have hne:p≠.slot d:=fun he=>hk (he▸hp)
   refine⟨fun sz n xs hl=>⟨n,xs,?_,rfl⟩,fun c hc=>?_,fun b hb=>?_⟩
   ·cases p with
    | slot x =>
     have hx:x≠d:=fun he=>hne (by rw[he])
     simp only[look] at hl ⊢;rw[get_cons_ne _ _ (Ne.symm hx),get_kill,hl];rfl
    | cell id off=>exact hl
   ·cases p with
    | slot x =>
     have hx:x≠d:=fun he=>hne (by rw[he])
     simp only[conc] at hc ⊢;rw[←hc];simp[Array.getElem?_setIfInBounds_ne (Ne.symm hx)]
    | cell id off=>exact hc
   ·cases p<;>simp only[locOf] at hb ⊢<;>simp only[hb,resIn]
theorem SR.putWay {own:Own} {β:Nat→Nat} {w:World} {σ:St} {tmps:Array Value} (h:SR own β w σ tmps) {d:Nat} {v:V} {c:Value} (hd:d<tmps.size)
  (hv:isWay v=true) (hnd:v.refsTo (.slot d)=false) (hn:ER own β w σ tmps d v c) :
  SR own β w (Go.Vm.put σ (some d) v) (tmps.setIfInBounds d c):=by
 have key:∀ p v,v.refsTo p=true→p≠.slot d→(∀ sz n xs,look σ p=.ex sz n xs→∃ n' xs',look (Go.Vm.put σ (some d) v) p=.ex sz n' xs'∧xs'.length=xs.length) ∧
   (∀ c',conc β tmps w p=some c'→conc β (tmps.setIfInBounds d c) w p=some c')∧∀ b,own b=locOf p→own b=locOf p:=by
  intro p v hp hne;refine⟨fun sz n xs hl=>⟨n,xs,?_,rfl⟩,fun c' hc=>?_,fun b hb=>hb⟩
  ·cases p with
   | slot x =>
    have hx:x≠d:=fun he=>hne (by rw[he])
    simp only[look] at hl ⊢;simp only[Go.Vm.put];rw[get_cons_ne _ _ (Ne.symm hx),get_kill,hl];rfl
   | cell id off=>exact hl
  ·cases p with
   | slot x =>
    have hx:x≠d:=fun he=>hne (by rw[he])
    simp only[conc] at hc ⊢;rw[←hc];simp[Array.getElem?_setIfInBounds_ne (Ne.symm hx)]
   | cell id off=>exact hc
 have key2:∀ (vv:V) p,vv.refsTo p=true→p≠.slot d→(∀ sz n xs,look σ p=.ex sz n xs→∃ n' xs',look (Go.Vm.put σ (some d) v) p=.ex sz n' xs'∧xs'.length=xs.length) ∧
   (∀ c',conc β tmps w p=some c'→conc β (tmps.setIfInBounds d c) w p=some c')∧∀ b,own b=locOf p→own b=locOf p:=by
  intro vv p hp hne;refine⟨fun sz n xs hl=>⟨n,xs,?_,rfl⟩,(key p vv hp hne).2.1,fun b hb=>hb⟩
  cases p with
  | slot x =>
   have hx:x≠d:=fun he=>hne (by rw[he])
   simp only[look] at hl ⊢;simp only[Go.Vm.put];rw[get_cons_ne _ _ (Ne.symm hx),get_kill,hl];rfl
  | cell id off=>exact hl
 refine⟨fun u=>?_,h.heap⟩
 by_cases hu:u=d
 ·subst hu
  simp only[Go.Vm.put,get_cons_same];have he:(tmps.setIfInBounds u c).getD u undef=c:=by simp[hd]
  rw[he];refine hn.keep (fun b hb=>⟨hb,rfl⟩) (fun id hb=>⟨hb,rfl⟩) (fun i j b hb=>⟨hb,rfl⟩) (fun p hp=>key2 v p hp ?_)
  rintro rfl;rw[hnd] at hp;cases hp
 ·have he:(tmps.setIfInBounds d c).getD u undef=tmps.getD u undef:=by simp[Array.getElem?_setIfInBounds_ne (Ne.symm hu)]
  rw[he];simp only[Go.Vm.put,get_cons_ne _ _ (Ne.symm hu),get_kill];split
  ·exact ER.undef _ _ _ _ _ _ _
  ·rename_i hk
   exact (h.env u).keep (fun b hb=>⟨hb,rfl⟩) (fun id hb=>⟨hb,rfl⟩) (fun i j b hb=>⟨hb,rfl⟩) (fun p hp=>key2 _ p hp fun he=>hk (he▸hp))
theorem SR.world {own:Own} {β:Nat→Nat} {w w':World} {σ:St} {tmps:Array Value} (h:SR own β w σ tmps) (hs:w.heap.size≤w'.heap.size)
  (hk:∀ b,own b≠.other→(∀ i j,own b≠.res i j)→w'.heap[b]?=w.heap[b]?):SR own β w' σ tmps:=by
 refine⟨fun u=>?_,⟨fun id cs hi=>?_,h.heap.inv,fun b hb=>Nat.lt_of_lt_of_le (h.heap.lt b hb) hs⟩⟩
 ·refine (h.env u).keep (fun b hb=>⟨hb,hk b (by simp[hb]) (by simp[hb])⟩) (fun id hb=>⟨hb,rfl⟩) (fun i j b hb=>⟨hb,hk b (by simp[hb]) (by simp[hb])⟩) (fun p hp=>⟨fun sz n xs hl=>⟨n,xs,hl,rfl⟩,fun c hc=>?_,fun b hb=>hb⟩)
  have hE:=h.env u;cases p with
  | slot x=>exact hc
  | cell id off =>
   simp only[conc] at hc ⊢;cases hv:get σ.env u<;>rw[hv] at hp hE<;>simp[V.refsTo] at hp<;>subst hp
   ·obtain⟨sz,n,xs,b,len,cap,h1,h2⟩:=hE
    obtain⟨cs,h3,h4⟩:=Place.cases_look h1;have:=(h.heap.blk id cs h3).own
    rw[←hc];exact World.cell?_of_block (w:=w) (hk (β id) (by simp[this]) (by simp[this]))
   ·obtain⟨sz,n,xs,h1,h2⟩:=hE
    obtain⟨cs,h3,h4⟩:=Place.cases_look h1;have:=(h.heap.blk id cs h3).own
    rw[←hc];exact World.cell?_of_block (w:=w) (hk (β id) (by simp[this]) (by simp[this]))
 ·have hb:=h.heap.blk id cs hi
  exact hb.mono (fun b hb=>⟨hb,hk b (by simp[hb]) (by simp[hb])⟩) (fun id hb=>⟨hb,rfl⟩) (fun j b hb=>⟨hb,hk b (by simp[hb]) (by simp[hb])⟩) (hk _ (by simp[hb.own]) (by simp[hb.own]))
end Go.Vm
end
section
namespace Go.Vm
open Go
theorem bcells_none {H:Heap} {own:Own} {β:Nat→Nat} {w:World} (h:HR own β w H) {id:Nat} (hi:bcells H id=none) (b:Nat):own b≠.blk id:=fun hb=>by
 obtain⟨_,cs,hc⟩:=h.inv b id hb;rw[hi] at hc;cases hc
theorem alloc_other (w:World) (o:Obj) (b:Nat) (hb:b<w.heap.size):(w.alloc o).heap[b]?=w.heap[b]?:=heap_alloc_old w o b hb
theorem SR.lay {own:Own} {β:Nat→Nat} {w:World} {σ:St} {tmps:Array Value} (h:SR own β w σ tmps) {id:Nat} {cs:List V} (ob:Obj)
  (hid:id<σ.heap.length) (hnone:bcells σ.heap id=none)
  (hB:∀ (own':Own) (β':Nat→Nat),(∀ b,own b=.im→own' b=.im∧(w.alloc ob).heap[b]?=w.heap[b]?)→(∀ i,own (β i)=.blk i→own' (β' i)=.blk i∧β' i=β i) →
   (∀ l:Loc,l≠.other→∀ b,own b=l→own' b=l∧(w.alloc ob).heap[b]?=w.heap[b]?)→own' (β' id)=.blk id→β' id=w.heap.size→BR own' β' (w.alloc ob) id cs) :
  ∃ own' β',SR own' β' (w.alloc ob) {σ with heap:=σ.heap.set id (.cells cs)} tmps∧Stay own w own' (w.alloc ob) ∧
   BX β β' σ.heap (σ.heap.set id (.cells cs))∧β' id=w.heap.size∧own' (β' id)=.blk id:=by
 have hnew:own w.heap.size=.other:=by
  cases ho:own w.heap.size<;>first | rfl | exact absurd (h.heap.lt _ (by simp[ho])) (Nat.lt_irrefl _)
 let own':Own:=fun b=>if b=w.heap.size then .blk id else own b
 let β':Nat→Nat:=fun i=>if i=id then w.heap.size else β i
 have h1:∀ b,own b≠.other→own' b=own b∧(w.alloc ob).heap[b]?=w.heap[b]?:=fun b hb=>by
  have hlt:=h.heap.lt b hb;exact⟨by simp only[own'];rw[if_neg (by omega)],alloc_other w _ b hlt⟩
 have hk:∀ b,own b=.im→own' b=.im∧(w.alloc ob).heap[b]?=w.heap[b]?:=fun b hb=>by
  have:=h1 b (by simp[hb]);exact⟨this.1.trans hb,this.2⟩
 have hb:∀ i,own (β i)=.blk i→own' (β' i)=.blk i∧β' i=β i:=fun i hi=>by
  have hne:i≠id:=fun he=>bcells_none h.heap hnone _ (he▸hi)
  have:β' i=β i:=by simp only[β'];rw[if_neg hne]
  rw[this];exact⟨(h1 _ (by simp[hi])).1.trans hi,rfl⟩
 have hl:∀ l:Loc,l≠.other→∀ b,own b=l→own' b=l∧(w.alloc ob).heap[b]?=w.heap[b]?:=fun l hl b hb=>by
  have:=h1 b (by rw[hb];exact hl);exact⟨this.1.trans hb,this.2⟩
 refine⟨own',β',⟨fun t=>?_,⟨fun i ds hi=>?_,fun b i hbi=>?_,fun b hbo=>?_⟩⟩,⟨hk,fun b hlt ho=>?_,by simp,rfl,rfl,rfl,Nat.le_refl _,fun b arr T hb=>⟨arr,by rw[alloc_other w _ b (Array.getElem?_eq_some_iff.1 hb).1];exact hb,rfl⟩⟩,⟨by simp,fun i ds hi=>?_⟩,by simp[β'],by simp[β',own']⟩
 ·refine (h.env t).keep hk hb (fun i j b hbb=>hl _ (by simp) b hbb) (fun p hp=>⟨fun sz n xs hlk=>⟨n,xs,?_,rfl⟩,fun c hcc=>?_,fun b hbb=>(hl _ (by cases p<;>simp[locOf]) b hbb).1⟩)
  ·cases p with
   | slot x=>exact hlk
   | cell i off =>
    obtain⟨ds,h3,h4⟩:=Place.cases_look hlk;simp only[look] at hlk ⊢;rw[bcells_set hid];rw[if_neg (fun he=>by rw[he,hnone] at h3;cases h3)]
    exact hlk
  ·cases p with
   | slot x=>exact hcc
   | cell i off =>
    simp only[conc] at hcc ⊢;have hE:=h.env t;have hi:∃ sz n xs,look σ (.cell i off)=.ex sz n xs:=by
     cases hv:get σ.env t<;>rw[hv] at hp hE<;>simp[V.refsTo] at hp<;>subst hp
     ·obtain⟨sz,n,xs,b,len,cap,q1,q2⟩:=hE;exact⟨_,_,_,q1⟩
     ·obtain⟨sz,n,xs,q1,q2⟩:=hE;exact⟨_,_,_,q1⟩
    obtain⟨sz,n,xs,hi⟩:=hi;obtain⟨ds,h3,h4⟩:=Place.cases_look hi;have hbl:=(h.heap.blk i ds h3).own;rw[(hb i hbl).2,←hcc];exact World.cell?_of_block (w:=w) (h1 _ (by simp[hbl])).2
 ·rw[bcells_set hid] at hi
  split at hi
  ·rename_i hii;subst hii
   injection hi with hi;subst hi;exact hB _ _ hk hb hl (by simp[β',own']) (by simp[β'])
  ·rename_i hii
   have hbl:=(h.heap.blk i ds hi).own;exact (h.heap.blk i ds hi).mono hk hb (fun j b hbb=>hl _ (by simp) b hbb) (h1 _ (by simp[hbl])).2
 ·simp only[own'] at hbi
  split at hbi
  ·rename_i hbn;injection hbi with hbi;subst hbi
   exact⟨by simp[β',hbn],cs,by rw[bcells_set hid];simp⟩
  ·obtain⟨q1,ds,q2⟩:=h.heap.inv b i hbi
   have hne:i≠id:=fun he=>bcells_none h.heap hnone _ (he▸hbi)
   exact⟨by simp only[β'];rw[if_neg hne];exact q1,ds,by rw[bcells_set hid,if_neg hne];exact q2⟩
 ·simp only[own'] at hbo
  split at hbo
  ·rename_i hbn;rw[hbn];simp
  ·have:=h.heap.lt b hbo;simp;omega
 ·exact⟨by simp only[own'];rw[if_neg (by omega)];exact ho,alloc_other w _ b hlt⟩
 ·have hne:i≠id:=fun he=>by rw[he,hnone] at hi;cases hi
  exact⟨by simp only[β'];rw[if_neg hne],ds,by rw[bcells_set hid,if_neg hne];exact hi⟩
theorem SR.init {own:Own} {β:Nat→Nat} {w:World} {σ:St} {tmps:Array Value} (h:SR own β w σ tmps) {id:Nat} {cs:List V} {arr:Array Value} {T:TypeId}
  (hid:id<σ.heap.length) (hnone:bcells σ.heap id=none) (hs:arr.size=cs.length) (hok:∀ v∈cs,okBelow (id+1) v=true)
  (hc:∀ (j:Nat) (v:V) (c:Value),cs[j]?=some v→arr[j]?=some c→CR own β w (.cell id j) v c) :
  ∃ own' β',SR own' β' (w.alloc (.cells arr T)) {σ with heap:=σ.heap.set id (.cells cs)} tmps∧Stay own w own' (w.alloc (.cells arr T)) ∧
   BX β β' σ.heap (σ.heap.set id (.cells cs))∧β' id=w.heap.size∧own' (β' id)=.blk id :=
 h.lay _ hid hnone fun own' β' hk hb hl h1 h2=>.inl ⟨h1,hok,arr,T,by rw[h2];exact heap_alloc_new w _,Nat.le_of_eq hs.symm,fun j v c hv hcv=>(hc j v c hv hcv).mono hk hb (hl _ (by simp))⟩
theorem SR.fresh {own:Own} {β:Nat→Nat} {w w':World} {σ:St} {tmps:Array Value} (h:SR own β w σ tmps) {sz:Nat} {xs:List V} {arr:Array Value} {T:TypeId} {cap:Nat}
  (hw:w'.heap=w.heap.push (.cells arr T)) (hos:w'.os=w.os) (htape:w'.tape=w.tape) (hout:w'.output=w.output) (hdr:w.drawn≤w'.drawn)
  (hcap:xs.length≤cap) (hs:arr.size=cap*sz) (hx:Lay own w sz xs arr) :
  ∃ own',SR own' β w' σ tmps∧Stay own w own' w'∧EXR own' w' (.res 0 0) sz false xs (.slice (some ⟨w.heap.size,0,none⟩) xs.length cap) ∧
   (∀ b,own b≠.other→own' b=own b∧w'.heap[b]?=w.heap[b]?):=by
 have hnew:own w.heap.size=.other:=by
  cases ho:own w.heap.size<;>first | rfl | exact absurd (h.heap.lt _ (by simp[ho])) (Nat.lt_irrefl _)
 let own':Own:=fun b=>if b=w.heap.size then .res 0 0 else own b
 have hsize:w'.heap.size=w.heap.size+1:=by rw[hw];simp
 have hold:∀ b,b<w.heap.size→w'.heap[b]?=w.heap[b]?:=fun b hb=>by
  rw[hw,Array.getElem?_push];rw[if_neg (by omega)]
 have h1:∀ b,own b≠.other→own' b=own b∧w'.heap[b]?=w.heap[b]?:=fun b hb=>by
  have hlt:=h.heap.lt b hb;exact⟨by simp only[own'];rw[if_neg (by omega)],hold b hlt⟩
 have hk:∀ b,own b=.im→own' b=.im∧w'.heap[b]?=w.heap[b]?:=fun b hb=>by
  have:=h1 b (by simp[hb]);exact⟨this.1.trans hb,this.2⟩
 have hb:∀ i,own (β i)=.blk i→own' (β i)=.blk i∧β i=β i:=fun i hi=>⟨(h1 _ (by simp[hi])).1.trans hi,rfl⟩
 have hl:∀ l:Loc,l≠.other→∀ b,own b=l→own' b=l∧w'.heap[b]?=w.heap[b]?:=fun l hl b hb=>by
  have:=h1 b (by rw[hb];exact hl);exact⟨this.1.trans hb,this.2⟩
 have hw1:=h.world (w':=w') (by rw[hsize];omega) (fun b hb _=>(h1 b hb).2)
 refine⟨own',⟨fun t=>?_,⟨fun i ds hi=>?_,fun b i hbi=>?_,fun b hbo=>?_⟩⟩,⟨hk,fun b hlt ho=>⟨by simp only[own'];rw[if_neg (by omega)];exact ho,hold b hlt⟩,by rw[hsize];omega,hos,htape,hout,hdr,fun b arr T hb=>⟨arr,by rw[hold b (Array.getElem?_eq_some_iff.1 hb).1];exact hb,rfl⟩⟩,
  .inr (.inr ⟨rfl,w.heap.size,cap,T,arr,rfl,by simp[own'],by rw[hw];simp,hcap,hs,fun i x hi=>⟨(hx i x hi).1,fun j y c hy hc=>((hx i x hi).2 j y c hy hc).mono hk⟩⟩),h1⟩
 ·exact (hw1.env t).keep (fun b hb=>⟨(hk b hb).1,rfl⟩) hb (fun i j b hbb=>⟨(hl _ (by simp) b hbb).1,rfl⟩) (fun p hp=>⟨fun sz n xs hlk=>⟨n,xs,hlk,rfl⟩,fun c hcc=>hcc,fun b hbb=>(hl _ (by cases p<;>simp[locOf]) b hbb).1⟩)
 ·exact (hw1.heap.blk i ds hi).mono (fun b hb=>⟨(hk b hb).1,rfl⟩) hb (fun j b hbb=>⟨(hl _ (by simp) b hbb).1,rfl⟩) rfl
 ·simp only[own'] at hbi
  split at hbi
  ·cases hbi
  ·exact h.heap.inv b i hbi
 ·simp only[own'] at hbo
  split at hbo
  ·rename_i hbn;rw[hbn,hsize];omega
  ·have:=h.heap.lt b hbo;rw[hsize];omega
theorem SR.congr {own:Own} {β:Nat→Nat} {w:World} {σ σ':St} {tmps:Array Value} (h:SR own β w σ tmps) (hg:∀ t,get σ'.env t=get σ.env t)
  (hh:σ'.heap=σ.heap):SR own β w σ' tmps:=by
 have hlook:∀ p,look σ' p=look σ p:=fun p=>by cases p<;>simp[look,hg,hh]
 refine⟨fun t=>?_,by rw[hh];exact h.heap⟩
 rw[hg];exact (h.env t).keep (fun b hb=>⟨hb,rfl⟩) (fun id hb=>⟨hb,rfl⟩) (fun i j b hb=>⟨hb,rfl⟩)
  (fun p hp=>⟨fun sz n xs hl=>⟨n,xs,by rw[hlook];exact hl,rfl⟩,fun c hc=>hc,fun b hb=>hb⟩)
theorem SR.pokeRes {own:Own} {β:Nat→Nat} {w w':World} {σ:St} {tmps:Array Value} (h:SR own β w σ tmps) {g:Nat} (hg:own g=.res 0 0)
  (hs:w'.heap.size=w.heap.size) (hb:∀ b,b≠g→w'.heap[b]?=w.heap[b]?) (hos:w'.os=w.os) (htape:w'.tape=w.tape) (hout:w'.output=w.output) (hdr:w.drawn≤w'.drawn)
  (hcl:∀ (arr:Array Value) (T:TypeId),w.heap[g]?=some (.cells arr T (0,0))→∃ arr':Array Value,w'.heap[g]?=some (.cells arr' T (0,0))∧arr'.size=arr.size) :
  SR own β w' σ tmps∧Stay own w own w':=by
 refine⟨h.world (by omega) (fun b _ hr=>hb b fun he=>hr 0 0 (he▸hg)),fun b hbi=>⟨hbi,hb b fun he=>?_⟩,fun b _ hbo=>⟨hbo,hb b fun he=>?_⟩,by omega,hos,htape,hout,hdr,fun b arr T hbc=>if he:b=g then he▸hcl arr T (he▸hbc) else ⟨arr,by rw[hb b he];exact hbc,rfl⟩⟩
 ·rw[he,hg] at hbi;cases hbi
 ·rw[he,hg] at hbo;cases hbo
theorem SR.back {own:Own} {β:Nat→Nat} {w:World} {σ:St} {tmps:Array Value} (h:SR own β w σ tmps) (p:Place) {sz:Nat} {n:Bool} {xs:List V} {c:Value}
  (hp:∀ id off,p=.cell id off→∃ cs,bcells σ.heap id=some cs∧off<cs.length∧specB cs=false)
  (hc:conc β tmps w p=some c) (hx:EXR own w (.res 0 0) sz n xs c):∃ own',SR own' β w (setPlace σ p (.ex sz n xs)) tmps∧Stay own w own' w:=by
 have hr:Reloc (moved (.res 0 0) (locOf p)):=moved_reloc (by simp) (by simp) (by simp) (by cases p<;>simp[locOf]) (by cases p<;>simp[locOf])
 have hx':=hx.reloc hr;rw[moved_at] at hx';refine⟨_,?_,Stay.reloc hr⟩;cases p with
 | slot t =>
  simp only[conc] at hc;injection hc with hc;exact h.slot hr (fun u i j hu=>moved_ne (by simp)) (fun id j=>moved_ne (by simp)) rfl (by rw[hc];exact hx')
 | cell id off =>
  obtain⟨cs,h1,h2,hsp⟩:=hp id off rfl;refine h.cell hr h1 hsp (fun u i j=>moved_ne (by simp)) (fun i j hij=>moved_ne (by simp)) rfl ?_
  intro v c' hv hcell _;simp only[conc] at hc;rw[hc] at hcell;injection hcell with hcell;subst hcell;exact hx'
theorem setCells_length:∀ (vs:List V) (cs:List V) (off:Nat),(setCells cs off vs).length=cs.length
 | [],cs,off=>rfl
 | v::vs,cs,off=>by simp only[setCells];rw[setCells_length vs];simp
theorem setCells_get:∀ (vs:List V) (cs:List V) (off k:Nat),off+vs.length≤cs.length →
  (setCells cs off vs)[k]?=if off≤k∧k<off+vs.length then vs[k-off]? else cs[k]?
 | [],cs,off,k,_=>by simp[setCells];intro h1 h2;omega
 | v::vs,cs,off,k,h=>by
  simp only[setCells];simp only[List.length_cons] at h;rw[setCells_get vs (cs.set off v) (off+1) k (by simp;omega)]
  by_cases hk:k=off
  ·subst hk
   rw[if_neg (by omega),if_pos (by simp)]
   rw[List.getElem?_set_self (by omega)];simp
  ·rw[List.getElem?_set_ne (Ne.symm hk)]
   simp only[List.length_cons];by_cases h1:off+1≤k∧k<off+1+vs.length
   ·rw[if_pos h1,if_pos (by omega)]
    have:k-off=(k-(off+1))+1:=by omega
    rw[this,List.getElem?_cons_succ]
   ·rw[if_neg h1,if_neg (by omega)]
def patch (arr:Array Value) (off:Nat) (vs:List Value):Array Value:=(arr.toList.take off++vs++arr.toList.drop (off+vs.length)).toArray
theorem patch_size (arr:Array Value) (off:Nat) (vs:List Value) (h:off+vs.length≤arr.size):(patch arr off vs).size=arr.size:=by
 simp[patch];omega
theorem patch_get (arr:Array Value) (off:Nat) (vs:List Value) (h:off+vs.length≤arr.size) (k:Nat) :
  (patch arr off vs)[k]?=if off≤k∧k<off+vs.length then vs[k-off]? else arr[k]?:=by
 simp only[patch,List.getElem?_toArray];rw[List.append_assoc,List.getElem?_append];have hl:(arr.toList.take off).length=off:=by simp;omega
 rw[hl];by_cases h1:k<off
 ·rw[if_pos h1,if_neg (by omega),List.getElem?_take,if_pos h1];simp
 ·rw[if_neg h1,List.getElem?_append]
  by_cases h2:k-off<vs.length
  ·rw[if_pos h2,if_pos (by omega)]
  ·rw[if_neg h2,if_neg (by omega),List.getElem?_drop]
   have:off+vs.length+(k-off-vs.length)=k:=by omega
   rw[this];simp
theorem setRow_at (w:World) (g:Nat) (cur cs:Array Value) (T:TypeId) (fr:Nat×Nat) (hg:w.heap[g]?=some (.cells cur T fr)):(w.setRow g cs).heap[g]?=some (.cells cs T fr) :=
 setRow_heap w g cur cs T fr hg
theorem SR.store {own:Own} {β:Nat→Nat} {w:World} {σ:St} {tmps:Array Value} (h:SR own β w σ tmps) {id off:Nat} {cs vs:List V} {cvs:List Value}
  (hcs:bcells σ.heap id=some cs) (hsp:specB cs=false) (hlen:cvs.length=vs.length) (hfit:off+vs.length≤cs.length) (hok:∀ v∈vs,okBelow (id+1) v=true)
  (hv:∀ (j:Nat) (v:V) (c:Value),vs[j]?=some v→cvs[j]?=some c→CR own β w (.res 0 j) v c) :
  ∃ own' arr T,w.heap[β id]?=some (.cells arr T (0,0))∧off+cvs.length≤arr.size∧(∀ u∈cvs,u.oneCell'=true) ∧
   SR own' β (w.setRow (β id) (patch arr off cvs)) (setMem σ (.set id off vs)) tmps∧Stay own w own' (w.setRow (β id) (patch arr off cvs)) ∧
   BX β β σ.heap (setMem σ (.set id off vs)).heap:=by
 obtain⟨hbl,hok0,arr,T,harr,hsz,hcr⟩:=(h.heap.blk id cs hcs).cells hsp
 let ρ:Loc→Loc:=fun l=>match l with | .res 0 j=>.cell id (off+j) | l=>l
 have hr:Reloc ρ:=by
  refine⟨rfl,rfl,fun _=>rfl,fun l i hl=>?_,fun l hl=>?_⟩
  ·cases l<;>simp only[ρ] at hl<;>first | rfl | exact hl | (split at hl<;>first | cases hl | exact hl)
  ·cases l<;>simp only[ρ] at hl<;>first | rfl | exact hl | (split at hl<;>first | cases hl | exact hl)
 have hfit':off+cvs.length≤arr.size:=by omega
 have hone:∀ u∈cvs,u.oneCell'=true:=fun u hu=>by
  obtain⟨j,hj⟩:=List.getElem?_of_mem hu;have hlt:j<vs.length:=by rw[←hlen];exact (List.getElem?_eq_some_iff.1 hj).1
  exact (hv j vs[j] u (List.getElem?_eq_getElem hlt) hj).one
 have hoth:∀ b,b≠β id→(w.setRow (β id) (patch arr off cvs)).heap[b]?=w.heap[b]?:=fun b hb=>setRow_other w _ b _ hb
 have hne:∀ l,l≠.blk id→∀ b,own b=l→(w.setRow (β id) (patch arr off cvs)).heap[b]?=w.heap[b]?:=fun l hl b hb=>hoth b fun he=>hl (by rw[←hb,he,hbl])
 have hk:∀ b,own b=.im→ρ (own b)=.im∧(w.setRow (β id) (patch arr off cvs)).heap[b]?=w.heap[b]?:=fun b hb=>⟨by simp only[hb,ρ],hne .im (by simp) b hb⟩
 have hb:∀ i,own (β i)=.blk i→ρ (own (β i))=.blk i∧β i=β i:=fun i hi=>⟨by simp only[hi,ρ],rfl⟩
 have hset:setMem σ (.set id off vs)={env:=σ.env.map (fun x=>(x.1,killIn id off vs.length x.2)),heap:=σ.heap.set id (.cells (setCells cs off vs))}:=by simp only[setMem,hcs]
 have hid:=bcells_lt hcs;have hcl:∀ (b:Nat) (arr':Array Value) (T':TypeId),w.heap[b]?=some (.cells arr' T' (0,0))→∃ a2:Array Value,(w.setRow (β id) (patch arr off cvs)).heap[b]?=some (.cells a2 T' (0,0))∧a2.size=arr'.size:=fun b arr' T' hb'=>by
  by_cases he:b=β id
  ·subst he;rw[harr] at hb';injection hb' with hb';injection hb' with e1 e2;subst e1;subst e2
   exact⟨_,setRow_at w _ _ _ _ _ harr,patch_size _ _ _ hfit'⟩
  ·exact⟨arr',by rw[hoth b he];exact hb',rfl⟩
 refine⟨fun b=>ρ (own b),arr,T,harr,hfit',hone,?_,⟨hk,fun b hlt hbo=>⟨by simp only[hbo,ρ],hne .other (by simp) b hbo⟩,by simp,rfl,rfl,rfl,Nat.le_refl _,hcl⟩,?_⟩
 ·rw[hset]
  refine⟨fun t=>?_,⟨fun i ds hi=>?_,fun b i hbi=>?_,fun b hbo=>?_⟩⟩
  ·let f:V→V:=killIn id off vs.length
   have hg:get (σ.env.map fun x=>(x.1,f x.2)) t=f (get σ.env t):=get_map f rfl t σ.env
   show ER _ _ _ _ _ t (get (σ.env.map fun x=>(x.1,f x.2)) t) _
   rw[hg];by_cases hkill:f (get σ.env t)=.undef
   ·rw[hkill];exact ER.undef _ _ _ _ _ _ _
   ·have hsame:f (get σ.env t)=get σ.env t:=by
     simp only[f] at hkill ⊢;cases hv':get σ.env t<;>rw[hv'] at hkill<;>try rfl
     ·rename_i p _ _;cases p with
      | slot x=>rfl
      | cell i o=>simp only[killIn] at hkill ⊢;split<;>first | rfl | (rename_i hh;rw[if_pos hh] at hkill;exact absurd rfl hkill)
     ·rename_i p;cases p with
      | slot x=>rfl
      | cell i o=>simp only[killIn] at hkill ⊢;split<;>first | rfl | (rename_i hh;rw[if_pos hh] at hkill;exact absurd rfl hkill)
    have hcellne:∀ i o,(get σ.env t).refsTo (.cell i o)=true→¬ (i=id∧off≤o∧o<off+vs.length):=by
     intro i o hp hh;cases hv':get σ.env t<;>rw[hv'] at hp hkill<;>simp[V.refsTo] at hp<;>subst hp<;>simp[f,killIn,hh] at hkill
    rw[hsame];have hfo:∀ x,get (σ.env.map fun x=>(x.1,f x.2)) x=f (get σ.env x):=fun x=>get_map f rfl x σ.env
    refine (h.env t).keep hk hb (fun i j b hbb=>⟨by simp only[hbb,ρ],hne _ (by simp) b hbb⟩) (fun p hp=>⟨fun sz n xs hlk=>⟨n,xs,?_,rfl⟩,fun c hcc=>?_,fun b hbb=>?_⟩)
    ·cases p with
     | slot x =>
      simp only[look] at hlk ⊢
      show get (σ.env.map fun x=>(x.1,f x.2)) x=_
      rw[hfo,hlk];rfl
     | cell i o =>
      simp only[look] at hlk ⊢;rw[bcells_set hid];by_cases hi:i=id
      ·subst hi
       simp only[hcs,if_true] at hlk ⊢;have:=hcellne i o hp
       rw[List.getD_eq_getElem?_getD,setCells_get vs cs off o hfit,if_neg (by omega),←List.getD_eq_getElem?_getD]
       exact hlk
      ·rw[if_neg hi];exact hlk
    ·cases p with
     | slot x=>exact hcc
     | cell i o =>
      simp only[conc] at hcc ⊢;have hE:=h.env t;have hlk:∃ sz n xs,look σ (.cell i o)=.ex sz n xs:=by
       cases hv':get σ.env t<;>rw[hv'] at hp hE<;>simp[V.refsTo] at hp<;>subst hp
       ·obtain⟨sz,n,xs,b,len,cap,q1,q2⟩:=hE;exact⟨_,_,_,q1⟩
       ·obtain⟨sz,n,xs,q1,q2⟩:=hE;exact⟨_,_,_,q1⟩
      obtain⟨sz,n,xs,hlk⟩:=hlk;obtain⟨ds,h3,h4⟩:=Place.cases_look hlk;by_cases hi:i=id
      ·subst hi
       have:=hcellne i o hp
       rw[cell_of_row _ _ o _ T _ (setRow_at w _ arr _ T _ harr),patch_get arr off cvs hfit',if_neg (by omega)]
       rw[cell_of_row w _ o arr T _ harr] at hcc;exact hcc
      ·have hbl':=(h.heap.blk i ds h3).own
       rw[←hcc];exact World.cell?_of_block (w:=w) (hne (.blk i) (by simp[hi]) _ hbl')
    ·cases p<;>simp only[locOf] at hbb ⊢<;>simp only[hbb,ρ]
  ·simp only at hi
   rw[bcells_set hid] at hi;split at hi
   ·rename_i hii;subst hii
    injection hi with hi;subst hi;refine .inl ⟨by simp only[hbl,ρ],fun v hv'=>?_,patch arr off cvs,T,setRow_at w _ arr _ T _ harr,by rw[patch_size arr off cvs hfit',setCells_length];exact hsz,fun j v c hvj hcj=>?_⟩
    ·obtain⟨j,hj⟩:=List.getElem?_of_mem hv'
     rw[setCells_get vs cs off j hfit] at hj;split at hj
     ·exact hok v (List.mem_of_getElem? hj)
     ·exact hok0 v (List.mem_of_getElem? hj)
    ·rw[setCells_get vs cs off j hfit] at hvj
     rw[patch_get arr off cvs hfit',hlen] at hcj;split at hvj
     ·rename_i hin
      rw[if_pos hin] at hcj;have:=(hv (j-off) v c hvj hcj).reloc hr
      have he:ρ (.res 0 (j-off))=.cell i j:=by simp only[ρ];congr 1;omega
      rw[he] at this;exact this.mono (fun b hb'=>⟨hb',by
       have:own b=.im:=by
        cases ho:own b<;>simp only[ho,ρ] at hb'<;>first | rfl | cases hb' | (split at hb'<;>cases hb')
       exact hne .im (by simp) b this⟩) (fun k hk'=>⟨hk',rfl⟩) (fun b hb'=>⟨hb',by
       refine hoth b fun heb=>?_
       simp only[heb,hbl,ρ] at hb';cases hb'⟩)
     ·rename_i hin
      rw[if_neg hin] at hcj;have:=(hcr j v c hvj hcj).mono hk hb (fun b hbb=>⟨by simp only[hbb,ρ],hne _ (by simp) b hbb⟩)
      exact this
   ·rename_i hii
    have hbl':=(h.heap.blk i ds hi).own;exact (h.heap.blk i ds hi).mono hk hb (fun j b hbb=>⟨by simp only[hbb,ρ],hne _ (by simp) b hbb⟩) (hne (.blk i) (by simp[hii]) _ hbl')
  ·obtain⟨q1,ds,q2⟩:=h.heap.inv b i (hr.noblk _ _ hbi)
   refine⟨q1,?_⟩;simp only;rw[bcells_set hid];split
   ·exact⟨_,rfl⟩
   ·exact⟨ds,q2⟩
  ·have:=h.heap.lt b fun he=>hbo (by simp only[he,ρ])
   simpa using this
 ·rw[hset]
  refine⟨by simp,fun i ds hi=>⟨rfl,?_⟩⟩
  simp only;rw[bcells_set hid];split
  ·exact⟨_,rfl⟩
  ·exact⟨ds,hi⟩
end Go.Vm
end
section
namespace Go.Vm
open Go
theorem Lay.mono {own own':Own} {w w':World} {sz:Nat} {xs:List V} {arr:Array Value} (h:Lay own w sz xs arr)
  (hk:∀ b,own b=.im→own' b=.im∧w'.heap[b]?=w.heap[b]?):Lay own' w' sz xs arr :=
 fun i x hx=>⟨(h i x hx).1,fun j y c hy hc=>((h i x hx).2 j y c hy hc).mono hk⟩
structure SrcL (own:Own) (w:World) (sz:Nat) (ys:List V) (news:List Value):Prop where
 len:news.length=ys.length*sz
 cells:∀ (i:Nat) (y:V),ys[i]?=some y→y.cells.length=sz
 fr:∀ (i:Nat) (y:V) (j:Nat) (v:V) (u:Value),ys[i]?=some y→y.cells[j]?=some v→news[i*sz+j]?=some u→FR own w v u
theorem idx_lt {i j n sz:Nat} (hi:i<n) (hj:j<sz):i*sz+j<n*sz:=by
 have:(i+1)*sz≤n*sz:=Nat.mul_le_mul_right _ (by omega)
 rw[Nat.succ_mul] at this;omega
theorem Lay.append {own:Own} {w:World} {sz:Nat} {xs ys:List V} {arr arr':Array Value} {news:List Value} (hx:Lay own w sz xs arr) (hy:SrcL own w sz ys news)
  (h1:∀ k,k<xs.length*sz→arr'[k]?=arr[k]?) (h2:∀ k,k<news.length→arr'[xs.length*sz+k]?=news[k]?):Lay own w sz (xs++ys) arr':=by
 intro i x hi;rw[List.getElem?_append] at hi;by_cases hlt:i<xs.length
 ·rw[if_pos hlt] at hi
  refine⟨(hx i x hi).1,fun j y c hj hc=>?_⟩
  have hjs:j<sz:=by rw[←(hx i x hi).1];exact (List.getElem?_eq_some_iff.1 hj).1
  rw[h1 _ (idx_lt hlt hjs)] at hc;exact (hx i x hi).2 j y c hj hc
 ·rw[if_neg hlt] at hi
  refine⟨hy.cells _ x hi,fun j y c hj hc=>?_⟩
  have hjs:j<sz:=by rw[←hy.cells _ x hi];exact (List.getElem?_eq_some_iff.1 hj).1
  have hil:i-xs.length<ys.length:=(List.getElem?_eq_some_iff.1 hi).1;have hk:(i-xs.length)*sz+j<news.length:=by rw[hy.len];exact idx_lt hil hjs
  have he:i*sz+j=xs.length*sz+((i-xs.length)*sz+j):=by
   rw[←Nat.add_assoc,←Nat.add_mul];congr 2;omega
  rw[he,h2 _ hk] at hc;exact hy.fr _ x j y c hi hj hc
theorem div_mod_idx {sz:Nat} (hs:0<sz) (i j:Nat) (hj:j<sz):(i*sz+j) / sz=i∧(i*sz+j) % sz=j:=by
 constructor
 ·rw[Nat.mul_comm,Nat.mul_add_div hs,Nat.div_eq_of_lt hj];rfl
 ·rw[Nat.mul_comm,Nat.mul_add_mod];exact Nat.mod_eq_of_lt hj
theorem src_of_FR {P:Program} {own:Own} {w:World} {sz:Nat} {m:Bool} {ys:List V} {c:Value} {tx e':TypeId} (hs:0<sz) (hk:P.underlying tx=some (.slice e'))
  (h:FR own w (.sl m ys) c) (hc:∀ y∈ys,y.cells.length=sz):∃ news,Src P sz tx c ys.length news w∧SrcL own w sz ys news:=by
 cases h with
 | nil=>exact⟨[],Src.ofNil w hk 0,⟨by simp,by simp,by simp⟩⟩
 | none a cap =>
  refine⟨[],?_,⟨by simp,by simp,by simp⟩⟩
  exact Src.ofSlice w hk a 0 cap [] (by simp) (by simp) (by simp)
 | sl b o cap sz' xs cv him hcap hcells hfr =>
  have hsz:∀ (i:Nat) (x:V),ys[i]?=some x→x.cells.length=sz∧sz'=sz:=fun i x hx=>by
   have h1:=hc x (List.mem_of_getElem? hx);exact⟨h1,by rw[←(hcells i x hx).1];exact h1⟩
  let news:List Value:=(List.range (ys.length*sz)).map fun k=>cv (k / sz) (k % sz)
  have hlen:news.length=ys.length*sz:=by simp[news]
  have hget:∀ (k:Nat) (u:Value),news[k]?=some u→k<ys.length*sz∧u=cv (k / sz) (k % sz):=by
   intro k u hu;have hlt:=(List.getElem?_eq_some_iff.1 hu).1;rw[hlen] at hlt;refine⟨hlt,?_⟩;simp only[news,List.getElem?_map,List.getElem?_range hlt,Option.map_some,Option.some.injEq] at hu;exact hu.symm
  refine⟨news,Src.ofSlice w hk ⟨b,o,Option.none⟩ ys.length cap news hlen (fun k u hu=>?_) (fun u hu=>?_),⟨hlen,fun i y hy=>(hsz i y hy).1,fun i y j v u hy hv hu=>?_⟩⟩
  ·obtain⟨hlt,rfl⟩:=hget k u hu
   have hi:k / sz<ys.length:=Nat.div_lt_of_lt_mul (by rw[Nat.mul_comm];exact hlt)
   have hx:ys[k / sz]?=some ys[k / sz]:=List.getElem?_eq_getElem hi;have:=(hcells (k / sz) _ hx).2 (k % sz) (by rw[(hsz _ _ hx).2];exact Nat.mod_lt _ hs)
   rw[Addr.add_mid];rw[(hsz _ _ hx).2] at this;have he:o+k / sz*sz+k % sz=o+k:=by rw[Nat.add_assoc,Nat.mul_comm,Nat.div_add_mod]
   rw[he] at this;exact this
  ·obtain⟨k,hk'⟩:=List.getElem?_of_mem hu
   obtain⟨hlt,rfl⟩:=hget k u hk';have hi:k / sz<ys.length:=Nat.div_lt_of_lt_mul (by rw[Nat.mul_comm];exact hlt)
   have hx:ys[k / sz]?=some ys[k / sz]:=List.getElem?_eq_getElem hi;have hj:k % sz<ys[k / sz].cells.length:=by rw[(hsz _ _ hx).1];exact Nat.mod_lt _ hs
   exact (hfr (k / sz) _ (k % sz) _ hx (List.getElem?_eq_getElem hj)).one
  ·obtain⟨hlt,rfl⟩:=hget _ u hu
   have hj:j<sz:=by rw[←(hsz i y hy).1];exact (List.getElem?_eq_some_iff.1 hv).1
   obtain⟨h1,h2⟩:=div_mod_idx hs i j hj;rw[h1,h2];exact hfr i y j v hy hv
theorem src_of_EXR {P:Program} {own:Own} {w:World} {l:Loc} {sz sz0:Nat} {m:Bool} {ys:List V} {c:Value} {tx e':TypeId} (hs:0<sz) (hk:P.underlying tx=some (.slice e'))
  (h:EXR own w l sz0 m ys c) (hc:∀ y∈ys,y.cells.length=sz):∃ news,Src P sz tx c ys.length news w∧SrcL own w sz ys news:=by
 rcases h with ⟨rfl,_,rfl⟩ | ⟨rfl,_,a,rfl⟩ | ⟨_,b,cap,T,arr,rfl,h2,h3,h4,h5,h6⟩
 ·exact⟨[],Src.ofNil w hk 0,⟨by simp,by simp,by simp⟩⟩
 ·exact⟨[],Src.ofSlice w hk a 0 0 [] (by simp) (by simp) (by simp),⟨by simp,by simp,by simp⟩⟩
 ·have hsz:∀ (i:Nat) (x:V),ys[i]?=some x→x.cells.length=sz∧sz0=sz:=fun i x hx=>by
   have h1:=hc x (List.mem_of_getElem? hx);exact⟨h1,by rw[←(h6 i x hx).1];exact h1⟩
  let news:List Value:=arr.toList.take (ys.length*sz)
  have hle:ys.length*sz≤arr.size:=by
   rcases Nat.eq_zero_or_pos ys.length with hz | hp
   ·rw[hz,Nat.zero_mul];exact Nat.zero_le _
   ·have:sz0=sz:=(hsz 0 ys[0] (List.getElem?_eq_getElem hp)).2
    rw[h5,this];exact Nat.mul_le_mul_right _ h4
  have hlen:news.length=ys.length*sz:=by simp[news];omega
  have hget:∀ (k:Nat) (u:Value),news[k]?=some u→k<ys.length*sz∧arr[k]?=some u:=by
   intro k u hu;have hlt:=(List.getElem?_eq_some_iff.1 hu).1;rw[hlen] at hlt;refine⟨hlt,?_⟩;simp only[news,List.getElem?_take,if_pos hlt] at hu;simpa using hu
  have hone:∀ (k:Nat) (u:Value),news[k]?=some u→∃ (i:Nat) (y:V) (j:Nat) (v:V),ys[i]?=some y∧y.cells[j]?=some v∧FR own w v u∧k=i*sz+j:=by
   intro k u hu;obtain⟨hlt,hu'⟩:=hget k u hu;have hi:k / sz<ys.length:=Nat.div_lt_of_lt_mul (by rw[Nat.mul_comm];exact hlt)
   have hx:ys[k / sz]?=some ys[k / sz]:=List.getElem?_eq_getElem hi;have hj:k % sz<ys[k / sz].cells.length:=by rw[(hsz _ _ hx).1];exact Nat.mod_lt _ hs
   have he:k=k / sz*sz+k % sz:=by rw[Nat.mul_comm,Nat.div_add_mod]
   refine⟨k / sz,_,k % sz,_,hx,List.getElem?_eq_getElem hj,(h6 _ _ hx).2 (k % sz) _ u (List.getElem?_eq_getElem hj) ?_,he⟩;rw[(hsz _ _ hx).2,←he];exact hu'
  refine⟨news,Src.ofSlice w hk ⟨b,0,none⟩ ys.length cap news hlen (fun k u hu=>?_) (fun u hu=>?_),⟨hlen,fun i y hy=>(hsz i y hy).1,fun i y j v u hy hv hu=>?_⟩⟩
  ·rw[Addr.add_mid,Nat.zero_add,cell_of_row w b k arr T _ h3];exact (hget k u hu).2
  ·obtain⟨k,hk'⟩:=List.getElem?_of_mem hu
   obtain⟨i,y,j,v,_,_,hf,_⟩:=hone k u hk';exact hf.one
  ·refine (h6 i y hy).2 j v u hv ?_
   rw[(hsz i y hy).2];exact (hget _ u hu).2
theorem append_room {P:Program} (w:World) (t tx ty e T:TypeId) (i:TypeInfo) (ht:P.underlying t=some (.slice e)) (hi:P.info? e=some i) (b sLen sCap:Nat) (arr:Array Value) (x:Value) (n:Nat)
  (news:List Value) (hs:Src P i.size tx x n news w) (hroom:sLen+n≤sCap) (hb:w.heap[b]?=some (.cells arr T (0,0))) (hfit:sLen*i.size+news.length≤arr.size) :
  (Builtin.append_ #[t,tx] ty #[.slice (some ⟨b,0,none⟩) sLen sCap,x]).run P w=.ok (.slice (some ⟨b,0,none⟩) (sLen+n) sCap) (w.setRow b (patch arr (sLen*i.size) news)):=by
 have hst:=run_storeCells_at P b (sLen*i.size) T news 0 arr w hb (by simpa using hfit) hs.one
 simp only[Nat.add_zero] at hst;rcases hs.kind with ⟨e',hk⟩ | hk<;>simp[Builtin.append_,run_underlying ht,run_underlying hk,sizeOf,typeInfo,hi,hs.len,hroom,hs.cells,Addr.add_lit,hst,patch]
theorem firstCells_olds {P:Program} {w:World} {own:Own} {sz:Nat} {n:Bool} {xs:List V} {c:Value} (hx:EXR own w (.res 0 0) sz n xs c) :
  ∃ (base:Option Addr) (cap:Nat) (olds:List Value),c=.slice base xs.length cap∧olds.length=xs.length*sz∧(Builtin.firstCells sz xs.length (.slice base xs.length cap)).run P w.drew=.ok olds.toArray w.drew ∧
   Lay own w sz xs olds.toArray:=by
 rcases hx with ⟨rfl,_,rfl⟩ | ⟨rfl,_,a,rfl⟩ | ⟨_,b,cap,T,arr,rfl,h2,h3,h4,h5,h6⟩
 ·exact⟨none,0,[],rfl,by simp,run_firstCells_none w.drew sz 0 0 0,by intro i x h;simp at h⟩
 ·refine⟨some a,0,[],rfl,by simp,?_,by intro i x h;simp at h⟩
  exact run_firstCells_some w.drew sz 0 a 0 0 [] (by simp) (by simp)
 ·have hle:xs.length*sz≤arr.size:=by rw[h5];exact Nat.mul_le_mul_right _ h4
  have hl:(arr.toList.take (xs.length*sz)).length=xs.length*sz:=by simp;omega
  refine⟨some ⟨b,0,none⟩,cap,arr.toList.take (xs.length*sz),rfl,hl,?_,?_⟩
  ·refine run_firstCells_some w.drew sz xs.length ⟨b,0,none⟩ xs.length cap _ hl (fun j u hu=>?_)
   have hlt:=(List.getElem?_eq_some_iff.1 hu).1;rw[hl] at hlt;rw[List.getElem?_take,if_pos hlt] at hu;rw[Addr.add_mid,Nat.zero_add,World.cell?_drew,cell_of_row w b j arr T _ h3];simpa using hu
  ·intro i x hi
   refine⟨(h6 i x hi).1,fun j y c hj hc=>(h6 i x hi).2 j y c hj ?_⟩
   have hjs:j<sz:=by rw[←(h6 i x hi).1];exact (List.getElem?_eq_some_iff.1 hj).1
   have hlt:=idx_lt (List.getElem?_eq_some_iff.1 hi).1 hjs;simp only[List.getElem?_toArray,List.getElem?_take,if_pos hlt] at hc;simpa using hc
theorem SR.append {P:Program} {own:Own} {β:Nat→Nat} {w:World} {σ:St} {tmps:Array Value} (h:SR own β w σ tmps) {t tx ty e:TypeId} {i:TypeInfo} {z:Value}
  (ht:P.underlying t=some (.slice e)) (hi:P.info? e=some i) (hz:i.zero=some z) (hzs:z.cells.size=i.size) (hs0:0<i.size)
  {n:Bool} {xs ys:List V} {c cx:Value} {news:List Value} (hx:EXR own w (.res 0 0) i.size n xs c)
  (hsrc:Src P i.size tx cx ys.length news w) (hsl:SrcL own w i.size ys news) (hroom:(xs.length+ys.length)*i.bytes≤2 ^ 47) (hmax:xs.length+ys.length<2 ^ 62) :
  ∃ c' w' own',(Builtin.append_ #[t,tx] ty #[c,cx]).run P w=.ok c' w'∧SR own' β w' σ tmps∧Stay own w own' w' ∧
   EXR own' w' (.res 0 0) i.size (n&&ys.isEmpty) (xs++ys) c':=by
 have grow:∀ (base:Option Addr) (cap:Nat) (olds:List Value),c=.slice base xs.length cap→olds.length=xs.length*i.size →
   (Builtin.firstCells i.size xs.length (.slice base xs.length cap)).run P w.drew=.ok olds.toArray w.drew→Lay own w i.size xs olds.toArray →
   cap<xs.length+ys.length→∃ c' w' own',(Builtin.append_ #[t,tx] ty #[c,cx]).run P w=.ok c' w'∧SR own' β w' σ tmps∧Stay own w own' w' ∧
   EXR own' w' (.res 0 0) i.size false (xs++ys) c':=by
  intro base cap olds hc hol hof hlo hg;have hr:=run_append_grow_src (P:=P) w t tx ty e i z ht hi hz base xs.length cap olds hof cx ys.length news hsrc hg (by omega) (growslice_fits (by omega) hroom)
  have hge:=grownCap_ge w (xs.length+ys.length) cap e;obtain⟨own',h1,h2,h3,_⟩:=h.fresh (w':=w.drew.alloc (.cells ((olds++news).toArray++Builtin.zeroCells z.cells (grownCap w (xs.length+ys.length) cap e-(xs.length+ys.length))) e))
   (sz:=i.size) (xs:=xs++ys) (cap:=grownCap w (xs.length+ys.length) cap e) rfl rfl rfl rfl (Nat.le_succ _) (by simpa using hge)
   (by simp only[Array.size_append,List.size_toArray,List.length_append,size_zeroCells,hzs,hol,hsl.len,←Nat.add_mul];congr 1;omega)
   (Lay.append hlo hsl (fun k hk=>by
     rw[Array.getElem?_append_left (by simp;omega)]
     simp only[List.getElem?_toArray];rw[List.getElem?_append_left (by omega)])
    (fun k hk=>by
     rw[Array.getElem?_append_left (by simp;omega)]
     simp only[List.getElem?_toArray];rw[List.getElem?_append_right (by omega)]
     congr 1;omega))
  refine⟨_,_,own',by rw[hc];exact hr,h1,h2,?_⟩
  have he:(xs++ys).length=xs.length+ys.length:=by simp
  rw[←he] at h3 ⊢;exact h3
 by_cases hroomy:∃ b cap T arr,c=.slice (some ⟨b,0,none⟩) xs.length cap∧own b=.res 0 0∧w.heap[b]?=some (.cells arr T (0,0))∧xs.length+ys.length≤cap ∧
   arr.size=cap*i.size∧Lay own w i.size xs arr∧n=false
 ·obtain⟨b,cap,T,arr,rfl,h2,h3,h4,h5,h6,rfl⟩:=hroomy
  have hfit:xs.length*i.size+news.length≤arr.size:=by rw[hsl.len,h5,←Nat.add_mul];exact Nat.mul_le_mul_right _ h4
  have hr:=append_room (P:=P) w t tx ty e T i ht hi b xs.length cap arr cx ys.length news hsrc h4 h3 hfit;obtain⟨s1,s2⟩:=h.pokeRes (w':=w.setRow b (patch arr (xs.length*i.size) news)) h2 (by simp) (fun k hk=>setRow_other w b k _ hk) rfl rfl rfl (Nat.le_refl _)
   (fun arr' T' hc=>by rw[h3] at hc;injection hc with hc;injection hc with e1 e2;subst e1;subst e2;exact⟨_,setRow_at w b arr _ T _ h3,patch_size _ _ _ hfit⟩)
  refine⟨_,_,own,hr,s1,s2,.inr (.inr ⟨by simp,b,cap,T,patch arr (xs.length*i.size) news,by simp,h2,setRow_at w b arr _ T _ h3,by simpa using h4,
   by rw[patch_size _ _ _ hfit];exact h5,?_⟩)⟩
  refine (Lay.append h6 hsl (fun k hk=>?_) (fun k hk=>?_)).mono s2.im
  ·rw[patch_get _ _ _ hfit,if_neg (by omega)]
  ·rw[patch_get _ _ _ hfit,if_pos (by omega)];congr 1;omega
 ·by_cases hy:ys=[]
  ·subst hy
   have hnews:news=[]:=List.eq_nil_of_length_eq_zero (by rw[hsl.len];simp)
   subst hnews;have hx':=hx;have hl0:=hsrc.len;have hc0:=hsrc.cells;simp only[List.length_nil] at hl0 hc0;rcases hx with ⟨rfl,rfl,rfl⟩ | ⟨rfl,rfl,a,rfl⟩ | ⟨rfl,b,cap,T,arr,rfl,h2,h3,h4,h5,h6⟩
   ·refine⟨_,w,own,?_,h,Stay.refl _ _,by simpa using hx'⟩
    rcases hsrc.kind with ⟨e',hk⟩ | hk<;>simp[Builtin.append_,run_underlying ht,run_underlying hk,sizeOf,typeInfo,hi,hl0,hc0]
   ·refine⟨_,w,own,?_,h,Stay.refl _ _,by simpa using hx'⟩
    rcases hsrc.kind with ⟨e',hk⟩ | hk<;>simp[Builtin.append_,run_underlying ht,run_underlying hk,sizeOf,typeInfo,hi,hl0,hc0,storeCells]
   ·exact absurd ⟨b,cap,T,arr,rfl,h2,h3,by simpa using h4,h5,h6,rfl⟩ hroomy
  ·have hpos:0<ys.length:=List.length_pos_iff.2 hy
   have hemp:(n&&ys.isEmpty)=false:=by cases ys with | nil=>exact absurd rfl hy | cons _ _=>simp
   rw[hemp];obtain⟨base,cap,olds,h1,h2,h3,h4⟩:=firstCells_olds (P:=P) hx;refine grow base cap olds h1 h2 h3 h4 ?_;rcases hx with ⟨rfl,rfl,rfl⟩ | ⟨rfl,rfl,a,rfl⟩ | ⟨rfl,b,cap',T,arr,rfl,q2,q3,q4,q5,q6⟩
   ·injection h1 with _ _ h1;subst h1;simpa using hpos
   ·injection h1 with _ _ h1;subst h1;simpa using hpos
   ·injection h1 with hb1 _ hc1
    rcases Nat.lt_or_ge cap (xs.length+ys.length) with hlt | hge
    ·exact hlt
    ·exact absurd ⟨b,cap',T,arr,rfl,q2,q3,by omega,q5,q6,rfl⟩ hroomy
end Go.Vm
end
section
namespace Go.Vm
open Go
def cellBeq:V→V→Bool
 | .undef,.undef=>true
 | .bool a,.bool b=>a==b
 | .int k a,.int l b=>decide (k=l)&&decide (a=b)
 | .str a,.str b=>decide (a=b)
 | .nilp,.nilp=>true
 | .nilf,.nilf=>true
 | .nilm,.nilm=>true
 | .sl true [],.sl true []=>true
 | _,_=>false
theorem cellBeq_eq {a b:V} (h:cellBeq a b=true):a=b:=by
 unfold cellBeq at h;split at h<;>simp_all
def cellsBeq:List V→List V→Bool
 | [],[]=>true
 | a::as,b::bs=>cellBeq a b&&cellsBeq as bs
 | _,_=>false
theorem cellsBeq_eq:∀ {as bs:List V},cellsBeq as bs=true→as=bs
 | [],[],_=>rfl
 | a::as,b::bs,h=>by
  simp only[cellsBeq,Bool.and_eq_true] at h;rw[cellBeq_eq h.1,cellsBeq_eq h.2]
 | [],_::_,h=>by simp[cellsBeq] at h
 | _::_,[],h=>by simp[cellsBeq] at h
def fieldsB:List Field→List (Nat×Nat)→Bool
 | [],[]=>true
 | f::fs,(o,t)::gs=>(f.offset==o)&&(f.type==t)&&fieldsB fs gs
 | _,_=>false
def kindB:TypeDesc→TK→Bool
 | .bool,.bool=>true
 | .int k,.int l=>decide (k=l)
 | .string,.str=>true
 | .pointer _,.ptr=>true
 | .func _ _ _,.func=>true
 | .slice e,.slice f=>e==f
 | .array n e,.array m f=>n==m&&e==f
 | .struct fs,.struct gs=>fieldsB fs.toList gs
 | .map k e,.map l f=>k==l&&e==f
 | _,_=>false
def leavesF (g:TypeId→Option (List TK)) (size:TypeId→Nat):Nat→List Field→Option (List TK)
 | _,[]=>some []
 | o,f::fs=>match g f.type with
  | some ks=>if f.offset=o∧f.name≠ "_"∧size f.type=ks.length then (leavesF g size (o+ks.length) fs).map (ks++·) else none
  | none=>none
def leavesP (P:Program):Nat→TypeId→Option (List TK)
 | 0,_=>none
 | d+1,t=>match P.underlying t with
  | some .bool=>some [.bool]
  | some (.int k)=>some [.int k]
  | some .string=>some [.str]
  | some (.struct fs)=>if P.stoodInHeld t=true then none else leavesF (leavesP P d) P.cellsOf 0 fs.toList
  | some (.array n e)=>match leavesP P d e with
   | some ks=>if P.cellsOf e=ks.length then some (List.replicate n ks).flatten else none
   | none=>none
  | _=>none
def leavesB (P:Program) (t:Nat) (i:TI):Bool :=
 match i.leaves with
 | []=>true
 | ks=>decide (leavesP P 8 t=some ks)&&!(P.eqGuardType P.depth t)&&i.kind.isAgg&&(ks.length==i.size)
def rowB (P:Program) (t:Nat) (i:TI):Bool :=
 match P.info? t,P.underlying t with
 | some info,some d=>(info.size==i.size)&&(info.bytes==i.bytes)&&(kindB d i.kind&&leavesB P t i) &&
  (match info.zero with
  | some (.agg arr)=>i.kind.isAgg&&(arr.size==i.size)&&arr.all (·.oneCell')&&(match i.zero with | .agg cs=>cellsBeq (arr.toList.map cellOf) cs | _=>false)
  | some c=>(!i.kind.isAgg)&&(i.size==1)&&c.oneCell'&&cellBeq (cellOf c) i.zero
  | none=>false)
 | _,_=>false
structure TOk (P:Program) (T:Types):Prop where
 rows:∀ t i,T t=some i→rowB P t i=true
 mixed:P.follows .mixedOrders=true
theorem FR.cellOf {own:Own} {w:World} {c:Value} (h:c.oneCell'=true):FR own w (cellOf c) c:=by
 unfold Vm.cellOf;split<;>first
  | exact .bool _
  | exact .int _ _
  | exact .str _
  | exact .nilp
  | exact .nilf
  | exact .nilm
  | exact .nil
  | exact .undef _ h
theorem CR_of_FR {own:Own} {β:Nat→Nat} {w:World} {l:Loc} {v:V} {c:Value} (h:FR own w v c):CR own β w l v c:=by
 cases h<;>first | exact .undef _ ‹_› | exact .bool _ | exact .int _ _ | exact .str _ | exact .nilp | exact .nilf | exact .nilm | exact .nil | exact .none _ _ | exact .sl _ _ _ _ _ _ ‹_› ‹_› ‹_› ‹_›
theorem FR_of_CR {own:Own} {β:Nat→Nat} {w:World} {l:Loc} {v:V} {c:Value} (h:CR own β w l v c) (hd:cellDat v=true):FR own w v c:=by
 cases v<;>first | exact h | (simp[cellDat] at hd)
def isAggV:V→Bool
 | .agg _=>true
 | _=>false
structure Row (P:Program) (t:Nat) (i:TI) where
 info:TypeInfo
 z:Value
 d:TypeDesc
 hinfo:P.info? t=some info
 hd:P.underlying t=some d
 hsize:info.size=i.size
 hbytes:info.bytes=i.bytes
 hkind:kindB d i.kind=true
 hz:info.zero=some z
 hzs:z.cells.size=i.size
 hzc:∀ (own:Own) (w:World) (j:Nat) (v:V) (c:Value),i.zero.cells[j]?=some v→z.cells[j]?=some c→FR own w v c
 hzl:i.zero.cells.length=i.size
 hagg:i.kind.isAgg=true↔∃ arr,z=.agg arr
 hleaves:leavesB P t i=true
 hzk:isAggV i.zero=i.kind.isAgg
theorem Row.of {P:Program} {T:Types} (hT:TOk P T) {t:Nat} {i:TI} (h:T t=some i):Nonempty (Row P t i):=by
 have hr:=hT.rows t i h;unfold rowB at hr;cases hi:P.info? t with
 | none=>simp[hi] at hr
 | some info =>
  cases hd:P.underlying t with
  | none=>simp[hi,hd] at hr
  | some d =>
   simp only[hi,hd,Bool.and_eq_true,beq_iff_eq] at hr;obtain⟨⟨⟨h1,h2⟩,⟨h3,h3l⟩⟩,h4⟩:=hr;cases hz:info.zero with
   | none=>simp[hz] at h4
   | some z =>
    cases z with
    | agg arr =>
     simp only[hz,Bool.and_eq_true,beq_iff_eq] at h4;obtain⟨⟨⟨h5,h6⟩,h7⟩,h8⟩:=h4;cases hzz:i.zero with
     | agg cs =>
      simp only[hzz] at h8;have hcs:=cellsBeq_eq h8;refine⟨⟨info,.agg arr,d,hi,hd,h1,h2,h3,hz,h6,fun own w j v c hv hc=>?_,?_,by simp[h5],h3l,by rw[hzz,h5];rfl⟩⟩
      ·simp only[hzz,V.cells,←hcs] at hv
       simp only[Value.cells] at hc;rw[List.getElem?_map] at hv;have hc':arr.toList[j]?=some c:=by simpa using hc
       rw[hc'] at hv;simp at hv;subst hv;exact FR.cellOf (Array.all_eq_true_iff_forall_mem.1 h7 c (Array.mem_of_getElem? hc))
      ·rw[hzz];simp only[V.cells,←hcs];simpa using h6
     | _=>simp[hzz] at h8
    | _ =>
     simp only[hz,Bool.and_eq_true,beq_iff_eq,Bool.not_eq_true'] at h4;obtain⟨⟨⟨h5,h6⟩,h7⟩,h8⟩:=h4
     first
      | (simp[Value.oneCell'] at h7;done)
      | (have hcs:=cellBeq_eq h8
         have hcell:i.zero.cells=[i.zero]:=by
          rw[←hcs];unfold Vm.cellOf;split<;>rfl
         refine⟨⟨info,_,d,hi,hd,h1,h2,h3,hz,by simp[Value.cells,h6],fun own w j v c hv hc=>?_,by rw[hcell];simp[h6],by simp[h5],h3l,by rw[←hcs,h5];unfold Vm.cellOf;split<;>rfl⟩⟩
         rw[hcell] at hv;cases j with
         | zero =>
          simp[Value.cells] at hv hc;subst hv;subst hc;rw[←hcs];exact FR.cellOf h7
         | succ j=>simp at hv)
theorem Row.isAgg {P:Program} {t:Nat} {i:TI} (r:Row P t i) (w:World):(Go.isAgg t).run P w=.ok i.kind.isAgg w:=by
 have h3:=r.hkind;have hd:=r.hd;simp only[Go.isAgg,Sem.run_bind,run_underlying hd,Result.andThen_ok];cases hdd:r.d<;>cases hk:i.kind<;>simp[hdd,hk,kindB] at h3<;>simp[TK.isAgg]
theorem run_sizeOf_row {P:Program} {t:Nat} {i:TI} (r:Row P t i) (w:World):(sizeOf t).run P w=.ok i.size w:=by
 simp[sizeOf,typeInfo,r.hinfo,r.hsize]
theorem FR.of_bool {own:Own} {w:World} {b:Bool} {c:Value} (h:FR own w (.bool b) c):c=.bool b:=by cases h;rfl
theorem FR.of_int {own:Own} {w:World} {k:IntKind} {n:Int} {c:Value} (h:FR own w (.int k n) c):c=.int k n:=by cases h;rfl
theorem FR.of_str {own:Own} {w:World} {s:ByteArray} {c:Value} (h:FR own w (.str s) c):c=.string s:=by cases h;rfl
theorem FR.of_nilp {own:Own} {w:World} {c:Value} (h:FR own w .nilp c):c=.pointer Option.none:=by cases h;rfl
section
variable {own:Own} {β:Nat→Nat} {w:World} {σ:St} {a:Act}
def opL:Operand→Nat→Nat→Loc
 | .tmp t,i,j=>.slot t i j
 | _,_,_=>.im
theorem opd_TR (h:SR own β w σ a.tmps) (x:Operand) (hw:isWay (opd σ.env x)=false) :
  TR own β w (opL x) (opd σ.env x) (a.eval x):=by
 cases x with
 | tmp t=>exact (h.env t).to_TR hw
 | const v =>
  simp only[opd,Act.eval];unfold cellOf;split<;>first
   | exact FR.bool _
   | exact FR.int _ _
   | exact FR.str _
   | exact FR.nilp
   | exact FR.nilf
   | exact FR.nilm
   | exact FR.nil
   | (simp only[TR,VR])
 | global g=>simp only[opd,TR,VR]
 | func f=>exact⟨#[],#[],rfl,rfl,rfl,by simp,by simp⟩
theorem opd_bool (h:SR own β w σ a.tmps) {x:Operand} {b:Bool} (hx:opd σ.env x=.bool b):a.eval x=.bool b:=by
 have:=opd_TR h x (by rw[hx];rfl)
 rw[hx] at this;exact FR.of_bool this
theorem opd_int (h:SR own β w σ a.tmps) {x:Operand} {k:IntKind} {n:Int} (hx:opd σ.env x=.int k n):a.eval x=.int k n:=by
 have:=opd_TR h x (by rw[hx];rfl)
 rw[hx] at this;exact FR.of_int this
theorem opd_str (h:SR own β w σ a.tmps) {x:Operand} {s:ByteArray} (hx:opd σ.env x=.str s):a.eval x=.string s:=by
 have:=opd_TR h x (by rw[hx];rfl)
 rw[hx] at this;exact FR.of_str this
theorem opd_nilp (h:SR own β w σ a.tmps) {x:Operand} (hx:opd σ.env x=.nilp):a.eval x=.pointer none:=by
 have:=opd_TR h x (by rw[hx];rfl)
 rw[hx] at this;exact FR.of_nilp this
theorem FR.of_nilm {own:Own} {w:World} {c:Value} (h:FR own w .nilm c):c=.map Option.none:=by cases h;rfl
theorem opd_nilm (h:SR own β w σ a.tmps) {x:Operand} (hx:opd σ.env x=.nilm):a.eval x=.map none:=by
 have:=opd_TR h x (by rw[hx];rfl)
 rw[hx] at this;exact FR.of_nilm this
theorem opd_ref (h:SR own β w σ a.tmps) {x:Operand} {m:RK} {id:Nat} (hx:opd σ.env x=.ref m id):refVal m (β id) (a.eval x)∧own (β id)=.blk id:=by
 have:=opd_TR h x (by rw[hx];rfl)
 rwa [hx] at this
theorem opd_ptr (h:SR own β w σ a.tmps) {x:Operand} {id off:Nat} (hx:opd σ.env x=.ptr id off):a.eval x=.pointer (some ⟨β id,off,none⟩)∧own (β id)=.blk id:=by
 have:=opd_TR h x (by rw[hx];rfl)
 rwa [hx] at this
theorem opd_rptr (h:SR own β w σ a.tmps) {x:Operand} {cs:List V} {off:Nat} (hx:opd σ.env x=.rptr cs off) :
  ∃ b o,a.eval x=.pointer (some ⟨b,o+off,none⟩)∧own b=.im∧∀ (j:Nat) (v:V),cs[j]?=some v→∃ c',w.cell? ⟨b,o+j,none⟩=some c'∧FR own w v c':=by
 have:=opd_TR h x (by rw[hx];rfl)
 rwa [hx] at this
theorem opd_sl (h:SR own β w σ a.tmps) {x:Operand} {n:Bool} {xs:List V} (hx:opd σ.env x=.sl n xs):FR own w (.sl n xs) (a.eval x):=by
 have:=opd_TR h x (by rw[hx];rfl)
 rwa [hx] at this
theorem opd_way {p:Place} {x:Operand} (hx:(opd σ.env x).refsTo p=true):∃ t,x=.tmp t:=by
 cases x with
 | tmp t=>exact⟨t,rfl⟩
 | const v=>simp only[opd] at hx;unfold cellOf at hx;split at hx<;>simp[V.refsTo] at hx
 | global g=>simp[opd,V.refsTo] at hx
 | func f=>simp[opd,V.refsTo] at hx
theorem opd_lent (h:SR own β w σ a.tmps) {x:Operand} {p:Place} (hx:opd σ.env x=.lent p):∃ sz n xs,look σ p=.ex sz n xs∧conc β a.tmps w p=some (a.eval x):=by
 obtain⟨t,rfl⟩:=opd_way (p:=p) (by rw[hx];simp[V.refsTo])
 have:=h.env t
 simp only[opd] at hx
 rwa [hx] at this
theorem opd_xptr (h:SR own β w σ a.tmps) {x:Operand} {p:Place} {i off:Nat} (hx:opd σ.env x=.xptr p i off) :
  ∃ sz n xs b len cap,look σ p=.ex sz n xs∧conc β a.tmps w p=some (.slice (some ⟨b,0,none⟩) len cap)∧own b=locOf p∧i<xs.length∧a.eval x=.pointer (some ⟨b,i*sz+off,none⟩):=by
 obtain⟨t,rfl⟩:=opd_way (p:=p) (by rw[hx];simp[V.refsTo])
 have:=h.env t
 simp only[opd] at hx
 rwa [hx] at this
theorem opd_agg (h:SR own β w σ a.tmps) {x:Operand} {cs:List V} (hx:opd σ.env x=.agg cs) (hd:cs.all cellDat=true) :
  ∃ arr,a.eval x=.agg arr∧arr.size=cs.length∧∀ (j:Nat) (v:V) (c:Value),cs[j]?=some v→arr[j]?=some c→FR own w v c:=by
 have:=opd_TR h x (by rw[hx];rfl)
 rw[hx] at this;obtain⟨arr,h1,h2,h3⟩:=this;exact⟨arr,h1,h2,fun j v c hv hc=>FR_of_CR (h3 j v c hv hc) (List.all_eq_true.1 hd v (List.mem_of_getElem? hv))⟩
end
structure Nxt (own:Own) (β:Nat→Nat) (w:World) (σ:St) (a:Act) (own':Own) (β':Nat→Nat) (w':World) (σ':St) (a':Act):Prop where
 sr:SR own' β' w' σ' a'.tmps
 stay:Stay own w own' w'
 bx:BX β β' σ.heap σ'.heap
 defers:a'.defers=a.defers
 size:a'.tmps.size=a.tmps.size
theorem Nxt.refl {own:Own} {β:Nat→Nat} {w:World} {σ:St} {a:Act} (h:SR own β w σ a.tmps):Nxt own β w σ a own β w σ a:=⟨h,Stay.refl _ _,BX.refl _ _,rfl,rfl⟩
theorem Nxt.trans {o1 o2 o3:Own} {β1 β2 β3:Nat→Nat} {w1 w2 w3:World} {σ1 σ2 σ3:St} {a1 a2 a3:Act} (h:Nxt o1 β1 w1 σ1 a1 o2 β2 w2 σ2 a2) (k:Nxt o2 β2 w2 σ2 a2 o3 β3 w3 σ3 a3) :
  Nxt o1 β1 w1 σ1 a1 o3 β3 w3 σ3 a3:=⟨k.sr,h.stay.trans k.stay,h.bx.trans k.bx,k.defers.trans h.defers,k.size.trans h.size⟩
def Marks (ds ds':List Deferred) (n:Nat) (own':Own) (w':World):Prop :=
 ∃ ms:List Nat,ds'=ms.map (fun D=>{target:=.collected D,args:=#[]})++ds∧ms.Nodup∧∀ D∈ms,n≤D∧own' D=.other∧w'.heap[D]?=some (.deferred (some []))
structure NxtM (own:Own) (β:Nat→Nat) (w:World) (σ:St) (a:Act) (own':Own) (β':Nat→Nat) (w':World) (σ':St) (a':Act):Prop where
 sr:SR own' β' w' σ' a'.tmps
 stay:Stay own w own' w'
 bx:BX β β' σ.heap σ'.heap
 marks:Marks a.defers a'.defers w.heap.size own' w'
 size:a'.tmps.size=a.tmps.size
theorem Nxt.toM {own own':Own} {β β':Nat→Nat} {w w':World} {σ σ':St} {a a':Act} (h:Nxt own β w σ a own' β' w' σ' a'):NxtM own β w σ a own' β' w' σ' a' :=
 ⟨h.sr,h.stay,h.bx,⟨[],by simp[h.defers],by simp,by simp⟩,h.size⟩
theorem Marks.stay {ds ds':List Deferred} {n:Nat} {own own':Own} {w w':World} (h:Marks ds ds' n own w) (hs:Stay own w own' w'):Marks ds ds' n own' w':=by
 obtain⟨ms,h1,hn,h2⟩:=h;refine⟨ms,h1,hn,fun D hD=>?_⟩
 obtain⟨g1,g2,g3⟩:=h2 D hD;obtain⟨k1,k2⟩:=hs.other D (Array.getElem?_eq_some_iff.1 g3).1 g2;exact⟨g1,k1,by rw[k2];exact g3⟩
theorem NxtM.refl {own:Own} {β:Nat→Nat} {w:World} {σ:St} {a:Act} (h:SR own β w σ a.tmps):NxtM own β w σ a own β w σ a:=(Nxt.refl h).toM
theorem NxtM.trans {o1 o2 o3:Own} {β1 β2 β3:Nat→Nat} {w1 w2 w3:World} {σ1 σ2 σ3:St} {a1 a2 a3:Act} (h:NxtM o1 β1 w1 σ1 a1 o2 β2 w2 σ2 a2) (k:NxtM o2 β2 w2 σ2 a2 o3 β3 w3 σ3 a3) :
  NxtM o1 β1 w1 σ1 a1 o3 β3 w3 σ3 a3:=by
 refine⟨k.sr,h.stay.trans k.stay,h.bx.trans k.bx,?_,k.size.trans h.size⟩;obtain⟨ms,h1,hn,h2⟩:=h.marks.stay k.stay;obtain⟨ms',k1,kn,k2⟩:=k.marks;obtain⟨ms0,g1,_,g2⟩:=h.marks;have hms:ms=ms0:=by
  rw[h1] at g1;have:=List.append_cancel_right g1
  exact (List.map_inj_right (fun x y hxy=>by injection hxy with hxy;injection hxy)).1 this
 refine⟨ms'++ms,by rw[k1,h1];simp,List.nodup_append.2 ⟨kn,hn,fun x hx y hy he=>?_⟩,fun D hD=>?_⟩
 ·subst he
  have:=(k2 x hx).1
  have:=(Array.getElem?_eq_some_iff.1 (g2 x (hms▸hy)).2.2).1
  omega
 rcases List.mem_append.1 hD with hD | hD
 ·obtain⟨q1,q2⟩:=k2 D hD
  exact⟨Nat.le_trans h.stay.size q1,q2⟩
 ·exact h2 D hD
theorem put_heap (σ:St) (d:Option Nat) (v:V):(put σ d v).heap=σ.heap:=by cases d<;>rfl
theorem Nxt.put {o1 o2:Own} {β1 β2:Nat→Nat} {w1 w2:World} {σ1 σ2:St} {a:Act} (h:Nxt o1 β1 w1 σ1 a o2 β2 w2 σ2 a) {dst:Option Nat} {v:V} {c:Value}
  (hd:∀ d,dst=some d→d<a.tmps.size) (hv:isWay v=false) (hn:TR o2 β2 w2 (fun i j=>.res i j) v c) :
  ∃ o3,Nxt o1 β1 w1 σ1 a o3 β2 w2 (Vm.put σ2 dst v) (a.put dst c):=by
 cases dst with
 | none=>exact⟨o2,h.sr,h.stay,h.bx,h.defers,h.size⟩
 | some d =>
  obtain⟨s1,s2⟩:=h.sr.put (hd d rfl) hv hn;exact⟨_,s1,h.stay.trans s2,h.bx,rfl,by simp[Act.put]⟩
theorem Nxt.putWay {o1 o2:Own} {β1 β2:Nat→Nat} {w1 w2:World} {σ1 σ2:St} {a:Act} (h:Nxt o1 β1 w1 σ1 a o2 β2 w2 σ2 a) {dst:Option Nat} {v:V} {c:Value}
  (hd:∀ d,dst=some d→d<a.tmps.size) (hv:isWay v=true) (hnd:∀ d,dst=some d→v.refsTo (.slot d)=false) (hn:∀ d,ER o2 β2 w2 σ2 a.tmps d v c) :
  Nxt o1 β1 w1 σ1 a o2 β2 w2 (Vm.put σ2 dst v) (a.put dst c):=by
 cases dst with
 | none=>exact⟨h.sr,h.stay,h.bx,h.defers,h.size⟩
 | some d=>exact⟨h.sr.putWay (hd d rfl) hv (hnd d rfl) (hn d),h.stay,h.bx,rfl,by simp[Act.put]⟩
theorem TR_of_VR {own:Own} {β:Nat→Nat} {w:World} {L:Nat→Loc} {L':Nat→Nat→Loc} {v:V} {c:Value} (h:VR own β w L v c) (hn:noEx v=true):TR own β w L' v c:=by
 cases v<;>first
  | (simp[noEx] at hn;done)
  | exact VR.place (L':=L' 0) h hn
end Go.Vm
end
section
namespace Go.Vm
open Go
def Fw (r:Option Nat):Fence:={Fence.wide with round:=r}
theorem fw_depth (r:Option Nat) (n:Nat):(Fw r).depth.isSome=true→1≤n:=fun h=>by simp[Fw,Fence.wide] at h
theorem callsIn_fw {r:Option Nat} {n:Nat} {P:Program} {f:FuncId} {args:Array Value} {w:World} {R:Ending→World→Prop}:CallsIn (Fw r) n P f args w R↔Calls P f args w R :=
 (Iff.rfl:CallsIn (Fw r) n P f args w R↔CallsIn Fence.wide n P f args w R).trans callsIn_wide
theorem semAt_run {P:Program} {o:Oper} {a:Act} {w w':World} {r:Option Nat} {x:Next} (h:(execOp a.eval o).run P w=.ok x w') (hx:∀ d,x≠.defer d):(o.semAt r a.eval).run P w=.ok x w':=by
 rw[Oper.semAt_eq]
 ·exact h
 ·intro c hc
  simp only[execOp,hc,Sem.run_bind] at h;cases hr:(resolve a.eval c o.type).run P w<;>simp[hr,Result.andThen] at h
  exact hx _ h.1.symm
def OpOk (P:Program) (o:Oper) (own:Own) (β:Nat→Nat) (w:World) (σ:St) (a:Act) (σ':St):Prop :=
 ∀ (r:Option Nat) (K:Act→World→Prop) (Q:Exit→Act→World→Prop),(∀ own' β' w' a',Nxt own β w σ a own' β' w' σ' a'→K a' w')→o.wpIn (Fw r) 0 P a w K Q
section
variable {P:Program} {o:Oper} {own:Own} {β:Nat→Nat} {w:World} {σ:St} {a:Act}
theorem OpOk.value {o1:Own} {β1:Nat→Nat} {w1:World} {σ1:St} {v:V} {c:Value} (hrun:(execOp a.eval o).run P w=.ok (.value c) w1)
  (h:Nxt own β w σ a o1 β1 w1 σ1 a) (hd:∀ d,o.dst=some d→d<a.tmps.size) (hv:isWay v=false) (hn:TR o1 β1 w1 (fun i j=>.res i j) v c) :
  OpOk P o own β w σ a (put σ1 o.dst v):=by
 intro r K Q hK;obtain⟨o3,h3⟩:=h.put hd hv hn;refine⟨fun _ _=>trivial,?_⟩
 rw[semAt_run hrun (by simp)]
 exact hK _ _ _ _ h3
theorem OpOk.way {o1:Own} {β1:Nat→Nat} {w1:World} {σ1:St} {v:V} {c:Value} (hrun:(execOp a.eval o).run P w=.ok (.value c) w1)
  (h:Nxt own β w σ a o1 β1 w1 σ1 a) (hd:∀ d,o.dst=some d→d<a.tmps.size) (hv:isWay v=true) (hnd:∀ d,o.dst=some d→v.refsTo (.slot d)=false)
  (hn:∀ d,ER o1 β1 w1 σ1 a.tmps d v c):OpOk P o own β w σ a (put σ1 o.dst v):=by
 intro r K Q hK;have h3:=h.putWay hd hv hnd hn;refine⟨fun _ _=>trivial,?_⟩
 rw[semAt_run hrun (by simp)]
 exact hK _ _ _ _ h3
theorem OpOk.skip {o1:Own} {β1:Nat→Nat} {w1:World} {σ1:St} (hrun:(execOp a.eval o).run P w=.ok .skip w1)
  (h:Nxt own β w σ a o1 β1 w1 σ1 a) (hd:∀ d,o.dst=some d→d<a.tmps.size):OpOk P o own β w σ a (put σ1 o.dst .undef):=by
 intro r K Q hK;obtain⟨o3,h3⟩:=h.put (c:=undef) hd (v:=.undef) rfl (by simp only[TR,VR])
 refine⟨fun _ _=>trivial,?_⟩
 rw[semAt_run hrun (by simp)]
 exact hK _ _ _ _ h3
theorem TR.place {L L':Nat→Nat→Loc} {v:V} {c:Value} (h:TR own β w L v c) (hn:noEx v=true):TR own β w L' v c:=by
 cases v<;>first
  | (simp[noEx] at hn;done)
  | (simp only[TR] at h ⊢;exact VR.place h hn)
theorem opd_res (h:SR own β w σ a.tmps) (x:Operand) (hw:isWay (opd σ.env x)=false) (hn:noEx (opd σ.env x)=true) :
  TR own β w (fun i j=>.res i j) (opd σ.env x) (a.eval x):=(opd_TR h x hw).place hn
theorem opd_res' (h:SR own β w σ a.tmps) {x:Operand} {v:V} (hx:opd σ.env x=v) (hw:isWay v=false) (hn:noEx v=true) :
  TR own β w (fun i j=>.res i j) v (a.eval x):=by
 subst hx;exact opd_res h x hw hn
theorem tmpOf_some {x:Operand} {t:Nat} (h:tmpOf x=some t):x=.tmp t:=by
 cases x<;>simp[tmpOf] at h
 rw[h]
theorem noEx_dat {cs:List V} (h:cs.all cellDat=true):noEx (.agg cs)=true:=by
 simp only[noEx,List.all_eq_true] at h ⊢;intro v hv;have:=h v hv
 cases v<;>first | rfl | (simp[cellDat] at this)
theorem Nxt.freeze (h:SR own β w σ a.tmps) {p:Place} {sz:Nat} {n:Bool} {xs:List V} (hl:look σ p=.ex sz n xs) :
  ∃ o1 c,Nxt own β w σ a o1 β w (setPlace σ p (.sl n xs)) a∧conc β a.tmps w p=some c∧FR o1 w (.sl n xs) c∧o1=fun b=>moved (locOf p) .im (own b):=by
 obtain⟨o1,c,h1,h2,h3,h4,h5⟩:=h.freeze hl;refine⟨o1,c,⟨h3,h4,?_,rfl,rfl⟩,h1,h2,h5⟩;cases p with
 | slot t=>exact BX.refl _ _
 | cell id off =>
  obtain⟨cs,hc,_⟩:=Place.cases_look hl;simp only[setPlace,hc];refine⟨by simp,fun i ds hi=>⟨rfl,?_⟩⟩
  rw[bcells_set (bcells_lt hc)];split
  ·exact⟨_,rfl⟩
  ·exact⟨ds,hi⟩
theorem Nxt.give (h:SR own β w σ a.tmps) {p:Place} {sz:Nat} {n:Bool} {xs:List V} (hl:look σ p=.ex sz n xs) :
  ∃ o1 c,Nxt own β w σ a o1 β w (setPlace σ p .undef) a∧conc β a.tmps w p=some c∧EXR o1 w (.res 0 0) sz n xs c∧o1=fun b=>moved (locOf p) (.res 0 0) (own b):=by
 obtain⟨o1,c,h1,h2,h3,h4,h5⟩:=h.give (.res 0 0) (by simp) (by simp) hl
 refine⟨o1,c,⟨h3,h4,?_,rfl,rfl⟩,h1,h2,h5⟩;cases p with
 | slot t=>exact BX.refl _ _
 | cell id off =>
  obtain⟨cs,hc,_⟩:=Place.cases_look hl;simp only[setPlace,hc];refine⟨by simp,fun i ds hi=>⟨rfl,?_⟩⟩
  rw[bcells_set (bcells_lt hc)];split
  ·exact⟨_,rfl⟩
  ·exact⟨ds,hi⟩
theorem Nxt.giveSlot (h:SR own β w σ a.tmps) (t:Nat) (hw:isWay (get σ.env t)=false) :
  ∃ o1,Nxt own β w σ a o1 β w (setPlace σ (.slot t) .undef) a∧TR o1 β w (fun i j=>.res i j) (get σ.env t) (a.tmps.getD t undef)∧o1=fun b=>slotOut t (own b):=by
 obtain⟨h1,h2,h3⟩:=h.giveSlot t hw;exact⟨_,⟨h2,h3,BX.refl _ _,rfl,rfl⟩,h1,rfl⟩
theorem eval_tmp (a:Act) (t:Nat):a.eval (.tmp t)=a.tmps.getD t undef:=rfl
structure Hyp (P:Program) (T:Types) (o:Oper) (own:Own) (β:Nat→Nat) (w:World) (σ:St) (a:Act):Prop where
 sr:SR own β w σ a.tmps
 dst:∀ d,o.dst=some d→d<a.tmps.size
 T:TOk P T
theorem ok_move {T:Types} (h:Hyp P T o own β w σ a) {x:Operand} (ho:o.op=.move x) {e:Eff} (he:moveAt σ x=some e)
  (hnd:∀ d,o.dst=some d→e.val.refsTo (.slot d)=false):OpOk P o own β w σ a (apply σ o.dst e):=by
 have hrun:(execOp a.eval o).run P w=.ok (.value (a.eval x)) w:=by simp[execOp,ho]
 have hsr:=h.sr;unfold moveAt at he;cases hv:opd σ.env x<;>simp only[hv] at he
 case ex sz n xs =>
  cases ht:tmpOf x<;>simp only[ht] at he
  ·cases he
  rename_i t;injection he with he;subst he;obtain rfl:=tmpOf_some ht
  exact OpOk.way hrun (Nxt.refl hsr) h.dst rfl hnd (fun d=>⟨sz,n,xs,hv,rfl⟩)
 case agg cs =>
  split at he
  ·rename_i hc
   injection he with he;subst he;exact OpOk.value hrun (Nxt.refl hsr) h.dst rfl (opd_res' hsr hv rfl (noEx_dat hc))
  ·cases he
 case tup vs =>
  cases ht:tmpOf x<;>simp only[ht] at he
  ·cases he
  rename_i t;injection he with he;subst he;obtain rfl:=tmpOf_some ht
  simp only[opd] at hv;obtain⟨o1,h1,h2,_⟩:=Nxt.giveSlot hsr t (by rw[hv];rfl)
  rw[hv] at h2;exact OpOk.value hrun h1 h.dst rfl h2
 case xptr p i off =>
  injection he with he;subst he;exact OpOk.way hrun (Nxt.refl hsr) h.dst rfl hnd (fun d=>opd_xptr hsr hv)
 case lent p =>
  injection he with he;subst he;obtain⟨sz,n,xs,q1,q2⟩:=opd_lent hsr hv;exact OpOk.way hrun (Nxt.refl hsr) h.dst rfl hnd (fun d=>⟨sz,n,xs,q1,q2⟩)
 all_goals
  injection he with he;subst he;exact OpOk.value hrun (Nxt.refl hsr) h.dst rfl (opd_res' hsr hv rfl rfl)
theorem ok_assign {T:Types} (h:Hyp P T o own β w σ a) {cx:Cx} {d:Nat} {x:Operand} (ho:o.op=.assign x) {e:Eff} (he:assignAt cx σ d x=some e)
  (hnd:∀ d,o.dst=some d→e.val.refsTo (.slot d)=false):OpOk P o own β w σ a (apply σ o.dst e):=by
 have hrun:(execOp a.eval o).run P w=.ok (.value (a.eval x)) w:=by simp[execOp,ho]
 have hsr:=h.sr;unfold assignAt at he;cases hv:opd σ.env x<;>simp only[hv] at he
 case ex sz n xs =>
  cases ht:tmpOf x<;>simp only[ht] at he
  ·cases he
  rename_i t;obtain rfl:=tmpOf_some ht
  have hl:look σ (.slot t)=.ex sz n xs:=hv;split at he
  ·injection he with he;subst he
   obtain⟨o1,c,h1,h2,h3,_⟩:=Nxt.give hsr hl;simp only[conc] at h2;injection h2 with h2;subst h2;exact OpOk.value hrun h1 h.dst rfl h3
  ·injection he with he;subst he
   obtain⟨o1,c,h1,h2,h3,_⟩:=Nxt.freeze hsr hl;simp only[conc] at h2;injection h2 with h2;subst h2;exact OpOk.value hrun h1 h.dst rfl h3
 case agg cs =>
  split at he
  ·rename_i hc
   injection he with he;subst he;exact OpOk.value hrun (Nxt.refl hsr) h.dst rfl (opd_res' hsr hv rfl (noEx_dat hc))
  ·cases ht:tmpOf x<;>simp only[ht] at he
   ·cases he
   rename_i t;injection he with he;subst he;obtain rfl:=tmpOf_some ht
   simp only[opd] at hv;obtain⟨o1,h1,h2,_⟩:=Nxt.giveSlot hsr t (by rw[hv];rfl)
   rw[hv] at h2;exact OpOk.value hrun h1 h.dst rfl h2
 case tup vs=>cases he
 case xptr p i off =>
  injection he with he;subst he;exact OpOk.way hrun (Nxt.refl hsr) h.dst rfl hnd (fun d=>opd_xptr hsr hv)
 case lent p =>
  obtain⟨sz,n,xs,q1,q2⟩:=opd_lent hsr hv;simp only[q1] at he;split at he
  ·injection he with he;subst he
   obtain⟨o1,c,h1,h2,h3,_⟩:=Nxt.give hsr q1;rw[q2] at h2;injection h2 with h2;subst h2;exact OpOk.value hrun h1 h.dst rfl h3
  ·injection he with he;subst he
   obtain⟨o1,c,h1,h2,h3,_⟩:=Nxt.freeze hsr q1;rw[q2] at h2;injection h2 with h2;subst h2;exact OpOk.value hrun h1 h.dst rfl h3
 case sl n xs =>
  have hd:=opd_res' hsr hv rfl rfl;cases n with
  | false =>
   injection he with he;subst he;exact OpOk.value hrun (Nxt.refl hsr) h.dst rfl hd
  | true =>
   cases xs with
   | cons y ys =>
    injection he with he;subst he;exact OpOk.value hrun (Nxt.refl hsr) h.dst rfl hd
   | nil =>
    cases hm:cx.msz d<;>simp only[hm] at he
    ·injection he with he;subst he
     exact OpOk.value hrun (Nxt.refl hsr) h.dst rfl hd
    ·injection he with he;subst he
     have hd':FR own w (.sl true []) (a.eval x):=hd;have hc:a.eval x=.slice none 0 0:=by
      generalize a.eval x=c at hd';cases hd';rfl
     exact OpOk.value hrun (Nxt.refl hsr) h.dst rfl (show EXR own w _ _ true [] (a.eval x) from .inl ⟨rfl,rfl,hc⟩)
 all_goals
  injection he with he;subst he;exact OpOk.value hrun (Nxt.refl hsr) h.dst rfl (opd_res' hsr hv rfl rfl)
theorem ok_pick {T:Types} {call:CallF} {cx:Cx} {fr:Nat} (h:Hyp P T o own β w σ a) {c x y:Operand} (ho:o.op=.pick c x y) {e:Eff} (he:eff T call cx fr o σ=some e) :
  OpOk P o own β w σ a (apply σ o.dst e):=by
 have hsr:=h.sr;simp only[eff,ho] at he;cases hc:opd σ.env c<;>simp only[hc] at he<;>try (cases he;done)
 rename_i t;have hce:=opd_bool hsr hc;have hrun:(execOp a.eval o).run P w=.ok (.value (if t then a.eval x else a.eval y)) w:=by simp[execOp,ho,hce,asBool]
 cases t
 ·simp only[Bool.false_eq_true,if_false] at he hrun
  cases hv:opd σ.env y<;>simp only[hv] at he<;>try (cases he;done)
  all_goals (injection he with he;subst he;exact OpOk.value hrun (Nxt.refl hsr) h.dst rfl (opd_res' hsr hv rfl rfl))
 ·simp only[if_true] at he hrun
  cases hv:opd σ.env x<;>simp only[hv] at he<;>try (cases he;done)
  all_goals (injection he with he;subst he;exact OpOk.value hrun (Nxt.refl hsr) h.dst rfl (opd_res' hsr hv rfl rfl))
theorem ok_nilCheck {T:Types} {call:CallF} {cx:Cx} {fr:Nat} (h:Hyp P T o own β w σ a) {x:Operand} (ho:o.op=.nilCheck x) {e:Eff} (he:eff T call cx fr o σ=some e)
  (hnd:∀ d,o.dst=some d→e.val.refsTo (.slot d)=false):OpOk P o own β w σ a (apply σ o.dst e):=by
 have hsr:=h.sr;simp only[eff,ho] at he;cases hv:opd σ.env x<;>simp only[hv] at he<;>try (cases he;done)
 ·injection he with he;subst he
  have hrun:(execOp a.eval o).run P w=.ok (.value (a.eval x)) w:=by simp[execOp,ho,(opd_ptr hsr hv).1]
  exact OpOk.value hrun (Nxt.refl hsr) h.dst rfl (opd_res' hsr hv rfl rfl)
 ·injection he with he;subst he
  obtain⟨b,oo,q,_⟩:=opd_rptr hsr hv;have hrun:(execOp a.eval o).run P w=.ok (.value (a.eval x)) w:=by simp[execOp,ho,q]
  exact OpOk.value hrun (Nxt.refl hsr) h.dst rfl (opd_res' hsr hv rfl rfl)
 ·injection he with he;subst he
  have hX:=opd_xptr hsr hv;obtain⟨_,_,_,b,_,_,_,_,_,_,q⟩:=hX;have hrun:(execOp a.eval o).run P w=.ok (.value (a.eval x)) w:=by simp[execOp,ho,q]
  exact OpOk.way hrun (Nxt.refl hsr) h.dst rfl hnd (fun d=>opd_xptr hsr hv)
theorem OpOk.plain {T:Types} (h:Hyp P T o own β w σ a) {v:V} {c:Value} (hrun:(execOp a.eval o).run P w=.ok (.value c) w) (hw:isWay v=false) (hf:∀ own:Own,FR own w v c)
  (hd:cellDat v=true):OpOk P o own β w σ a (put σ o.dst v):=by
 refine OpOk.value hrun (Nxt.refl h.sr) h.dst hw ?_;have:=hf own
 cases v<;>first
  | (simp[cellDat] at hd;done)
  | exact this
  | (simp only[TR,VR])
theorem ok_unOp {T:Types} {call:CallF} {cx:Cx} {fr:Nat} (h:Hyp P T o own β w σ a) {op:UnOp} {t:TypeId} {x:Operand} (ho:o.op=.unOp op t x) {e:Eff}
  (he:eff T call cx fr o σ=some e):OpOk P o own β w σ a (apply σ o.dst e):=by
 have hsr:=h.sr;simp only[eff,ho,Option.map_eq_some_iff] at he;obtain⟨v,hv,rfl⟩:=he;unfold vun at hv;split at hv
 ·rename_i k n hx
  injection hv with hv;subst hv;have:=opd_int hsr hx
  exact OpOk.plain h (by simp[execOp,ho,this,Op.unary,Op.intArith]) rfl (fun _=>.int _ _) rfl
 ·rename_i k n hx
  injection hv with hv;subst hv;have:=opd_int hsr hx
  exact OpOk.plain h (by simp[execOp,ho,this,Op.unary,Op.intBits]) rfl (fun _=>.int _ _) rfl
 ·rename_i b hx
  injection hv with hv;subst hv;have:=opd_bool hsr hx
  exact OpOk.plain h (by simp[execOp,ho,this,Op.unary]) rfl (fun _=>.bool _) rfl
 ·cases hv
theorem kindOf_row {T:Types} (hT:TOk P T) {t:Nat} {k:TK} (h:kindOf T t=some k):∃ (i:TI) (_:Row P t i),i.kind=k:=by
 unfold kindOf at h;cases hi:T t<;>simp only[hi] at h
 ·cases h
 rename_i i;injection h with h;obtain⟨r⟩:=Row.of hT hi;exact⟨i,r,h⟩
theorem ok_convert {T:Types} {call:CallF} {cx:Cx} {fr:Nat} (h:Hyp P T o own β w σ a) {s t:TypeId} {x:Operand} (ho:o.op=.convert s t x) {e:Eff}
  (he:eff T call cx fr o σ=some e):OpOk P o own β w σ a (apply σ o.dst e):=by
 have hsr:=h.sr;simp only[eff,ho] at he;split at he
 ·rename_i k0 k k' n hk0 hk hx
  injection he with he;subst he;have hxe:=opd_int hsr hx;obtain⟨i,r,hk⟩:=kindOf_row h.T hk;obtain⟨i0,r0,_⟩:=kindOf_row h.T hk0;have hkk:=r.hkind;rw[hk] at hkk;have hds:=r0.hd;have hd:r.d=.int k:=by cases hd:r.d<;>simp[hd,kindB] at hkk;rw[hkk]
  have hrun:(execOp a.eval o).run P w=.ok (.value (.int k (k.wrap n))) w:=by
   have h1:=run_underlying (P:=P) r.hd w;have h2:=run_underlying (P:=P) hds w;rw[hd] at h1;simp[execOp,ho,hxe,convert,h1,h2,Conv.intToInt]
  exact OpOk.plain h hrun rfl (fun _=>.int _ _) rfl
 ·cases he
theorem kind_slice {t e:Nat} {i:TI} (r:Row P t i) (hk:i.kind=.slice e):P.underlying t=some (.slice e):=by
 have:=r.hkind;rw[hk] at this
 rw[r.hd];cases hd:r.d<;>simp[hd,kindB] at this
 rw[this]
theorem kind_array {t n e:Nat} {i:TI} (r:Row P t i) (hk:i.kind=.array n e):P.underlying t=some (.array n e):=by
 have:=r.hkind;rw[hk] at this
 rw[r.hd];cases hd:r.d<;>simp[hd,kindB] at this
 rw[this.1,this.2]
theorem fieldsB_get:∀ {fs:List Field} {gs:List (Nat×Nat)},fieldsB fs gs=true→∀ (j off t:Nat),gs[j]?=some (off,t)→∃ f,fs[j]?=some f∧f.offset=off∧f.type=t
 | [],[],_,j,off,t,h=>by simp at h
 | f::fs,(o,u)::gs,hb,j,off,t,h=>by
  simp only[fieldsB,Bool.and_eq_true,beq_iff_eq] at hb;cases j with
  | zero=>simp at h;exact⟨f,by simp,by rw[hb.1.1,h.1],by rw[hb.1.2,h.2]⟩
  | succ j=>simpa using fieldsB_get hb.2 j off t (by simpa using h)
 | [],_::_,hb,_,_,_,_=>by simp[fieldsB] at hb
 | _::_,[],hb,_,_,_,_=>by simp[fieldsB] at hb
theorem kind_struct {t:Nat} {gs:List (Nat×Nat)} {i:TI} (r:Row P t i) (hk:i.kind=.struct gs):∃ fields,P.underlying t=some (.struct fields)∧fieldsB fields.toList gs=true:=by
 have:=r.hkind;rw[hk] at this
 rw[r.hd];cases hd:r.d<;>simp[hd,kindB] at this
 exact⟨_,rfl,this⟩
theorem Addr.add_eq (b o k:Nat):(⟨b,o,none⟩:Addr).add k=⟨b,o+k,none⟩:=Addr.add_mid b o k
theorem ok_fieldAddr {T:Types} {call:CallF} {cx:Cx} {fr:Nat} (h:Hyp P T o own β w σ a) {t:TypeId} {x:Operand} {f:Nat} (ho:o.op=.fieldAddr t x f) {e:Eff}
  (he:eff T call cx fr o σ=some e) (hnd:∀ d,o.dst=some d→e.val.refsTo (.slot d)=false):OpOk P o own β w σ a (apply σ o.dst e):=by
 have hsr:=h.sr;simp only[eff,ho] at he;cases hk:kindOf T t<;>simp only[hk] at he
 ·cases he
 rename_i k;cases k<;>simp only at he<;>try (cases he;done)
 rename_i gs;obtain⟨i,r,hki⟩:=kindOf_row h.T hk;obtain⟨fields,hu,hf⟩:=kind_struct r hki;cases hg:gs[f]?<;>simp only[hg] at he
 ·cases he
 rename_i g;obtain⟨off,ft⟩:=g;simp only at he;cases hft:T ft<;>simp only[hft] at he
 ·cases he
 rename_i fi;obtain⟨rf⟩:=Row.of h.T hft;obtain⟨fd,h1,h2,h3⟩:=fieldsB_get hf f off ft hg;have h1':fields[f]?=some fd:=by simpa using h1
 split at he
 ·rename_i hpos
  have run:∀ b oo,a.eval x=.pointer (some ⟨b,oo,none⟩)→(execOp a.eval o).run P w=.ok (.value (.pointer (some ⟨b,oo+off,none⟩))) w:=by
   intro b oo hx;have hs:(sizeOf fd.type).run P w=.ok fi.size w:=by rw[h3];exact run_sizeOf_row rf w
   have hne:fi.size≠0:=by omega
   simp[execOp,ho,hx,Instr.fieldAt,run_underlying hu,h1',Instr.sureAddr,fieldPlace,hs,hne,Addr.add_eq,h2]
  cases hv:opd σ.env x<;>simp only[hv] at he<;>try (cases he;done)
  ·injection he with he;subst he
   obtain⟨q1,q2⟩:=opd_ptr hsr hv;exact OpOk.value (run _ _ q1) (Nxt.refl hsr) h.dst rfl ⟨rfl,q2⟩
  ·injection he with he;subst he
   obtain⟨b,oo,q1,q2,q3⟩:=opd_rptr hsr hv;refine OpOk.value (run _ _ q1) (Nxt.refl hsr) h.dst rfl ⟨b,oo,by rw[Nat.add_assoc],q2,q3⟩
  ·injection he with he;subst he
   obtain⟨sz,n,xs,b,len,cap,q1,q2,q3,q4,q5⟩:=opd_xptr hsr hv;exact OpOk.way (run _ _ q5) (Nxt.refl hsr) h.dst rfl hnd (fun d=>⟨sz,n,xs,b,len,cap,q1,q2,q3,q4,by rw[Nat.add_assoc]⟩)
 ·cases he
theorem PR_of {β:Nat→Nat} {L:Nat→Nat→Loc} {v:V} {c:Value} (h:TR own β w L v c) (hv:capOk v=true):PR own β w v c:=by
 cases v<;>first
  | (simp[capOk] at hv;done)
  | exact h
theorem ok_makeFunc {T:Types} {call:CallF} {cx:Cx} {fr:Nat} (h:Hyp P T o own β w σ a) {fn:Fn} {first captured:Array Operand} (ho:o.op=.makeFunc fn first captured) {e:Eff}
  (he:eff T call cx fr o σ=some e):OpOk P o own β w σ a (apply σ o.dst e):=by
 have hsr:=h.sr;simp only[eff,ho] at he;split at he
 ·rename_i hall
  injection he with he;subst he;have hrun:(execOp a.eval o).run P w=.ok (.value (.func fn (first.map a.eval) (captured.map a.eval))) w:=by simp[execOp,ho,Instr.makeFunc]
  have key:∀ l:Array Operand,(∀ x∈l,x∈first.toList++captured.toList)→∀ (j:Nat) (v:V) (c:Value),(l.toList.map (opd σ.env))[j]?=some v→(l.map a.eval)[j]?=some c→PR own β w v c:=by
   intro l hl j v c hv hc;rw[List.getElem?_map] at hv;rw[Array.getElem?_map] at hc;cases hx:l[j]? with
   | none=>simp[hx] at hc
   | some x =>
    have hx':l.toList[j]?=some x:=by simpa using hx
    rw[hx'] at hv;rw[hx] at hc;simp at hv hc;subst hv;subst hc;have hm:=hl x (by simpa using Array.mem_of_getElem? hx)
    have hq:capOk (opd σ.env x)=true:=by
     rw[←List.map_append,List.all_map,List.all_eq_true] at hall;exact hall x hm
    have hw:isWay (opd σ.env x)=false:=by cases hv:opd σ.env x<;>rw[hv] at hq<;>first | rfl | (simp[capOk] at hq)
    exact PR_of (opd_TR hsr x hw) hq
  refine OpOk.value hrun (Nxt.refl hsr) h.dst rfl ⟨_,_,rfl,by simp,by simp,key first (fun x hx=>by simp[hx]),key captured (fun x hx=>by simp[hx])⟩
 ·cases he
end
end Go.Vm
end
section
namespace Go.Vm
open Go
section
variable {P:Program} {o:Oper} {own:Own} {β:Nat→Nat} {w:World} {σ:St} {a:Act}
theorem Row.one {t:Nat} {i:TI} (r:Row P t i) (h:i.kind.isAgg=false):i.size=1:=by
 have hz:=r.hzs;have hn:¬ ∃ arr,r.z=.agg arr:=fun hx=>by rw[r.hagg.2 hx] at h;cases h
 cases hz':r.z<;>rw[hz'] at hz<;>first
  | (simp[Value.cells] at hz;exact hz.symm)
  | exact absurd ⟨_,hz'⟩ hn
def mkV (i:TI) (cvs:List Value):Value:=if i.kind.isAgg then .agg cvs.toArray else cvs.getD 0 undef
theorem run_loadVar {t:Nat} {i:TI} (r:Row P t i) (w:World) (b oo:Nat) (cvs:List Value) (hl:cvs.length=i.size)
  (hc:∀ (j:Nat) (u:Value),cvs[j]?=some u→w.cell? ⟨b,oo+j,none⟩=some u):(loadVar t ⟨b,oo,none⟩).run P w=.ok (mkV i cvs) w:=by
 have hla:(loadCells ⟨b,oo,none⟩ cvs.length).run P w=.ok cvs.toArray w :=
  run_loadCells_list (P:=P) w ⟨b,oo,none⟩ cvs (fun j v hv=>by rw[Addr.add_mid];exact hc j v hv)
 unfold loadVar mkV;simp only[Sem.run_bind,r.isAgg,Result.andThen_ok];cases hk:i.kind.isAgg
 ·have h1:=r.one hk
  simp only[Bool.false_eq_true,if_false];have h0:cvs[0]?=some (cvs.getD 0 undef):=by
   rw[List.getD_eq_getElem?_getD,List.getElem?_eq_getElem (by omega)];simp
  have:=hc 0 _ h0
  simp only[Nat.add_zero] at this;simp[this]
 ·simp only[if_true,Sem.run_bind,run_sizeOf_row r,Result.andThen_ok]
  rw[←hl];simp[hla]
theorem VR_of_CR {β:Nat→Nat} {L:Nat→Loc} {v:V} {c:Value} (h:CR own β w (L 0) v c):VR own β w L v c:=by
 cases v<;>first
  | exact h
  | trivial
  | (simp only[CR] at h;cases h;done)
theorem asType_VR {i:TI} {t:Nat} (r:Row P t i) {ds:List V} {v:V} (ha:asType i ds=some v) {cvs:List Value} (hl:cvs.length=i.size) {β:Nat→Nat} {L:Nat→Loc}
  (hc:∀ (j:Nat) (v:V) (c:Value),ds[j]?=some v→cvs[j]?=some c→CR own β w (L j) v c):VR own β w L v (mkV i cvs):=by
 unfold asType at ha;split at ha
 ·rename_i hlen
  unfold mkV;cases hk:i.kind.isAgg<;>rw[hk] at ha<;>simp only[Bool.false_eq_true,if_false,if_true] at ha ⊢
  ·have h1:=r.one hk
   refine VR_of_CR (hc 0 v _ ha ?_);rw[List.getD_eq_getElem?_getD,List.getElem?_eq_getElem (by omega)];simp
  ·injection ha with ha;subst ha
   exact⟨cvs.toArray,rfl,by simp;omega,fun j v c hv hcv=>hc j v c hv (by simpa using hcv)⟩
 ·cases ha
theorem asType_cells {i:TI} {ds:List V} {v:V} (ha:asType i ds=some v):ds.length=i.size:=by
 unfold asType at ha;split at ha
 ·assumption
 ·cases ha
def readCells (w:World) (b oo n:Nat):List Value:=(List.range n).map fun j=>(w.cell? ⟨b,oo+j,none⟩).getD undef
theorem readCells_length (w:World) (b oo n:Nat):(readCells w b oo n).length=n:=by simp[readCells]
theorem readCells_get {w:World} {b oo n j:Nat} {u:Value} (h:(readCells w b oo n)[j]?=some u):j<n∧u=(w.cell? ⟨b,oo+j,none⟩).getD undef:=by
 have hlt:=(List.getElem?_eq_some_iff.1 h).1;rw[readCells_length] at hlt;refine⟨hlt,?_⟩;simp only[readCells,List.getElem?_map,List.getElem?_range hlt,Option.map_some,Option.some.injEq] at h;exact h.symm
theorem take_drop_get {α:Type} {l:List α} {off n j:Nat} {v:α} (h:((l.drop off).take n)[j]?=some v):j<n∧l[off+j]?=some v:=by
 rw[List.getElem?_take] at h;split at h
 ·rename_i hj;rw[List.getElem?_drop] at h;exact⟨hj,h⟩
 ·cases h
theorem take_drop_len {α:Type} {l:List α} {off n:Nat} (h:((l.drop off).take n).length=n) (hn:0<n):off+n≤l.length:=by
 simp at h;omega
theorem evals_load {t:TypeId} {x:Operand} (ho:o.op=.load t x) {b oo:Nat} (hx:a.eval x=.pointer (some ⟨b,oo,none⟩)) {c:Value} (hr:(loadVar t ⟨b,oo,none⟩).run P w=.ok c w) :
  (execOp a.eval o).run P w=.ok (.value c) w:=by simp[execOp,ho,hx,Instr.loadAt,Instr.sureAddr,hr]
def plainC:V→Bool
 | .undef | .bool _ | .int _ _ | .str _ | .nilp | .nilf | .nilm | .ptr _ _ | .ref _ _ | .sl _ _ | .clo _ _ _=>true
 | _=>false
theorem plain_of_CR {β:Nat→Nat} {l:Loc} {v:V} {c:Value} (h:CR own β w l v c) (hn:notEx v=true):plainC v=true:=by
 cases v<;>first
  | rfl
  | (simp[notEx] at hn;done)
  | (simp only[CR] at h;cases h;done)
theorem plain_of_FR {v:V} {c:Value} (h:FR own w v c):plainC v=true:=by cases h<;>rfl
theorem notEx_of_plain {v:V} (h:plainC v=true):notEx v=true:=by cases v<;>first | rfl | (simp[plainC] at h)
theorem asType_plain {i:TI} {ds:List V} {v:V} (ha:asType i ds=some v) (hd:∀ d∈ds,plainC d=true):isWay v=false∧noEx v=true:=by
 unfold asType at ha;split at ha
 ·cases hk:i.kind.isAgg<;>rw[hk] at ha<;>simp at ha
  ·have:=hd v (List.mem_of_getElem? ha)
   cases v<;>first | exact⟨rfl,rfl⟩ | (simp[plainC] at this)
  ·subst ha
   exact⟨rfl,by simp only[noEx,List.all_eq_true];exact fun x hx=>notEx_of_plain (hd x hx)⟩
 ·cases ha
theorem OpOk.load' {T:Types} (h:Hyp P T o own β w σ a) {t:TypeId} {x:Operand} (ho:o.op=.load t x) {i:TI} (r:Row P t i) {b oo:Nat} (hx:a.eval x=.pointer (some ⟨b,oo,none⟩))
  {o1:Own} {σ1:St} (hN:Nxt own β w σ a o1 β w σ1 a)
  {ds:List V} {v:V} (ha:asType i ds=some v) (hc:∀ (j:Nat) (d:V),ds[j]?=some d→∃ c,w.cell? ⟨b,oo+j,none⟩=some c∧CR o1 β w (.res 0 0) d c∧plainC d=true) :
  OpOk P o own β w σ a (put σ1 o.dst v):=by
 have hl:=asType_cells ha;have hget:∀ (j:Nat) (u:Value),(readCells w b oo i.size)[j]?=some u→∃ d,ds[j]?=some d∧w.cell? ⟨b,oo+j,none⟩=some u∧CR o1 β w (.res 0 0) d u:=by
  intro j u hu;obtain⟨hj,rfl⟩:=readCells_get hu;have hd:ds[j]?=some (ds[j]'(by omega)):=List.getElem?_eq_getElem _
  obtain⟨c,h1,h2,_⟩:=hc j _ hd;exact⟨_,hd,by rw[h1];rfl,by rw[h1];exact h2⟩
 have hrun:=evals_load (P:=P) (w:=w) ho hx (run_loadVar r w b oo (readCells w b oo i.size) (readCells_length _ _ _ _) (fun j u hu=>let ⟨_,_,h1,_⟩:=hget j u hu;h1))
 have hvr:=asType_VR (L:=fun _=>.res 0 0) r ha (readCells_length w b oo i.size) (fun j d c hd hc=>by
  obtain⟨d',h1,h2,h3⟩:=hget j c hc;rw[hd] at h1;injection h1 with h1;subst h1;exact h3)
 obtain⟨hw,hn⟩:=asType_plain ha (fun d hd=>by
  obtain⟨j,hj⟩:=List.getElem?_of_mem hd;obtain⟨c,_,_,h3⟩:=hc j d hj;exact h3)
 exact OpOk.value hrun hN h.dst hw (TR_of_VR hvr hn)
theorem OpOk.load {T:Types} (h:Hyp P T o own β w σ a) {t:TypeId} {x:Operand} (ho:o.op=.load t x) {i:TI} (r:Row P t i) {b oo:Nat} (hx:a.eval x=.pointer (some ⟨b,oo,none⟩))
  {ds:List V} {v:V} (ha:asType i ds=some v) (hc:∀ (j:Nat) (d:V),ds[j]?=some d→∃ c,w.cell? ⟨b,oo+j,none⟩=some c∧CR own β w (.res 0 0) d c∧plainC d=true) :
  OpOk P o own β w σ a (put σ o.dst v):=OpOk.load' h ho r hx (Nxt.refl h.sr) ha hc
theorem frz_notEx (v:V):notEx (frz v)=true:=by cases v<;>rfl
theorem frz_of {v:V} (h:notEx v=true):frz v=v:=by cases v<;>first | rfl | (simp[notEx] at h)
theorem SR.frzCells {id:Nat}:∀ (ds:List V) (off:Nat) (own:Own) (σ:St) (cs:List V),SR own β w σ a.tmps→bcells σ.heap id=some cs→specB cs=false→(∀ (j:Nat) (d:V),ds[j]?=some d→cs[off+j]?=some d) →
  ∃ o1 cs',Nxt own β w σ a o1 β w (setPlaces σ (Vm.frzCells id off ds)) a∧bcells (setPlaces σ (Vm.frzCells id off ds)).heap id=some cs'∧specB cs'=false ∧
   (∀ (j:Nat) (d:V),ds[j]?=some d→cs'[off+j]?=some (frz d))∧∀ k,k<off→cs'[k]?=cs[k]?
 | [],off,own,σ,cs,h,hb,hs,_=>⟨own,cs,Nxt.refl h,hb,hs,by simp,fun _ _=>rfl⟩
 | d::ds,off,own,σ,cs,h,hb,hs,hd=>by
  have hd0:cs[off]?=some d:=by simpa using hd 0 d rfl
  have hrest:∀ (j:Nat) (y:V),ds[j]?=some y→cs[off+1+j]?=some y:=fun j y hy=>by
   have:=hd (j+1) y (by simpa using hy)
   rwa [show off+(j+1)=off+1+j by omega] at this
  by_cases he:∃ sz n xs,d=.ex sz n xs
  ·obtain⟨sz,n,xs,rfl⟩:=he
   have hl:look σ (.cell id off)=.ex sz n xs:=by
    simp only[look,hb];rw[List.getD_eq_getElem?_getD,hd0];rfl
   obtain⟨o1,c,h1,h2,h3,h4⟩:=Nxt.freeze h hl;have hlt:=(List.getElem?_eq_some_iff.1 hd0).1;have hb1:bcells (setPlace σ (.cell id off) (.sl n xs)).heap id=some (cs.set off (.sl n xs)):=by
    simp only[setPlace,hb];rw[bcells_set (bcells_lt hb),if_pos rfl]
   obtain⟨o2,cs',g1,g2,g3,g4,g5⟩:=SR.frzCells ds (off+1) o1 _ _ h1.sr hb1 (specB_set hs rfl) (fun j y hy=>by
    rw[List.getElem?_set_ne (by omega)];exact hrest j y hy)
   refine⟨o2,cs',h1.trans g1,g2,g3,fun j y hy=>?_,fun k hk=>?_⟩
   ·cases j with
    | zero =>
     simp at hy;subst hy;rw[Nat.add_zero,g5 off (by omega),List.getElem?_set_self hlt];rfl
    | succ j =>
     have:=g4 j y (by simpa using hy)
     rwa [show off+(j+1)=off+1+j by omega]
   ·rw[g5 k (by omega),List.getElem?_set_ne (by omega)]
  ·have hn:notEx d=true:=by cases d<;>first | rfl | exact absurd ⟨_,_,_,rfl⟩ he
   have e1:Vm.frzCells id off (d::ds)=Vm.frzCells id (off+1) ds:=by cases d<;>first | rfl | exact absurd ⟨_,_,_,rfl⟩ he
   rw[e1];obtain⟨o2,cs',g1,g2,g3,g4,g5⟩:=SR.frzCells ds (off+1) own σ cs h hb hs hrest;refine⟨o2,cs',g1,g2,g3,fun j y hy=>?_,fun k hk=>g5 k (by omega)⟩
   cases j with
   | zero=>simp at hy;subst hy;rw[Nat.add_zero,g5 off (by omega),hd0,frz_of hn]
   | succ j =>
    have:=g4 j y (by simpa using hy)
    rwa [show off+(j+1)=off+1+j by omega]
theorem ok_load {T:Types} {call:CallF} {cx:Cx} {fr:Nat} (h:Hyp P T o own β w σ a) {t:TypeId} {x:Operand} (ho:o.op=.load t x) {e:Eff}
  (he:eff T call cx fr o σ=some e) (hnd:∀ d,o.dst=some d→e.val.refsTo (.slot d)=false):OpOk P o own β w σ a (apply σ o.dst e):=by
 have hsr:=h.sr;simp only[eff,ho] at he;cases hT:T t<;>simp only[hT] at he
 ·cases he
 rename_i i;obtain⟨r⟩:=Row.of h.T hT;rw[Option.map_eq_some_iff] at he;obtain⟨⟨v,vps⟩,hv,rfl⟩:=he;unfold loadAt at hv;have noPl_some:∀ {y:Option V},noPl y=some (v,vps)→y=some v∧vps=[]:=fun {y} hy=>by
  unfold noPl at hy;rw[Option.map_eq_some_iff] at hy;obtain⟨u,h1,h2⟩:=hy;injection h2 with h2 h3;subst h2;exact⟨h1,h3.symm⟩
 cases hx:opd σ.env x<;>simp only[hx] at hv<;>try (cases hv;done)
 ·
  rename_i id off;obtain⟨q1,q2⟩:=opd_ptr hsr hx;cases hbn:ncells σ.heap id<;>simp only[hbn] at hv
  ·cases hv
  rename_i cs;obtain⟨hb,hsp⟩:=ncells_some hbn;obtain⟨b1,b2,arr,T0,b3,b4,b5⟩:=(hsr.heap.blk id cs hb).cells hsp;have hcell:∀ (j:Nat) (d:V),cs[j]?=some d→∃ c,w.cell? ⟨β id,j,none⟩=some c∧CR own β w (.cell id j) d c:=fun j d hd=>by
   have hlt:=(List.getElem?_eq_some_iff.1 hd).1;have ha':j<arr.size:=by omega
   refine⟨arr[j],?_,b5 j d _ hd (Array.getElem?_eq_getElem ha')⟩;rw[cell_of_row w _ _ arr T0 _ b3,Array.getElem?_eq_getElem ha']
  have key:∀ v0,asType i ((cs.drop off).take i.size)=some v0→(∀ d∈(cs.drop off).take i.size,notEx d=true)→OpOk P o own β w σ a (put σ o.dst v0):=by
   intro v0 ha hne;refine OpOk.load h ho r q1 ha (fun j d hd=>?_)
   obtain⟨_,hd'⟩:=take_drop_get hd;obtain⟨c,h1,h2⟩:=hcell _ d hd';have hn:=hne d (List.mem_of_getElem? hd);exact⟨c,h1,h2.place (fun sz n xs he=>by subst he;simp[notEx] at hn),plain_of_CR h2 hn⟩
  cases ha:asType i ((cs.drop off).take i.size)<;>simp only[ha] at hv
  ·cases hv
  rename_i v0;have hl:=asType_cells ha;have hsingle:i.kind.isAgg=false→i.size=1∧(cs.drop off).take i.size=[v0]∧cs[off]?=some v0:=by
   intro hk;have h1:=r.one hk;have ha':=ha;unfold asType at ha';rw[if_pos hl,hk] at ha';simp only[Bool.false_eq_true,if_false] at ha';have h2:=(take_drop_get ha').2;refine⟨h1,?_,by simpa using h2⟩
   rw[h1] at hl ha' ⊢
   match hq:(cs.drop off).take 1,hl with
   | [y],_=>rw[hq] at ha';simp at ha';rw[ha']
  have hkagg:(∀ ds,v0≠.agg ds)→i.kind.isAgg=false:=by
   intro hne;cases hk:i.kind.isAgg
   ·rfl
   ·have ha':=ha
    unfold asType at ha';rw[if_pos hl,hk] at ha';simp at ha';exact absurd ha'.symm (hne _)
  cases v0<;>simp only at hv
  case ex sz n xs =>
   injection hv with hv;injection hv with hv hv2;subst hv;subst hv2;obtain⟨h1,h2,h3⟩:=hsingle (hkagg (by simp))
   have hlook:look σ (.cell id off)=.ex sz n xs:=by
    simp only[look,hb];rw[List.getD_eq_getElem?_getD,h3];rfl
   obtain⟨c,q3,q4⟩:=hcell off _ h3;have hrun:=evals_load (P:=P) (w:=w) ho q1 (run_loadVar r w (β id) off [c] (by simp[h1]) (fun j u hu=>by
    cases j with
    | zero=>simp at hu;subst hu;exact q3
    | succ j=>simp at hu))
   have hm:mkV i [c]=c:=by simp[mkV,hkagg (by simp)]
   rw[hm] at hrun;exact OpOk.way hrun (Nxt.refl hsr) h.dst rfl hnd (fun d=>⟨sz,n,xs,hlook,q3⟩)
  case agg ds =>
   have hds:ds=(cs.drop off).take i.size∧i.kind.isAgg=true:=by
    have ha':=ha;unfold asType at ha';rw[if_pos hl] at ha';cases hk:i.kind.isAgg<;>rw[hk] at ha'<;>simp only[Bool.false_eq_true,if_false,if_true] at ha'
    ·obtain⟨_,_,h3⟩:=hsingle hk
     obtain⟨c,_,q4⟩:=hcell off _ h3;simp only[CR] at q4;cases q4
    ·injection ha' with ha';injection ha' with ha';exact⟨ha'.symm,rfl⟩
   split at hv
   ·rename_i hall
    injection hv with hv;injection hv with hv hv2;subst hv;subst hv2;refine key _ ha (fun d hd=>?_)
    rw[←hds.1] at hd;exact List.all_eq_true.1 hall d hd
   ·injection hv with hv;injection hv with hv hv2;subst hv;subst hv2
    obtain⟨o1,cs',n1,n2,n3,n4,_⟩:=SR.frzCells (a:=a) ds off own σ cs hsr hb hsp (fun j d hd=>by
     rw[hds.1] at hd;exact (take_drop_get hd).2)
    obtain⟨b1',b2',arr',T0',b3',b4',b5'⟩:=(n1.sr.heap.blk id cs' n2).cells n3;have ha2:asType i (ds.map frz)=some (.agg (ds.map frz)):=by
     unfold asType;rw[List.length_map,hds.1,if_pos hl,hds.2,if_pos rfl]
    refine OpOk.load' h ho r q1 n1 ha2 (fun j d hd=>?_)
    rw[List.getElem?_map,Option.map_eq_some_iff] at hd;obtain⟨u,hu,rfl⟩:=hd;have hcs:=n4 j u hu;have hlt:=(List.getElem?_eq_some_iff.1 hcs).1;have hlt':off+j<arr'.size:=by omega
    have hcr:=b5' (off+j) _ _ hcs (Array.getElem?_eq_getElem hlt');refine⟨arr'[off+j],by rw[cell_of_row w _ _ arr' T0' _ b3',Array.getElem?_eq_getElem hlt'],hcr.place (fun sz n xs he=>by have:=frz_notEx u;rw[he] at this;cases this),plain_of_CR hcr (frz_notEx u)⟩
  all_goals
   have hv2:=hv;simp only[noPl,Option.map_some,Option.some.injEq,Prod.mk.injEq] at hv2;obtain⟨hv2,hv3⟩:=hv2;subst hv2;subst hv3;refine key _ ha (fun d hd=>?_)
   obtain⟨_,h2,_⟩:=hsingle (hkagg (by simp))
   rw[h2] at hd;simp at hd;subst hd;rfl
 ·
  rename_i cs off;obtain⟨b,oo,q1,q2,q3⟩:=opd_rptr hsr hx;obtain⟨hv',rfl⟩:=noPl_some hv;refine OpOk.load h ho r q1 hv' (fun j d hd=>?_)
  obtain⟨_,hd'⟩:=take_drop_get hd;obtain⟨c',h1,h2⟩:=q3 _ d hd';exact⟨c',by rw[Nat.add_assoc];exact h1,CR_of_FR h2,plain_of_FR h2⟩
 ·
  rename_i p k off;obtain⟨sz,n,xs,b,len,cap,q1,q2,q3,q4,q5⟩:=opd_xptr hsr hx;simp only[q1] at hv;have hxk:xs[k]?=some xs[k]:=List.getElem?_eq_getElem q4;simp only[hxk] at hv;obtain⟨hv',rfl⟩:=noPl_some hv;obtain⟨c0,h1,h2⟩:=hsr.at_ q1;rw[q2] at h1;injection h1 with h1;subst h1;rcases h2 with ⟨rfl,_,_⟩ | ⟨rfl,_,_⟩ | ⟨_,b',cap',T',arr,e1,e2,e3,e4,e5,e6⟩
  ·simp at q4
  ·simp at q4
  ·injection e1 with e1 _ _;injection e1 with e1;injection e1 with e1 _ _;subst e1
   obtain⟨f1,f2⟩:=e6 k _ hxk;refine OpOk.load h ho r q5 hv' (fun j d hd=>?_)
   obtain⟨_,hd'⟩:=take_drop_get hd;have hj:off+j<sz:=by rw[←f1];exact (List.getElem?_eq_some_iff.1 hd').1
   have hlt:k*sz+(off+j)<arr.size:=by
    rw[e5];exact Nat.lt_of_lt_of_le (idx_lt q4 hj) (Nat.mul_le_mul_right _ e4)
   have hfr:=f2 (off+j) d arr[k*sz+(off+j)] hd' (Array.getElem?_eq_getElem hlt);refine⟨_,?_,CR_of_FR hfr,plain_of_FR hfr⟩;rw[cell_of_row w b _ arr T' _ e3,Nat.add_assoc,Array.getElem?_eq_getElem hlt]
end
end Go.Vm
end
section
namespace Go.Vm
open Go
section
variable {P:Program} {o:Oper} {own:Own} {β:Nat→Nat} {w:World} {σ:St} {a:Act}
def CellsR (own:Own) (β:Nat→Nat) (w:World) (v:V) (c:Value):Prop :=
 c.cells.size=v.cells.length∧∀ (j:Nat) (d:V) (u:Value),v.cells[j]?=some d→c.cells[j]?=some u→CR own β w (.res 0 j) d u
theorem CellsR.of_TR {v:V} {c:Value} (h:TR own β w (fun i j=>.res i j) v c) (hn:isWay v=false) (hu:v≠.undef) (ht:∀ vs,v≠.tup vs) (hr:∀ cs off,v≠.rptr cs off):CellsR own β w v c:=by
 cases v with
 | agg cs =>
  obtain⟨arr,rfl,h2,h3⟩:=h;exact⟨h2,h3⟩
 | tup vs=>exact absurd rfl (ht vs)
 | undef=>exact absurd rfl hu
 | rptr cs off=>exact absurd rfl (hr cs off)
 | lent p=>cases hn
 | xptr p i off=>cases hn
 | _ =>
  simp only[TR,VR] at h;have hc:=h;have hone:=hc.one;have hcells:c.cells=#[c]:=by cases c<;>first | rfl | (simp[Value.oneCell'] at hone)
  refine⟨by rw[hcells];rfl,fun j d u hd hu'=>?_⟩
  cases j with
  | zero =>
   rw[hcells] at hu';simp[V.cells] at hd hu';subst hd;subst hu';exact hc
  | succ j=>simp[V.cells] at hd
theorem reloc_id:Reloc id:=⟨rfl,rfl,fun _=>rfl,fun _ _ h=>h,fun _ h=>h⟩
theorem take_ok (h:SR own β w σ a.tmps) {x:Operand} {v:V} {ps:List (Place×V)} (ht:take σ x=some (v,ps)) :
  ∃ o1,Nxt own β w σ a o1 β w (setPlaces σ ps) a∧CellsR o1 β w v (a.eval x)∧∃ ρ,Reloc ρ∧(∀ i j,ρ (.res (i+1) j)=.res (i+1) j)∧o1=fun b=>ρ (own b):=by
 unfold take at ht;cases hv:opd σ.env x<;>simp only[hv] at ht<;>try (cases ht;done)
 case ex sz n xs =>
  cases htm:tmpOf x<;>simp only[htm] at ht
  ·cases ht
  rename_i t;obtain rfl:=tmpOf_some htm
  injection ht with ht;injection ht with h1 h2;subst h1;subst h2;obtain⟨o1,h1,h2,hq⟩:=Nxt.giveSlot h t (by simp only[opd] at hv;rw[hv];rfl)
  simp only[opd] at hv;rw[hv] at h2;exact⟨o1,h1,CellsR.of_TR h2 rfl (by simp) (by simp) (by simp),slotOut t,slotOut_reloc t,fun _ _=>rfl,hq⟩
 case lent p =>
  obtain⟨sz,n,xs,q1,q2⟩:=opd_lent h hv;simp only[q1] at ht;injection ht with ht;injection ht with h1 h2;subst h1;subst h2;obtain⟨o1,c,h1,h2,h3,hq⟩:=Nxt.freeze h q1;rw[q2] at h2;injection h2 with h2;subst h2;exact⟨o1,h1,CellsR.of_TR (v:=.sl n xs) (c:=a.eval x) h3 rfl (by simp) (by simp) (by simp),_,locOf_reloc p (by simp) (by simp),fun i j=>moved_ne (by cases p<;>simp[locOf]),hq⟩
 case agg cs =>
  split at ht
  ·rename_i hc
   injection ht with ht;injection ht with h1 h2;subst h1;subst h2;exact⟨own,Nxt.refl h,CellsR.of_TR (opd_res' h hv rfl (noEx_dat hc)) rfl (by simp) (by simp) (by simp),id,reloc_id,fun _ _=>rfl,rfl⟩
  ·cases htm:tmpOf x<;>simp only[htm] at ht
   ·cases ht
   rename_i t;obtain rfl:=tmpOf_some htm
   injection ht with ht;injection ht with h1 h2;subst h1;subst h2;obtain⟨o1,h1,h2,hq⟩:=Nxt.giveSlot h t (by simp only[opd] at hv;rw[hv];rfl)
   simp only[opd] at hv;rw[hv] at h2;exact⟨o1,h1,CellsR.of_TR h2 rfl (by simp) (by simp) (by simp),slotOut t,slotOut_reloc t,fun _ _=>rfl,hq⟩
 all_goals
  injection ht with ht;injection ht with h1 h2;subst h1;subst h2;exact⟨own,Nxt.refl h,CellsR.of_TR (opd_res' h hv rfl rfl) rfl (by simp) (by simp) (by simp),id,reloc_id,fun _ _=>rfl,rfl⟩
theorem setPlaces_heap:∀ (ps:List (Place×V)) (σ:St),ps.all isSlot=true→(setPlaces σ ps).heap=σ.heap
 | [],σ,_=>rfl
 | (p,v)::rest,σ,h=>by
  simp only[List.all_cons,Bool.and_eq_true] at h;simp only[setPlaces];rw[setPlaces_heap rest _ h.2];cases p with
  | slot t=>rfl
  | cell id off=>simp[isSlot] at h
theorem evals_store {t:TypeId} {p x:Operand} (ho:o.op=.store t p x) {b oo:Nat} (hp:a.eval p=.pointer (some ⟨b,oo,none⟩)) {w':World} (hr:(storeVar t ⟨b,oo,none⟩ (a.eval x)).run P w=.ok () w') :
  (execOp a.eval o).run P w=.ok .skip w':=by simp[execOp,ho,hp,Instr.storeAt,Instr.sureAddr,hr]
theorem run_storeVar {t:Nat} {i:TI} (r:Row P t i) {c:Value} (hs:c.cells.size=i.size) {b oo:Nat} {T0:TypeId} {arr:Array Value} (hb:w.heap[b]?=some (.cells arr T0 (0,0)))
  (hfit:oo+c.cells.toList.length≤arr.size) (hone:∀ u∈c.cells.toList,u.oneCell'=true) :
  (storeVar t ⟨b,oo,none⟩ c).run P w=.ok () (w.setRow b (patch arr oo c.cells.toList)):=by
 have hst:=run_storeCells_at P b oo T0 c.cells.toList 0 arr w hb (by simpa using hfit) hone
 simp only[Nat.add_zero] at hst;unfold storeVar;simp only[Sem.run_bind,run_sizeOf_row r,Result.andThen_ok,hs];simp only[ne_eq,not_true_eq_false,if_false,Sem.run_pure,Sem.run_bind,Result.andThen_ok];exact hst
theorem ok_store_ptr {T:Types} (h:Hyp P T o own β w σ a) {t:TypeId} {p x:Operand} (ho:o.op=.store t p x) {i:TI} (r:Row P t i) {id off:Nat} (hp:opd σ.env p=.ptr id off)
  {v:V} {ps:List (Place×V)} (ht:take σ x=some (v,ps)) {cs:List V} (hcs:bcells σ.heap id=some cs) (hsp:specB cs=false) (hl:v.cells.length=i.size) (hfit:off+i.size≤cs.length)
  (hps:ps.all isSlot=true) (hok:v.cells.all (okBelow (id+1))=true):OpOk P o own β w σ a (apply σ o.dst {val:=.undef,places:=ps,mem:=.set id off v.cells}):=by
 have hsr:=h.sr;obtain⟨q1,q2⟩:=opd_ptr hsr hp;obtain⟨o1,h1,⟨h2,h3⟩,_⟩:=take_ok hsr ht;have hh:=setPlaces_heap ps σ hps;have hcs':bcells (setPlaces σ ps).heap id=some cs:=by rw[hh];exact hcs
 obtain⟨o2,arr,T0,s1,s2,s3,s4,s5,s6⟩:=h1.sr.store hcs' hsp (off:=off) (vs:=v.cells) (cvs:=(a.eval x).cells.toList) (by simpa using h2) (by omega)
  (fun d hd=>List.all_eq_true.1 hok d hd) (fun j d u hd hu=>h3 j d u hd (by simpa using hu))
 have hrun:=evals_store (P:=P) (w:=w) ho q1 (run_storeVar r (by omega) s1 s2 s3)
 exact OpOk.skip hrun ⟨s4,h1.stay.trans s5,h1.bx.trans s6,rfl,rfl⟩ h.dst
theorem mkOf_cells {e:V} {cs:List V} (h:cs.length=e.cells.length) (hne:∀ y∈cs,∀ as,y≠.agg as):(mkOf e cs).cells=cs:=by
 cases e with
 | agg as=>rfl
 | _ =>
  simp only[V.cells,List.length_cons,List.length_nil] at h
  match cs,h with
  | [y],_ =>
   simp only[mkOf,List.getD_cons_zero];have:=hne y (by simp)
   cases y<;>first | rfl | exact absurd rfl (this _)
theorem SR.poke (h:SR own β w σ a.tmps) {t:Nat} {sz:Nat} {n:Bool} {xs xs':List V} (hl:look σ (.slot t)=.ex sz n xs) {b len cap:Nat} {T0:TypeId} {arr arr':Array Value}
  (hc:conc β a.tmps w (.slot t)=some (.slice (some ⟨b,0,none⟩) len cap)) (hlen:xs'.length=xs.length) (hb:own b=locOf (.slot t)) (hw:w.heap[b]?=some (.cells arr T0 (0,0))) (hsz:arr'.size=arr.size)
  (hne:xs≠[]) (hlay:Lay own w sz xs' arr'):Nxt own β w σ a own β (w.setRow b arr') (pokeS σ (some (t,.ex sz n xs'))) a:=by
 obtain⟨c0,h1,h2⟩:=h.at_ hl;rw[hc] at h1;injection h1 with h1;subst h1;rcases h2 with ⟨he,_,_⟩ | ⟨he,_,_⟩ | ⟨hn,b',cap',T',arr0,e1,e2,e3,e4,e5,e6⟩
 ·exact absurd he hne
 ·exact absurd he hne
 injection e1 with e1 e1' e1'';injection e1 with e1;injection e1 with e1 _ _;subst e1;subst e1';subst e1'';rw[hw] at e3;injection e3 with e3;injection e3 with e3 e3' _;subst e3;subst e3';simp only[locOf] at hb;have hoth:∀ k,own k≠.slot t 0 0→(w.setRow b arr').heap[k]?=w.heap[k]?:=fun k hk=>setRow_other w b k _ fun he=>hk (he▸hb)
 have hk:∀ k,own k=.im→own k=.im∧(w.setRow b arr').heap[k]?=w.heap[k]?:=fun k hk=>⟨hk,hoth k (by rw[hk];simp)⟩
 simp only[conc] at hc;injection hc with hc;have hcl:∀ (k:Nat) (a0:Array Value) (T':TypeId),w.heap[k]?=some (.cells a0 T' (0,0))→∃ a2:Array Value,(w.setRow b arr').heap[k]?=some (.cells a2 T' (0,0))∧a2.size=a0.size:=fun k a0 T' hk0=>by
  by_cases he:k=b
  ·subst he;rw[hw] at hk0;injection hk0 with hk0;injection hk0 with q1 q2;subst q1;subst q2
   exact⟨arr',setRow_at w k arr _ T0 _ hw,hsz⟩
  ·exact⟨a0,by rw[setRow_other w b k _ he];exact hk0,rfl⟩
 refine⟨⟨fun u=>?_,⟨fun id cs hi=>?_,fun k id hk'=>h.heap.inv k id hk',fun k hk'=>by simpa using h.heap.lt k hk'⟩⟩,⟨hk,fun k _ hk'=>⟨hk',hoth k (by rw[hk'];simp)⟩,by simp,rfl,rfl,rfl,Nat.le_refl _,hcl⟩,BX.refl _ _,rfl,rfl⟩
 ·by_cases hu:u=t
  ·subst hu
   simp only[pokeS,get_cons_same];rw[hc];refine .inr (.inr ⟨hn,b,cap,T0,arr',by rw[hlen],hb,setRow_at w b arr _ T0 _ hw,by omega,by rw[hsz];exact e5,hlay.mono hk⟩)
  ·simp only[pokeS]
   rw[get_cons_ne _ _ (Ne.symm hu)];refine (h.env u).keep hk (fun id hb'=>⟨hb',rfl⟩) (fun i j k hk'=>⟨hk',hoth k (by rw[hk'];intro he;injection he with he;exact hu he)⟩) (fun p hp=>⟨fun sz' m ys hl'=>?_,fun c hc'=>?_,fun k hk'=>hk'⟩)
   ·cases p with
    | cell id off=>exact⟨m,ys,hl',rfl⟩
    | slot x =>
     simp only[look] at hl hl' ⊢;by_cases hx:x=t
     ·subst hx
      rw[hl] at hl';injection hl' with e1 e2 e3;subst e1;subst e2;subst e3;exact⟨n,xs',by rw[get_cons_same],hlen⟩
     ·exact⟨m,ys,by rw[get_cons_ne _ _ (Ne.symm hx)];exact hl',rfl⟩
   ·cases p with
    | slot x=>exact hc'
    | cell id off =>
     simp only[conc] at hc' ⊢;rw[←hc'];have hE:=h.env u;have hlk:∃ sz n xs,look σ (.cell id off)=.ex sz n xs:=by
      cases hv':get σ.env u<;>rw[hv'] at hp hE<;>simp[V.refsTo] at hp<;>subst hp
      ·obtain⟨sz,n,xs,b,len,cap,q1,q2⟩:=hE;exact⟨_,_,_,q1⟩
      ·obtain⟨sz,n,xs,q1,q2⟩:=hE;exact⟨_,_,_,q1⟩
     obtain⟨_,_,_,hlk⟩:=hlk;obtain⟨ds,h3,_⟩:=Place.cases_look hlk;exact World.cell?_of_block (w:=w) (hoth _ (by rw[(h.heap.blk id ds h3).own];simp))
 ·have hbl:=(h.heap.blk id cs hi).own
  exact (h.heap.blk id cs hi).mono hk (fun id hb'=>⟨hb',rfl⟩) (fun j k hk'=>⟨hk',hoth k (by rw[hk'];simp)⟩) (hoth _ (by rw[hbl];simp))
theorem SR.rewrite (h:SR own β w σ a.tmps) {id off:Nat} {sz:Nat} {n:Bool} {xs xs':List V} (hl:look σ (.cell id off)=.ex sz n xs) {b len cap:Nat} {T0:TypeId} {arr arr':Array Value}
  (hc:conc β a.tmps w (.cell id off)=some (.slice (some ⟨b,0,none⟩) len cap)) (hlen:xs'.length=xs.length) (hb:own b=locOf (.cell id off)) (hw:w.heap[b]?=some (.cells arr T0 (0,0))) (hsz:arr'.size=arr.size)
  (hne:xs≠[]) (hlay:Lay own w sz xs' arr'):Nxt own β w σ a own β (w.setRow b arr') (setMem σ (.elem id off (.ex sz n xs'))) a:=by
 obtain⟨c0,h1,h2⟩:=h.at_ hl;rw[hc] at h1;injection h1 with h1;subst h1;rcases h2 with ⟨he,_,_⟩ | ⟨he,_,_⟩ | ⟨hn,b',cap',T',arr0,e1,e2,e3,e4,e5,e6⟩
 ·exact absurd he hne
 ·exact absurd he hne
 injection e1 with e1 e1' e1'';injection e1 with e1;injection e1 with e1 _ _;subst e1;subst e1';subst e1'';rw[hw] at e3;injection e3 with e3;injection e3 with e3 e3' _;subst e3;subst e3';obtain⟨cs,hcs,hoff⟩:=Place.cases_look hl;have hid:=bcells_lt hcs;simp only[locOf] at hb;have hoth:∀ k,own k≠.cell id off→(w.setRow b arr').heap[k]?=w.heap[k]?:=fun k hk=>setRow_other w b k _ fun he=>hk (he▸hb)
 have hk:∀ k,own k=.im→own k=.im∧(w.setRow b arr').heap[k]?=w.heap[k]?:=fun k hk=>⟨hk,hoth k (by rw[hk];simp)⟩
 have hcl:∀ (k:Nat) (a0:Array Value) (T':TypeId),w.heap[k]?=some (.cells a0 T' (0,0))→∃ a2:Array Value,(w.setRow b arr').heap[k]?=some (.cells a2 T' (0,0))∧a2.size=a0.size:=fun k a0 T' hk0=>by
  by_cases he:k=b
  ·subst he;rw[hw] at hk0;injection hk0 with hk0;injection hk0 with q1 q2;subst q1;subst q2
   exact⟨arr',setRow_at w k arr _ T0 _ hw,hsz⟩
  ·exact⟨a0,by rw[setRow_other w b k _ he];exact hk0,rfl⟩
 have hset:setMem σ (.elem id off (.ex sz n xs'))={σ with heap:=σ.heap.set id (.cells (cs.set off (.ex sz n xs')))}:=by simp only[setMem,hcs]
 have hX:EXR own (w.setRow b arr') (.cell id off) sz n xs' (.slice (some ⟨b,0,none⟩) xs.length cap) :=
  .inr (.inr ⟨hn,b,cap,T0,arr',by rw[hlen],hb,setRow_at w b arr _ T0 _ hw,by omega,by rw[hsz];exact e5,hlay.mono hk⟩)
 rw[hset];refine⟨⟨fun u=>?_,⟨fun i ds hi=>?_,fun k i hk'=>?_,fun k hk'=>by simpa using h.heap.lt k hk'⟩⟩,⟨hk,fun k _ hk'=>⟨hk',hoth k (by rw[hk'];simp)⟩,by simp,rfl,rfl,rfl,Nat.le_refl _,hcl⟩,⟨by simp,fun i ds hi=>⟨rfl,?_⟩⟩,rfl,rfl⟩
 ·refine (h.env u).keep hk (fun i hb'=>⟨hb',rfl⟩) (fun i j k hk'=>⟨hk',hoth k (by rw[hk'];simp)⟩) (fun p hp=>⟨fun sz' m ys hl'=>?_,fun c hc'=>?_,fun k hk'=>hk'⟩)
  ·cases p with
   | slot x=>exact⟨m,ys,hl',rfl⟩
   | cell i o =>
    simp only[look] at hl hl' ⊢;rw[bcells_set hid];by_cases hi:i=id
    ·subst hi
     rw[if_pos rfl];rw[hcs] at hl hl';simp only at hl hl' ⊢;by_cases ho:o=off
     ·subst ho
      rw[hl] at hl';injection hl' with q1 q2 q3;subst q1;subst q2;subst q3;have:=(List.getElem?_eq_some_iff.1 hoff).1
      exact⟨n,xs',by simp[List.getD_eq_getElem?_getD,this],hlen⟩
     ·exact⟨m,ys,by rw[←hl'];simp[List.getD_eq_getElem?_getD,List.getElem?_set_ne (Ne.symm ho)],rfl⟩
    ·rw[if_neg hi];exact⟨m,ys,hl',rfl⟩
  ·cases p with
   | slot x=>exact hc'
   | cell i o =>
    simp only[conc] at hc' ⊢;rw[←hc'];have hE:=h.env u;have hlk:∃ sz n xs,look σ (.cell i o)=.ex sz n xs:=by
     cases hv':get σ.env u<;>rw[hv'] at hp hE<;>simp[V.refsTo] at hp<;>subst hp
     ·obtain⟨sz,n,xs,b,len,cap,q1,q2⟩:=hE;exact⟨_,_,_,q1⟩
     ·obtain⟨sz,n,xs,q1,q2⟩:=hE;exact⟨_,_,_,q1⟩
    obtain⟨_,_,_,hlk⟩:=hlk;obtain⟨ds,h3,_⟩:=Place.cases_look hlk;exact World.cell?_of_block (w:=w) (hoth _ (by rw[(h.heap.blk i ds h3).own];simp))
 ·simp only at hi
  rw[bcells_set hid] at hi;by_cases hii:i=id
  ·subst hii
   rw[if_pos rfl] at hi;injection hi with hi;subst hi;obtain⟨g1,g2,arr1,T1,g3,g4,g5⟩:=(h.heap.blk i cs hcs).cells (specB_of_ex hoff);have hbne:β i≠b:=fun he=>by rw[he,hb] at g1;cases g1
   refine .inl ⟨g1,fun v hv'=>?_,arr1,T1,by rw[setRow_other w b _ _ hbne];exact g3,by simpa using g4,fun j v c hvj hcj=>?_⟩
   ·rcases List.mem_or_eq_of_mem_set hv' with hm | rfl
    ·exact g2 v hm
    ·rfl
   ·by_cases hj:j=off
    ·subst hj
     have hlt:=(List.getElem?_eq_some_iff.1 hoff).1;rw[List.getElem?_set_self hlt] at hvj;injection hvj with hvj;subst hvj;have hcc:c=.slice (some ⟨b,0,none⟩) xs.length cap:=by
      simp only[conc] at hc;rw[cell_of_row w _ j arr1 T1 _ g3,hcj] at hc;injection hc
     rw[hcc];exact hX
    ·rw[List.getElem?_set_ne (Ne.symm hj)] at hvj
     exact (g5 j v c hvj hcj).mono hk (fun i hb'=>⟨hb',rfl⟩) (fun k hk'=>⟨hk',hoth k (by rw[hk'];intro he;injection he with he1 he2;exact hj he2)⟩)
  ·rw[if_neg hii] at hi
   have hbl:=(h.heap.blk i ds hi).own;exact (h.heap.blk i ds hi).mono hk (fun i hb'=>⟨hb',rfl⟩) (fun j k hk'=>⟨hk',hoth k (by rw[hk'];intro he;injection he with he1 he2;exact hii he1)⟩) (hoth _ (by rw[hbl];simp))
 ·obtain⟨q1,ds,q2⟩:=h.heap.inv k i hk'
  refine⟨q1,?_⟩;simp only;rw[bcells_set hid];split
  ·exact⟨_,rfl⟩
  ·exact⟨ds,q2⟩
 ·rw[bcells_set hid]
  split
  ·exact⟨_,rfl⟩
  ·exact⟨ds,hi⟩
theorem takeDat_nil (h:SR own β w σ a.tmps) {x:Operand} {v:V} (ht:takeDat σ x=some (v,[])) :
  (a.eval x).cells.size=v.cells.length∧(∀ y∈v.cells,∀ as,y≠.agg as)∧∀ (j:Nat) (d:V) (u:Value),v.cells[j]?=some d→(a.eval x).cells[j]?=some u→FR own w d u:=by
 have fin:∀ v,opd σ.env x=v→v.dat=true→v≠.undef→(a.eval x).cells.size=v.cells.length∧(∀ y∈v.cells,∀ as,y≠.agg as)∧∀ (j:Nat) (d:V) (u:Value),v.cells[j]?=some d→(a.eval x).cells[j]?=some u→FR own w d u:=by
  intro v hv hd hu;have hall:∀ y∈v.cells,cellDat y=true:=by
   intro y hy;cases v<;>first
    | (simp[V.cells] at hy;subst hy;exact hd)
    | exact List.all_eq_true.1 hd y hy
  have hw:isWay v=false:=by cases v<;>first | rfl | (simp[V.dat,cellDat] at hd)
  have hne:noEx v=true:=by
   cases v<;>first
    | rfl
    | (simp[V.dat,cellDat] at hd;done)
    | exact noEx_dat hd
  have ht:∀ vs,v≠.tup vs:=by rintro vs rfl;simp[V.dat,cellDat] at hd
  have hr:∀ cs off,v≠.rptr cs off:=by rintro cs off rfl;simp[V.dat,cellDat] at hd
  obtain⟨h1,h2⟩:=CellsR.of_TR (opd_res' h hv hw hne) hw hu ht hr;exact⟨h1,fun y hy as he=>by have:=hall y hy;rw[he] at this;simp[cellDat] at this,fun j d u hd' hu'=>FR_of_CR (h2 j d u hd' hu') (hall d (List.mem_of_getElem? hd'))⟩
 unfold takeDat at ht;cases hv:opd σ.env x<;>simp only[hv] at ht<;>try (cases ht;done)
 case ex sz n xs =>
  cases htm:tmpOf x<;>simp only[htm] at ht<;>cases ht
 case lent p =>
  obtain⟨sz,n,xs,q1,q2⟩:=opd_lent h hv;simp only[q1] at ht;cases ht
 case agg cs =>
  split at ht
  ·rename_i hd
   injection ht with ht;injection ht with h1 h2;subst h1;exact fin _ hv hd (by simp)
  ·cases htm:tmpOf x<;>simp only[htm] at ht
   ·cases ht
   ·split at ht<;>cases ht
 all_goals
  split at ht
  ·rename_i hd
   injection ht with ht;injection ht with h1 h2;subst h1;exact fin _ hv hd (by simp)
  ·cases ht
def slotIm (t:Nat) (l:Loc):Loc:=match l with | .slot u i j=>if u=t then .im else .slot u i j | l=>l
theorem slotIm_reloc (t:Nat):Reloc (slotIm t):=by
 refine⟨rfl,rfl,fun _=>rfl,fun l id h=>?_,fun l h=>?_⟩
 ·cases l<;>simp only[slotIm] at h<;>first | rfl | exact h | (split at h<;>cases h)
 ·cases l<;>simp only[slotIm] at h<;>first | rfl | exact h | (split at h<;>cases h)
theorem one_FR {n:Bool} {xs:List V} {c:Value} {o1:Own} (hf:FR o1 w (.sl n xs) c):c.cells.size=(V.sl n xs).cells.length∧(∀ y∈(V.sl n xs).cells,∀ as,y≠.agg as) ∧
  ∀ (j:Nat) (d:V) (u:Value),(V.sl n xs).cells[j]?=some d→c.cells[j]?=some u→FR o1 w d u:=by
 have hone:=hf.one;have hcells:c.cells=#[c]:=by cases c<;>first | rfl | (simp[Value.oneCell'] at hone)
 refine⟨by rw[hcells];rfl,fun y hy as he=>(by simp[V.cells] at hy;rw[hy] at he;cases he),fun j d u hd hu=>?_⟩
 cases j with
 | zero=>rw[hcells] at hu;simp[V.cells] at hd hu;subst hd;subst hu;exact hf
 | succ j=>simp[V.cells] at hd
theorem takeDat_ok {own:Own} {σ:St} (h:SR own β w σ a.tmps) {x:Operand} {v:V} {ps:List (Place×V)} (ht:takeDat σ x=some (v,ps)) :
  ∃ o1,Nxt own β w σ a o1 β w (setPlaces σ ps) a∧((a.eval x).cells.size=v.cells.length∧(∀ y∈v.cells,∀ as,y≠.agg as)∧∀ (j:Nat) (d:V) (u:Value),v.cells[j]?=some d→(a.eval x).cells[j]?=some u→FR o1 w d u) ∧
   (ps=[]∨∃ p,ps=[p])∧∀ q,(∀ y∈ps,y.1≠q)→∀ b,own b=locOf q→o1 b=locOf q:=by
 by_cases hps:ps=[]
 ·subst hps
  exact⟨own,Nxt.refl h,takeDat_nil h ht,.inl rfl,fun _ _ _ hb=>hb⟩
 unfold takeDat at ht;cases hv:opd σ.env x<;>simp only[hv] at ht<;>try (cases ht;done)
 case ex sz n xs =>
  cases htm:tmpOf x<;>simp only[htm] at ht
  ·cases ht
  rename_i t;obtain rfl:=tmpOf_some htm
  injection ht with ht;injection ht with h1 h2;subst h1;subst h2;obtain⟨o1,c,g1,g2,g3,g4⟩:=Nxt.freeze (p:=.slot t) h hv;simp only[conc] at g2;injection g2 with g2;subst g2;refine⟨o1,g1,one_FR g3,.inr ⟨_,rfl⟩,fun q hq b hb=>?_⟩
  rw[g4];simp only[hb];refine moved_ne fun he=>hq _ (List.mem_singleton.2 rfl) ?_
  cases q<;>simp[locOf] at he;simp[he]
 case lent p =>
  obtain⟨sz,n,xs,q1,q2⟩:=opd_lent h hv;simp only[q1] at ht;injection ht with ht;injection ht with h1 h2;subst h1;subst h2;obtain⟨o1,c,g1,g2,g3,g4⟩:=Nxt.freeze h q1;rw[q2] at g2;injection g2 with g2;subst g2;refine⟨o1,g1,one_FR g3,.inr ⟨_,rfl⟩,fun q hq b hb=>?_⟩
  rw[g4];simp only[hb];refine moved_ne fun he=>hq _ (List.mem_singleton.2 rfl) ?_
  cases q<;>cases p<;>simp[locOf] at he<;>simp[he]
 case agg cs =>
  split at ht
  ·injection ht with ht;injection ht with h1 h2;exact absurd h2.symm hps
  ·cases htm:tmpOf x<;>simp only[htm] at ht
   ·cases ht
   rename_i t;obtain rfl:=tmpOf_some htm
   split at ht
   ·rename_i hd
    injection ht with ht;injection ht with h1 h2;subst h1;subst h2;simp only[opd] at hv;have hr:=slotIm_reloc t;have hT:=opd_TR h (.tmp t) (by simp only[opd];rw[hv];rfl)
    simp only[opd] at hT;rw[hv] at hT;obtain⟨arr,e1,e2,e3⟩:=hT;have hF:∀ (j:Nat) (d:V) (u:Value),(cs.map frz)[j]?=some d→arr[j]?=some u→FR (fun b=>slotIm t (own b)) w d u:=fun j d u hj hu=>by
     rw[List.getElem?_map,Option.map_eq_some_iff] at hj;obtain⟨y,hy,rfl⟩:=hj;have hcr:=(e3 j y u hy hu).reloc hr;have hl:slotIm t (opL (.tmp t) 0 j)=.im:=by simp[opL,slotIm]
     rw[hl] at hcr;cases y with
     | ex sz n xs=>exact EXR.freeze hcr
     | _ =>
      have hdd:=List.all_eq_true.1 hd _ (List.mem_map.2 ⟨_,List.mem_of_getElem? hy,rfl⟩);exact FR_of_CR hcr hdd
    have hs:SR (fun b=>slotIm t (own b)) β w (setPlace σ (.slot t) (.agg (cs.map frz))) a.tmps:=by
     refine h.slot hr (fun u i k hu=>by simp[slotIm,hu]) (fun _ _=>rfl) rfl ?_
     rw[←eval_tmp,e1];exact⟨arr,rfl,by simpa using e2,fun j d u hj hu=>CR_of_FR (hF j d u hj hu)⟩
    refine⟨_,⟨hs,Stay.reloc hr,BX.refl _ _,rfl,rfl⟩,⟨by rw[e1];simpa [V.cells,Value.cells] using e2,fun y hy as he=>?_,fun j d u hj hu=>hF j d u hj (by rw[e1] at hu;exact hu)⟩,.inr ⟨_,rfl⟩,fun q hq b hb=>?_⟩
    ·have:=List.all_eq_true.1 hd y hy;rw[he] at this;cases this
    ·simp only[hb]
     cases q with
     | cell i j=>rfl
     | slot u =>
      have hne:u≠t:=fun he=>hq _ (List.mem_singleton.2 rfl) (by rw[he])
      simp[locOf,slotIm,hne]
   ·cases ht
 all_goals
  split at ht
  ·injection ht with ht;injection ht with h1 h2;exact absurd h2.symm hps
  ·cases ht
theorem look_setPlace_ne {p q:Place} {v x:V} (hne:q≠p) (hx:∀ r,x.refsTo r=false) (hl:look σ q=x):look (setPlace σ p v) q=x:=by
 cases p with
 | slot t =>
  cases q with
  | slot u =>
   have hu:t≠u:=fun h=>hne (by rw[h])
   simp only[look,setPlace] at hl ⊢;rw[get_cons_ne _ _ hu,get_kill,hl,if_neg (by simp[hx])]
  | cell id off=>exact hl
 | cell id off =>
  cases q with
  | slot u =>
   simp only[look,setPlace] at hl ⊢;rw[get_kill,hl,if_neg (by simp[hx])]
  | cell id' off' =>
   simp only[look,setPlace] at hl ⊢;cases hc:bcells σ.heap id with
   | none=>exact hl
   | some cs =>
    simp only;rw[bcells_set (bcells_lt hc)];by_cases hi:id'=id
    ·subst hi
     have ho:off≠off':=fun h=>hne (by rw[h])
     rw[hc] at hl;simp only[if_true];rw[←hl];simp[List.getD_eq_getElem?_getD,List.getElem?_set_ne ho]
    ·rw[if_neg hi];exact hl
theorem setPlaces_append:∀ (ps qs:List (Place×V)) (σ:St),setPlaces σ (ps++qs)=setPlaces (setPlaces σ ps) qs
 | [],_,_=>rfl
 | (p,v)::ps,qs,σ=>setPlaces_append ps qs (setPlace σ p v)
theorem sep {i k sz j off n:Nat} (hik:i≠k) (hj:j<sz) (hn:off+n≤sz):¬ (k*sz+off≤i*sz+j∧i*sz+j<k*sz+off+n):=by
 rintro ⟨h1,h2⟩
 rcases Nat.lt_or_gt_of_ne hik with h | h
 ·have:(i+1)*sz≤k*sz:=Nat.mul_le_mul_right _ h
  rw[Nat.succ_mul] at this;omega
 ·have:(k+1)*sz≤i*sz:=Nat.mul_le_mul_right _ h
  rw[Nat.succ_mul] at this;omega
theorem ok_store {T:Types} {call:CallF} {cx:Cx} {fr:Nat} (h:Hyp P T o own β w σ a) {t:TypeId} {p x:Operand} (ho:o.op=.store t p x) {e:Eff}
  (he:eff T call cx fr o σ=some e):OpOk P o own β w σ a (apply σ o.dst e):=by
 have hsr:=h.sr;simp only[eff,ho] at he;cases hT:T t<;>simp only[hT] at he
 ·cases he
 rename_i i;obtain⟨r⟩:=Row.of h.T hT;cases hs:storeAt i σ (opd σ.env p) x<;>simp only[hs] at he
 ·cases he
 rename_i e0;unfold storeAt at hs;cases hp:opd σ.env p<;>simp only[hp] at hs<;>try (cases hs;done)
 ·rename_i id off
  cases ht:take σ x<;>simp only[ht] at hs
  ·cases hs
  rename_i vp;obtain⟨v,ps⟩:=vp;cases hcn:ncells σ.heap id<;>simp only[hcn] at hs
  ·cases hs
  rename_i cs;obtain⟨hcs,hsp⟩:=ncells_some hcn;split at hs
  ·rename_i hc
   injection hs with hs;subst hs;simp only at he;split at he
   ·rename_i hok
    injection he with he;subst he;exact ok_store_ptr h ho r hp ht hcs hsp hc.1 hc.2.1 hc.2.2 hok
   ·cases he
  ·cases hs
 ·rename_i q k off
  cases ht:takeDat σ x<;>simp only[ht] at hs
  ·cases hs
  rename_i vp;obtain⟨v,ps⟩:=vp;obtain⟨sz,n,xs,b,len,cap,q1,q2,q3,q4,q5⟩:=opd_xptr hsr hp;simp only[q1] at hs;have hxk:xs[k]?=some xs[k]:=List.getElem?_eq_getElem q4;simp only[hxk] at hs;split at hs
  ·rename_i hc
   injection hs with hs;subst hs;have he':alsoPl ps (rewr q (.ex sz n (xs.set k (mkOf xs[k] (setCells xs[k].cells off v.cells)))))=e:=by
    cases q<;>simp only[rewr,alsoPl] at he<;>injection he
   subst he';clear he;obtain⟨oa,na,⟨t1,t2,t3⟩,hps1,hloc⟩:=takeDat_ok hsr ht;have hpq:∀ y∈ps,isSlot y=true∧y.1≠q:=fun y hy=>by
    have:=List.all_eq_true.1 hc.2.2 y hy
    simpa using this
   have q1a:look (setPlaces σ ps) q=.ex sz n xs:=by
    rcases hps1 with rfl | ⟨y,rfl⟩
    ·exact q1
    ·exact look_setPlace_ne (fun he=>(hpq y (by simp)).2 he.symm) (fun _=>rfl) q1
   have q3a:oa b=locOf q:=hloc q (fun y hy=>(hpq y hy).2) b q3
   have q2a:conc β a.tmps w q=some (.slice (some ⟨b,0,none⟩) len cap):=q2
   replace q1:=q1a;replace q2:=q2a;replace q3:=q3a
   clear q1a q2a q3a;obtain⟨c0,h1,h2⟩:=na.sr.at_ q1;rw[q2] at h1;injection h1 with h1;subst h1;rcases h2 with ⟨he,_,_⟩ | ⟨he,_,_⟩ | ⟨hn,b',cap',T',arr,e1,e2,e3,e4,e5,e6⟩
   ·subst he;simp at q4
   ·subst he;simp at q4
   injection e1 with e1 e1' e1'';injection e1 with e1;injection e1 with e1 _ _;subst e1;subst e1';subst e1'';obtain⟨f1,f2⟩:=e6 k _ hxk;have hcl:(a.eval x).cells.toList.length=i.size:=by simp;omega
   have hoff:off+i.size≤sz:=by omega
   have hfit:k*sz+off+(a.eval x).cells.toList.length≤arr.size:=by
    have h1:(k+1)*sz≤cap*sz:=Nat.mul_le_mul_right _ (by omega)
    rw[Nat.succ_mul] at h1;rw[e5];omega
   have hone:∀ u∈(a.eval x).cells.toList,u.oneCell'=true:=fun u hu=>by
    obtain⟨j,hj⟩:=List.getElem?_of_mem hu;have hlt:j<v.cells.length:=by have:=(List.getElem?_eq_some_iff.1 hj).1;omega
    exact (t3 j _ u (List.getElem?_eq_getElem hlt) (by simpa using hj)).one
   have hrun:=evals_store (P:=P) (w:=w) ho q5 (run_storeVar r (by omega) e3 hfit hone)
   have hset:(setCells xs[k].cells off v.cells).length=xs[k].cells.length:=setCells_length _ _ _;have hget:∀ j,(setCells xs[k].cells off v.cells)[j]?=if off≤j∧j<off+v.cells.length then v.cells[j-off]? else xs[k].cells[j]?:=fun j=>setCells_get _ _ _ j (by omega)
   have hmk:(mkOf xs[k] (setCells xs[k].cells off v.cells)).cells=setCells xs[k].cells off v.cells:=by
    refine mkOf_cells hset (fun y hy as he=>?_)
    obtain⟨j,hj⟩:=List.getElem?_of_mem hy;rw[hget] at hj;split at hj
    ·exact t2 y (List.mem_of_getElem? hj) as he
    ·have hlt:k*sz+j<arr.size:=by
      have hjs:j<sz:=by rw[←f1];exact (List.getElem?_eq_some_iff.1 hj).1
      rw[e5];exact Nat.lt_of_lt_of_le (idx_lt q4 hjs) (Nat.mul_le_mul_right _ e4)
     have:=f2 j y _ hj (Array.getElem?_eq_getElem hlt)
     rw[he] at this;cases this
   have hlay:Lay oa w sz (xs.set k (mkOf xs[k] (setCells xs[k].cells off v.cells))) (patch arr (k*sz+off) (a.eval x).cells.toList):=by
    intro i' y hy;by_cases hik:i'=k
    ·subst hik
     rw[List.getElem?_set_self q4] at hy;injection hy with hy;subst hy;rw[hmk];refine⟨by rw[hset];exact f1,fun j d c hd hcv=>?_⟩
     rw[hget] at hd;rw[patch_get _ _ _ hfit] at hcv;by_cases hin:off≤j∧j<off+v.cells.length
     ·rw[if_pos hin] at hd
      rw[if_pos (by omega)] at hcv
      have he:i'*sz+j-(i'*sz+off)=j-off:=by omega
      rw[he] at hcv;exact t3 _ d c hd (by simpa using hcv)
     ·rw[if_neg hin] at hd
      rw[if_neg (by omega)] at hcv
      exact f2 j d c hd hcv
    ·rw[List.getElem?_set_ne (Ne.symm hik)] at hy
     obtain⟨g1,g2⟩:=e6 i' y hy;refine⟨g1,fun j d c hd hcv=>?_⟩
     have hjs:j<sz:=by rw[←g1];exact (List.getElem?_eq_some_iff.1 hd).1
     rw[patch_get _ _ _ hfit,if_neg (by rw[hcl];exact sep hik hjs hoff)] at hcv
     exact g2 j d c hd hcv
   cases q with
   | slot t =>
    have n2:=na.sr.poke q1 q2 (by simp) q3 e3 (patch_size _ _ _ hfit) (by rintro rfl;simp at q4) hlay
    have n3:=na.trans n2;have hcg:∀ u,get (setPlaces (pokeS σ (some (t,.ex sz n (xs.set k (mkOf xs[k] (setCells xs[k].cells off v.cells)))))) ps).env u=get (pokeS (setPlaces σ ps) (some (t,.ex sz n (xs.set k (mkOf xs[k] (setCells xs[k].cells off v.cells)))))).env u:=fun u=>by
     rcases hps1 with rfl | ⟨⟨y1,y2⟩,rfl⟩
     ·rfl
     ·obtain⟨g1,g2⟩:=hpq _ (List.mem_singleton.2 rfl)
      cases y1 with
      | cell _ _=>simp[isSlot] at g1
      | slot s =>
       have hne:s≠t:=fun he=>g2 (by rw[he])
       simp only[setPlaces,setPlace,pokeS];by_cases hus:s=u
       ·subst hus
        rw[get_cons_same,get_cons_ne _ _ (Ne.symm hne),get_cons_same]
       ·rw[get_cons_ne _ _ hus,get_kill]
        by_cases hut:t=u
        ·subst hut;rw[get_cons_same,get_cons_same];rfl
        ·rw[get_cons_ne _ _ hut,get_cons_ne _ _ hut,get_cons_ne _ _ hus,get_kill]
    have hhp:(setPlaces (pokeS σ (some (t,.ex sz n (xs.set k (mkOf xs[k] (setCells xs[k].cells off v.cells)))))) ps).heap=(pokeS (setPlaces σ ps) (some (t,.ex sz n (xs.set k (mkOf xs[k] (setCells xs[k].cells off v.cells)))))).heap:=by
     rcases hps1 with rfl | ⟨⟨y1,y2⟩,rfl⟩
     ·rfl
     ·obtain⟨g1,g2⟩:=hpq _ (List.mem_singleton.2 rfl)
      cases y1 with
      | cell _ _=>simp[isSlot] at g1
      | slot s=>rfl
    have n4:Nxt own β w σ a oa β (w.setRow b (patch arr (k*sz+off) (a.eval x).cells.toList)) (setPlaces (pokeS σ (some (t,.ex sz n (xs.set k (mkOf xs[k] (setCells xs[k].cells off v.cells)))))) ps) a :=
     ⟨n3.sr.congr hcg hhp,n3.stay,by rw[hhp];exact n3.bx,rfl,rfl⟩
    have:=OpOk.skip hrun n4 h.dst
    simpa only [apply,alsoPl,rewr,List.append_nil,setMem] using this
   | cell qi qo =>
   have hnx:=na.sr.rewrite q1 q2 (by simp) q3 e3 (patch_size _ _ _ hfit) (by rintro rfl;simp at q4) hlay
   have:=OpOk.skip hrun (na.trans hnx) h.dst
   simpa only [apply,alsoPl,rewr,pokeS,List.append_nil] using this
  ·cases hs
end
end Go.Vm
end
section
namespace Go.Vm
open Go
section
variable {P:Program} {o:Oper} {own:Own} {β:Nat→Nat} {w:World} {σ:St} {a:Act}
theorem run_indexAt_slice {t e:TypeId} {ei:TI} (hu:P.underlying t=some (.slice e)) (re:Row P e ei) {b oo len cap:Nat} {kk:IntKind} {k:Int} (h0:0≤k) (h1:k<len) (w:World) :
  (Instr.indexAt t (.slice (some ⟨b,oo,none⟩) len cap) (.int kk k)).run P w=.ok (.pointer (some ⟨b,oo+k.toNat*ei.size,none⟩)) w:=by
 simp[Instr.indexAt,asIntOf,run_underlying hu,h0,h1,run_sizeOf_row re,Addr.add_eq]
theorem run_indexAt_array {t e:TypeId} {n:Nat} {ei:TI} (hu:P.underlying t=some (.array n e)) (re:Row P e ei) {b oo:Nat} {kk:IntKind} {k:Int} (h0:0≤k) (h1:k<n) (w:World) :
  (Instr.indexAt t (.pointer (some ⟨b,oo,none⟩)) (.int kk k)).run P w=.ok (.pointer (some ⟨b,oo+k.toNat*ei.size,none⟩)) w:=by
 simp[Instr.indexAt,asIntOf,run_underlying hu,h0,h1,run_sizeOf_row re,Addr.add_eq,Instr.sureAddr]
theorem ok_indexAddr {T:Types} {call:CallF} {cx:Cx} {fr:Nat} (h:Hyp P T o own β w σ a) {t:TypeId} {x k:Operand} (ho:o.op=.indexAddr t x k) {e:Eff}
  (he:eff T call cx fr o σ=some e) (hnd:∀ d,o.dst=some d→e.val.refsTo (.slot d)=false):OpOk P o own β w σ a (apply σ o.dst e):=by
 have hsr:=h.sr;simp only[eff,ho] at he;cases hT:T t<;>simp only[hT] at he
 ·cases he
 rename_i i;obtain⟨r⟩:=Row.of h.T hT;cases hk:opd σ.env k<;>simp only[hk] at he<;>try (cases he;done)
 rename_i kk kn;have hke:=opd_int hsr hk;rw[Option.map_eq_some_iff] at he;obtain⟨v,hv,rfl⟩:=he;have hex:∀ c,(Instr.indexAt t (a.eval x) (.int kk kn)).run P w=.ok c w→(execOp a.eval o).run P w=.ok (.value c) w:=fun c hc=>by simp[execOp,ho,hke,hc]
 unfold indexAt at hv;cases hki:i.kind<;>simp only[hki] at hv<;>try (cases hv;done)
 ·rename_i el
  have hu:=kind_slice r hki;cases hel:T el<;>simp only[hel] at hv
  ·cases hv
  rename_i ei;obtain⟨re⟩:=Row.of h.T hel;have viaEx:∀ p sz n xs,look σ p=.ex sz n xs→conc β a.tmps w p=some (a.eval x)→0≤kn→kn<xs.length→sz=ei.size →
    (∀ d,o.dst=some d→(V.xptr p kn.toNat 0).refsTo (.slot d)=false)→OpOk P o own β w σ a (put σ o.dst (.xptr p kn.toNat 0)):=by
   intro p sz n xs q1 q2 h0 h1 hsz hnd';obtain⟨c0,g1,g2⟩:=hsr.at_ q1;rw[q2] at g1;injection g1 with g1;rcases g2 with ⟨he,_,_⟩ | ⟨he,_,_⟩ | ⟨hn,b,cap,T',arr,e1,e2,e3,e4,e5,e6⟩
   ·subst he;simp at h1;omega
   ·subst he;simp at h1;omega
   rw[e1] at g1;have hrun:=hex _ (by rw[g1];exact run_indexAt_slice (kk:=kk) hu re h0 h1 w)
   refine OpOk.way hrun (Nxt.refl hsr) h.dst rfl hnd' (fun d=>⟨sz,n,xs,b,xs.length,cap,q1,by rw[q2,g1],e2,by omega,by rw[hsz];simp⟩)
  cases hx:opd σ.env x<;>simp only[hx] at hv<;>try (cases hv;done)
  ·
   rename_i n xs;split at hv
   ·rename_i hb
    injection hv with hv;subst hv;have hf:=opd_sl hsr hx;have hlt:kn.toNat<xs.length:=by omega
    generalize hc:a.eval x=c at hf;cases hf with
    | nil=>simp at hlt
    | none aa cap=>simp at hlt
    | sl b oo cap sz _ cv him hcap hcells hfr =>
     have hxk:xs[kn.toNat]?=some xs[kn.toNat]:=List.getElem?_eq_getElem hlt;have hgd:xs.getD kn.toNat .undef=xs[kn.toNat]:=by rw[List.getD_eq_getElem?_getD,hxk];rfl
     obtain⟨c1,c2⟩:=hcells _ _ hxk;rw[hgd] at hb ⊢;have hsz:sz=ei.size:=by omega
     have hrun:=hex _ (by rw[hc];exact run_indexAt_slice (kk:=kk) hu re hb.1 hb.2.1 w)
     refine OpOk.value hrun (Nxt.refl hsr) h.dst rfl ⟨b,oo+kn.toNat*ei.size,by simp,him,fun j v hj=>?_⟩
     have hjs:j<sz:=by rw[←c1];exact (List.getElem?_eq_some_iff.1 hj).1
     refine⟨_,?_,hfr _ _ j v hxk hj⟩;rw[←hsz];exact c2 j hjs
   ·cases hv
  ·
   rename_i sz n xs;cases htm:tmpOf x<;>simp only[htm] at hv
   ·cases hv
   rename_i t';split at hv
   ·rename_i hb
    injection hv with hv;subst hv;obtain rfl:=tmpOf_some htm
    exact viaEx (.slot t') sz n xs hx rfl hb.1 hb.2.1 hb.2.2 hnd
   ·cases hv
  ·rename_i p
   obtain⟨sz,n,xs,q1,q2⟩:=opd_lent hsr hx;simp only[q1] at hv;split at hv
   ·rename_i hb
    injection hv with hv;subst hv;exact viaEx p sz n xs q1 q2 hb.1 hb.2.1 hb.2.2 hnd
   ·cases hv
  ·rename_i m id
   cases m<;>simp only at hv<;>try (cases hv;done)
   split at hv
   ·rename_i hb
    injection hv with hv;subst hv;obtain⟨⟨cap,_,q1⟩,q2⟩:=opd_ref hsr hx;have hrun:=hex _ (by rw[q1];exact run_indexAt_slice (kk:=kk) hu re hb.1 hb.2 w)
    exact OpOk.value hrun (Nxt.refl hsr) h.dst rfl ⟨by simp,q2⟩
   ·cases hv
 ·rename_i n el
  have hu:=kind_array r hki;cases hel:T el<;>simp only[hel] at hv
  ·cases hv
  rename_i ei;obtain⟨re⟩:=Row.of h.T hel;split at hv
  ·rename_i hb
   cases hx:opd σ.env x<;>simp only[hx] at hv<;>try (cases hv;done)
   ·injection hv with hv;subst hv
    obtain⟨q1,q2⟩:=opd_ptr hsr hx;have hrun:=hex _ (by rw[q1];exact run_indexAt_array (kk:=kk) hu re hb.1 hb.2 w)
    exact OpOk.value hrun (Nxt.refl hsr) h.dst rfl ⟨rfl,q2⟩
   ·injection hv with hv;subst hv
    obtain⟨b,oo,q1,q2,q3⟩:=opd_rptr hsr hx;have hrun:=hex _ (by rw[q1];exact run_indexAt_array (kk:=kk) hu re hb.1 hb.2 w)
    exact OpOk.value hrun (Nxt.refl hsr) h.dst rfl ⟨b,oo,by rw[Nat.add_assoc],q2,q3⟩
   ·injection hv with hv;subst hv
    obtain⟨sz,n',xs,b,len,cap,q1,q2,q3,q4,q5⟩:=opd_xptr hsr hx;have hrun:=hex _ (by rw[q5];exact run_indexAt_array (kk:=kk) hu re hb.1 hb.2 w)
    exact OpOk.way hrun (Nxt.refl hsr) h.dst rfl hnd (fun d=>⟨sz,n',xs,b,len,cap,q1,q2,q3,q4,by rw[Nat.add_assoc]⟩)
  ·cases hv
theorem SR.restage {own:Own} {β:Nat→Nat} {w:World} {σ:St} {tmps:Array Value} (h:SR own β w σ tmps) {ρ:Loc→Loc} (hr:Reloc ρ) (hs:∀ u i j,ρ (.slot u i j)=.slot u i j)
  (hc:∀ id j,ρ (.cell id j)=.cell id j):SR (fun b=>ρ (own b)) β w σ tmps:=by
 refine⟨fun u=>?_,h.heap.reloc hr hc⟩
 refine (h.env u).keep (fun b hb=>⟨by simp only[hb,hr.im],rfl⟩) (fun id hb=>⟨by simp only[hb,hr.blk],rfl⟩) (fun i j b hb=>⟨by simp only[hb,hs],rfl⟩)
  (fun p hp=>⟨fun sz n xs hl=>⟨n,xs,hl,rfl⟩,fun c hc=>hc,fun b hb=>?_⟩)
 cases p<;>simp only[locOf] at hb ⊢<;>simp only[hb,hs,hc]
theorem Nxt.restage {o1:Own} {β1:Nat→Nat} {w1:World} {σ1:St} (h:Nxt own β w σ a o1 β1 w1 σ1 a) {ρ:Loc→Loc} (hr:Reloc ρ) (hs:∀ u i j,ρ (.slot u i j)=.slot u i j)
  (hc:∀ id j,ρ (.cell id j)=.cell id j):Nxt own β w σ a (fun b=>ρ (o1 b)) β1 w1 σ1 a :=
 ⟨h.sr.restage hr hs hc,h.stay.trans (Stay.reloc hr),h.bx,rfl,rfl⟩
def toCell (fr:Nat) (l:Loc):Loc:=match l with | .res 0 j=>.cell fr j | l=>l
theorem toCell_reloc (fr:Nat):Reloc (toCell fr):=by
 refine⟨rfl,rfl,fun _=>rfl,fun l i hl=>?_,fun l hl=>?_⟩
 ·cases l<;>simp only[toCell] at hl<;>first | rfl | exact hl | (split at hl<;>first | cases hl | exact hl)
 ·cases l<;>simp only[toCell] at hl<;>first | rfl | exact hl | (split at hl<;>first | cases hl | exact hl)
theorem OpOk.laid {T:Types} {call:CallF} {cx:Cx} {fr:Nat} (h:Hyp P T o own β w σ a) (hfr:fr<σ.heap.length) (hnone:bcells σ.heap fr=none)
  {o1:Own} {σ1:St} (h1:Nxt own β w σ a o1 β w σ1 a) (hh:σ1.heap=σ.heap) {cs:List V} {arr:Array Value} {t:TypeId}
  (hrun:(execOp a.eval o).run P w=.ok (.value (.pointer (some ⟨w.heap.size,0,none⟩))) (w.alloc (.cells arr t))) (hs:arr.size=cs.length) (hok:cs.all (okBelow (fr+1))=true)
  (hc:∀ (j:Nat) (v:V) (c:Value),cs[j]?=some v→arr[j]?=some c→CR o1 β w (.cell fr j) v c) :
  OpOk P o own β w σ a (put (setMem σ1 (.init fr cs)) o.dst (.ptr fr 0)):=by
 obtain⟨o2,β2,s1,s2,s3,s4,s5⟩:=h1.sr.init (T:=t) (by rw[hh];exact hfr) (by rw[hh];exact hnone) hs (fun v hv=>List.all_eq_true.1 hok v hv) hc
 refine OpOk.value hrun ⟨s1,h1.stay.trans s2,?_,rfl,rfl⟩ h.dst rfl ⟨by rw[s4],s5⟩
 exact h1.bx.trans s3
theorem ok_alloc {T:Types} {call:CallF} {cx:Cx} {fr:Nat} (h:Hyp P T o own β w σ a) {t:TypeId} (ho:o.op=.alloc t) {e:Eff}
  (he:eff T call cx fr o σ=some e):OpOk P o own β w σ a (apply σ o.dst e):=by
 simp only[eff,ho] at he;cases hT:T t<;>simp only[hT] at he
 ·cases he
 rename_i i;obtain⟨r⟩:=Row.of h.T hT;split at he
 ·rename_i hok
  obtain⟨hfr,hnone,hok⟩:=hok;injection he with he;subst he;have hrun:(execOp a.eval o).run P w=.ok (.value (.pointer (some ⟨w.heap.size,0,none⟩))) (w.alloc (.cells r.z.cells t)):=by
   simp[execOp,ho,Instr.alloc,zeroValue,typeInfo,r.hinfo,r.hz,newVar,newRow]
  refine OpOk.laid (call:=call) (cx:=cx) h hfr hnone (Nxt.refl h.sr) rfl hrun (by rw[r.hzs,r.hzl]) hok (fun j v c hv hc=>?_)
  have hf:=r.hzc own w j v c hv hc;exact CR_of_FR hf
 ·cases he
theorem ok_box {T:Types} {call:CallF} {cx:Cx} {fr:Nat} (h:Hyp P T o own β w σ a) {t:TypeId} {x:Operand} (ho:o.op=.box t x) {e:Eff}
  (he:eff T call cx fr o σ=some e):OpOk P o own β w σ a (apply σ o.dst e):=by
 simp only[eff,ho] at he;cases hT:T t<;>simp only[hT] at he
 ·cases he
 rename_i i;cases ht:take σ x<;>simp only[ht] at he
 ·cases he
 rename_i vp;obtain⟨v,ps⟩:=vp;simp only at he;split at he
 ·rename_i hok
  obtain⟨hfr,hnone,hok⟩:=hok;simp only[Bool.and_eq_true,beq_iff_eq] at hok;injection he with he;subst he;obtain⟨o1,h1,⟨h2,h3⟩,_⟩:=take_ok h.sr ht;have hrun:(execOp a.eval o).run P w=.ok (.value (.pointer (some ⟨w.heap.size,0,none⟩))) (w.alloc (.cells (a.eval x).cells t)):=by
   simp[execOp,ho,Instr.box,newVar,newRow]
  have h1':=h1.restage (toCell_reloc fr) (fun _ _ _=>rfl) (fun _ _=>rfl)
  exact OpOk.laid (call:=call) (cx:=cx) h hfr hnone h1' (setPlaces_heap ps σ hok.2) hrun h2 hok.1.1 (fun j d u hd hu=>(h3 j d u hd hu).reloc (toCell_reloc fr))
 ·cases he
end
end Go.Vm
end
