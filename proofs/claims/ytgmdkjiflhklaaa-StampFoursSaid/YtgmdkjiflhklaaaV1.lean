/- V1: an evaluator for the kit's code whose values carry their content: values, types' rows, what an operation does. No statement of the seed stands here. -/
import Derived.Orders
import Derived.Below
import Derived.RowKit
import Derived.KernelRfl
namespace Go.Vm

/-- Where an array that one place alone holds is kept: a slot of the frame, or a cell of a block of V's memory. -/
inductive Place where
  | slot (t : Nat)
  | cell (id off : Nat)
  deriving DecidableEq

/-- V's values. 'sl': a slice that nobody writes any more; 'ex': one that its place alone holds; 'lent', 'xptr': ways to such a place. -/
inductive V where
  | undef
  | bool (b : Bool)
  | int (k : IntKind) (n : Int)
  | str (s : ByteArray)
  | nilp
  | nilf
  | ptr (id off : Nat)
  | rptr (cs : List V) (off : Nat)
  | xptr (p : Place) (i off : Nat)
  | sl (isNil : Bool) (xs : List V)
  | ex (sz : Nat) (isNil : Bool) (xs : List V)
  | lent (p : Place)
  | clo (fn : Fn) (first captured : List V)
  | agg (cs : List V)
  | tup (vs : List V)
  deriving Inhabited

def V.cells : V → List V
  | .agg cs => cs
  | v => [v]

/-- What may lie in a frozen slice: no way into memory that can still change. -/
inductive Dat : V → Prop where
  | undef : Dat .undef
  | bool (b : Bool) : Dat (.bool b)
  | int (k : IntKind) (n : Int) : Dat (.int k n)
  | str (s : ByteArray) : Dat (.str s)
  | nilp : Dat .nilp
  | nilf : Dat .nilf
  | sl (b : Bool) (xs : List V) : Dat (.sl b xs)
  | agg (cs : List V) (h : ∀ c ∈ cs, Dat c) : Dat (.agg cs)

/-- The same as a test: a slice is data as such (its elements were tested when it was made). -/
def cellDat : V → Bool
  | .undef | .bool _ | .int _ _ | .str _ | .nilp | .nilf | .sl _ _ => true
  | _ => false
def V.dat : V → Bool
  | .agg cs => cs.all cellDat
  | v => cellDat v

/-- A value of the program's text, as V sees it. -/
def cellOf : Value → V
  | .bool b => .bool b
  | .int k n => .int k n
  | .string s => .str s
  | .pointer none => .nilp
  | .nilFunc => .nilf
  | .slice none 0 0 => .sl true []
  | _ => .undef
def ofValue : Value → V
  | .agg cs => .agg (cs.toList.map cellOf)
  | v => cellOf v

/-- A block of V's memory: a variable's cells; or one that is not there (yet, or any more). -/
inductive B where
  | dead
  | cells (cs : List V)
  deriving Inhabited

abbrev Env := List (Nat × V)
abbrev Heap := List B

def get : Env → Nat → V
  | [], _ => .undef
  | (u, v) :: r, t => if u = t then v else get r t

structure St where
  env : Env
  heap : Heap

inductive TK where
  | bool | int (k : IntKind) | str | ptr | func
  | slice (elem : Nat)
  | array (n elem : Nat)
  | struct (fields : List (Nat × Nat))      -- offset, type
  | other
  deriving DecidableEq

/-- A type's row. 'leaves': the kinds of its cells, where '==' compares them one by one. -/
structure TI where
  kind : TK
  size : Nat
  bytes : Nat
  zero : V
  leaves : List TK := []

abbrev Types := Nat → Option TI

def kindOf (T : Types) (t : Nat) : Option TK := match T t with
  | some i => some i.kind
  | none => none

def TK.isAgg : TK → Bool
  | .array _ _ | .struct _ => true
  | _ => false

/-- Cells as a value of a type. -/
def asType (i : TI) (cs : List V) : Option V :=
  if cs.length = i.size then
    if i.kind.isAgg then some (.agg cs) else cs[0]?
  else none

def bcells (H : Heap) (id : Nat) : Option (List V) :=
  match H[id]? with
  | some (.cells cs) => some cs
  | _ => none

def look (σ : St) : Place → V
  | .slot t => get σ.env t
  | .cell id off => match bcells σ.heap id with
    | some cs => cs.getD off .undef
    | none => .undef

def V.isExAt (v : V) : Option (Nat × Bool × List V) :=
  match v with
  | .ex sz n xs => some (sz, n, xs)
  | _ => none

/-- Operands. -/
def opd (env : Env) : Operand → V
  | .tmp t => get env t
  | .const v => cellOf v
  | .global _ => .undef
  | .func f => .clo (.func f) [] []

/-- A slice's content, however it is held. -/
def content (σ : St) : V → Option (Bool × List V)
  | .sl n xs => some (n, xs)
  | .ex _ n xs => some (n, xs)
  | .lent p => match look σ p with
    | .ex _ n xs => some (n, xs)
    | _ => none
  | _ => none

/-- What an operation does: its value; places that it writes (a slot's new value); memory. -/
inductive HE where
  | keep
  | set (id off : Nat) (cs : List V)
  | init (id : Nat) (cs : List V)
  | all (H : Heap)
  | put (ks : List Nat) (H : Heap)      -- some blocks, as they are there
structure Eff where
  val : V
  places : List (Place × V) := []
  mem : HE := .keep

def V.refsTo (p : Place) : V → Bool
  | .lent q => q == p
  | .xptr q _ _ => q == p
  | _ => false
def kill (p : Place) (env : Env) : Env := env.map fun x => (x.1, if x.2.refsTo p then .undef else x.2)

def setCells (cs : List V) (off : Nat) : List V → List V
  | [] => cs
  | v :: rest => setCells (cs.set off v) (off + 1) rest

def setPlace (σ : St) (p : Place) (v : V) : St :=
  match p with
  | .slot t => { σ with env := (t, v) :: kill p σ.env }
  | .cell id off => { env := kill p σ.env, heap := match bcells σ.heap id with
      | some cs => σ.heap.set id (.cells (cs.set off v))
      | none => σ.heap }


def setPlaces (σ : St) : List (Place × V) → St
  | [] => σ
  | (p, v) :: rest => setPlaces (setPlace σ p v) rest

def tmpOf : Operand → Option Nat
  | .tmp t => some t
  | _ => none

/-- A value to be laid into a cell: an array that a temporary alone holds moves along; one that is lent is frozen where it lies. -/
def take (σ : St) (x : Operand) : Option (V × List (Place × V)) :=
  match opd σ.env x with
  | .ex sz n xs => match tmpOf x with
    | some t => some (.ex sz n xs, [(.slot t, .undef)])
    | none => none
  | .lent p => match look σ p with
    | .ex _ n xs => some (.sl n xs, [(p, .sl n xs)])
    | _ => none
  | .agg cs => if cs.all cellDat then some (.agg cs, []) else match tmpOf x with
    | some t => some (.agg cs, [(.slot t, .undef)])
    | none => none
  | .tup _ => none
  | .undef => none
  | .xptr _ _ _ => none
  | .rptr _ _ => none
  | v => some (v, [])

/-- The same for an element of a slice: data alone. -/
def takeDat (σ : St) (x : Operand) : Option (V × List (Place × V)) :=
  match opd σ.env x with
  | .ex _ n xs => match tmpOf x with
    | some t => some (.sl n xs, [(.slot t, .sl n xs)])
    | none => none
  | .lent p => match look σ p with
    | .ex _ n xs => some (.sl n xs, [(p, .sl n xs)])
    | _ => none
  | .undef => none
  | v => if v.dat then some (v, []) else none

/-- A value as it is handed to a call, and the array of ours that is looked at through it (as it would be if it were frozen). -/
def view (σ : St) (x : Operand) : Option (V × List (Place × V)) :=
  match opd σ.env x with
  | .ex _ n xs => match tmpOf x with
    | some t => some (.sl n xs, [(.slot t, .sl n xs)])
    | none => none
  | .lent p => match look σ p with
    | .ex _ n xs => some (.sl n xs, [(p, .sl n xs)])
    | _ => none
  | .xptr _ _ _ => none
  | .tup _ => none
  | .undef => none
  | .agg cs => if cs.all cellDat then some (.agg cs, []) else none
  | v => some (v, [])

def noPtr : V → Bool
  | .agg cs => cs.all cellDat
  | .clo _ first captured => first.all cellDat && captured.all cellDat
  | v => cellDat v

/-- No frozen slice in a value (it can't lead to what was looked at). -/
def flatC : V → Bool
  | .bool _ | .int _ _ | .str _ | .nilp | .nilf | .undef => true
  | _ => false
def V.flat (v : V) : Bool := v.cells.all flatC
def apartC : V → Bool
  | .bool _ | .int _ _ | .str _ | .nilp | .nilf | .undef => true
  | .ex _ _ xs => xs.all V.flat
  | .sl n xs => n && xs.isEmpty
  | _ => false
def apart : V → Bool
  | .tup vs => vs.all fun v => v.cells.all apartC
  | v => v.cells.all apartC

def shiftP (n : Nat) : V → V
  | .ptr id off => .ptr (id + n) off
  | v => v
def shiftC (n : Nat) : V → V
  | .ptr id off => .ptr (id + n) off
  | .clo f a b => .clo f (a.map (shiftP n)) (b.map (shiftP n))
  | v => v
def shift1 (n : Nat) : V → V
  | .agg cs => .agg (cs.map (shiftC n))
  | v => shiftC n v
def shift (n : Nat) : V → V
  | .tup vs => .tup (vs.map (shift1 n))
  | v => shift1 n v
def shiftB (n : Nat) : B → B
  | .dead => .dead
  | .cells cs => .cells (cs.map (shiftC n))

def isZero (n : Int) : Bool := n == 0

def vbin (op : BinOp) (T : TI) (constOne : Bool) (σ : St) (x y : V) : Option V :=
  match x, y with
  | .int k a, .int k' b =>
    match op with
    | .shl => if b < 0 then none else some (.int k (k.wrap (a * 2 ^ (min b.toNat k.bits))))
    | .shr => if b < 0 then none else some (.int k (a.fdiv (2 ^ (min b.toNat k.bits))))
    | _ =>
      if k = k' then
        match op with
        | .add => some (.int k (k.wrap (a + b)))
        | .sub => some (.int k (k.wrap (a - b)))
        | .mul => some (.int k (k.wrap (a * b)))
        | .quo => if b = 0 then none else some (.int k (k.wrap (a.tdiv b)))
        | .rem => if b = 0 then none else some (.int k (a.tmod b))
        | .and => some (.int k (k.wrap (BitVec.ofInt k.bits a &&& BitVec.ofInt k.bits b).toNat))
        | .or => some (.int k (k.wrap (BitVec.ofInt k.bits a ||| BitVec.ofInt k.bits b).toNat))
        | .xor => some (.int k (k.wrap (BitVec.ofInt k.bits a ^^^ BitVec.ofInt k.bits b).toNat))
        | .andNot => some (.int k (k.wrap (BitVec.ofInt k.bits a &&& ~~~ BitVec.ofInt k.bits b).toNat))
        | .eql => some (.bool (a == b))
        | .neq => some (.bool (a != b))
        | .lss => some (.bool (a < b))
        | .leq => some (.bool (a ≤ b))
        | .gtr => some (.bool (a > b))
        | .geq => some (.bool (a ≥ b))
        | _ => none
      else none
  | .bool a, .bool b => match T.kind, op with
    | .bool, .eql => some (.bool (a == b))
    | .bool, .neq => some (.bool (!(a == b)))
    | _, _ => none
  | .str a, .str b => match op with
    | .eql => some (.bool (a.toList == b.toList))
    | .neq => some (.bool (!(a.toList == b.toList)))
    | .lss => some (.bool (Op.bytesLess a.toList b.toList))
    | .leq => some (.bool (Op.bytesLess a.toList b.toList || a.toList == b.toList))
    | .gtr => some (.bool (!(Op.bytesLess a.toList b.toList || a.toList == b.toList)))
    | .geq => some (.bool (!Op.bytesLess a.toList b.toList))
    | .add => if ((a.size + b.size : Nat) : Int) ≤ IntKind.i64.max then some (.str (a ++ b)) else none
    | _ => none
  | .nilp, .nilp => match T.kind, op with
    | .ptr, .eql => some (.bool true)
    | .ptr, .neq => some (.bool false)
    | _, _ => none
  | .ptr _ _, .nilp | .nilp, .ptr _ _ => match T.kind, op with
    | .ptr, .eql => some (.bool false)
    | .ptr, .neq => some (.bool true)
    | _, _ => none
  | .agg _, _ => none
  | x, y => match T.kind, constOne, op with
    | .slice _, true, .eql => match content σ x, content σ y with
      | some (n, _), some (m, _) => some (.bool (n == m))
      | _, _ => none
    | .slice _, true, .neq => match content σ x, content σ y with
      | some (n, _), some (m, _) => some (.bool (!(n == m)))
      | _, _ => none
    | _, _, _ => none

def leafV : TK → V → Bool
  | .bool, .bool _ => true
  | .int k, .int k' _ => decide (k' = k)
  | .str, .str _ => true
  | _, _ => false
def fits : List TK → List V → Bool
  | [], [] => true
  | k :: ks, a :: as => leafV k a && fits ks as
  | _, _ => false
def cellEqv : V → V → Bool
  | .bool a, .bool b => a == b
  | .int _ a, .int _ b => a == b
  | .str a, .str b => a.toList == b.toList
  | _, _ => false
def cellsEqv : List V → List V → Bool
  | a :: as, b :: bs => cellEqv a b && cellsEqv as bs
  | _, _ => true

def vaggEq (op : BinOp) (T : TI) (x y : V) : Option V :=
  match x, y with
  | .agg as, .agg bs => match op with
    | .eql => if T.leaves ≠ [] ∧ fits T.leaves as = true ∧ fits T.leaves bs = true then some (.bool (cellsEqv as bs)) else none
    | .neq => if T.leaves ≠ [] ∧ fits T.leaves as = true ∧ fits T.leaves bs = true then some (.bool (!cellsEqv as bs)) else none
    | _ => none
  | _, _ => none

def vbinop (op : BinOp) (T : TI) (constOne : Bool) (σ : St) (x y : V) : Option V :=
  match T.kind.isAgg with
  | true => vaggEq op T x y
  | false => vbin op T constOne σ x y

def vun (op : UnOp) (x : V) : Option V :=
  match op, x with
  | .neg, .int k n => some (.int k (k.wrap (0 - n)))
  | .xor, .int k n => some (.int k (k.wrap (BitVec.ofInt k.bits (if k.signed then -1 else k.max) ^^^ BitVec.ofInt k.bits n).toNat))
  | .not, .bool b => some (.bool (!b))
  | _, _ => none

/-- What is said beside a function's text (each is a hint: any would be right): the slots whose arrays are kept to be written; which slots are looked at again behind a region, and at a loop's head. -/
structure Cx where
  mu : List Nat := []
  keep : Nat → Option (List Nat) := fun _ => none
  head : Nat → Option (List Nat) := fun _ => none
  free : Nat → List (Nat × Nat) := fun _ => []
  msz : Nat → Option Nat := fun _ => none

def isConst : Operand → Bool
  | .const _ => true
  | _ => false

/-- Room for an append or a make. -/
def maxRoom : Nat := 2 ^ 47
def rooms (n bytes : Nat) : Bool := n * bytes ≤ maxRoom

/-- A slice that can be appended to: what it holds, and the place that gives it up. -/
def base (size : Nat) (σ : St) (x : Operand) : Option (Bool × List V × List (Place × V)) :=
  match opd σ.env x with
  | .sl true [] => some (true, [], [])
  | .ex sz n xs => match tmpOf x with
    | some t => if sz = size then some (n, xs, [(.slot t, .undef)]) else none
    | none => none
  | .lent p => match look σ p with
    | .ex sz n xs => if sz = size then some (n, xs, [(p, .undef)]) else none
    | _ => none
  | _ => none

def notEx : V → Bool
  | .ex _ _ _ => false
  | _ => true

def loadAt (i : TI) (σ : St) (p : V) : Option V :=
  match p with
  | .ptr id off => match bcells σ.heap id with
    | some cs => match asType i ((cs.drop off).take i.size) with
      | some (.ex _ _ _) => some (.lent (.cell id off))
      | some (.agg ds) => if ds.all notEx then some (.agg ds) else none
      | v => v
    | none => none
  | .rptr cs off => asType i ((cs.drop off).take i.size)
  | .xptr p k off => match look σ p with
    | .ex _ _ xs => match xs[k]? with
      | some x => asType i ((x.cells.drop off).take i.size)
      | none => none
    | _ => none
  | _ => none

def mkOf (x : V) (cs : List V) : V :=
  match x with
  | .agg _ => .agg cs
  | x => cs.getD 0 x

def isSlot (x : Place × V) : Bool :=
  match x.1 with
  | .slot _ => true
  | _ => false

def storeAt (i : TI) (σ : St) (p : V) (x : Operand) : Option Eff :=
  match p with
  | .ptr id off => match take σ x, bcells σ.heap id with
    | some (v, ps), some cs => if v.cells.length = i.size ∧ off + i.size ≤ cs.length ∧ ps.all isSlot = true then some { val := .undef, places := ps, mem := .set id off v.cells } else none
    | _, _ => none
  | .xptr q k off => match takeDat σ x, look σ q with
    | some (v, []), .ex sz n xs => match xs[k]? with
      | some e => if v.cells.length = i.size ∧ off + i.size ≤ e.cells.length then
          some { val := .undef, places := [(q, .ex sz n (xs.set k (mkOf e (setCells e.cells off v.cells))))] } else none
      | none => none
    | _, _ => none
  | _ => none

def indexAt (T : Types) (i : TI) (σ : St) (x : Operand) (k : Int) : Option V :=
  match i.kind with
  | .slice e => match T e with
    | some ei => match opd σ.env x with
      | .sl _ xs => if 0 ≤ k ∧ k < xs.length ∧ (xs.getD k.toNat .undef).cells.length = ei.size then some (.rptr (xs.getD k.toNat .undef).cells 0) else none
      | .lent p => match look σ p with
        | .ex sz _ xs => if 0 ≤ k ∧ k < xs.length ∧ sz = ei.size then some (.xptr p k.toNat 0) else none
        | _ => none
      | .ex sz _ xs => match tmpOf x with
        | some t => if 0 ≤ k ∧ k < xs.length ∧ sz = ei.size then some (.xptr (.slot t) k.toNat 0) else none
        | none => none
      | _ => none
    | none => none
  | .array n e => match T e with
    | some ei => if 0 ≤ k ∧ k < n then match opd σ.env x with
        | .ptr id off => some (.ptr id (off + k.toNat * ei.size))
        | .rptr cs off => some (.rptr cs (off + k.toNat * ei.size))
        | .xptr q j off => some (.xptr q j (off + k.toNat * ei.size))
        | _ => none
      else none
    | none => none
  | _ => none

def fill (cs : List V) (place : Nat → Option (Nat × Nat)) : List (Nat × V) → Option (List V)
  | [] => some cs
  | (i, v) :: rest => match place i with
    | some (off, size) => if v.cells.length = size ∧ off + size ≤ cs.length then fill (setCells cs off v.cells) place rest else none
    | none => none

def takes (f : St → Operand → Option (V × List (Place × V))) : St → List (Nat × Operand) → Option (List (Nat × V) × List (Place × V))
  | _, [] => some ([], [])
  | σ, (i, x) :: rest => match f σ x with
    | some (v, ps) => match takes f (setPlaces σ ps) rest with
      | some (vs, qs) => some ((i, v) :: vs, ps ++ qs)
      | none => none
    | none => none

/-- The elements of a slice that is written out. -/
def elems (z : V) (n : Nat) (vs : List (Nat × V)) : List V := vs.foldl (fun l x => l.set x.1 x.2) (List.replicate n z)

def views (σ : St) : List Operand → Option (List V × List (Place × V))
  | [] => some ([], [])
  | x :: rest => match view σ x, views σ rest with
    | some (v, l), some (vs, m) => some (v :: vs, l ++ m)
    | _, _ => none

/-- The blocks that a value, a block, some values lead to. -/
def ptrId : V → List Nat
  | .ptr id _ => [id]
  | .clo _ a b => (a ++ b).flatMap fun
    | .ptr id _ => [id]
    | _ => []
  | _ => []
def cellIds (H : Heap) (id : Nat) : List Nat := match bcells H id with
  | some cs => cs.flatMap ptrId
  | none => []
def more (H : Heap) (l : List Nat) : List Nat := (l.flatMap (cellIds H)).foldl (fun acc i => if acc.contains i then acc else acc ++ [i]) l
def reach (H : Heap) : Nat → List Nat → List Nat
  | 0, l => l
  | n + 1, l => reach H n (more H l)
def argIds (vs : List V) : List Nat := vs.flatMap fun v => v.cells.flatMap ptrId
def closedK (ks : List Nat) (H : Heap) : Bool := ks.all fun id => (cellIds H id).all ks.contains
def maskH (ks : List Nat) (H : Heap) : Heap := H.zipIdx.map fun x => if ks.contains x.2 then x.1 else .dead
def putH (ks : List Nat) (H H' : Heap) : Heap := H.zipIdx.map fun x => if ks.contains x.2 then H'.getD x.2 .dead else x.1
def isDead : B → Bool
  | .dead => true
  | _ => false
def deadOut (ks : List Nat) (n : Nat) (H : Heap) : Bool := (List.range n).all fun i => ks.contains i || isDead (H.getD i .dead)

abbrev CallF := FuncId → List V → Heap → Option (V × Heap)

/-- A call. What was looked at is frozen if the result may lead to it. -/
def callAt (call : CallF) (σ : St) (f : V) (args : List V) (ps : List (Place × V)) : Option Eff :=
  match f with
  | .clo (.func f) first captured =>
    let vs := first ++ args ++ captured
    if vs.all noPtr then
      match call f vs [] with
      | some (r, []) => some { val := r, places := if apart r then [] else ps }
      | some (r, H1) =>
        let σ1 := setPlaces σ ps
        some { val := shift σ1.heap.length r, places := ps, mem := .all (σ1.heap ++ H1.map (shiftB σ1.heap.length)) }
      | none => none
    else
      let H := (setPlaces σ ps).heap
      let ks := reach H H.length (argIds vs)
      if closedK ks H && (argIds vs).all ks.contains then
        match call f vs (maskH ks H) with
        | some (r, H') => if deadOut ks H.length H' then
            if H'.length = H.length then some { val := r, places := ps, mem := .put ks H' } else some { val := r, places := ps, mem := .all (putH ks H H' ++ H'.drop H.length) }
          else none
        | none => none
      else none
  | _ => none

def lenAt (T : Types) (σ : St) (c : Call) : Option Eff :=
  match c.args.toList, c.argTypes.toList with
  | [x], [t] => match kindOf T t with
    | some .str => match opd σ.env x with
      | .str s => some { val := .int .i64 s.size }
      | _ => none
    | some (.array n _) => some { val := .int .i64 n }
    | some (.slice _) => match content σ (opd σ.env x) with
      | some (_, xs) => some { val := .int .i64 xs.length }
      | none => none
    | _ => none
  | _, _ => none

def appendAt (T : Types) (σ : St) (c : Call) : Option Eff :=
  match c.args.toList, c.argTypes.toList with
  | [s, x], [t, tx] => match kindOf T t, kindOf T tx, content σ (opd σ.env x) with
    | some (.slice e), some (.slice _), some (_, ys) => match T e with
      | some ei => match base ei.size σ s with
        | some (n, xs, ps) => if rooms (xs.length + ys.length) ei.bytes = true ∧ 0 < ei.size ∧ xs.length + ys.length < 2 ^ 62 ∧ (ys.all fun y => y.cells.length == ei.size) = true
          then some { val := .ex ei.size (n && ys.isEmpty) (xs ++ ys), places := ps } else none
        | none => none
      | none => none
    | _, _, _ => none
  | _, _ => none

def mmAt (big : Bool) (σ : St) (c : Call) : Option Eff :=
  match c.args.toList with
  | [x, y] => match opd σ.env x, opd σ.env y with
    | .int k a, .int _ b => some { val := .int k (if (if big then b > a else b < a) then b else a) }
    | _, _ => none
  | _ => none

def builtinAt (T : Types) (σ : St) (b : Builtin) (c : Call) : Option Eff :=
  match b with
  | .len => lenAt T σ c
  | .append => appendAt T σ c
  | .max => mmAt true σ c
  | .min => mmAt false σ c
  | _ => none

/-- A way into V's memory from a cell, below a number of blocks. -/
def okBelow (n : Nat) : V → Bool
  | .ptr id _ => id < n
  | .clo _ a b => (a ++ b).all fun | .ptr id _ => id < n | _ => true
  | .lent (.cell id _) => id < n
  | .xptr (.cell id _) _ _ => id < n
  | _ => true
def okBelowV (n : Nat) (v : V) : Bool :=
  match v with
  | .tup vs => vs.all fun v => v.cells.all (okBelow n)
  | v => v.cells.all (okBelow n)

/-- What a closure may hold. -/
def capOk : V → Bool
  | .ptr _ _ | .bool _ | .int _ _ | .str _ | .nilp | .nilf | .sl _ _ => true
  | _ => false

def isTmp : Operand → Bool
  | .tmp _ => true
  | _ => false

/-- 'assign' into a variable's slot. -/
def assignAt (cx : Cx) (σ : St) (d : Nat) (x : Operand) : Option Eff :=
  match opd σ.env x with
  | .ex sz n xs => match tmpOf x with
    | some t => if cx.mu.contains d then some { val := .ex sz n xs, places := [(.slot t, .undef)] } else some { val := .sl n xs, places := [(.slot t, .sl n xs)] }
    | none => none
  | .lent p => match look σ p with
    | .ex sz n xs => if cx.mu.contains d then some { val := .ex sz n xs, places := [(p, .undef)] } else some { val := .sl n xs, places := [(p, .sl n xs)] }
    | _ => none
  | .agg cs => if cs.all cellDat then some { val := .agg cs } else match tmpOf x with
    | some t => some { val := .agg cs, places := [(.slot t, .undef)] }
    | none => none
  | .tup _ => none
  | .xptr _ _ _ => none
  | .sl true [] => match cx.msz d with
    | some sz => some { val := .ex sz true [] }
    | none => some { val := .sl true [] }
  | v => some { val := v }

def moveAt (σ : St) (x : Operand) : Option Eff :=
  match opd σ.env x with
  | .ex _ _ _ => match tmpOf x with
    | some t => some { val := .lent (.slot t) }
    | none => none
  | .agg cs => if cs.all cellDat then some { val := .agg cs } else none
  | .tup vs => match tmpOf x with
    | some t => some { val := .tup vs, places := [(.slot t, .undef)] }
    | none => none
  | .xptr _ _ _ => none
  | v => some { val := v }

def numOf (σ : St) (o : Option Operand) (d : Int) : Option Int := match o with
  | none => some d
  | some x => match opd σ.env x with
    | .int _ n => some n
    | _ => none

def sliceAt (T : Types) (σ : St) (t : Nat) (x : Operand) (lo hi mx : Option Operand) : Option Eff :=
  match kindOf T t with
  | some (.slice e) => match opd σ.env x with
    | .sl n xs => match T e, numOf σ lo 0, numOf σ hi xs.length with
      | some ei, some l, some h =>
        if 0 ≤ l ∧ l ≤ h ∧ h ≤ xs.length ∧ xs.all (fun x => x.cells.length == ei.size) = true then
          match mx with
          | none => some { val := .sl n ((xs.drop l.toNat).take (h.toNat - l.toNat)) }
          | some m => if hi.isSome ∧ numOf σ (some m) 0 = some l ∧ h = l then some { val := .ex ei.size n [] } else none
        else none
      | _, _, _ => none
    | _ => none
  | _ => none

def eff (T : Types) (call : CallF) (cx : Cx) (fresh : Nat) (o : Oper) (σ : St) : Option Eff :=
  match o.op with
  | .move x => moveAt σ x
  | .assign x => match o.dst with
    | some d => assignAt cx σ d x
    | none => none
  | .pick c a b => match opd σ.env c with
    | .bool t => match (if t then opd σ.env a else opd σ.env b) with
      | .bool r => some { val := .bool r }
      | .int k n => some { val := .int k n }
      | _ => none
    | _ => none
  | .alloc t => match T t with
    | some i => if fresh < σ.heap.length ∧ bcells σ.heap fresh = none ∧ i.zero.cells.all (okBelow (fresh + 1)) = true then some { val := .ptr fresh 0, mem := .init fresh i.zero.cells } else none
    | none => none
  | .box t x => match T t, take σ x with
    | some i, some (v, ps) => if fresh < σ.heap.length ∧ bcells σ.heap fresh = none ∧ (v.cells.all (okBelow (fresh + 1)) && v.cells.length == i.size && v.cells.all notEx && ps.all isSlot) = true then some { val := .ptr fresh 0, places := ps, mem := .init fresh v.cells } else none
    | _, _ => none
  | .build t parts => match T t, takes take σ parts.toList with
    | some i, some (vs, ps) =>
      match i.kind with
      | .struct fs => if !(fs.all fun g => (T g.2).isSome) then none else match fill i.zero.cells (fun j => match fs[j]? with
          | some (off, ft) => (T ft).map fun fi => (off, fi.size)
          | none => none) vs with
        | some cs => some { val := .agg cs, places := ps }
        | none => none
      | .array _ e => match T e with
        | some ei => match fill i.zero.cells (fun j => some (j * ei.size, ei.size)) vs with
          | some cs => some { val := .agg cs, places := ps }
          | none => none
        | none => none
      | _ => none
    | _, _ => none
  | .buildSlice t len parts => match kindOf T t, takes takeDat σ parts.toList with
    | some (.slice e), some (vs, ps) => match T e with
      | some ei => if len * ei.size ≤ 2 ^ 24 && (0 < ei.size) && (vs.all fun (i, v) => i < len && v.cells.length == ei.size) && ei.zero.dat && ei.zero.cells.length == ei.size
        then some { val := .ex ei.size false (elems ei.zero len vs), places := ps } else none
      | none => none
    | _, _ => none
  | .load t p => match T t with
    | some i => (loadAt i σ (opd σ.env p)).map fun v => { val := v }
    | none => none
  | .store t p x => match T t with
    | some i => match storeAt i σ (opd σ.env p) x with
      | some e => match e.mem with
        | .set id _ cs => if cs.all (okBelow (id + 1)) then some e else none
        | _ => some e
      | none => none
    | none => none
  | .nilCheck x => match opd σ.env x with
    | .ptr id off => some { val := .ptr id off }
    | .rptr cs off => some { val := .rptr cs off }
    | _ => none
  | .binOp op t x y _ => match T t with
    | some i => (vbinop op i (isConst x || isConst y) σ (opd σ.env x) (opd σ.env y)).map fun v => { val := v }
    | none => none
  | .unOp op _ x => (vun op (opd σ.env x)).map fun v => { val := v }
  | .convert src dst x => match kindOf T src, kindOf T dst, opd σ.env x with
    | some (.int _), some (.int k), .int _ n => some { val := .int k (k.wrap n) }
    | _, _, _ => none
  | .makeFunc fn first captured =>
    let a := first.toList.map (opd σ.env)
    let b := captured.toList.map (opd σ.env)
    if (a ++ b).all capOk then some { val := .clo fn a b } else none
  | .slice t x lo hi mx => sliceAt T σ t x lo hi mx
  | .fieldAddr t p f => match kindOf T t, opd σ.env p with
    | some (.struct fs), v => match fs[f]? with
      | some (off, ft) => match T ft with
        | some fi => if 0 < fi.size then match v with
          | .ptr id o => some { val := .ptr id (o + off) }
          | .rptr cs o => some { val := .rptr cs (o + off) }
          | .xptr q k o => some { val := .xptr q k (o + off) }
          | _ => none
          else none
        | none => none
      | none => none
    | _, _ => none
  | .field t x f => match kindOf T t, opd σ.env x with
    | some (.struct fs), .agg cs => match fs[f]? with
      | some (off, ft) => match T ft with
        | some fi => if cs.all cellDat = true ∧ 0 < fi.size then (asType fi ((cs.drop off).take fi.size)).map fun v => { val := v } else none
        | none => none
      | none => none
    | _, _ => none
  | .indexAddr t x k => match T t, opd σ.env k with
    | some i, .int _ k => (indexAt T i σ x k).map fun v => { val := v }
    | _, _ => none
  | .index t x k => match T t, opd σ.env x, opd σ.env k with
    | some i, .agg cs, .int _ k => match i.kind with
      | .array n e => match T e with
        | some ei => if 0 ≤ k ∧ k < n ∧ cs.all cellDat = true ∧ 0 < ei.size then (asType ei ((cs.drop (k.toNat * ei.size)).take ei.size)).map fun v => { val := v } else none
        | none => none
      | _ => none
    | some i, .str s, .int _ k => match i.kind with
      | .str => match (if 0 ≤ k then s[k.toNat]? else none) with
        | some b => some { val := .int .u8 b.toNat }
        | none => none
      | _ => none
    | _, _, _ => none
  | .extract x j => match opd σ.env x, tmpOf x with
    | .tup vs, some t => match vs[j]? with
      | some v => if v.dat then some { val := v } else some { val := v, places := [(.slot t, .tup (vs.set j .undef))] }
      | none => none
    | _, _ => none
  | .call c => match c.callee with
    | .builtin b => builtinAt T σ b c
    | .value f => match views σ c.args.toList with
      | some (vs, ps) => callAt call σ (opd σ.env f) vs ps
      | none => none
    | _ => none
  | .makeSlice t l c => match kindOf T t, opd σ.env l, opd σ.env c with
    | some (.slice e), .int _ l, .int _ c => match T e with
      | some ei => if 0 ≤ l ∧ l ≤ c ∧ rooms c.toNat ei.bytes = true ∧ c < 2 ^ 62 ∧ 0 < ei.size ∧ ei.zero.dat = true ∧ ei.zero.cells.length = ei.size then some { val := .ex ei.size false (List.replicate l.toNat ei.zero) } else none
      | none => none
    | _, _, _ => none
  | _ => none

def isFresh (o : Oper) : Bool :=
  match o.op with
  | .alloc _ | .box _ _ => true
  | _ => false

/-- The number of blocks that the operations before this one may lay. -/
def rank (l : List Oper) : Nat := (l.filter isFresh).length

/-- Ways to cells that are written, or to any cell, are forgotten. -/
def killIn (id off n : Nat) (v : V) : V :=
  match v with
  | .lent (.cell i o) => if i = id ∧ off ≤ o ∧ o < off + n then .undef else v
  | .xptr (.cell i o) _ _ => if i = id ∧ off ≤ o ∧ o < off + n then .undef else v
  | v => v
def killCell (v : V) : V :=
  match v with
  | .lent (.cell _ _) => .undef
  | .xptr (.cell _ _) _ _ => .undef
  | v => v

def killCellsIn (ks : List Nat) (v : V) : V :=
  match v with
  | .lent (.cell i o) => if ks.contains i then .undef else .lent (.cell i o)
  | .xptr (.cell i o) a b => if ks.contains i then .undef else .xptr (.cell i o) a b
  | v => v

def setMem (σ : St) : HE → St
  | .keep => σ
  | .set id off cs => { env := σ.env.map (fun x => (x.1, killIn id off cs.length x.2)), heap := match bcells σ.heap id with
    | some ds => σ.heap.set id (.cells (setCells ds off cs))
    | none => σ.heap }
  | .init id cs => { σ with heap := σ.heap.set id (.cells cs) }
  | .all H => { env := σ.env.map (fun x => (x.1, killCell x.2)), heap := H }
  | .put ks H' => { env := σ.env.map (fun x => (x.1, killCellsIn ks x.2)), heap := putH ks σ.heap H' }

def put (σ : St) (d : Option Nat) (v : V) : St :=
  match d with
  | some d => { σ with env := (d, v) :: kill (.slot d) σ.env }
  | none => σ

def apply (σ : St) (d : Option Nat) (e : Eff) : St := put (setMem (setPlaces σ e.places) e.mem) d e.val

def wants (ops : Array Oper) (env : Env) (o : Oper) : Option Bool :=
  match o.guard with
  | none => some true
  | some (j, want) => match (ops[j]?).bind (·.dst) with
    | some t => match get env t with
      | .bool b => some (b == want)
      | .tup [] => some false      -- it was skipped itself
      | _ => none
    | none => none

/-- An operation's effect, with its guard. -/
def effG (T : Types) (call : CallF) (cx : Cx) (ops : Array Oper) (fresh : Nat) (o : Oper) (σ : St) : Option Eff :=
  match wants ops σ.env o with
  | some true => match eff T call cx fresh o σ with
    | some e => if (match o.dst with | some d => e.val.refsTo (.slot d) | none => false) then none else some e
    | none => none
  | some false => some { val := .tup [] }
  | none => none

def vop (T : Types) (call : CallF) (cx : Cx) (ops : Array Oper) (fresh : Nat) (o : Oper) (σ : St) : Option St :=
  (effG T call cx ops fresh o σ).map (apply σ o.dst)

def vops (T : Types) (call : CallF) (cx : Cx) (ops : Array Oper) : Nat → List Oper → St → Option St
  | _, [], σ => some σ
  | fresh, o :: rest, σ => (vop T call cx ops fresh o σ).bind (vops T call cx ops (if isFresh o then fresh + 1 else fresh) rest)

def slotRef : V → Option Nat
  | .lent (.slot t) => some t
  | .xptr (.slot t) _ _ => some t
  | _ => none

/-- The rest is forgotten (not what is lent by way of what stays). -/
def prune (k : Option (List Nat)) (σ : St) : St :=
  match k with
  | none => σ
  | some l =>
    let env := l.map fun t => (t, get σ.env t)
    { σ with env := env ++ (env.filterMap fun x => slotRef x.2).map fun t => (t, get σ.env t) }

/-- Back to so many blocks. -/
def cut (n : Nat) (σ : St) : St := { env := σ.env.map fun x => (x.1, if okBelowV n x.2 then x.2 else .undef), heap := σ.heap.take n }

/-- What an operation touches. -/
inductive Res where
  | slot (t : Nat)
  | blk (id : Nat)
  | top
  deriving DecidableEq

def plRes : Place → Res
  | .slot t => .slot t
  | .cell id _ => .blk id
def refRes : V → List Res
  | .lent p => [plRes p]
  | .xptr p _ _ => [plRes p]
  | _ => []
/-- What an operation writes. -/
def writes (d : Option Nat) (e : Eff) : List Res :=
  (match d with | some d => [.slot d] | none => []) ++ e.places.map (fun x => plRes x.1) ++ (match e.mem with | .keep => [] | .set id _ _ => [.blk id] | .init id _ => [.blk id] | .all _ => [.top] | .put ks _ => ks.map .blk)

/-- An operation whose effect hangs on what its operands tell, and no more. -/
def calm (o : Oper) (e : Eff) : Bool :=
  (match e.mem with | .all _ => false | _ => true) && (match o.op with | .build _ _ => e.places.isEmpty | .buildSlice _ _ _ => e.places.isEmpty | _ => true)

/-- The operands that are looked at. -/
def rd (env : Env) (o : Oper) : List Operand :=
  match o.op with
  | .pick c a b => match opd env c with
    | .bool t => [c, if t then a else b]
    | _ => [c, a, b]
  | op => op.operands.toList
def derefs (o : Oper) : Bool := match o.op with
  | .load _ _ | .store _ _ _ => true
  | _ => false
def opReads (b : Bool) (env : Env) (x : Operand) : List Res :=
  (match x with | .tmp t => [.slot t] | _ => []) ++ refRes (opd env x) ++ (match b, opd env x with | true, .ptr id _ => [.blk id] | _, _ => [])
def guardSlot (ops : Array Oper) (o : Oper) : Option Nat :=
  match o.guard with
  | some (j, _) => (ops[j]?).bind (·.dst)
  | none => none
def rdG (ops : Array Oper) (env : Env) (o : Oper) : List Operand :=
  match wants ops env o with
  | some false => []
  | _ => rd env o
def memReads (e : Eff) : List Res := match e.mem with
  | .put ks _ => ks.map .blk
  | _ => []
def reads (ops : Array Oper) (fr : Nat) (o : Oper) (env : Env) (e : Eff) : List Res :=
  memReads e ++ (rdG ops env o).flatMap (opReads (derefs o) env) ++ (match guardSlot ops o with | some t => [.slot t] | none => []) ++ (if isFresh o then [.blk fr] else [])
def isEx : V → Bool
  | .ex _ _ _ => true
  | _ => false
def isUndef : V → Bool
  | .undef => true
  | _ => false
def seen (σ : St) (x : Operand) : Bool :=
  !(isUndef (opd σ.env x)) && (match opd σ.env x with | .lent p => isEx (look σ p) | .xptr p _ _ => isEx (look σ p) | _ => true)

/-- For whom an operation waits, at once or in the end: as bits. -/
def ancStep (anc : List Nat) (o : Oper) : Nat := o.after.toList.foldl (fun b e => if Region.binds .any e then b ||| 2 ^ e.on ||| anc.getD e.on 0 else b) 0
def ancs : List Oper → List Nat → List Nat
  | [], acc => acc
  | o :: os, acc => ancs os (acc ++ [ancStep acc o])
def depB (ops : Array Oper) (j i : Nat) : Bool := ((ancs ops.toList []).getD j 0).testBit i

def isWayB : V → Bool
  | .lent _ | .xptr _ _ _ => true
  | _ => false
def tameB (e : Eff) : Bool := e.places.all (fun x => !isWayB x.2) && (match e.mem with | .all _ => false | _ => true)

/-- An operation for which all others wait, or that waits for them (that is to be seen from its pairs): it may do what it will. -/
def wildOp (o : Oper) : Bool := match o.op with
  | .call _ | .build _ _ | .buildSlice _ _ _ => true
  | _ => false

/-- A run in the text's order, with what each operation reads and writes. -/
def drawRun (T : Types) (call : CallF) (cx : Cx) (ops : Array Oper) : Nat → List Oper → St → Option (St × List (List Res × List Res))
  | _, [], σ => some (σ, [])
  | fr, o :: rest, σ => match effG T call cx ops fr o σ with
    | some e => if tameB e && calm o e && (rdG ops σ.env o).all (seen σ) && (refRes e.val).all (fun r => (reads ops fr o σ.env e).contains r) then
        (drawRun T call cx ops (if isFresh o then fr + 1 else fr) rest (apply σ o.dst e)).map fun (σ', l) => (σ', (reads ops fr o σ.env e, writes o.dst e) :: l)
      else if wildOp o then
        (drawRun T call cx ops (if isFresh o then fr + 1 else fr) rest (apply σ o.dst e)).map fun (σ', l) => (σ', ([.top], [.top]) :: l)
      else none
    | none => none

def apartB (x y : List Res × List Res) : Bool :=
  !x.1.contains .top && !y.1.contains .top && x.2.all (fun r => !y.1.contains r) && y.2.all (fun r => !x.1.contains r) && x.2.all (fun r => !y.2.contains r)
def fpAt (l : List (List Res × List Res)) (i : Nat) : List Res × List Res := l.getD i ([], [])

def reserve (ops : Array Oper) (σ : St) : St := { σ with heap := σ.heap ++ List.replicate (rank ops.toList) .dead }

def vregion (T : Types) (call : CallF) (cx : Cx) (id : Nat) (ops : Array Oper) (draw : Bool) (σ : St) : Option St :=
  match draw with
  | false => (vops T call cx ops σ.heap.length ops.toList (reserve ops σ)).map (prune (cx.keep id))
  | true => match drawRun T call cx ops σ.heap.length ops.toList (reserve ops σ) with
    | some (σ', fps) => if (cx.free id).all (fun x => apartB (fpAt fps x.1) (fpAt fps x.2)) then some (prune (cx.keep id) σ') else none
    | none => none

inductive Ex where
  | normal | exit (id : Nat) | ret
  deriving DecidableEq

def firstRegion : Code → Nat
  | .region id _ _ => id
  | .seq a _ => firstRegion a
  | .block _ b => firstRegion b
  | .scope b => firstRegion b
  | .loop b => firstRegion b
  | _ => 0

abbrev Step := St → Option (Ex × St)

def rounds (step : Step) : Nat → Step
  | 0, _ => none
  | n + 1, σ => match step σ with
    | some (.normal, σ') => rounds step n σ'
    | r => r

def vcode (T : Types) (call : CallF) (lp : Step → Step) (cx : Cx) : Code → Step
  | .skip, σ => some (.normal, σ)
  | .region id ops draw, σ => (vregion T call cx id ops draw σ).map fun σ' => (.normal, σ')
  | .seq a b, σ => match vcode T call lp cx a σ with
    | some (.normal, σ') => vcode T call lp cx b σ'
    | r => r
  | .cond c a b, σ => match opd σ.env c with
    | .bool t => if t then vcode T call lp cx a σ else vcode T call lp cx b σ
    | _ => none
  | .block id b, σ => match vcode T call lp cx b σ with
    | some (.exit i, σ') => if i = id then some (.normal, σ') else some (.exit i, σ')
    | r => r
  | .exit id, σ => some (.exit id, σ)
  | .ret, σ => some (.ret, σ)
  | .loop b, σ => lp (fun τ => match vcode T call lp cx b τ with
      | some (.normal, τ') => some (.normal, cut σ.heap.length (prune (cx.head (firstRegion b)) τ'))
      | r => r) (prune (cx.head (firstRegion b)) σ)
  | _, _ => none

/-- A function's row. -/
structure FI where
  body : Code
  results : List ResultVar
  cx : Cx

abbrev Fns := FuncId → Option FI

def bodyOf (f : Func) : Code := match f.body with
  | some c => c
  | none => .skip

def outAt (T : Types) (σ : St) : ResultVar → Option (V × List (Place × V))
  | .tmp t => match get σ.env t with
    | .lent p => match look σ p with
      | .ex sz n xs => some (.ex sz n xs, [(p, .undef)])
      | _ => none
    | .xptr _ _ _ => none
    | .tup _ => none
    | v => some (v, [(.slot t, .undef)])
  | .cell x t => match T t, get σ.env x with
    | some i, .ptr id off => match bcells σ.heap id with
      | some cs => match asType i ((cs.drop off).take i.size) with
        | some (.ex sz n xs) => some (.ex sz n xs, [(.cell id off, .undef)])
        | some v => if ((cs.drop off).take i.size).all notEx then some (v, []) else none
        | none => none
      | none => none
    | _, _ => none

def outs (T : Types) : List ResultVar → St → Option (List V × St)
  | [], σ => some ([], σ)
  | r :: rest, σ => match outAt T σ r with
    | some (v, ps) => (outs T rest (setPlaces σ ps)).map fun (vs, σ') => (v :: vs, σ')
    | none => none

def asResult : List V → V
  | [v] => v
  | vs => .tup vs

/-- A function's end. -/
def leave (T : Types) (results : List ResultVar) (n : Nat) (σ : St) : Option (V × Heap) :=
  match outs T results σ with
  | some (vs, σ') => some (asResult vs, if okBelowV n (asResult vs) then σ'.heap.take n else σ'.heap)
  | none => none

def enter (args : List V) (H : Heap) : St := { env := args.zipIdx.map fun x => (x.2, x.1), heap := H }

def vfun (T : Types) (F : Fns) (call : CallF) (lp : Step → Step) (f : FuncId) (args : List V) (H : Heap) : Option (V × Heap) :=
  match F f with
  | none => none
  | some fi => match vcode T call lp fi.cx fi.body (enter args H) with
    | some (.exit _, _) => none
    | some (_, σ) => leave T fi.results H.length σ
    | none => none

/-- Calls to a depth, loops to so many rounds. -/
def vcall (T : Types) (F : Fns) : Nat → CallF
  | 0 => fun _ _ _ => none
  | n + 1 => vfun T F (vcall T F n) (fun step => rounds step n)

end Go.Vm
