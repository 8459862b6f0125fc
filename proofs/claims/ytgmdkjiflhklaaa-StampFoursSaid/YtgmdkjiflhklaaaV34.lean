/- V34: V's evaluation as a tree of questions: where a number, a truth or a list is not known, both ways are told. -/
import Derived.Test.YtgmdkjiflhklaaaV25
namespace Go.Vm
open Go

inductive Tr (α : Type) where
  | ret (a : α)
  | fail
  | ask (b : Bool) (yes no : Tr α)

namespace Tr
variable {α β : Type}
def bind : Tr α → (α → Tr β) → Tr β
  | .ret a, f => f a
  | .fail, _ => .fail
  | .ask b x y, f => .ask b (x.bind f) (y.bind f)
def run : Tr α → Option α
  | .ret a => some a
  | .fail => none
  | .ask b x y => match b with
    | true => x.run
    | false => y.run
def ofO : Option α → Tr α
  | some a => .ret a
  | none => .fail
def must (b : Bool) (x : Tr α) : Tr α := .ask b x .fail

theorem run_bind : ∀ (x : Tr α) (f : α → Tr β), (x.bind f).run = x.run.bind fun a => (f a).run
  | .ret a, f => rfl
  | .fail, f => rfl
  | .ask true x y, f => run_bind x f
  | .ask false x y, f => run_bind y f
theorem bind_some {x : Tr α} {f : α → Tr β} {r : β} (h : (x.bind f).run = some r) : ∃ a, x.run = some a ∧ (f a).run = some r := by
  rw [run_bind, Option.bind_eq_some_iff] at h; exact h
theorem run_ofO (o : Option α) : (ofO o).run = o := by cases o <;> rfl
theorem must_some {b : Bool} {x : Tr α} {r : α} (h : (must b x).run = some r) : b = true ∧ x.run = some r := by
  cases b
  · cases h
  · exact ⟨rfl, h⟩

/-- The way through a tree, by what is answered; what was asked on it. -/
def follow : List Bool → Tr α → Option (List (Bool × Bool) × Option α)
  | [], .ret a => some ([], some a)
  | [], .fail => some ([], none)
  | p :: ps, .ask b x y => (follow ps (match p with | true => x | false => y)).map fun r => ((b, p) :: r.1, r.2)
  | _, _ => none
theorem follow_run : ∀ {ps : List Bool} {t : Tr α} {cs : List (Bool × Bool)} {r : Option α}, follow ps t = some (cs, r) → (∀ c ∈ cs, c.1 = c.2) → t.run = r
  | [], .ret a, cs, r, h, _ => by simp only [follow, Option.some.injEq, Prod.mk.injEq] at h; exact h.2
  | [], .fail, cs, r, h, _ => by simp only [follow, Option.some.injEq, Prod.mk.injEq] at h; exact h.2
  | [], .ask _ _ _, cs, r, h, _ => by simp [follow] at h
  | p :: ps, .ret _, cs, r, h, _ => by simp [follow] at h
  | p :: ps, .fail, cs, r, h, _ => by simp [follow] at h
  | p :: ps, .ask b x y, cs, r, h, hc => by
    simp only [follow, Option.map_eq_some_iff] at h
    obtain ⟨⟨cs', r'⟩, h1, h2⟩ := h
    injection h2 with e1 e2; subst e1; subst e2
    have hb := hc (b, p) (by simp)
    simp only at hb; subst hb
    have := follow_run h1 (fun c hc' => hc c (by simp [hc']))
    cases b <;> exact this
end Tr

/-- What a value holds, if it is of a kind. -/
def intOf : V → Int
  | .int _ n => n
  | _ => 0
def boolOf : V → Bool
  | .bool b => b
  | _ => false
def strOf : V → ByteArray
  | .str s => s
  | _ => ByteArray.empty
def nilOf : V → Bool
  | .sl n _ => n
  | _ => false
def listOf : V → List V
  | .sl _ xs => xs
  | _ => []
def fld (j : Nat) (v : V) : V := v.cells.getD j .undef
def leafOf : TK → V → V
  | .int k, v => .int k (intOf v)
  | .bool, v => .bool (boolOf v)
  | .str, v => .str (strOf v)
  | .slice _, v => .sl (nilOf v) (listOf v)
  | _, v => v
def leafFits : TK → V → Bool
  | .int k, .int k' _ => decide (k' = k)
  | .bool, .bool _ => true
  | .str, .str _ => true
  | .slice _, .sl _ _ => true
  | _, _ => false
def canonP : List TK → Nat → V → List V
  | [], _, _ => []
  | k :: ks, off, v => leafOf k (fld off v) :: canonP ks (off + 1) v
def fitP : List TK → Nat → V → Bool
  | [], _, _ => true
  | k :: ks, off, v => leafFits k (fld off v) && fitP ks (off + 1) v

theorem leafOf_fits {k : TK} {v : V} (h : leafFits k v = true) : leafOf k v = v ∧ v ≠ .undef := by
  cases k <;> cases v <;> simp_all [leafFits, leafOf, intOf, boolOf, strOf, nilOf, listOf]
theorem canonP_eq : ∀ (ks : List TK) (off : Nat) (v : V), fitP ks off v = true → (v.cells.drop off).take ks.length = canonP ks off v
  | [], off, v, _ => by simp [canonP]
  | k :: ks, off, v, h => by
    simp only [fitP, Bool.and_eq_true] at h
    obtain ⟨h1, h2⟩ := leafOf_fits h.1
    have hlt : off < v.cells.length := by
      rcases Nat.lt_or_ge off v.cells.length with hq | hq
      · exact hq
      · exact absurd (by simp [fld, hq]) h2
    have hd : v.cells.drop off = fld off v :: v.cells.drop (off + 1) := by
      rw [List.drop_eq_getElem_cons hlt]; simp [fld, hlt]
    rw [hd]
    simp only [List.length_cons, List.take_succ_cons, canonP]
    rw [h1, canonP_eq ks (off + 1) v h.2]

abbrev Spec := FuncId → List V → Heap → Tr (V × Heap)
abbrev LSpec := Nat → St → Tr (Ex × St)

section
variable (T : Types) (sh : Nat → List TK) (S : Spec) (L : LSpec)

def callT (σ : St) (f : V) (args : List V) (ps : List (Place × V)) : Tr Eff :=
  match f with
  | .clo (.func f) first captured =>
    let vs := first ++ args ++ captured
    if vs.all noPtr then
      (S f vs []).bind fun x => match x.2 with
        | [] => match ps with
          | [] => .ret { val := x.1, places := [] }
          | ps => .ask (apart x.1) (.ret { val := x.1, places := [] }) (.ret { val := x.1, places := ps })
        | H1 =>
          let σ1 := setPlaces σ ps
          .ret { val := shift σ1.heap.length x.1, places := ps, mem := .all (σ1.heap ++ H1.map (shiftB σ1.heap.length)) }
    else
      let H := (setPlaces σ ps).heap
      let ks := reach H H.length (argIds vs)
      if closedK ks H && (argIds vs).all ks.contains then (S f vs (maskH ks H)).bind fun x =>
        if deadOut ks H.length x.2 then
          if x.2.length = H.length then .ret { val := x.1, places := ps, mem := .put ks x.2 } else .ret { val := x.1, places := ps, mem := .all (putH ks H x.2 ++ x.2.drop H.length) }
        else .fail
      else .fail
  | _ => .fail

def indexT (i : TI) (σ : St) (x : Operand) (k : Int) : Tr V :=
  match i.kind with
  | .slice e => match T e with
    | some ei => match opd σ.env x with
      | .sl _ xs => if (sh e).length = ei.size then
          .must (decide (0 ≤ k)) (.must (decide (k < xs.length)) (.must (((xs.getD k.toNat .undef).cells.length == ei.size) && fitP (sh e) 0 (xs.getD k.toNat .undef)) (.ret (.rptr (canonP (sh e) 0 (xs.getD k.toNat .undef)) 0)))) else .fail
      | .lent p => match look σ p with
        | .ex sz _ xs => if sz = ei.size then .must (decide (0 ≤ k)) (.must (decide (k < xs.length)) (.ret (.xptr p k.toNat 0))) else .fail
        | _ => .fail
      | .ex sz _ xs => match tmpOf x with
        | some t => if sz = ei.size then .must (decide (0 ≤ k)) (.must (decide (k < xs.length)) (.ret (.xptr (.slot t) k.toNat 0))) else .fail
        | none => .fail
      | _ => .fail
    | none => .fail
  | .array n e => match T e with
    | some ei => .must (decide (0 ≤ k)) (.must (decide (k < n)) (match opd σ.env x with
        | .ptr id off => .ret (.ptr id (off + k.toNat * ei.size))
        | .rptr cs off => .ret (.rptr cs (off + k.toNat * ei.size))
        | .xptr q j off => .ret (.xptr q j (off + k.toNat * ei.size))
        | _ => .fail))
    | none => .fail
  | _ => .fail

def loadT (t : Nat) (i : TI) (σ : St) (p : V) : Tr V :=
  match p with
  | .xptr q k off => match look σ q with
    | .ex _ _ xs => if (sh t).length = i.size then .must (decide (k < xs.length)) (.must (fitP (sh t) off (xs.getD k .undef)) (Tr.ofO (asType i (canonP (sh t) off (xs.getD k .undef))))) else .fail
    | _ => .fail
  | p => Tr.ofO (loadAt i σ p)

def storeT (i : TI) (σ : St) (p : V) (x : Operand) : Tr Eff :=
  match p with
  | .xptr q k off => match takeDat σ x, look σ q with
    | some (v, []), .ex sz n xs => if v.cells.length = i.size then .must (decide (k < xs.length)) (.must (decide (off + i.size ≤ (xs.getD k .undef).cells.length))
        (.ret { val := .undef, places := [(q, .ex sz n (xs.set k (mkOf (xs.getD k .undef) (setCells (xs.getD k .undef).cells off v.cells))))] })) else .fail
    | _, _ => .fail
  | p => Tr.ofO (storeAt i σ p x)

def appendT (σ : St) (c : Call) : Tr Eff :=
  match c.args.toList, c.argTypes.toList with
  | [s, x], [t, tx] => match kindOf T t, kindOf T tx, content σ (opd σ.env x) with
    | some (.slice e), some (.slice _), some (_, ys) => match T e with
      | some ei => match base ei.size σ s with
        | some (n, xs, ps) => if 0 < ei.size then .must (rooms (xs.length + ys.length) ei.bytes) (.must (decide (xs.length + ys.length < 2 ^ 62)) (.must (ys.all fun y => y.cells.length == ei.size)
          (.ret { val := .ex ei.size (n && ys.isEmpty) (xs ++ ys), places := ps }))) else .fail
        | none => .fail
      | none => .fail
    | _, _, _ => .fail
  | _, _ => .fail

def sliceT (σ : St) (t : Nat) (x : Operand) (lo hi mx : Option Operand) : Tr Eff :=
  match kindOf T t with
  | some (.slice e) => match opd σ.env x with
    | .sl n xs => match T e, numOf σ lo 0, numOf σ hi xs.length with
      | some ei, some l, some h =>
        .must (decide (0 ≤ l)) (.must (decide (l ≤ h)) (.must (decide (h ≤ xs.length)) (.must (xs.all (fun x => x.cells.length == ei.size)) (
          match mx with
          | none => .ret { val := .sl n ((xs.drop l.toNat).take (h.toNat - l.toNat)) }
          | some m => .must (decide (hi.isSome ∧ numOf σ (some m) 0 = some l ∧ h = l)) (.ret { val := .ex ei.size n [] })))))
      | _, _, _ => .fail
    | _ => .fail
  | _ => .fail

def binT (op : BinOp) (i : TI) (one : Bool) (σ : St) (x y : V) : Tr V :=
  match x, y, op, i.kind.isAgg with
  | .int k a, .int k' b, .quo, false => if k = k' then .must (!decide (b = 0)) (.ret (.int k (k.wrap (a.tdiv b)))) else .fail
  | .int k a, .int k' b, .rem, false => if k = k' then .must (!decide (b = 0)) (.ret (.int k (a.tmod b))) else .fail
  | .int k a, .int _ b, .shl, false => .must (!decide (b < 0)) (.ret (.int k (k.wrap (a * 2 ^ (min b.toNat k.bits)))))
  | .int k a, .int _ b, .shr, false => .must (!decide (b < 0)) (.ret (.int k (a.fdiv (2 ^ (min b.toNat k.bits)))))
  | x, y, op, _ => Tr.ofO (vbinop op i one σ x y)

def makeT (t : Nat) (σ : St) (l c : Operand) : Tr Eff :=
  match kindOf T t, opd σ.env l, opd σ.env c with
  | some (.slice e), .int _ l, .int _ c => match T e with
    | some ei => if 0 < ei.size ∧ ei.zero.dat = true ∧ ei.zero.cells.length = ei.size then
        .must (decide (0 ≤ l)) (.must (decide (l ≤ c)) (.must (rooms c.toNat ei.bytes) (.must (decide (c < 2 ^ 62)) (.ret { val := .ex ei.size false (List.replicate l.toNat ei.zero) })))) else .fail
    | none => .fail
  | _, _, _ => .fail

/-- An operation's effect, and what it looks at. -/
def effT (cx : Cx) (fresh : Nat) (o : Oper) (σ : St) : Tr (Eff × List Operand) :=
  match o.op with
  | .pick c a b => match opd σ.env c with
    | .bool t => .ask t
        (match opd σ.env a with | .bool r => .ret ({ val := .bool r }, [c, a]) | .int k n => .ret ({ val := .int k n }, [c, a]) | _ => .fail)
        (match opd σ.env b with | .bool r => .ret ({ val := .bool r }, [c, b]) | .int k n => .ret ({ val := .int k n }, [c, b]) | _ => .fail)
    | _ => .fail
  | .load t p => match T t with
    | some i => (loadT sh t i σ (opd σ.env p)).bind fun v => .ret ({ val := v }, o.op.operands.toList)
    | none => .fail
  | .store t p x => match T t with
    | some i => (storeT i σ (opd σ.env p) x).bind fun e => match e.mem with
      | .set id _ cs => if cs.all (okBelow (id + 1)) then .ret (e, o.op.operands.toList) else .fail
      | _ => .ret (e, o.op.operands.toList)
    | none => .fail
  | .binOp op t x y _ => match T t with
    | some i => (binT op i (isConst x || isConst y) σ (opd σ.env x) (opd σ.env y)).bind fun v => .ret ({ val := v }, o.op.operands.toList)
    | none => .fail
  | .slice t x lo hi mx => (sliceT T σ t x lo hi mx).bind fun e => .ret (e, o.op.operands.toList)
  | .indexAddr t x k => match T t, opd σ.env k with
    | some i, .int _ k => (indexT T sh i σ x k).bind fun v => .ret ({ val := v }, o.op.operands.toList)
    | _, _ => .fail
  | .call c => match c.callee with
    | .builtin .append => (appendT T σ c).bind fun e => .ret (e, o.op.operands.toList)
    | .value f => match views σ c.args.toList with
      | some (vs, ps) => (callT S σ (opd σ.env f) vs ps).bind fun e => .ret (e, o.op.operands.toList)
      | none => .fail
    | _ => (Tr.ofO (eff T (fun _ _ _ => none) cx fresh o σ)).bind fun e => .ret (e, o.op.operands.toList)
  | .makeSlice t l c => (makeT T t σ l c).bind fun e => .ret (e, o.op.operands.toList)
  | _ => (Tr.ofO (eff T (fun _ _ _ => none) cx fresh o σ)).bind fun e => .ret (e, o.op.operands.toList)

def effG1 (cx : Cx) (fresh : Nat) (o : Oper) (σ : St) : Tr (Eff × List Operand) :=
  (effT T sh S cx fresh o σ).bind fun x => if (match o.dst with | some d => x.1.val.refsTo (.slot d) | none => false) then .fail else .ret x

def effGT (cx : Cx) (ops : Array Oper) (fresh : Nat) (o : Oper) (σ : St) : Tr (Eff × List Operand) :=
  match o.guard with
  | none => effG1 T sh S cx fresh o σ
  | some (j, want) => match (ops[j]?).bind (·.dst) with
    | some t => match get σ.env t with
      | .bool b => match want with
        | true => .ask b (effG1 T sh S cx fresh o σ) (.ret ({ val := .tup [] }, []))
        | false => .ask b (.ret ({ val := .tup [] }, [])) (effG1 T sh S cx fresh o σ)
      | .tup [] => .ret ({ val := .tup [] }, [])
      | _ => .fail
    | none => .fail

def vopsT (cx : Cx) (ops : Array Oper) : Nat → List Oper → St → Tr St
  | _, [], σ => .ret σ
  | fresh, o :: rest, σ => (effGT T sh S cx ops fresh o σ).bind fun x => vopsT cx ops (if isFresh o then fresh + 1 else fresh) rest (apply σ o.dst x.1)

def readsL (ops : Array Oper) (fr : Nat) (o : Oper) (env : Env) (e : Eff) (l : List Operand) : List Res :=
  memReads e ++ l.flatMap (opReads (derefs o) env) ++ (match guardSlot ops o with | some t => [.slot t] | none => []) ++ (if isFresh o then [.blk fr] else [])

def drawRunT (cx : Cx) (ops : Array Oper) : Nat → List Oper → St → Tr (St × List (List Res × List Res))
  | _, [], σ => .ret (σ, [])
  | fr, o :: rest, σ => (effGT T sh S cx ops fr o σ).bind fun x =>
      if tameB x.1 && calm o x.1 && x.2.all (seen σ) && (refRes x.1.val).all (fun r => (readsL ops fr o σ.env x.1 x.2).contains r) then
        (drawRunT cx ops (if isFresh o then fr + 1 else fr) rest (apply σ o.dst x.1)).bind fun y => .ret (y.1, (readsL ops fr o σ.env x.1 x.2, writes o.dst x.1) :: y.2)
      else if wildOp o then
        (drawRunT cx ops (if isFresh o then fr + 1 else fr) rest (apply σ o.dst x.1)).bind fun y => .ret (y.1, ([.top], [.top]) :: y.2)
      else .fail

def regionT (cx : Cx) (id : Nat) (ops : Array Oper) (draw : Bool) (σ : St) : Tr St :=
  match draw with
  | false => (vopsT T sh S cx ops σ.heap.length ops.toList (reserve ops σ)).bind fun σ' => .ret (prune (cx.keep id) σ')
  | true => (drawRunT T sh S cx ops σ.heap.length ops.toList (reserve ops σ)).bind fun x =>
      if (cx.free id).all (fun y => apartB (fpAt x.2 y.1) (fpAt x.2 y.2)) then .ret (prune (cx.keep id) x.1) else .fail

def codeT (cx : Cx) : Code → St → Tr (Ex × St)
  | .skip, σ => .ret (.normal, σ)
  | .region id ops draw, σ => (regionT T sh S cx id ops draw σ).bind fun σ' => .ret (.normal, σ')
  | .seq a b, σ => (codeT cx a σ).bind fun x => match x.1 with
    | .normal => codeT cx b x.2
    | ex => .ret (ex, x.2)
  | .cond c a b, σ => match opd σ.env c with
    | .bool t => .ask t (codeT cx a σ) (codeT cx b σ)
    | _ => .fail
  | .block id b, σ => (codeT cx b σ).bind fun x => match x.1 with
    | .exit i => if i = id then .ret (.normal, x.2) else .ret (.exit i, x.2)
    | ex => .ret (ex, x.2)
  | .exit id, σ => .ret (.exit id, σ)
  | .ret, σ => .ret (.ret, σ)
  | .loop b, σ => L (firstRegion b) (prune (cx.head (firstRegion b)) σ)
  | _, _ => .fail

/-- One round of a loop, begun with so many blocks. -/
def roundT (cx : Cx) (n : Nat) (b : Code) (τ : St) : Tr (Ex × St) :=
  (codeT T sh S L cx b τ).bind fun x => match x.1 with
    | .normal => .ret (.normal, cut n (prune (cx.head (firstRegion b)) x.2))
    | ex => .ret (ex, x.2)

/-- So many rounds, one after the other. -/
def unrollT (cx : Cx) (b : Code) : Nat → Nat → St → Tr (Ex × St)
  | _, 0, _ => .fail
  | n, m + 1, τ => (roundT T sh S L cx n b τ).bind fun x => match x.1 with
    | .normal => unrollT cx b n m x.2
    | ex => .ret (ex, x.2)

def funT (fi : FI) (args : List V) (H : Heap) : Tr (V × Heap) :=
  (codeT T sh S L fi.cx fi.body (enter args H)).bind fun x => match x.1 with
    | .exit _ => .fail
    | _ => Tr.ofO (leave T fi.results H.length x.2)
end

def loopsOf : Code → List Code
  | .seq a b => loopsOf a ++ loopsOf b
  | .cond _ a b => loopsOf a ++ loopsOf b
  | .block _ b => loopsOf b
  | .loop b => b :: loopsOf b
  | _ => []
def lb (fi : FI) (i : Nat) : Code := (loopsOf fi.body).getD i .skip

end Go.Vm
