/- A deterministic evaluator of loaded Go code on tagged values: definitions. -/
import Derived.Orders
import Derived.LoopN
import Derived.Below
import Derived.KernelRfl
import Derived.Laws.Cells
import Derived.Laws.Rows
import Derived.Laws.StructEq
namespace Go.Sky

/-- A tree of outcomes: a test's two sides, an answer, or nothing that is served. -/
inductive Tr (α : Type) where
  | leaf (a : α)
  | bad
  | node (b : Bool) (t e : Tr α)

def Tr.run {α : Type} : Tr α → Option α
  | .leaf a => some a
  | .bad => none
  | .node b t e => if b = true then t.run else e.run

def Tr.bind {α β : Type} : Tr α → (α → Tr β) → Tr β
  | .leaf a, k => k a
  | .bad, _ => .bad
  | .node b t e, k => .node b (t.bind k) (e.bind k)

theorem Tr.run_bind {α β : Type} (t : Tr α) (k : α → Tr β) : (t.bind k).run = t.run.bind fun a => (k a).run := by
  induction t with
  | leaf a => rfl
  | bad => rfl
  | node b t e iht ihe => simp only [Tr.bind, Tr.run]; split <;> assumption

/-- A value: numbers and bools say whether they are written out ('lit'). -/
inductive AV where
  | bool (lit : Bool) (b : Bool)
  | int (k : IntKind) (lit : Bool) (n : Int)
  | str (lit : Bool) (s : ByteArray)
  | ptr (a : Option (Nat × Nat))
  | slice (a : Option (Nat × Nat)) (len cap : Nat)
  | func (fn : Fn) (first captured : List AV)
  | nilFunc
  | iface (t : TypeId) (v : AV)
  | nilIface
  | agg (cs : List AV)
  | tuple (vs : List AV)
  deriving Inhabited

abbrev AV.undef : AV := .tuple []

def AV.cells : AV → List AV
  | .agg cs => cs
  | v => [v]

/-- Memory of the evaluator's own: blocks of cells. -/
abbrev AH := List (List AV)

structure St where
  tmps : List AV
  heap : AH

/-- A number of its kind. -/
def InR (k : IntKind) (n : Int) : Prop := k.min ≤ n ∧ n ≤ k.max
instance (k : IntKind) (n : Int) : Decidable (InR k n) := inferInstanceAs (Decidable (_ ∧ _))

mutual
def ofConst : Value → Option AV
  | .bool b => some (.bool true b)
  | .int k n => if InR k n then some (.int k true n) else none
  | .string s => some (.str true s)
  | .pointer none => some (.ptr none)
  | .slice none n k => some (.slice none n k)
  | .nilFunc => some .nilFunc
  | .nilIface => some .nilIface
  | .agg ⟨cs⟩ => match ofConstL cs with | some l => some (.agg l) | none => none
  | .tuple ⟨cs⟩ => match ofConstL cs with | some l => some (.tuple l) | none => none
  | _ => none
def ofConstL : List Value → Option (List AV)
  | [] => some []
  | v :: vs => match ofConst v with
    | some a => match ofConstL vs with | some l => some (a :: l) | none => none
    | none => none
end

def St.ev (s : St) : Operand → Option AV
  | .tmp t => some (s.tmps.getD t .undef)
  | .const v => ofConst v
  | .global _ => none
  | .func f => some (.func (.func f) [] [])

def St.evs (s : St) : List Operand → Option (List AV)
  | [] => some []
  | x :: xs => match s.ev x with
    | some a => match s.evs xs with | some l => some (a :: l) | none => none
    | none => none

def put (l : List AV) (d : Option Tmp) (v : AV) : List AV := match d with | some d => l.set d v | none => l

/-- What an operation leaves: a value, and memory. -/
abbrev Ans := Tr (AV × AH)

def val (v : AV) (h : AH) : Ans := .leaf (v, h)

def newBlock (cs : List AV) (h : AH) : Ans := .leaf (.ptr (some (h.length, 0)), h ++ [cs])

/-! ### numbers -/

def cmpInt (op : BinOp) (x y : Int) : Option Bool :=
  match op with
  | .eql => some (x == y)
  | .neq => some (x != y)
  | .lss => some (decide (x < y))
  | .leq => some (decide (x ≤ y))
  | .gtr => some (decide (x > y))
  | .geq => some (decide (x ≥ y))
  | _ => none

def isBits : BinOp → Bool
  | .and | .or | .xor | .andNot => true
  | _ => false

/-- Behind a test that must not hold. -/
def barred (lit b : Bool) (t : Ans) : Ans := match lit with
  | true => match b with | true => .bad | false => t
  | false => .node b .bad t

def binInt (op : BinOp) (k : IntKind) (l1 : Bool) (x : Int) (l2 : Bool) (y : Int) (h : AH) : Ans :=
  match op with
  | .add => val (.int k (l1 && l2) (k.wrap (x + y))) h
  | .sub => val (.int k (l1 && l2) (k.wrap (x - y))) h
  | .mul => val (.int k (l1 && l2) (k.wrap (x * y))) h
  | .quo => barred l2 (decide (y = 0)) (val (.int k (l1 && l2) (k.wrap (x.tdiv y))) h)
  | .rem => barred l2 (decide (y = 0)) (val (.int k (l1 && l2) (x.tmod y)) h)
  | op => match isBits op with
    | true => val (.int k (l1 && l2) (Go.bits op k x y)) h
    | false => match cmpInt op x y with
      | some b => val (.bool (l1 && l2) b) h
      | none => .bad

def shiftInt (op : BinOp) (k : IntKind) (l1 : Bool) (x : Int) (l2 : Bool) (y : Int) (h : AH) : Ans :=
  match op with
  | .shl => barred l2 (decide (y < 0)) (val (.int k (l1 && l2) (k.wrap (x * 2 ^ (min y.toNat k.bits)))) h)
  | .shr => barred l2 (decide (y < 0)) (val (.int k (l1 && l2) (x.fdiv (2 ^ (min y.toNat k.bits)))) h)
  | _ => .bad

/-- '==' of values of one type whose parts are numbers, bools and strings. -/
def eqA (P : Program) : Nat → TypeId → AV → AV → Option (Bool × Bool)
  | 0, _, _, _ => none
  | d + 1, t, x, y =>
    match P.underlying t, x, y with
    | some .bool, .bool l a, .bool m b => some (l && m, a == b)
    | some (.int _), .int k l a, .int k' m b => if k = k' then some (l && m, a == b) else none
    | some .string, .str l a, .str m b => some (l && m, a.toList == b.toList)
    | some (.pointer _), .ptr none, .ptr b => some (true, b.isNone)
    | some (.pointer _), .ptr _, .ptr none => some (true, false)
    | some (.func _ _ _), .nilFunc, .nilFunc => some (true, true)
    | some (.func _ _ _), .nilFunc, .func _ _ _ => some (true, false)
    | some (.func _ _ _), .func _ _ _, .nilFunc => some (true, false)
    | some (.slice _), .slice none _ _, .slice b _ _ => some (true, b.isNone)
    | some (.slice _), .slice _ _ _, .slice none _ _ => some (true, false)
    | some (.struct fields), .agg xs, .agg ys =>
      if P.stoodInHeld t then none else
      fields.toList.foldr (fun f acc =>
        if f.name = "_" then acc else
        match part P f.type xs f.offset, part P f.type ys f.offset, acc with
        | some a, some b, some (l, r) => match eqA P d f.type a b with
          | some (m, c) => some (m && l, c && r)
          | none => none
        | _, _, _ => none) (some (true, true))
    | _, _, _ => none
where
  part (P : Program) (t : TypeId) (cs : List AV) (off : Nat) : Option AV :=
    match P.info? t, P.underlying t with
    | some i, some (.struct _) => some (.agg ((cs.take (off + i.size)).drop off))
    | some i, some (.array _ _) => some (.agg ((cs.take (off + i.size)).drop off))
    | some _, some _ => cs[off]?
    | _, _ => none

abbrev partA := eqA.part

def fillA (place : Nat → Option (Nat × Nat)) (cells : List AV) : List (Nat × AV) → Option (List AV)
  | [] => some cells
  | (i, v) :: rest =>
    match place i with
    | none => none
    | some (off, size) =>
      if v.cells.length ≠ size ∨ off + v.cells.length > cells.length then none
      else fillA place (setFrom cells off v.cells) rest
where
  setFrom (cells : List AV) (off : Nat) : List AV → List AV
    | [] => cells
    | c :: cs => setFrom (cells.set off c) (off + 1) cs

def zeroA (P : Program) (t : TypeId) : Option AV :=
  match P.info? t with
  | some i => match i.zero with | some z => ofConst z | none => none
  | none => none

def sizeA (P : Program) (t : TypeId) : Option Nat := (P.info? t).map (·.size)

/-- Where a struct's fields lie, and how great they are. -/
def placesA (P : Program) : List Field → Option (List (Nat × Nat))
  | [] => some []
  | f :: fs => match sizeA P f.type with
    | some n => match placesA P fs with | some l => some ((f.offset, n) :: l) | none => none
    | none => none

def isAggA (P : Program) (t : TypeId) : Option Bool :=
  match P.underlying t with
  | some (.struct _) => some true
  | some (.array _ _) => some true
  | some _ => some false
  | none => none

def loadA (P : Program) (t : TypeId) (b o : Nat) (h : AH) : Option AV :=
  match h[b]?, isAggA P t, sizeA P t with
  | some cs, some true, some n => if o + n ≤ cs.length then some (.agg ((cs.take (o + n)).drop o)) else none
  | some cs, some false, _ => cs[o]?
  | _, _, _ => none

def storeA (P : Program) (t : TypeId) (b o : Nat) (v : AV) (h : AH) : Option AH :=
  match h[b]?, sizeA P t with
  | some cs, some n =>
    if v.cells.length = n ∧ o + n ≤ cs.length ∧ v.cells.all (fun c => match c with | .agg _ => false | .tuple _ => false | _ => true) then some (h.set b (fillA.setFrom cs o v.cells)) else none
  | _, _ => none

def opt {α : Type} (x : Option α) (k : α → Ans) : Ans := match x with | some a => k a | none => .bad

def evParts (s : St) : List (Nat × Operand) → Option (List (Nat × AV))
  | [] => some []
  | (i, x) :: r => match s.ev x with
    | some a => match evParts s r with | some l => some ((i, a) :: l) | none => none
    | none => none

/-- The greater, or the lesser one. -/
def mm (isMax : Bool) (x y : Int) : Int := if isMax then (if y > x then y else x) else (if y < x then y else x)

/-- Numbers of one kind. -/
def minmax (isMax : Bool) : AV → List AV → Option AV
  | acc, [] => some acc
  | .int k l x, .int k' m y :: r => if k = k' then
    minmax isMax (.int k (l && m) (mm isMax x y)) r else none
  | _, _ => none

def lenA (P : Program) (t : TypeId) (x : AV) : Option AV :=
  match P.underlying t, x with
  | some (.array n _), _ => if InR .i64 n then some (.int .i64 true n) else none
  | some (.slice _), .slice _ n _ => if InR .i64 n then some (.int .i64 true n) else none
  | _, _ => none

def convA (P : Program) (src dst : TypeId) (x : AV) : Option AV :=
  match P.underlying src, P.underlying dst, x with
  | some _, some (.int k), .int _ l n => some (.int k l (k.wrap n))
  | _, _, _ => none

/-- An index that is written out. -/
def litIx : AV → Option Int
  | .int _ true n => some n
  | _ => none

/-- One operation that is no call. -/
def evOp (P : Program) (s : St) (op : Op) : Ans :=
  match op with
  | .move x | .assign x => opt (s.ev x) fun v => val v s.heap
  | .alloc t => opt (zeroA P t) fun z => newBlock z.cells s.heap
  | .box _ x => opt (s.ev x) fun v => newBlock v.cells s.heap
  | .build t parts => opt (zeroA P t) fun z => opt (evParts s parts.toList) fun ps =>
    match P.underlying t with
    | some (.struct fields) => opt (placesA P fields.toList) fun pl => opt (fillA (fun i => pl[i]?) z.cells ps) fun cs => val (.agg cs) s.heap
    | some (.array _ elem) => opt (sizeA P elem) fun size => opt (fillA (fun i => some (i * size, size)) z.cells ps) fun cs => val (.agg cs) s.heap
    | _ => .bad
  | .load t x => opt (s.ev x) fun v => match v with
    | .ptr (some (b, o)) => opt (loadA P t b o s.heap) fun r => val r s.heap
    | _ => .bad
  | .store t x y => opt (s.ev x) fun v => opt (s.ev y) fun u => match v with
    | .ptr (some (b, o)) => match storeA P t b o u s.heap with | some h => val .undef h | none => .bad
    | _ => .bad
  | .nilCheck x => opt (s.ev x) fun v => match v with
    | .ptr (some a) => val (.ptr (some a)) s.heap
    | _ => .bad
  | .binOp op t x y _ => opt (s.ev x) fun a => opt (s.ev y) fun b =>
    match op, a, b with
    | .shl, .int k l n, .int _ m j => shiftInt .shl k l n m j s.heap
    | .shr, .int k l n, .int _ m j => shiftInt .shr k l n m j s.heap
    | op, .int k l n, .int k' m j => if k = k' then binInt op k l n m j s.heap else .bad
    | .eql, a, b => if P.eqGuardType P.depth t then .bad else match eqA P Op.maxDepth t a b with | some (l, c) => val (.bool l c) s.heap | none => .bad
    | .neq, a, b => if P.eqGuardType P.depth t then .bad else match eqA P Op.maxDepth t a b with | some (l, c) => val (.bool l (!c)) s.heap | none => .bad
    | _, _, _ => .bad
  | .unOp op _ x => opt (s.ev x) fun a => match op, a with
    | .neg, .int k l n => val (.int k l (k.wrap (0 - n))) s.heap
    | .xor, .int k l n => val (.int k l (Go.bits .xor k (if k.signed then -1 else k.max) n)) s.heap
    | .not, .bool l b => val (.bool l (!b)) s.heap
    | _, _ => .bad
  | .convert src dst x => opt (s.ev x) fun a => opt (convA P src dst a) fun v => val v s.heap
  | .makeInterface t x => opt (s.ev x) fun a => match P.underlying t with
    | some (.interface _) => .bad
    | some _ => val (.iface t a) s.heap
    | none => .bad
  | .makeFunc fn first captured => opt (s.evs first.toList) fun f => opt (s.evs captured.toList) fun c => match fn with
    | .func g => val (.func (.func g) f c) s.heap
    | _ => .bad
  | .buildSlice t len parts => opt (evParts s parts.toList) fun ps => match P.underlying t with
    | some (.slice elem) => opt (sizeA P elem) fun size => opt (zeroA P elem) fun z =>
      if len * size > 2 ^ 24 ∨ len * size = 0 ∨ z.cells.length = 0 then .bad else
      opt (fillA (fun i => some (i * size, size)) ((List.range (len * size)).map fun i => (z.cells[i % z.cells.length]?).getD .undef) ps) fun cs =>
        .leaf (.slice (some (s.heap.length, 0)) len len, s.heap ++ [cs])
    | _ => .bad
  | .fieldAddr t x f => opt (s.ev x) fun v => match v, P.underlying t with
    | .ptr (some (b, o)), some (.struct fields) => match fields[f]? with
      | some fd => opt (sizeA P fd.type) fun n => if n = 0 then .bad else val (.ptr (some (b, o + fd.offset))) s.heap
      | none => .bad
    | _, _ => .bad
  | .field t x f => opt (s.ev x) fun v => match v, P.underlying t with
    | .agg cs, some (.struct fields) => match fields[f]? with
      | some fd => opt (partA P fd.type cs fd.offset) fun r => val r s.heap
      | none => .bad
    | _, _ => .bad
  | .indexAddr t x i => opt (s.ev x) fun v => opt (s.ev i) fun i => opt (litIx i) fun n =>
    match P.underlying t, v with
    | some (.array len elem), .ptr (some (b, o)) => opt (sizeA P elem) fun size =>
      if 0 ≤ n ∧ n < (len : Int) then val (.ptr (some (b, o + n.toNat * size))) s.heap else .bad
    | some (.slice elem), .slice (some (b, o)) len _ => opt (sizeA P elem) fun size =>
      if 0 ≤ n ∧ n < (len : Int) then val (.ptr (some (b, o + n.toNat * size))) s.heap else .bad
    | _, _ => .bad
  | .index t x i => opt (s.ev x) fun v => opt (s.ev i) fun i => opt (litIx i) fun n =>
    match P.underlying t, v with
    | some (.array len elem), .agg cs => opt (sizeA P elem) fun size =>
      if 0 ≤ n ∧ n < (len : Int) then opt (partA P elem cs (n.toNat * size)) fun r => val r s.heap else .bad
    | _, _ => .bad
  | .slice t x none none none => opt (s.ev x) fun v => match P.underlying t, v with
    | some (.array n e), .ptr (some (b, o)) => opt (sizeA P e) fun _ => val (.slice (some (b, o)) n n) s.heap
    | some (.slice e), .slice a n k => opt (sizeA P e) fun _ => val (.slice a n k) s.heap
    | _, _ => .bad
  | .extract x i => opt (s.ev x) fun v => match v with
    | .tuple vs => opt vs[i]? fun r => val r s.heap
    | _ => .bad
  | .typeAssert x _ t ok => opt (s.ev x) fun v => match P.underlying t, v with
    | some (.interface _), _ => .bad
    | some _, .iface u w => if t = u then val (if ok then .tuple [w, .bool true true] else w) s.heap
        else if ok then opt (zeroA P t) fun z => val (.tuple [z, .bool true false]) s.heap else .bad
    | some _, .nilIface => if ok then opt (zeroA P t) fun z => val (.tuple [z, .bool true false]) s.heap else .bad
    | _, _ => .bad
  | _ => .bad

/-- What calls do: 'f', arguments, memory. -/
abbrev CallA := FuncId → List AV → AH → Ans

mutual
/-- Does a value lead to no block? -/
def pureAV : AV → Bool
  | .ptr (some _) => false
  | .slice (some _) _ _ => false
  | .func _ f c => pureL f && pureL c
  | .iface _ x => pureAV x
  | .agg cs => pureL cs
  | .tuple cs => pureL cs
  | _ => true
def pureL : List AV → Bool
  | [] => true
  | x :: xs => pureAV x && pureL xs
end

/-- A call whose arguments and answer lead to no block. -/
def callPure (call : CallA) : CallA := fun f args h =>
  match pureL args with
  | true => (call f args []).bind fun r => match pureAV r.1 with | true => .leaf (r.1, h) | false => .bad
  | false => .bad

def callAny (call : CallA) : CallA := fun f args h =>
  match pureL args with
  | true => (call f args []).bind fun r => match pureAV r.1 with | true => .leaf (r.1, h) | false => call f args h
  | false => call f args h

def evCallOp (P : Program) (call : CallA) (s : St) (c : Call) : Ans :=
  opt (s.evs c.args.toList) fun args =>
  match c.callee with
  | .value f => opt (s.ev f) fun v => match v with
    | .func (.func g) first captured => call g ((first ++ args) ++ captured) s.heap
    | _ => .bad
  | .builtin .len => match c.argTypes[0]?, args with
    | some t, [x] => opt (lenA P t x) fun v => val v s.heap
    | _, _ => .bad
  | .builtin .min => match args with
    | x :: r => opt (minmax false x r) fun v => val v s.heap
    | _ => .bad
  | .builtin .max => match args with
    | x :: r => opt (minmax true x r) fun v => val v s.heap
    | _ => .bad
  | _ => .bad

def evOper (P : Program) (call : CallA) (s : St) (o : Oper) : Ans :=
  match o.op with
  | .call c => evCallOp P call s c
  | op => evOp P s op

/-- Decisions on slots that hold bools. -/
abbrev Dec := List (Tmp × Bool)

/-- What a slot's bool is, by what has been decided; else its two sides. -/
def ask {α : Type} (d : Dec) (t : Tmp) (v : AV) (k : Dec → Bool → Tr α) : Tr α :=
  match d.lookup t with
  | some b => k d b
  | none => match v with
    | .bool true b => k d b
    | .bool false b => .node b (k ((t, true) :: d) true) (k ((t, false) :: d) false)
    | _ => .bad

def Dec.drop (d : Dec) (t : Option Tmp) : Dec := match t with | some t => d.filter (fun p => p.1 != t) | none => d

/-- Operations, one behind the other, each by 'exec'. -/
def evOps (exec : St → Oper → Ans) (ops : Array Oper) : List Oper → Dec → St → Tr St
  | [], _, s => .leaf s
  | o :: rest, d, s =>
    let go (d : Dec) (b : Bool) : Tr St :=
      match b with
      | true => match o.op with
        | .pick c x y => match c with
          | .tmp t => ask d t (s.tmps.getD t .undef) fun d b => match (if b = true then s.ev x else s.ev y) with
            | some v => evOps exec ops rest (d.drop o.dst) ⟨put s.tmps o.dst v, s.heap⟩
            | none => .bad
          | _ => .bad
        | _ => (exec s o).bind fun r => evOps exec ops rest (d.drop o.dst) ⟨put s.tmps o.dst r.1, r.2⟩
      | false => evOps exec ops rest (d.drop o.dst) ⟨put s.tmps o.dst .undef, s.heap⟩
    match o.guard with
    | none => go d true
    | some (j, want) => match (ops[j]?).bind (·.dst) with
      | some t => match s.tmps.getD t .undef with
        | .bool l b => ask d t (.bool l b) fun d b => go d (b == want)
        | _ => go d false
      | none => go d false

/-! ### regions that draw their order -/

/-- For whom an operation waits, if those ahead wait for 'acc': bits. -/
def maskOf (acc : List Nat) (o : Oper) : Nat := o.after.toList.foldl (fun s e => if Region.binds .any e = true then s ||| 2 ^ e.on ||| acc.getD e.on 0 else s) 0

def masksFrom : List Oper → List Nat → List Nat
  | [], acc => acc
  | o :: r, acc => masksFrom r (acc ++ [maskOf acc o])

def masks (ops : Array Oper) : List Nat := masksFrom ops.toList []

/-- Does operation 'i' wait for all ahead of it? -/
def waitsAll (ms : List Nat) (i : Nat) : Bool := (List.range i).all fun j => (ms.getD i 0).testBit j

/-- How many operations float: behind them each waits for all. -/
def floatsGo (ms : List Nat) : Nat → Nat
  | 0 => 0
  | n + 1 => if waitsAll ms n = true then floatsGo ms n else n + 1

def floats (ops : Array Oper) : Nat := floatsGo (masks ops) ops.size

def tmpOf : Operand → Option Tmp | .tmp t => some t | _ => none

/-- The slots that an operation looks at. -/
def looks (ops : Array Oper) (o : Oper) : List Tmp :=
  (o.op.operands.toList.filterMap tmpOf) ++ (match o.guard with | some (j, _) => ((ops[j]?).bind (·.dst)).toList | none => [])

def isSelect : Op → Bool | .select .. => true | _ => false

/-- What is asked of the operations that float: whoever looks at a slot that another one writes waits for it; no two write one slot; edges lead back. -/
def floatOk (ops : Array Oper) (ms : List Nat) (m i : Nat) (o : Oper) : Bool :=
  (List.range m).all fun j => match ops[j]? with
    | none => false
    | some o' => match o'.dst with
      | none => true
      | some d => (!(looks ops o).contains d || (ms.getD i 0).testBit j) && (i == j || o.dst != some d)

def floatsOk (ops : Array Oper) (m : Nat) : Bool :=
  let ms := masks ops
  decide (m ≤ ops.size) && (List.range ops.size).all (fun i => match ops[i]? with
    | none => false
    | some o => !isSelect o.op && o.after.toList.all (fun e => !Region.binds .any e || decide (e.on < i)) &&
      (if i < m then floatOk ops ms m i o else waitsAll ms i))

def isAlloc : Op → Bool
  | .alloc _ | .box .. | .buildSlice .. => true
  | _ => false

def isReader : Op → Bool
  | .move _ | .assign _ | .build .. | .load .. | .nilCheck _ | .binOp .. | .unOp .. | .convert .. | .makeInterface .. | .makeFunc .. | .fieldAddr .. | .field ..
  | .indexAddr .. | .index .. | .slice .. | .extract .. | .typeAssert .. => true
  | _ => false

/-- An operation that floats: it reads the memory that there was ('h0'), or lays a block. -/
def execF (P : Program) (call0 : CallA) (h0 : AH) (s : St) (o : Oper) : Ans :=
  if isAlloc o.op then evOp P s o.op
  else if isReader o.op then (evOp P ⟨s.tmps, h0⟩ o.op).bind fun r => .leaf (r.1, s.heap)
  else match o.op with
    | .call c => (evCallOp P call0 ⟨s.tmps, h0⟩ c).bind fun r => .leaf (r.1, s.heap)
    | _ => .bad

/-- How a piece of code is left. -/
inductive Ex where
  | normal
  | exit (id : Nat)
  | ret

/-- A loop, some rounds of it at the most. -/
def loopIter (body : St → Tr (Ex × St)) : Nat → St → Tr (Ex × St)
  | 0, _ => .bad
  | n + 1, s => (body s).bind fun r => match r.1 with
    | .normal => loopIter body n r.2
    | e => .leaf (e, r.2)

/-- Pieces of code (by their block's number) of which it is known what they do. -/
abbrev Known := Nat → Option (St → Tr (Ex × St))

def evCode (P : Program) (call : CallA) (L : Nat) (O : Known) : Code → St → Tr (Ex × St)
  | .skip, s => .leaf (.normal, s)
  | .label _, s => .leaf (.normal, s)
  | .region _ ops false, s => (evOps (evOper P (callAny call)) ops ops.toList [] s).bind fun s => .leaf (.normal, s)
  | .region _ ops true, s => match floatsOk ops (floats ops) with
    | true => (evOps (execF P (callPure call) s.heap) ops (ops.toList.take (floats ops)) [] s).bind fun s =>
        (evOps (evOper P (callAny call)) ops (ops.toList.drop (floats ops)) [] s).bind fun s => .leaf (.normal, s)
    | false => .bad
  | .seq a b, s => (evCode P call L O a s).bind fun r => match r.1 with
    | .normal => evCode P call L O b r.2
    | e => .leaf (e, r.2)
  | .cond c a b, s => match s.ev c with
    | some (.bool true true) => evCode P call L O a s
    | some (.bool true false) => evCode P call L O b s
    | some (.bool false t) => .node t (evCode P call L O a s) (evCode P call L O b s)
    | _ => .bad
  | .block id a, s => match O id with
    | some X => X s
    | none => (evCode P call L O a s).bind fun r => match r.1 with
      | .exit j => .leaf (if j = id then .normal else .exit j, r.2)
      | e => .leaf (e, r.2)
  | .loop a, s => loopIter (evCode P call L O a) L s
  | .exit id, s => .leaf (.exit id, s)
  | .ret, s => .leaf (.ret, s)
  | _, _ => .bad

def readResults (P : Program) (s : St) : List ResultVar → Option (List AV)
  | [] => some []
  | .tmp t :: r => match readResults P s r with | some l => some (s.tmps.getD t .undef :: l) | none => none
  | .cell a t :: r => match s.tmps.getD a .undef with
    | .ptr (some (b, o)) => match loadA P t b o s.heap, readResults P s r with | some v, some l => some (v :: l) | _, _ => none
    | _ => none

def bodyA (P : Program) (call : CallA) (L : Nat) (O : Known) (fn : Func) (args : List AV) (h : AH) : Ans :=
  match fn.body with
  | some c => (evCode P call L O c ⟨args ++ List.replicate (fn.ntmps - args.length) .undef, h⟩).bind fun r => match r.1 with
    | .exit _ => .bad
    | _ => match readResults P r.2 fn.results.toList with
      | some [v] => .leaf (v, r.2.heap)
      | some l => .leaf (.tuple l, r.2.heap)
      | none => .bad
  | none => .bad

/-- Functions of which it is known what they give, by their arguments alone. -/
abbrev Table := FuncId → List AV → Option (Tr AV)

def evTable (T : Table) : CallA := fun f args h => match T f args with | some t => t.bind fun v => val v h | none => .bad

def evCall (P : Program) (T : Table) (L : Nat) : Nat → CallA
  | 0 => evTable T
  | n + 1 => fun f args h => match T f args with
    | some t => t.bind fun v => val v h
    | none => match P.funcs[f]? with
      | some fn => bodyA P (evCall P T L n) L (fun _ => none) fn args h
      | none => .bad

/-- A function's own body, with pieces that are known. -/
def evFun (P : Program) (T : Table) (L n : Nat) (O : Known) (f : FuncId) (args : List AV) (h : AH) : Ans :=
  match P.funcs[f]? with
  | some fn => bodyA P (evCall P T L n) L O fn args h
  | none => .bad

end Go.Sky
