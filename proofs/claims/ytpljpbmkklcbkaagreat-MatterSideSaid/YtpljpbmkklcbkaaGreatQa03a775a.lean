/- A deterministic evaluator of loaded Go code on tagged values: definitions. -/
import Derived.Orders
import Derived.LoopN
import Derived.Below
import Derived.KernelRfl
import Derived.Laws.Cells
import Derived.Laws.Rows
import Derived.Laws.StructEq
namespace Go.Sky

/-- A tree of outcomes: a test's two sides, an answer, or nothing that is served. -/
inductive Tr (α : Type) where
  | leaf (a : α)
  | bad
  | node (b : Bool) (t e : Tr α)

def Tr.run {α : Type} : Tr α → Option α
  | .leaf a => some a
  | .bad => none
  | .node b t e => if b = true then t.run else e.run

def Tr.bind {α β : Type} : Tr α → (α → Tr β) → Tr β
  | .leaf a, k => k a
  | .bad, _ => .bad
  | .node b t e, k => .node b (t.bind k) (e.bind k)

theorem Tr.run_bind {α β : Type} (t : Tr α) (k : α → Tr β) : (t.bind k).run = t.run.bind fun a => (k a).run := by
  induction t with
  | leaf a => rfl
  | bad => rfl
  | node b t e iht ihe => simp only [Tr.bind, Tr.run]; split <;> assumption

/-- What is told of cells that stay as they are. -/
inductive Dat where
  | int (n : Int)
  | bool (b : Bool)
  | str (s : ByteArray)
  | list (l : List Dat)
  deriving Inhabited

/-- How cells are told: one of a kind, a slice, or some one behind the other. -/
inductive Sh where
  | int (k : IntKind)
  | bool
  | str
  | list (e : Sh)
  | nil
  | cons (h t : Sh)

def Dat.toInt : Dat → Int | .int n => n | _ => 0
def Dat.toBool : Dat → Bool | .bool b => b | _ => false
def Dat.toStr : Dat → ByteArray | .str s => s | _ => .empty
def Dat.items : Dat → List Dat | .list l => l | _ => []
def Dat.head (d : Dat) : Dat := d.items.headD (.list [])
def Dat.tail (d : Dat) : Dat := .list d.items.tail

def Sh.size : Sh → Nat
  | .nil => 0
  | .cons h t => h.size + t.size
  | _ => 1

/-- A value: numbers and bools say whether they are written out ('lit'). -/
inductive AV where
  | bool (lit : Bool) (b : Bool)
  | int (k : IntKind) (lit : Bool) (n : Int)
  | str (lit : Bool) (s : ByteArray)
  | ptr (a : Option (Nat × Nat))
  | slice (a : Option (Nat × Nat)) (len cap : Nat)
  | func (fn : Fn) (first captured : List AV)
  | nilFunc
  | iface (t : TypeId) (v : AV)
  | nilIface
  | agg (cs : List AV)
  | tuple (vs : List AV)
  /-- A value of one cell of which nothing is known any more. -/
  | junk
  /-- An address of cells that stay as they are: the cells, and the place among them. -/
  | fptr (cs : List AV) (o : Nat)
  /-- A slice whose cells stay as they are. -/
  | list (e : Sh) (l : List Dat)
  deriving Inhabited

abbrev AV.undef : AV := .tuple []

/-- Cells that are told, as values. -/
def seeC : Sh → Dat → List AV
  | .int k, d => [.int k false d.toInt]
  | .bool, d => [.bool false d.toBool]
  | .str, d => [.str false d.toStr]
  | .list e, d => [.list e d.items]
  | .nil, _ => []
  | .cons h t, d => seeC h d.head ++ seeC t d.tail

def AV.cells : AV → List AV
  | .agg cs => cs
  | v => [v]

/-- Memory of the evaluator's own: blocks of cells. -/
abbrev AH := List (List AV)

structure St where
  tmps : List AV
  heap : AH

/-- A number of its kind. -/
def InR (k : IntKind) (n : Int) : Prop := k.min ≤ n ∧ n ≤ k.max
instance (k : IntKind) (n : Int) : Decidable (InR k n) := inferInstanceAs (Decidable (_ ∧ _))

mutual
def ofConst : Value → Option AV
  | .bool b => some (.bool true b)
  | .int k n => if InR k n then some (.int k true n) else none
  | .string s => some (.str true s)
  | .pointer none => some (.ptr none)
  | .slice none n k => some (.slice none n k)
  | .nilFunc => some .nilFunc
  | .nilIface => some .nilIface
  | .agg ⟨cs⟩ => match ofConstL cs with | some l => some (.agg l) | none => none
  | .tuple ⟨cs⟩ => match ofConstL cs with | some l => some (.tuple l) | none => none
  | _ => none
def ofConstL : List Value → Option (List AV)
  | [] => some []
  | v :: vs => match ofConst v with
    | some a => match ofConstL vs with | some l => some (a :: l) | none => none
    | none => none
end

def St.ev (s : St) : Operand → Option AV
  | .tmp t => some (s.tmps.getD t .undef)
  | .const v => ofConst v
  | .global _ => none
  | .func f => some (.func (.func f) [] [])

def St.evs (s : St) : List Operand → Option (List AV)
  | [] => some []
  | x :: xs => match s.ev x with
    | some a => match s.evs xs with | some l => some (a :: l) | none => none
    | none => none

def put (l : List AV) (d : Option Tmp) (v : AV) : List AV := match d with | some d => l.set d v | none => l

/-- What an operation leaves: a value, and memory. -/
abbrev Ans := Tr (AV × AH)

def val (v : AV) (h : AH) : Ans := .leaf (v, h)

def newBlock (cs : List AV) (h : AH) : Ans := .leaf (.ptr (some (h.length, 0)), h ++ [cs])

/-! ### numbers -/

def cmpInt (op : BinOp) (x y : Int) : Option Bool :=
  match op with
  | .eql => some (x == y)
  | .neq => some (x != y)
  | .lss => some (decide (x < y))
  | .leq => some (decide (x ≤ y))
  | .gtr => some (decide (x > y))
  | .geq => some (decide (x ≥ y))
  | _ => none

def isBits : BinOp → Bool
  | .and | .or | .xor | .andNot => true
  | _ => false

/-- Behind a test that must not hold. -/
def barred (lit b : Bool) (t : Ans) : Ans := match lit with
  | true => match b with | true => .bad | false => t
  | false => .node b .bad t

def binInt (op : BinOp) (k : IntKind) (l1 : Bool) (x : Int) (l2 : Bool) (y : Int) (h : AH) : Ans :=
  match op with
  | .add => val (.int k (l1 && l2) (k.wrap (x + y))) h
  | .sub => val (.int k (l1 && l2) (k.wrap (x - y))) h
  | .mul => val (.int k (l1 && l2) (k.wrap (x * y))) h
  | .quo => barred l2 (decide (y = 0)) (val (.int k (l1 && l2) (k.wrap (x.tdiv y))) h)
  | .rem => barred l2 (decide (y = 0)) (val (.int k (l1 && l2) (x.tmod y)) h)
  | op => match isBits op with
    | true => val (.int k (l1 && l2) (Go.bits op k x y)) h
    | false => match cmpInt op x y with
      | some b => val (.bool (l1 && l2) b) h
      | none => .bad

def shiftInt (op : BinOp) (k : IntKind) (l1 : Bool) (x : Int) (l2 : Bool) (y : Int) (h : AH) : Ans :=
  match op with
  | .shl => barred l2 (decide (y < 0)) (val (.int k (l1 && l2) (k.wrap (x * 2 ^ (min y.toNat k.bits)))) h)
  | .shr => barred l2 (decide (y < 0)) (val (.int k (l1 && l2) (x.fdiv (2 ^ (min y.toNat k.bits)))) h)
  | _ => .bad

/-- '==' of values of one type whose parts are numbers, bools and strings. -/
def eqA (P : Program) : Nat → TypeId → AV → AV → Option (Bool × Bool)
  | 0, _, _, _ => none
  | d + 1, t, x, y =>
    match P.underlying t, x, y with
    | some .bool, .bool l a, .bool m b => some (l && m, a == b)
    | some (.int _), .int k l a, .int k' m b => if k = k' then some (l && m, a == b) else none
    | some .string, .str l a, .str m b => some (l && m, a.toList == b.toList)
    | some (.pointer _), .ptr none, .ptr b => some (true, b.isNone)
    | some (.pointer _), .ptr _, .ptr none => some (true, false)
    | some (.func _ _ _), .nilFunc, .nilFunc => some (true, true)
    | some (.func _ _ _), .nilFunc, .func _ _ _ => some (true, false)
    | some (.func _ _ _), .func _ _ _, .nilFunc => some (true, false)
    | some (.slice _), .slice none _ _, .slice b _ _ => some (true, b.isNone)
    | some (.slice _), .slice _ _ _, .slice none _ _ => some (true, false)
    | some (.struct fields), .agg xs, .agg ys =>
      if P.stoodInHeld t then none else
      fields.toList.foldr (fun f acc =>
        if f.name = "_" then acc else
        match part P f.type xs f.offset, part P f.type ys f.offset, acc with
        | some a, some b, some (l, r) => match eqA P d f.type a b with
          | some (m, c) => some (m && l, c && r)
          | none => none
        | _, _, _ => none) (some (true, true))
    | _, _, _ => none
where
  part (P : Program) (t : TypeId) (cs : List AV) (off : Nat) : Option AV :=
    match P.info? t, P.underlying t with
    | some i, some (.struct _) => some (.agg ((cs.take (off + i.size)).drop off))
    | some i, some (.array _ _) => some (.agg ((cs.take (off + i.size)).drop off))
    | some _, some _ => cs[off]?
    | _, _ => none

abbrev partA := eqA.part

def fillA (place : Nat → Option (Nat × Nat)) (cells : List AV) : List (Nat × AV) → Option (List AV)
  | [] => some cells
  | (i, v) :: rest =>
    match place i with
    | none => none
    | some (off, size) =>
      if v.cells.length ≠ size ∨ off + v.cells.length > cells.length then none
      else fillA place (setFrom cells off v.cells) rest
where
  setFrom (cells : List AV) (off : Nat) : List AV → List AV
    | [] => cells
    | c :: cs => setFrom (cells.set off c) (off + 1) cs

def zeroA (P : Program) (t : TypeId) : Option AV :=
  match P.info? t with
  | some i => match i.zero with | some z => ofConst z | none => none
  | none => none

def sizeA (P : Program) (t : TypeId) : Option Nat := (P.info? t).map (·.size)

/-- Where a struct's fields lie, and how great they are. -/
def placesA (P : Program) : List Field → Option (List (Nat × Nat))
  | [] => some []
  | f :: fs => match sizeA P f.type with
    | some n => match placesA P fs with | some l => some ((f.offset, n) :: l) | none => none
    | none => none

def isAggA (P : Program) (t : TypeId) : Option Bool :=
  match P.underlying t with
  | some (.struct _) => some true
  | some (.array _ _) => some true
  | some _ => some false
  | none => none

def loadA (P : Program) (t : TypeId) (b o : Nat) (h : AH) : Option AV :=
  match h[b]?, isAggA P t, sizeA P t with
  | some cs, some true, some n => if o + n ≤ cs.length then some (.agg ((cs.take (o + n)).drop o)) else none
  | some cs, some false, _ => cs[o]?
  | _, _, _ => none

def storeA (P : Program) (t : TypeId) (b o : Nat) (v : AV) (h : AH) : Option AH :=
  match h[b]?, sizeA P t with
  | some cs, some n =>
    if v.cells.length = n ∧ o + n ≤ cs.length ∧ v.cells.all (fun c => match c with | .agg _ => false | .tuple _ => false | _ => true) then some (h.set b (fillA.setFrom cs o v.cells)) else none
  | _, _ => none

/-- One of a list: nothing is read beside it. -/
def pick (e : Sh) (l : List Dat) (n : Int) (k : AV → Ans) : Ans :=
  .node (decide (0 ≤ n ∧ n < (l.length : Int))) (k (.fptr (seeC e (l.getD n.toNat (.list []))) 0)) .bad

def opt {α : Type} (x : Option α) (k : α → Ans) : Ans := match x with | some a => k a | none => .bad

def evParts (s : St) : List (Nat × Operand) → Option (List (Nat × AV))
  | [] => some []
  | (i, x) :: r => match s.ev x with
    | some a => match evParts s r with | some l => some ((i, a) :: l) | none => none
    | none => none

/-- The greater, or the lesser one. -/
def mm (isMax : Bool) (x y : Int) : Int := if isMax then (if y > x then y else x) else (if y < x then y else x)

/-- Numbers of one kind. -/
def minmax (isMax : Bool) : AV → List AV → Option AV
  | acc, [] => some acc
  | .int k l x, .int k' m y :: r => if k = k' then
    minmax isMax (.int k (l && m) (mm isMax x y)) r else none
  | _, _ => none

def lenA (P : Program) (t : TypeId) (x : AV) : Option AV :=
  match P.underlying t, x with
  | some (.array n _), _ => if InR .i64 n then some (.int .i64 true n) else none
  | some (.slice _), .slice _ n _ => if InR .i64 n then some (.int .i64 true n) else none
  | some (.slice _), .list _ l => some (.int .i64 false (l.length : Int))
  | _, _ => none

def convA (P : Program) (src dst : TypeId) (x : AV) : Option AV :=
  match P.underlying src, P.underlying dst, x with
  | some _, some (.int k), .int _ l n => some (.int k l (k.wrap n))
  | _, _, _ => none

/-- The function that a method's name calls at a type, if the receiver is handed on as it is. -/
def methodA (P : Program) (t : TypeId) (name : String) : Option FuncId :=
  match P.info? t, P.underlying t with
  | some i, some d => match i.methods.find? (·.name == name) with
    | some m => match m.path.toList, m.func with
      | [], some (f, pr) => match d, pr with
        | .pointer _, true => some f
        | .pointer _, false => none
        | _, true => none
        | _, false => some f
      | _, _ => none
    | none => none
  | _, _ => none

/-- An index that is written out. -/
def litIx : AV → Option Int
  | .int _ true n => some n
  | _ => none

def isConstO : Operand → Bool
  | .const _ => true
  | _ => false

/-- An interface's value against the literal nil. -/
def nilCmp (P : Program) (op : BinOp) (t : TypeId) (x y : Operand) (a b : AV) : Option Bool :=
  match a, b with
  | .iface _ _, .nilIface => match P.underlying t, op with
    | some (.interface _), .eql => some false
    | some (.interface _), .neq => some true
    | _, _ => none
  | .nilIface, .nilIface => match isConstO x || isConstO y with
    | true => match P.underlying t, op with
      | some (.interface _), .eql => some true
      | some (.interface _), .neq => some false
      | _, _ => none
    | false => none
  | _, _ => none

/-- One operation that is no call. -/
def evOp (P : Program) (s : St) (op : Op) : Ans :=
  match op with
  | .move x | .assign x => opt (s.ev x) fun v => val v s.heap
  | .alloc t => opt (zeroA P t) fun z => newBlock z.cells s.heap
  | .box _ x => opt (s.ev x) fun v => newBlock v.cells s.heap
  | .build t parts => opt (zeroA P t) fun z => opt (evParts s parts.toList) fun ps =>
    match P.underlying t with
    | some (.struct fields) => opt (placesA P fields.toList) fun pl => opt (fillA (fun i => pl[i]?) z.cells ps) fun cs => val (.agg cs) s.heap
    | some (.array _ elem) => opt (sizeA P elem) fun size => opt (fillA (fun i => some (i * size, size)) z.cells ps) fun cs => val (.agg cs) s.heap
    | _ => .bad
  | .load t x => opt (s.ev x) fun v => match v with
    | .ptr (some (b, o)) => opt (loadA P t b o s.heap) fun r => val r s.heap
    | .fptr cs o => opt (loadA P t 0 o [cs]) fun r => val r s.heap
    | _ => .bad
  | .store t x y => opt (s.ev x) fun v => opt (s.ev y) fun u => match v with
    | .ptr (some (b, o)) => match storeA P t b o u s.heap with | some h => val .undef h | none => .bad
    | _ => .bad
  | .nilCheck x => opt (s.ev x) fun v => match v with
    | .ptr (some a) => val (.ptr (some a)) s.heap
    | .fptr cs o => val (.fptr cs o) s.heap
    | .func (.method name) [.iface t x] [] => match methodA P t name with
      | some _ => val (.func (.method name) [.iface t x] []) s.heap
      | none => .bad
    | _ => .bad
  | .binOp op t x y _ => opt (s.ev x) fun a => opt (s.ev y) fun b => match nilCmp P op t x y a b with
    | some c => val (.bool true c) s.heap
    | none => match op, a, b with
    | .shl, .int k l n, .int _ m j => shiftInt .shl k l n m j s.heap
    | .shr, .int k l n, .int _ m j => shiftInt .shr k l n m j s.heap
    | op, .int k l n, .int k' m j => if k = k' then binInt op k l n m j s.heap else .bad
    | .eql, a, b => if P.eqGuardType P.depth t then .bad else match eqA P Op.maxDepth t a b with | some (l, c) => val (.bool l c) s.heap | none => .bad
    | .neq, a, b => if P.eqGuardType P.depth t then .bad else match eqA P Op.maxDepth t a b with | some (l, c) => val (.bool l (!c)) s.heap | none => .bad
    | _, _, _ => .bad
  | .unOp op _ x => opt (s.ev x) fun a => match op, a with
    | .neg, .int k l n => val (.int k l (k.wrap (0 - n))) s.heap
    | .xor, .int k l n => val (.int k l (Go.bits .xor k (if k.signed then -1 else k.max) n)) s.heap
    | .not, .bool l b => val (.bool l (!b)) s.heap
    | _, _ => .bad
  | .convert src dst x => opt (s.ev x) fun a => opt (convA P src dst a) fun v => val v s.heap
  | .makeInterface t x => opt (s.ev x) fun a => match P.underlying t with
    | some (.interface _) => .bad
    | some _ => val (.iface t a) s.heap
    | none => .bad
  | .makeFunc fn first captured => opt (s.evs first.toList) fun f => opt (s.evs captured.toList) fun c => match fn with
    | .func g => val (.func (.func g) f c) s.heap
    | .method name => val (.func (.method name) f c) s.heap
    | _ => .bad
  | .buildSlice t len parts => opt (evParts s parts.toList) fun ps => match P.underlying t with
    | some (.slice elem) => opt (sizeA P elem) fun size => opt (zeroA P elem) fun z =>
      if len * size > 2 ^ 24 ∨ len * size = 0 ∨ z.cells.length = 0 then .bad else
      opt (fillA (fun i => some (i * size, size)) ((List.range (len * size)).map fun i => (z.cells[i % z.cells.length]?).getD .undef) ps) fun cs =>
        .leaf (.slice (some (s.heap.length, 0)) len len, s.heap ++ [cs])
    | _ => .bad
  | .fieldAddr t x f => opt (s.ev x) fun v => match v, P.underlying t with
    | .ptr (some (b, o)), some (.struct fields) => match fields[f]? with
      | some fd => opt (sizeA P fd.type) fun n => if n = 0 then .bad else val (.ptr (some (b, o + fd.offset))) s.heap
      | none => .bad
    | .fptr cs o, some (.struct fields) => match fields[f]? with
      | some fd => opt (sizeA P fd.type) fun n => if n = 0 then .bad else val (.fptr cs (o + fd.offset)) s.heap
      | none => .bad
    | _, _ => .bad
  | .field t x f => opt (s.ev x) fun v => match v, P.underlying t with
    | .agg cs, some (.struct fields) => match fields[f]? with
      | some fd => opt (partA P fd.type cs fd.offset) fun r => val r s.heap
      | none => .bad
    | _, _ => .bad
  | .indexAddr t x i => opt (s.ev x) fun v => opt (s.ev i) fun i => match P.underlying t, v, i with
    | some (.slice elem), .list e l, .int _ _ n => opt (sizeA P elem) fun size => if size = e.size then pick e l n fun r => val r s.heap else .bad
    | _, _, _ => opt (litIx i) fun n =>
    match P.underlying t, v with
    | some (.array len elem), .ptr (some (b, o)) => opt (sizeA P elem) fun size =>
      if 0 ≤ n ∧ n < (len : Int) then val (.ptr (some (b, o + n.toNat * size))) s.heap else .bad
    | some (.slice elem), .slice (some (b, o)) len _ => opt (sizeA P elem) fun size =>
      if 0 ≤ n ∧ n < (len : Int) then val (.ptr (some (b, o + n.toNat * size))) s.heap else .bad
    | some (.array len elem), .fptr cs o => opt (sizeA P elem) fun size =>
      if 0 ≤ n ∧ n < (len : Int) then val (.fptr cs (o + n.toNat * size)) s.heap else .bad
    | _, _ => .bad
  | .index t x i => opt (s.ev x) fun v => opt (s.ev i) fun i => opt (litIx i) fun n =>
    match P.underlying t, v with
    | some (.array len elem), .agg cs => opt (sizeA P elem) fun size =>
      if 0 ≤ n ∧ n < (len : Int) then opt (partA P elem cs (n.toNat * size)) fun r => val r s.heap else .bad
    | _, _ => .bad
  | .slice t x none none none => opt (s.ev x) fun v => match P.underlying t, v with
    | some (.array n e), .ptr (some (b, o)) => opt (sizeA P e) fun _ => val (.slice (some (b, o)) n n) s.heap
    | some (.slice e), .slice a n k => opt (sizeA P e) fun _ => val (.slice a n k) s.heap
    | _, _ => .bad
  | .extract x i => opt (s.ev x) fun v => match v with
    | .tuple vs => opt vs[i]? fun r => val r s.heap
    | _ => .bad
  | .typeAssert x _ t ok => opt (s.ev x) fun v => match P.underlying t, v with
    | some (.interface _), _ => .bad
    | some _, .iface u w => if t = u then val (if ok then .tuple [w, .bool true true] else w) s.heap
        else if ok then opt (zeroA P t) fun z => val (.tuple [z, .bool true false]) s.heap else .bad
    | some _, .nilIface => if ok then opt (zeroA P t) fun z => val (.tuple [z, .bool true false]) s.heap else .bad
    | _, _ => .bad
  | _ => .bad

/-- What calls do: 'f', arguments, memory. -/
abbrev CallA := FuncId → List AV → AH → Ans

mutual
/-- Does a value lead to no block? -/
def pureAV : AV → Bool
  | .ptr (some _) => false
  | .slice (some _) _ _ => false
  | .func _ f c => pureL f && pureL c
  | .iface _ x => pureAV x
  | .agg cs => pureL cs
  | .tuple cs => pureL cs
  | .fptr cs _ => pureL cs
  | _ => true
def pureL : List AV → Bool
  | [] => true
  | x :: xs => pureAV x && pureL xs
end

mutual
/-- Does a value lead nowhere at all? -/
def solid : AV → Bool
  | .ptr (some _) => false
  | .slice (some _) _ _ => false
  | .func _ f c => solidL f && solidL c
  | .iface _ x => solid x
  | .agg cs => solidL cs
  | .tuple cs => solidL cs
  | .fptr _ _ => false
  | .list _ _ => false
  | _ => true
def solidL : List AV → Bool
  | [] => true
  | x :: xs => solid x && solidL xs
end

mutual
/-- A value whose addresses tell what lies there. -/
def frzA (h : AH) : AV → AV
  | .ptr (some (b, o)) => match h[b]? with
    | some cs => .fptr cs o
    | none => .ptr (some (b, o))
  | .func fn f c => .func fn (frzL h f) (frzL h c)
  | .iface t x => .iface t (frzA h x)
  | .agg cs => .agg (frzL h cs)
  | .tuple cs => .tuple (frzL h cs)
  | x => x
def frzL (h : AH) : List AV → List AV
  | [] => []
  | x :: xs => frzA h x :: frzL h xs
end

mutual
/-- The blocks to which a value's own addresses lead. -/
def ptrsA : AV → List Nat
  | .ptr (some (b, _)) => [b]
  | .func _ f c => ptrsL f ++ ptrsL c
  | .iface _ x => ptrsA x
  | .agg cs => ptrsL cs
  | .tuple cs => ptrsL cs
  | _ => []
def ptrsL : List AV → List Nat
  | [] => []
  | x :: xs => ptrsA x ++ ptrsL xs
end

/-- A call that looks at memory, and no more; its answer leads nowhere. -/
def callPure (call : CallA) : CallA := fun f args h =>
  match pureL (frzL h args) with
  | true => (call f (frzL h args) []).bind fun r => match solid r.1 with | true => .leaf (r.1, h) | false => .bad
  | false => .bad

def callAny (call : CallA) : CallA := fun f args h =>
  match pureL args with
  | true => (call f args []).bind fun r => match pureAV r.1 with | true => .leaf (r.1, h) | false => call f args h
  | false => call f args h

def evCallOp (P : Program) (call : CallA) (s : St) (c : Call) : Ans :=
  opt (s.evs c.args.toList) fun args =>
  match c.callee with
  | .value f => opt (s.ev f) fun v => match v with
    | .func (.func g) first captured => call g ((first ++ args) ++ captured) s.heap
    | _ => .bad
  | .invoke recv name => opt (s.ev recv) fun v => match v with
    | .iface t x => opt (methodA P t name) fun f => call f (x :: args) s.heap
    | _ => .bad
  | .builtin .len => match c.argTypes[0]?, args with
    | some t, [x] => opt (lenA P t x) fun v => val v s.heap
    | _, _ => .bad
  | .builtin .min => match args with
    | x :: r => opt (minmax false x r) fun v => val v s.heap
    | _ => .bad
  | .builtin .max => match args with
    | x :: r => opt (minmax true x r) fun v => val v s.heap
    | _ => .bad
  | _ => .bad

def evOper (P : Program) (call : CallA) (s : St) (o : Oper) : Ans :=
  match o.op with
  | .call c => evCallOp P call s c
  | op => evOp P s op

/-- Decisions on slots that hold bools. -/
abbrev Dec := List (Tmp × Bool)

/-- What a slot's bool is, by what has been decided; else its two sides. -/
def ask {α : Type} (d : Dec) (t : Tmp) (v : AV) (k : Dec → Bool → Tr α) : Tr α :=
  match d.lookup t with
  | some b => k d b
  | none => match v with
    | .bool true b => k d b
    | .bool false b => .node b (k ((t, true) :: d) true) (k ((t, false) :: d) false)
    | _ => .bad

def Dec.drop (d : Dec) (t : Option Tmp) : Dec := match t with | some t => d.filter (fun p => p.1 != t) | none => d

/-- Operations, one behind the other, each by 'exec'. -/
def evOps (exec : St → Oper → Ans) (ops : Array Oper) : List Oper → Dec → St → Tr St
  | [], _, s => .leaf s
  | o :: rest, d, s =>
    let go (d : Dec) (b : Bool) : Tr St :=
      match b with
      | true => match o.op with
        | .pick c x y => match c with
          | .tmp t => ask d t (s.tmps.getD t .undef) fun d b => match (if b = true then s.ev x else s.ev y) with
            | some v => evOps exec ops rest (d.drop o.dst) ⟨put s.tmps o.dst v, s.heap⟩
            | none => .bad
          | _ => .bad
        | _ => (exec s o).bind fun r => evOps exec ops rest (d.drop o.dst) ⟨put s.tmps o.dst r.1, r.2⟩
      | false => evOps exec ops rest (d.drop o.dst) ⟨put s.tmps o.dst .undef, s.heap⟩
    match o.guard with
    | none => go d true
    | some (j, want) => match (ops[j]?).bind (·.dst) with
      | some t => match s.tmps.getD t .undef with
        | .bool l b => ask d t (.bool l b) fun d b => go d (b == want)
        | _ => go d false
      | none => go d false

/-! ### regions that draw their order -/

/-- For whom an operation waits, if those ahead wait for 'acc': bits. -/
def maskOf (acc : List Nat) (o : Oper) : Nat := o.after.toList.foldl (fun s e => if Region.binds .any e = true then s ||| 2 ^ e.on ||| acc.getD e.on 0 else s) 0

def masksFrom : List Oper → List Nat → List Nat
  | [], acc => acc
  | o :: r, acc => masksFrom r (acc ++ [maskOf acc o])

def masks (ops : Array Oper) : List Nat := masksFrom ops.toList []

/-- Does operation 'i' wait for all ahead of it? -/
def waitsAll (ms : List Nat) (i : Nat) : Bool := (List.range i).all fun j => (ms.getD i 0).testBit j

/-- How many operations float: behind them each waits for all. -/
def floatsGo (ms : List Nat) : Nat → Nat
  | 0 => 0
  | n + 1 => if waitsAll ms n = true then floatsGo ms n else n + 1

def floats (ops : Array Oper) : Nat := floatsGo (masks ops) ops.size

def tmpOf : Operand → Option Tmp | .tmp t => some t | _ => none

/-- The slots that an operation looks at. -/
def looks (ops : Array Oper) (o : Oper) : List Tmp :=
  (o.op.operands.toList.filterMap tmpOf) ++ (match o.guard with | some (j, _) => ((ops[j]?).bind (·.dst)).toList | none => [])

def isSelect : Op → Bool | .select .. => true | _ => false

/-- What is asked of the operations that float: whoever looks at a slot that another one writes waits for it; no two write one slot; edges lead back. -/
def floatOk (ops : Array Oper) (ms : List Nat) (m i : Nat) (o : Oper) : Bool :=
  (List.range m).all fun j => match ops[j]? with
    | none => false
    | some o' => match o'.dst with
      | none => true
      | some d => (!(looks ops o).contains d || (ms.getD i 0).testBit j) && (i == j || o.dst != some d)

def floatsOk (ops : Array Oper) (m : Nat) : Bool :=
  let ms := masks ops
  decide (m ≤ ops.size) && (List.range ops.size).all (fun i => match ops[i]? with
    | none => false
    | some o => !isSelect o.op && o.after.toList.all (fun e => !Region.binds .any e || decide (e.on < i)) &&
      (if i < m then floatOk ops ms m i o else waitsAll ms i))

def isAlloc : Op → Bool
  | .alloc _ | .box .. | .buildSlice .. => true
  | _ => false

def isReader : Op → Bool
  | .move _ | .assign _ | .build .. | .load .. | .nilCheck _ | .binOp .. | .unOp .. | .convert .. | .makeInterface .. | .makeFunc .. | .fieldAddr .. | .field ..
  | .indexAddr .. | .index .. | .slice .. | .extract .. | .typeAssert .. => true
  | _ => false

def isStore : Op → Bool
  | .store .. => true
  | _ => false

/-- An operation that floats. -/
def execF (P : Program) (call0 : CallA) (s : St) (o : Oper) : Ans :=
  if isAlloc o.op then evOp P s o.op
  else if isReader o.op then (evOp P s o.op).bind fun r => .leaf (r.1, s.heap)
  else if isStore o.op then evOp P s o.op
  else match o.op with
    | .call c => (evCallOp P call0 s c).bind fun r => .leaf (r.1, s.heap)
    | _ => .bad

/-- The block to which an operation's address leads. -/
def accB (s : St) (o : Oper) : Option Nat :=
  let at_ (x : Operand) : Option Nat := match s.ev x with | some (.ptr (some (b, _))) => some b | _ => none
  match o.op with
  | .load _ x => at_ x
  | .store _ x _ => at_ x
  | _ => none

/-- The arguments of a call, all of them. -/
def argsOf (s : St) (c : Call) : List AV :=
  match s.evs c.args.toList with
  | some args => match c.callee with
    | .value f => match s.ev f with
      | some (.func _ first captured) => (first ++ args) ++ captured
      | _ => []
    | .invoke recv _ => match s.ev recv with
      | some (.iface _ x) => x :: args
      | _ => []
    | _ => []
  | none => []

/-- The blocks at which an operation looks by a call. -/
def accR (s : St) (o : Oper) : List Nat := match o.op with | .call c => ptrsL (argsOf s c) | _ => []

/-- Whoever looks at a block that a floating store writes waits for it, or the other way round. -/
def accOk (ops : Array Oper) (m : Nat) (s : St) : Bool :=
  (List.range m).all fun i => match ops[i]? with
    | some o => match isStore o.op with
      | true => match accB s o with
        | some b => (List.range m).all fun j => match Nat.beq i j with
          | true => true
          | false => match ops[j]? with
            | some o' => (match accB s o' with
              | some b' => !(Nat.beq b b') || (((masks ops).getD i 0).testBit j || ((masks ops).getD j 0).testBit i)
              | none => true) && (!((accR s o').any (Nat.beq b)) || (((masks ops).getD i 0).testBit j || ((masks ops).getD j 0).testBit i))
            | none => false
        | none => true
      | false => true
    | none => false

/-- How a piece of code is left. -/
inductive Ex where
  | normal
  | exit (id : Nat)
  | ret

/-- A loop, some rounds of it at the most. -/
def loopIter (body : St → Tr (Ex × St)) : Nat → St → Tr (Ex × St)
  | 0, _ => .bad
  | n + 1, s => (body s).bind fun r => match r.1 with
    | .normal => loopIter body n r.2
    | e => .leaf (e, r.2)

/-- Pieces of code (by their block's number) of which it is known what they do. -/
abbrev Known := Nat → Option (St → Tr (Ex × St))

def evCode (P : Program) (call : CallA) (L : Nat) (O : Known) : Code → St → Tr (Ex × St)
  | .skip, s => .leaf (.normal, s)
  | .label _, s => .leaf (.normal, s)
  | .region _ ops false, s => (evOps (evOper P (callAny call)) ops ops.toList [] s).bind fun s => .leaf (.normal, s)
  | .region _ ops true, s => match floatsOk ops (floats ops) with
    | true => (evOps (execF P (callPure call)) ops (ops.toList.take (floats ops)) [] s).bind fun s => match accOk ops (floats ops) s with
      | true => (evOps (evOper P (callAny call)) ops (ops.toList.drop (floats ops)) [] s).bind fun s => .leaf (.normal, s)
      | false => .bad
    | false => .bad
  | .seq a b, s => (evCode P call L O a s).bind fun r => match r.1 with
    | .normal => evCode P call L O b r.2
    | e => .leaf (e, r.2)
  | .cond c a b, s => match s.ev c with
    | some (.bool true true) => evCode P call L O a s
    | some (.bool true false) => evCode P call L O b s
    | some (.bool false t) => .node t (evCode P call L O a s) (evCode P call L O b s)
    | _ => .bad
  | .block id a, s => match O id with
    | some X => X s
    | none => (evCode P call L O a s).bind fun r => match r.1 with
      | .exit j => .leaf (if j = id then .normal else .exit j, r.2)
      | e => .leaf (e, r.2)
  | .loop a, s => loopIter (evCode P call L O a) L s
  | .exit id, s => .leaf (.exit id, s)
  | .ret, s => .leaf (.ret, s)
  | _, _ => .bad

def readResults (P : Program) (s : St) : List ResultVar → Option (List AV)
  | [] => some []
  | .tmp t :: r => match readResults P s r with | some l => some (s.tmps.getD t .undef :: l) | none => none
  | .cell a t :: r => match s.tmps.getD a .undef with
    | .ptr (some (b, o)) => match loadA P t b o s.heap, readResults P s r with | some v, some l => some (v :: l) | _, _ => none
    | _ => none

def bodyA (P : Program) (call : CallA) (L : Nat) (O : Known) (fn : Func) (args : List AV) (h : AH) : Ans :=
  match fn.body with
  | some c => (evCode P call L O c ⟨args ++ List.replicate (fn.ntmps - args.length) .undef, h⟩).bind fun r => match r.1 with
    | .exit _ => .bad
    | _ => match readResults P r.2 fn.results.toList with
      | some [v] => .leaf (v, r.2.heap)
      | some l => .leaf (.tuple l, r.2.heap)
      | none => .bad
  | none => .bad

/-- Functions of which it is known what they give, by their arguments alone. -/
abbrev Table := FuncId → List AV → Option (Tr AV)

def evTable (T : Table) : CallA := fun f args h => match T f args with | some t => t.bind fun v => val v h | none => .bad

def evCall (P : Program) (T : Table) (L : Nat) : Nat → CallA
  | 0 => evTable T
  | n + 1 => fun f args h => match T f args with
    | some t => t.bind fun v => val v h
    | none => match P.funcs[f]? with
      | some fn => bodyA P (evCall P T L n) L (fun _ => none) fn args h
      | none => .bad

/-- A function's own body, with pieces that are known. -/
def evFun (P : Program) (T : Table) (L n : Nat) (O : Known) (f : FuncId) (args : List AV) (h : AH) : Ans :=
  match P.funcs[f]? with
  | some fn => bodyA P (evCall P T L n) L O fn args h
  | none => .bad

end Go.Sky

/- The evaluator's values against the machine's: the relation, and memory. -/
namespace Go.Sky
open Go.RowKit (Below)

/-- The evaluator's blocks in the machine's memory; the machine's blocks that stay as they are, and from where on such ones come to be. -/
structure Ren where
  own : Nat → Option Nat
  frz : Nat → Option (Array Value)
  base : Nat

instance : CoeFun Ren (fun _ => Nat → Option Nat) := ⟨Ren.own⟩

/-- Blocks that stay as they are lie in memory so. -/
def FOk (F : Nat → Option (Array Value)) (w : World) : Prop := ∀ c cs, F c = some cs → ∃ e, w.heap[c]? = some (.cells cs e (0, 0))

/-- Cells are as told. -/
def CRel (F : Nat → Option (Array Value)) : Sh → Dat → List Value → Prop
  | .int k, d, vs => vs = [.int k d.toInt] ∧ InR k d.toInt
  | .bool, d, vs => vs = [.bool d.toBool]
  | .str, d, vs => vs = [.string d.toStr]
  | .nil, _, vs => vs = []
  | .cons h t, d, vs => ∃ u w, vs = u ++ w ∧ CRel F h d.head u ∧ CRel F t d.tail w
  | .list e, d, vs => ∃ a k, vs = [.slice a d.items.length k] ∧ InR .i64 (d.items.length : Int) ∧ ∀ i x, d.items[i]? = some x → ∃ c o cells, a = some ⟨c, o, none⟩ ∧ φF F c cells ∧ o + (i + 1) * e.size ≤ cells.size ∧
      CRel F e x ((cells.toList.drop (o + i * e.size)).take e.size)
where φF (F : Nat → Option (Array Value)) (c : Nat) (cells : Array Value) : Prop := F c = some cells

/-- A value that leads somewhere. -/
def oneV : Value → Bool
  | .pointer _ => true
  | .slice _ _ _ => true
  | _ => false

mutual
/-- The evaluator's value stands for the machine's, its blocks numbered by 'φ'. -/
def ARel (φ : Ren) : AV → Value → Prop
  | .bool _ b, v => v = .bool b
  | .int k _ n, v => v = .int k n ∧ InR k n
  | .str _ s, v => v = .string s
  | .ptr none, v => v = .pointer none
  | .ptr (some (b, o)), v => ∃ c, φ b = some c ∧ v = .pointer (some ⟨c, o, none⟩)
  | .slice none n k, v => v = .slice none n k
  | .slice (some (b, o)) n k, v => ∃ c, φ b = some c ∧ v = .slice (some ⟨c, o, none⟩) n k
  | .func fn fs cs, v => ∃ fs' cs', v = .func fn fs' cs' ∧ LRel φ fs fs'.toList ∧ LRel φ cs cs'.toList
  | .nilFunc, v => v = .nilFunc
  | .iface t x, v => ∃ y, v = .iface t y ∧ ARel φ x y
  | .nilIface, v => v = .nilIface
  | .agg cs, v => ∃ cs', v = .agg cs' ∧ LRel φ cs cs'.toList
  | .tuple cs, v => ∃ cs', v = .tuple cs' ∧ LRel φ cs cs'.toList
  | .junk, v => oneV v = true
  | .fptr cs o, v => ∃ c base cells, φ.frz c = some cells ∧ v = .pointer (some ⟨c, base + o, none⟩) ∧ base + cs.length ≤ cells.size ∧ LRel φ cs ((cells.toList.drop base).take cs.length)
  | .list e l, v => CRel φ.frz (.list e) (.list l) [v]
def LRel (φ : Ren) : List AV → List Value → Prop
  | [], l => l = []
  | x :: xs, l => ∃ y ys, l = y :: ys ∧ ARel φ x y ∧ LRel φ xs ys
end

structure Ren.le (φ ψ : Ren) : Prop where
  own : ∀ b c, φ b = some c → ψ b = some c
  frz : ∀ c s, φ.frz c = some s → ψ.frz c = some s
  new : ∀ c s, ψ.frz c = some s → φ.frz c = some s ∨ φ.base ≤ c
  base : ψ.base = φ.base
theorem Ren.le_refl (φ : Ren) : φ.le φ := ⟨fun _ _ h => h, fun _ _ h => h, fun _ _ h => .inl h, rfl⟩
theorem Ren.le_trans {φ ψ χ : Ren} (h : φ.le ψ) (k : ψ.le χ) : φ.le χ :=
  ⟨fun b c e => k.own b c (h.own b c e), fun c s e => k.frz c s (h.frz c s e), fun c s e => by
    rcases k.new c s e with g | g
    · exact h.new c s g
    · exact .inr (by rw [← h.base]; exact g), k.base.trans h.base⟩

theorem CRel.mono {F G : Nat → Option (Array Value)} (h : ∀ c s, F c = some s → G c = some s) : ∀ (e : Sh) (d : Dat) (vs : List Value), CRel F e d vs → CRel G e d vs
  | .int _, _, _, e => by simpa only [CRel] using e
  | .bool, _, _, e => by simpa only [CRel] using e
  | .str, _, _, e => by simpa only [CRel] using e
  | .nil, _, _, e => by simpa only [CRel] using e
  | .cons a b, d, vs, e => by
    simp only [CRel] at e ⊢; obtain ⟨u, w, rfl, h1, h2⟩ := e; exact ⟨u, w, rfl, CRel.mono h a _ _ h1, CRel.mono h b _ _ h2⟩
  | .list s, d, vs, e => by
    simp only [CRel] at e ⊢
    obtain ⟨a, k, rfl, h1, h2⟩ := e
    refine ⟨a, k, rfl, h1, fun i x hi => ?_⟩
    obtain ⟨c, o, cells, g1, g2, g3, g4⟩ := h2 i x hi
    exact ⟨c, o, cells, g1, h _ _ g2, g3, CRel.mono h s _ _ g4⟩

mutual
theorem ARel.mono {φ ψ : Ren} (h : φ.le ψ) : ∀ (x : AV) (v : Value), ARel φ x v → ARel ψ x v
  | .bool _ _, _, e => by simpa only [ARel] using e
  | .int _ _ _, _, e => by simpa only [ARel] using e
  | .str _ _, _, e => by simpa only [ARel] using e
  | .ptr none, _, e => by simpa only [ARel] using e
  | .ptr (some (_, _)), _, e => by simp only [ARel] at e ⊢; obtain ⟨c, hc, rfl⟩ := e; exact ⟨c, h.own _ _ hc, rfl⟩
  | .slice none _ _, _, e => by simpa only [ARel] using e
  | .slice (some (_, _)) _ _, _, e => by simp only [ARel] at e ⊢; obtain ⟨c, hc, rfl⟩ := e; exact ⟨c, h.own _ _ hc, rfl⟩
  | .func _ fs cs, _, e => by
    simp only [ARel] at e ⊢; obtain ⟨fs', cs', rfl, h1, h2⟩ := e; exact ⟨fs', cs', rfl, LRel.mono h fs _ h1, LRel.mono h cs _ h2⟩
  | .nilFunc, _, e => by simpa only [ARel] using e
  | .iface _ x, _, e => by simp only [ARel] at e ⊢; obtain ⟨y, rfl, h1⟩ := e; exact ⟨y, rfl, ARel.mono h x y h1⟩
  | .nilIface, _, e => by simpa only [ARel] using e
  | .agg cs, _, e => by simp only [ARel] at e ⊢; obtain ⟨cs', rfl, h1⟩ := e; exact ⟨cs', rfl, LRel.mono h cs _ h1⟩
  | .tuple cs, _, e => by simp only [ARel] at e ⊢; obtain ⟨cs', rfl, h1⟩ := e; exact ⟨cs', rfl, LRel.mono h cs _ h1⟩
  | .junk, _, e => by simpa only [ARel] using e
  | .fptr cs o, _, e => by simp only [ARel] at e ⊢; obtain ⟨c, base, cells, h1, rfl, h2, h3⟩ := e; exact ⟨c, base, cells, h.frz _ _ h1, rfl, h2, LRel.mono h cs _ h3⟩
  | .list s l, _, e => by simp only [ARel] at e ⊢; exact CRel.mono h.frz _ _ _ e
theorem LRel.mono {φ ψ : Ren} (h : φ.le ψ) : ∀ (x : List AV) (v : List Value), LRel φ x v → LRel ψ x v
  | [], _, e => by simpa only [LRel] using e
  | x :: xs, _, e => by
    simp only [LRel] at e ⊢; obtain ⟨y, ys, rfl, h1, h2⟩ := e; exact ⟨y, ys, rfl, ARel.mono h x y h1, LRel.mono h xs ys h2⟩
end

theorem ARel.undef {φ : Ren} : ARel φ .undef Go.undef := by simp [ARel, LRel, Go.undef]

theorem wrap_inR (k : IntKind) (n : Int) : InR k (k.wrap n) := by
  unfold InR
  cases k <;> simp [IntKind.wrap, IntKind.min, IntKind.max, IntKind.bits, IntKind.signed] <;> (try split) <;> omega

/-! ### lists -/

theorem LRel.length {φ : Ren} : ∀ {l : List AV} {m : List Value}, LRel φ l m → l.length = m.length
  | [], _, h => by simp only [LRel] at h; subst h; rfl
  | _ :: xs, _, h => by simp only [LRel] at h; obtain ⟨y, ys, rfl, _, h2⟩ := h; simp [LRel.length h2]

theorem LRel.get {φ : Ren} : ∀ {l : List AV} {m : List Value} {i : Nat} {x : AV}, LRel φ l m → l[i]? = some x → ∃ v, m[i]? = some v ∧ ARel φ x v
  | [], _, i, _, _, e => by simp at e
  | y :: ys, _, 0, x, h, e => by simp only [LRel] at h; obtain ⟨v, vs, rfl, h1, _⟩ := h; simp at e; subst e; exact ⟨v, rfl, h1⟩
  | y :: ys, _, i + 1, x, h, e => by simp only [LRel] at h; obtain ⟨v, vs, rfl, _, h2⟩ := h; simp at e ⊢; exact LRel.get h2 e

theorem LRel.getD {φ : Ren} {l : List AV} {m : Array Value} (i : Nat) (h : LRel φ l m.toList) : ARel φ (l.getD i .undef) (m.getD i Go.undef) := by
  by_cases hi : i < l.length
  · obtain ⟨v, hv, hr⟩ := LRel.get (i := i) h (List.getElem?_eq_getElem hi)
    have : m.getD i Go.undef = v := by
      rw [Array.getElem?_toList] at hv
      simp [Array.getD_eq_getD_getElem?, hv]
    rw [this, List.getD_eq_getElem?_getD, List.getElem?_eq_getElem hi]; exact hr
  · have h2 : ¬ i < m.size := by have := LRel.length h; simp at this; omega
    rw [List.getD_eq_getElem?_getD, List.getElem?_eq_none (by omega), Array.getD_eq_getD_getElem?, Array.getElem?_eq_none (by omega)]
    exact ARel.undef

theorem LRel.set {φ : Ren} {x : AV} {v : Value} (hx : ARel φ x v) : ∀ {l : List AV} {m : List Value} {i : Nat}, LRel φ l m → LRel φ (l.set i x) (m.set i v)
  | [], _, _, h => by simp only [LRel] at h; subst h; simp [LRel]
  | y :: ys, _, 0, h => by simp only [LRel] at h; obtain ⟨u, us, rfl, h1, h2⟩ := h; simp only [List.set, LRel]; exact ⟨v, us, rfl, hx, h2⟩
  | y :: ys, _, i + 1, h => by simp only [LRel] at h; obtain ⟨u, us, rfl, h1, h2⟩ := h; simp only [List.set, LRel]; exact ⟨u, _, rfl, h1, LRel.set hx h2⟩

theorem LRel.append {φ : Ren} : ∀ {l l' : List AV} {m m' : List Value}, LRel φ l m → LRel φ l' m' → LRel φ (l ++ l') (m ++ m')
  | [], _, _, _, h, h' => by simp only [LRel] at h; subst h; simpa using h'
  | y :: ys, _, _, _, h, h' => by simp only [LRel] at h; obtain ⟨u, us, rfl, h1, h2⟩ := h; simp only [List.cons_append, LRel]; exact ⟨u, _, rfl, h1, LRel.append h2 h'⟩

/-- Cells as told are the values that are seen. -/
theorem see_rel {φ : Ren} : ∀ (e : Sh) (d : Dat) (vs : List Value), CRel φ.frz e d vs → LRel φ (seeC e d) vs
  | .int _, d, vs, h => by simp only [CRel] at h; obtain ⟨rfl, h⟩ := h; simp only [seeC, LRel, ARel]; exact ⟨_, _, rfl, ⟨rfl, h⟩, rfl⟩
  | .bool, d, vs, h => by simp only [CRel] at h; subst h; simp only [seeC, LRel, ARel]; exact ⟨_, _, rfl, rfl, rfl⟩
  | .str, d, vs, h => by simp only [CRel] at h; subst h; simp only [seeC, LRel, ARel]; exact ⟨_, _, rfl, rfl, rfl⟩
  | .nil, d, vs, h => by simp only [CRel] at h; subst h; simp only [seeC, LRel]
  | .cons a b, d, vs, h => by
    simp only [CRel] at h; obtain ⟨u, w, rfl, h1, h2⟩ := h
    simp only [seeC]; exact LRel.append (see_rel a _ _ h1) (see_rel b _ _ h2)
  | .list s, d, vs, h => by
    have h0 := h
    simp only [CRel] at h0
    obtain ⟨a, k, rfl, _⟩ := h0
    simp only [seeC, LRel, ARel]
    refine ⟨_, _, rfl, ?_, rfl⟩
    simpa only [CRel, Dat.items] using h

theorem list_val {F : Nat → Option (Array Value)} {e : Sh} {l : List Dat} {v : Value} (h : CRel F (.list e) (.list l) [v]) : ∃ a k, v = .slice a l.length k ∧ InR .i64 (l.length : Int) ∧ ∀ i x, l[i]? = some x → ∃ c o cells, a = some ⟨c, o, none⟩ ∧ F c = some cells ∧ o + (i + 1) * e.size ≤ cells.size ∧
    CRel F e x ((cells.toList.drop (o + i * e.size)).take e.size) := by
  simp only [CRel] at h
  obtain ⟨a, k, h1, h2, h3⟩ := h
  simp only [List.cons.injEq, and_true] at h1
  exact ⟨a, k, h1, h2, h3⟩

theorem seeC_length : ∀ (e : Sh) (d : Dat), (seeC e d).length = e.size
  | .int _, d => rfl
  | .bool, d => rfl
  | .str, d => rfl
  | .nil, d => rfl
  | .cons a b, d => by simp only [seeC, Sh.size, List.length_append, seeC_length a, seeC_length b]
  | .list s, d => rfl

theorem LRel.drop {φ : Ren} : ∀ {l : List AV} {m : List Value} (n : Nat), LRel φ l m → LRel φ (l.drop n) (m.drop n)
  | _, _, 0, h => by simpa using h
  | [], _, n + 1, h => by simp only [LRel] at h; subst h; simp [LRel]
  | y :: ys, _, n + 1, h => by simp only [LRel] at h; obtain ⟨u, us, rfl, h1, h2⟩ := h; simpa using LRel.drop n h2

theorem LRel.take {φ : Ren} : ∀ {l : List AV} {m : List Value} (n : Nat), LRel φ l m → LRel φ (l.take n) (m.take n)
  | _, _, 0, h => by simp [LRel]
  | [], _, n + 1, h => by simp only [LRel] at h; subst h; simp [LRel]
  | y :: ys, _, n + 1, h => by simp only [LRel] at h; obtain ⟨u, us, rfl, h1, h2⟩ := h; simp only [List.take, LRel]; exact ⟨u, _, rfl, h1, LRel.take n h2⟩

theorem LRel.replicate {φ : Ren} (n : Nat) : LRel φ (List.replicate n .undef) (List.replicate n Go.undef) := by
  induction n with
  | zero => simp [LRel]
  | succ n ih => simp only [List.replicate_succ, LRel]; exact ⟨_, _, rfl, ARel.undef, ih⟩

/-! ### constants -/

mutual
theorem ofConst_rel {φ : Ren} : ∀ (v : Value) (x : AV), ofConst v = some x → ARel φ x v
  | .bool b, x, h => by simp only [ofConst, Option.some.injEq] at h; subst h; simp [ARel]
  | .int k n, x, h => by
    simp only [ofConst] at h
    split at h
    · rename_i hn; simp only [Option.some.injEq] at h; subst h; simp only [ARel]; exact ⟨trivial, hn⟩
    · cases h
  | .string s, x, h => by simp only [ofConst, Option.some.injEq] at h; subst h; simp [ARel]
  | .pointer none, x, h => by simp only [ofConst, Option.some.injEq] at h; subst h; simp [ARel]
  | .pointer (some _), x, h => by simp [ofConst] at h
  | .slice none n k, x, h => by simp only [ofConst, Option.some.injEq] at h; subst h; simp [ARel]
  | .slice (some _) n k, x, h => by simp [ofConst] at h
  | .nilFunc, x, h => by simp only [ofConst, Option.some.injEq] at h; subst h; simp [ARel]
  | .nilIface, x, h => by simp only [ofConst, Option.some.injEq] at h; subst h; simp [ARel]
  | .agg ⟨cs⟩, x, h => by
    simp only [ofConst] at h
    cases hl : ofConstL cs with
    | none => simp [hl] at h
    | some l => simp only [hl, Option.some.injEq] at h; subst h; simp only [ARel]; exact ⟨⟨cs⟩, rfl, ofConstL_rel cs l hl⟩
  | .tuple ⟨cs⟩, x, h => by
    simp only [ofConst] at h
    cases hl : ofConstL cs with
    | none => simp [hl] at h
    | some l => simp only [hl, Option.some.injEq] at h; subst h; simp only [ARel]; exact ⟨⟨cs⟩, rfl, ofConstL_rel cs l hl⟩
  | .float _ _, x, h => by simp [ofConst] at h
  | .complex _ _ _, x, h => by simp [ofConst] at h
  | .map _, x, h => by simp [ofConst] at h
  | .chan _, x, h => by simp [ofConst] at h
  | .func _ _ _, x, h => by simp [ofConst] at h
  | .iface _ _, x, h => by simp [ofConst] at h
theorem ofConstL_rel {φ : Ren} : ∀ (v : List Value) (x : List AV), ofConstL v = some x → LRel φ x v
  | [], x, h => by simp only [ofConstL, Option.some.injEq] at h; subst h; simp [LRel]
  | v :: vs, x, h => by
    simp only [ofConstL] at h
    cases hv : ofConst v with
    | none => simp [hv] at h
    | some a =>
      cases hl : ofConstL vs with
      | none => simp [hv, hl] at h
      | some l => simp only [hv, hl, Option.some.injEq] at h; subst h; simp only [LRel]; exact ⟨v, vs, rfl, ofConst_rel v a hv, ofConstL_rel vs l hl⟩
end

/-! ### memory -/

/-- The evaluator's memory stands for a part of the world's. -/
structure HRel (B : Nat) (w0 : World) (φ : Ren) (h : AH) (w : World) : Prop where
  cells : ∀ b cs, h[b]? = some cs → ∃ c cs' e, φ b = some c ∧ w.heap[c]? = some (.cells cs' e (0, 0)) ∧ LRel φ cs cs'.toList
  inj : ∀ b b' c, φ b = some c → φ b' = some c → b = b'
  dom : ∀ b c, φ b = some c → b < h.length
  rng : ∀ b c, φ b = some c → B ≤ c
  below : Below B w0 w
  base : B ≤ w0.heap.size
  fok : FOk φ.frz w
  dis : ∀ b c, φ b = some c → φ.frz c = none
  bas : φ.base = B

theorem HRel.lt {B : Nat} {w0 : World} {φ : Ren} {h : AH} {w : World} (H : HRel B w0 φ h w) {b c : Nat} (e : φ b = some c) : c < w.heap.size := by
  have hb := H.dom b c e
  obtain ⟨c', cs', t, e', hw, _⟩ := H.cells b h[b] (List.getElem?_eq_getElem hb)
  rw [e] at e'; cases e'
  rcases Nat.lt_or_ge c w.heap.size with h | h
  · exact h
  · rw [Array.getElem?_eq_none h] at hw; cases hw

/-- One more block. -/
def Ren.with (φ : Ren) (b c : Nat) : Ren := { φ with own := fun i => if i = b then some c else φ i }

theorem FOk.lt {F : Nat → Option (Array Value)} {w : World} (h : FOk F w) {c : Nat} {cs : Array Value} (e : F c = some cs) : c < w.heap.size := by
  obtain ⟨t, hw⟩ := h c cs e
  rcases Nat.lt_or_ge c w.heap.size with h | h
  · exact h
  · rw [Array.getElem?_eq_none h] at hw; cases hw

theorem FOk.fresh {F : Nat → Option (Array Value)} {w : World} (h : FOk F w) : F w.heap.size = none := by
  cases e : F w.heap.size with
  | none => rfl
  | some cs => exact absurd (h.lt e) (Nat.lt_irrefl _)

theorem FOk.grown {F : Nat → Option (Array Value)} {w w' : World} (h : FOk F w) (hb : Below w.heap.size w w') : FOk F w' := by
  intro c cs e
  obtain ⟨t, hw⟩ := h c cs e
  exact ⟨t, by rw [hb.block c (h.lt e)]; exact hw⟩

theorem HRel.alloc {B : Nat} {w0 : World} {φ : Ren} {h : AH} {w : World} (H : HRel B w0 φ h w) {cs : List AV} {cs' : Array Value} (t : TypeId)
    (hc : LRel φ cs cs'.toList) : φ.le (φ.with h.length w.heap.size) ∧ HRel B w0 (φ.with h.length w.heap.size) (h ++ [cs]) (w.alloc (.cells cs' t)) := by
  have le : φ.le (φ.with h.length w.heap.size) := by
    refine ⟨fun b c e => ?_, fun _ _ h => h, fun _ _ h => .inl h, rfl⟩
    have := H.dom b c e
    simp only [Ren.with]; rw [if_neg (by omega)]; exact e
  refine ⟨le, ⟨?_, ?_, ?_, ?_, ?_, H.base, ?_, ?_, H.bas⟩⟩
  · intro b ds hb
    by_cases hbl : b < h.length
    · rw [List.getElem?_append_left hbl] at hb
      obtain ⟨c, ds', e, h1, h2, h3⟩ := H.cells b ds hb
      refine ⟨c, ds', e, le.own _ _ h1, ?_, LRel.mono le _ _ h3⟩
      rw [Below.heap_alloc _ _ _ (H.lt h1)]; exact h2
    · have hb2 : b = h.length := by
        have : b < (h ++ [cs]).length := by
          rcases Nat.lt_or_ge b (h ++ [cs]).length with h | h
          · exact h
          · rw [List.getElem?_eq_none h] at hb; cases hb
        simp at this; omega
      subst hb2
      simp at hb
      subst hb
      refine ⟨w.heap.size, cs', t, by simp [Ren.with], ?_, LRel.mono le _ _ hc⟩
      exact heap_alloc_new _ _
  · intro b b' c e e'
    simp only [Ren.with] at e e'
    by_cases h1 : b = h.length
    · rw [if_pos h1] at e; cases e
      by_cases h2 : b' = h.length
      · rw [h1, h2]
      · rw [if_neg h2] at e'; have := H.lt e'; omega
    · rw [if_neg h1] at e
      by_cases h2 : b' = h.length
      · rw [if_pos h2] at e'; cases e'; have := H.lt e; omega
      · rw [if_neg h2] at e'; exact H.inj _ _ _ e e'
  · intro b c e
    simp only [Ren.with] at e
    by_cases h1 : b = h.length
    · subst h1; simp
    · rw [if_neg h1] at e; have := H.dom _ _ e; simp; omega
  · intro b c e
    simp only [Ren.with] at e
    by_cases h1 : b = h.length
    · rw [if_pos h1] at e; cases e; exact Nat.le_trans H.base H.below.size
    · rw [if_neg h1] at e; exact H.rng _ _ e
  · exact H.below.alloc (Nat.le_trans H.base H.below.size) _
  · exact H.fok.grown ((Below.refl _ _).alloc (Nat.le_refl _) _)
  · intro b c e
    simp only [Ren.with] at e
    by_cases h1 : b = h.length
    · rw [if_pos h1] at e; cases e; exact H.fok.fresh
    · rw [if_neg h1] at e; exact H.dis _ _ e

/-- A world that has grown. -/
theorem HRel.grown {B : Nat} {w0 : World} {φ : Ren} {h : AH} {w w' : World} (H : HRel B w0 φ h w) (hb : Below w.heap.size w w') : HRel B w0 φ h w' := by
  refine ⟨?_, H.inj, H.dom, H.rng, H.below.trans (hb.mono (Nat.le_trans H.base H.below.size)), H.base, H.fok.grown hb, H.dis, H.bas⟩
  intro b cs e
  obtain ⟨c, cs', t, h1, h2, h3⟩ := H.cells b cs e
  exact ⟨c, cs', t, h1, by rw [hb.block c (H.lt h1)]; exact h2, h3⟩

theorem HRel.drew {B : Nat} {w0 : World} {φ : Ren} {h : AH} {w : World} (H : HRel B w0 φ h w) : HRel B w0 φ h { w with drawn := w.drawn + 1 } :=
  ⟨H.cells, H.inj, H.dom, H.rng, H.below.drew, H.base, H.fok, H.dis, H.bas⟩

/-- A cell is written. -/
theorem HRel.setCell {B : Nat} {w0 : World} {φ : Ren} {h : AH} {w : World} (H : HRel B w0 φ h w) {b c o : Nat} {cs : List AV} {x : AV} {v : Value}
    (hb : h[b]? = some cs) (hc : φ b = some c) (hv : ARel φ x v) : HRel B w0 φ (h.set b (cs.set o x)) (w.setCell ⟨c, o, none⟩ v) := by
  have hlt : b < h.length := H.dom _ _ hc
  refine ⟨?_, H.inj, fun b' c' e => by simpa using H.dom b' c' e, H.rng, H.below.setCell (p := ⟨c, o, none⟩) (H.rng _ _ hc) v, H.base, ?_, H.dis, H.bas⟩
  rotate_left
  · intro c' cs' e
    obtain ⟨t, hw⟩ := H.fok c' cs' e
    refine ⟨t, ?_⟩
    rw [heap_setCell_other _ _ _ _ (fun e2 => by have e3 : c' = c := e2; rw [e3, H.dis _ _ hc] at e; cases e)]
    exact hw
  intro b' ds e
  by_cases hbb : b = b'
  · subst hbb
    rw [List.getElem?_set_self hlt] at e; cases e
    obtain ⟨c2, cs', t, h1, h2, h3⟩ := H.cells b cs hb
    rw [hc] at h1; cases h1
    refine ⟨c, cs'.setIfInBounds o v, t, hc, heap_setCell_same _ _ _ _ _ _ h2, ?_⟩
    rw [Array.toList_setIfInBounds]; exact LRel.set hv h3
  · rw [List.getElem?_set_ne hbb] at e
    obtain ⟨c2, cs', t, h1, h2, h3⟩ := H.cells b' ds e
    refine ⟨c2, cs', t, h1, ?_, h3⟩
    rw [heap_setCell_other _ _ _ _ (fun e2 => hbb (H.inj _ _ _ hc (by rw [h1]; exact congrArg some e2)))]
    exact h2

end Go.Sky

/- The evaluator's operations against the machine's. -/
namespace Go.Sky
open Go.RowKit (Below)

theorem opt_run {α : Type} {x : Option α} {k : α → Ans} {r : AV × AH} (h : (opt x k).run = some r) : ∃ a, x = some a ∧ (k a).run = some r := by
  cases x with
  | none => simp [opt, Tr.run] at h
  | some a => exact ⟨a, rfl, h⟩

theorem val_run {v : AV} {h : AH} {r : AV × AH} (e : (val v h).run = some r) : r = (v, h) := by simp only [val, Tr.run, Option.some.injEq] at e; exact e.symm

theorem ev_rel {φ : Ren} {s : St} {a : Act} (ht : LRel φ s.tmps a.tmps.toList) {x : Operand} {u : AV} (h : s.ev x = some u) : ARel φ u (a.eval x) := by
  cases x with
  | tmp t => simp only [St.ev, Option.some.injEq] at h; subst h; exact LRel.getD t ht
  | const v => exact ofConst_rel v u h
  | global g => simp [St.ev] at h
  | func f => simp only [St.ev, Option.some.injEq] at h; subst h; simp [ARel, LRel, Act.eval]

theorem evs_rel {φ : Ren} {s : St} {a : Act} (ht : LRel φ s.tmps a.tmps.toList) : ∀ {l : List Operand} {us : List AV}, s.evs l = some us → LRel φ us (l.map a.eval)
  | [], us, h => by simp only [St.evs, Option.some.injEq] at h; subst h; simp [LRel]
  | x :: xs, us, h => by
    simp only [St.evs] at h
    cases hx : s.ev x with
    | none => simp [hx] at h
    | some u =>
      cases hl : s.evs xs with
      | none => simp [hx, hl] at h
      | some l => simp only [hx, hl, Option.some.injEq] at h; subst h; simp only [List.map_cons, LRel]; exact ⟨_, _, rfl, ev_rel ht hx, evs_rel ht hl⟩

def PRel (φ : Ren) : List (Nat × AV) → List (Nat × Value) → Prop
  | [], l => l = []
  | (i, x) :: xs, l => ∃ y ys, l = (i, y) :: ys ∧ ARel φ x y ∧ PRel φ xs ys

theorem evParts_rel {φ : Ren} {s : St} {a : Act} (ht : LRel φ s.tmps a.tmps.toList) : ∀ {l : List (Nat × Operand)} {us : List (Nat × AV)}, evParts s l = some us → PRel φ us (l.map fun p => (p.1, a.eval p.2))
  | [], us, h => by simp only [evParts, Option.some.injEq] at h; subst h; simp [PRel]
  | (i, x) :: xs, us, h => by
    simp only [evParts] at h
    cases hx : s.ev x with
    | none => simp [hx] at h
    | some u =>
      cases hl : evParts s xs with
      | none => simp [hx, hl] at h
      | some l => simp only [hx, hl, Option.some.injEq] at h; subst h; simp only [List.map_cons, PRel]; exact ⟨_, _, rfl, ev_rel ht hx, evParts_rel ht hl⟩

theorem cells_rel {φ : Ren} {x : AV} {v : Value} (h : ARel φ x v) : LRel φ x.cells v.cells.toList := by
  cases x with
  | agg cs => simp only [ARel] at h; obtain ⟨cs', rfl, h⟩ := h; exact h
  | ptr p =>
    cases p with
    | none => have h' := h; simp only [ARel] at h'; subst h'; simp only [AV.cells, Value.cells, LRel]; exact ⟨_, _, rfl, h, rfl⟩
    | some p => obtain ⟨b, o⟩ := p; have h' := h; simp only [ARel] at h'; obtain ⟨c, _, rfl⟩ := h'; simp only [AV.cells, Value.cells, LRel]; exact ⟨_, _, rfl, h, rfl⟩
  | slice p n k =>
    cases p with
    | none => have h' := h; simp only [ARel] at h'; subst h'; simp only [AV.cells, Value.cells, LRel]; exact ⟨_, _, rfl, h, rfl⟩
    | some p => obtain ⟨b, o⟩ := p; have h' := h; simp only [ARel] at h'; obtain ⟨c, _, rfl⟩ := h'; simp only [AV.cells, Value.cells, LRel]; exact ⟨_, _, rfl, h, rfl⟩
  | func fn f c => have h' := h; simp only [ARel] at h'; obtain ⟨_, _, rfl, _⟩ := h'; simp only [AV.cells, Value.cells, LRel]; exact ⟨_, _, rfl, h, rfl⟩
  | iface t x => have h' := h; simp only [ARel] at h'; obtain ⟨_, rfl, _⟩ := h'; simp only [AV.cells, Value.cells, LRel]; exact ⟨_, _, rfl, h, rfl⟩
  | fptr cs o => have h' := h; simp only [ARel] at h'; obtain ⟨_, _, _, _, rfl, _⟩ := h'; simp only [AV.cells, Value.cells, LRel]; exact ⟨_, _, rfl, h, rfl⟩
  | list e l => have h' := h; simp only [ARel] at h'; obtain ⟨_, _, rfl, _⟩ := list_val h'; simp only [AV.cells, Value.cells, LRel]; exact ⟨_, _, rfl, h, rfl⟩
  | tuple vs => have h' := h; simp only [ARel] at h'; obtain ⟨_, rfl, _⟩ := h'; simp only [AV.cells, Value.cells, LRel]; exact ⟨_, _, rfl, h, rfl⟩
  | junk =>
    simp only [ARel] at h
    have e : v.cells = #[v] := by cases v <;> simp_all [oneV, Value.cells]
    rw [e]; simp only [AV.cells, LRel]
    exact ⟨_, _, rfl, by simpa only [ARel] using h, rfl⟩
  | int k l n => have h' := h; simp only [ARel] at h'; obtain ⟨rfl, _⟩ := h'; simp only [AV.cells, Value.cells, LRel]; exact ⟨_, _, rfl, h, rfl⟩
  | _ => have h' := h; simp only [ARel] at h'; subst h'; simp only [AV.cells, Value.cells, LRel]; exact ⟨_, _, rfl, h, rfl⟩

/-! ### types -/
section
variable {P : Program} {w : World}

theorem run_info {t : TypeId} {i : TypeInfo} (h : P.info? t = some i) : (typeInfo t).run P w = .ok i w := by simp [typeInfo, h]

theorem zeroA_rel {φ : Ren} {t : TypeId} {z : AV} (h : zeroA P t = some z) : ∃ v, (zeroValue t).run P w = .ok v w ∧ ARel φ z v := by
  unfold zeroA at h
  cases hi : P.info? t with
  | none => simp [hi] at h
  | some i =>
    simp only [hi] at h
    cases hz : i.zero with
    | none => simp [hz] at h
    | some v => simp only [hz] at h; exact ⟨v, by simp [zeroValue, run_info hi, hz], ofConst_rel v z h⟩

theorem sizeA_run {t : TypeId} {n : Nat} (h : sizeA P t = some n) : (sizeOf t).run P w = .ok n w := by
  unfold sizeA at h
  cases hi : P.info? t with
  | none => simp [hi] at h
  | some i => simp only [hi, Option.map_some, Option.some.injEq] at h; subst h; simp [sizeOf, run_info hi]

theorem isAggA_run {t : TypeId} {b : Bool} (h : isAggA P t = some b) : (isAgg t).run P w = .ok b w := by
  unfold isAggA at h
  cases hu : P.underlying t with
  | none => simp [hu] at h
  | some d =>
    simp only [hu] at h
    simp only [isAgg, Sem.run_bind, run_underlying hu, Result.andThen_ok]
    cases d <;> simp_all

theorem sizeA_info {t : TypeId} {i : TypeInfo} (h : P.info? t = some i) : sizeA P t = some i.size := by simp [sizeA, h]

theorem part_rel {φ : Ren} {t : TypeId} {cs : List AV} {cs' : Array Value} {off : Nat} {r : AV} (hc : LRel φ cs cs'.toList) (h : partA P t cs off = some r) :
    ∃ v, (part t cs' off).run P w = .ok v w ∧ ARel φ r v := by
  unfold partA eqA.part at h
  cases hi : P.info? t with
  | none => simp [hi] at h
  | some i =>
    cases hu : P.underlying t with
    | none => simp [hi, hu] at h
    | some d =>
      have key : isAggA P t = some true → r = .agg ((cs.take (off + i.size)).drop off) → ∃ v, (part t cs' off).run P w = .ok v w ∧ ARel φ r v := by
        intro hag hr
        refine ⟨.agg (cs'.extract off (off + i.size)), by simp [part, isAggA_run hag, sizeA_run (sizeA_info hi)], ?_⟩
        subst hr
        simp only [ARel]
        refine ⟨_, rfl, ?_⟩
        rw [Array.toList_extract, List.extract_eq_take_drop, List.drop_take]
        have : off + i.size - off = i.size := by omega
        rw [this]
        exact LRel.take _ (LRel.drop _ hc)
      have key2 : isAggA P t = some false → cs[off]? = some r → ∃ v, (part t cs' off).run P w = .ok v w ∧ ARel φ r v := by
        intro hag hr
        obtain ⟨v, hv, hrel⟩ := LRel.get hc hr
        rw [Array.getElem?_toList] at hv
        exact ⟨v, by simp [part, isAggA_run hag, hv], hrel⟩
      cases d <;> simp only [hi, hu] at h
      case struct f => exact key (by simp [isAggA, hu]) (by simpa using h.symm)
      case array n e => exact key (by simp [isAggA, hu]) (by simpa using h.symm)
      all_goals exact key2 (by simp [isAggA, hu]) h

end

theorem setFrom_rel {φ : Ren} : ∀ {vs : List AV} {us : List Value} {cells : List AV} {cells' : Array Value} {off : Nat} {j : Nat},
    LRel φ vs us → LRel φ cells cells'.toList →
    LRel φ (fillA.setFrom cells (off + j) vs) ((us.zipIdx j).foldl (fun cs (p : Value × Nat) => cs.setIfInBounds (off + p.2) p.1) cells').toList
  | [], us, cells, cells', off, j, hv, hc => by simp only [LRel] at hv; subst hv; simpa [fillA.setFrom] using hc
  | x :: xs, us, cells, cells', off, j, hv, hc => by
    simp only [LRel] at hv
    obtain ⟨u, us, rfl, h1, h2⟩ := hv
    simp only [fillA.setFrom, List.zipIdx_cons, List.foldl_cons]
    have := setFrom_rel (cells := cells.set (off + j) x) (cells' := cells'.setIfInBounds (off + j) u) (off := off) (j := j + 1) h2 (by rw [Array.toList_setIfInBounds]; exact LRel.set h1 hc)
    simpa [Nat.add_assoc] using this

theorem setFrom_length : ∀ (vs : List AV) (cells : List AV) (off : Nat), (fillA.setFrom cells off vs).length = cells.length
  | [], _, _ => rfl
  | _ :: vs, _, _ => by simp [fillA.setFrom, setFrom_length vs]

theorem fill_rel {φ : Ren} {place : Nat → Option (Nat × Nat)} : ∀ {ps : List (Nat × AV)} {qs : List (Nat × Value)} {cells : List AV} {cells' : Array Value} {r : List AV},
    PRel φ ps qs → LRel φ cells cells'.toList → fillA place cells ps = some r → ∃ r', Instr.fill place cells' qs = some r' ∧ LRel φ r r'.toList
  | [], qs, cells, cells', r, hp, hc, h => by simp only [PRel] at hp; subst hp; simp only [fillA, Option.some.injEq] at h; subst h; exact ⟨cells', rfl, hc⟩
  | (i, x) :: ps, qs, cells, cells', r, hp, hc, h => by
    simp only [PRel] at hp
    obtain ⟨y, ys, rfl, h1, h2⟩ := hp
    simp only [fillA] at h
    simp only [Instr.fill]
    cases hpl : place i with
    | none => simp [hpl] at h
    | some q =>
      obtain ⟨off, size⟩ := q
      simp only [hpl] at h ⊢
      have hl := LRel.length (cells_rel h1)
      have hl2 := LRel.length hc
      simp only [Array.length_toList] at hl hl2
      split at h
      · cases h
      · rename_i hn
        rw [if_neg (by rw [← hl, ← hl2]; simpa using hn)]
        have hs := setFrom_rel (off := off) (j := 0) (cells_rel h1) hc
        simp only [Nat.add_zero] at hs
        refine fill_rel h2 ?_ h
        rw [← Array.foldl_toList, Array.toList_zipIdx]
        exact hs

end Go.Sky

/- The evaluator's operations against the machine's: memory, and each operation. -/
namespace Go.Sky
open Go.RowKit (Below)

section
variable {P : Program} {w : World} {B : Nat} {w0 : World} {φ : Ren} {h : AH}

theorem add_none (c o i : Nat) : (⟨c, o, none⟩ : Addr).add i = ⟨c, o + i, none⟩ := by
  unfold Addr.add; split <;> simp_all

/-- Memory that is read. -/
def HC (φ : Ren) (h : AH) (w : World) : Prop := ∀ b cs, h[b]? = some cs → ∃ c cs' e, φ b = some c ∧ w.heap[c]? = some (.cells cs' e (0, 0)) ∧ LRel φ cs cs'.toList

theorem load_loc {t : TypeId} {b o c : Nat} {r : AV} (H : ∀ cs, h[b]? = some cs → ∃ cs' e, w.heap[c]? = some (.cells cs' e (0, 0)) ∧ LRel φ cs cs'.toList) (hl : loadA P t b o h = some r) :
    ∃ v, (loadVar t ⟨c, o, none⟩).run P w = .ok v w ∧ ARel φ r v := by
  unfold loadA at hl
  cases hb : h[b]? with
  | none => simp [hb] at hl
  | some cs =>
    obtain ⟨cs', e, h2, h3⟩ := H cs hb
    have hlen := LRel.length h3
    simp only [Array.length_toList] at hlen
    cases ha : isAggA P t with
    | none => simp [hb, ha] at hl
    | some g =>
      cases g with
      | false =>
        simp only [hb, ha] at hl
        obtain ⟨v, hv, hr⟩ := LRel.get h3 hl
        rw [Array.getElem?_toList] at hv
        refine ⟨v, ?_, hr⟩
        have hcell : w.cell? ⟨c, o, none⟩ = some v := by rw [cell_of_row w c o cs' e _ h2]; exact hv
        simp [loadVar, isAggA_run ha, hcell]
      | true =>
        cases hs : sizeA P t with
        | none => simp [hb, ha, hs] at hl
        | some n =>
          simp only [hb, ha, hs] at hl
          split at hl
          · rename_i hn
            cases hl
            have hl2 : (loadCells ⟨c, o, none⟩ n).run P w = .ok ((cs'.toList.drop o).take n).toArray w := by
              have hlen2 : ((cs'.toList.drop o).take n).length = n := by simp; omega
              have := run_loadCells_list (P := P) w ⟨c, o, none⟩ ((cs'.toList.drop o).take n) (fun j v hv => by
                rw [add_none, cell_of_row w c (o + j) cs' e _ h2]
                rw [List.getElem?_take] at hv
                split at hv
                · rw [List.getElem?_drop, Array.getElem?_toList] at hv; exact hv
                · cases hv)
              rwa [hlen2] at this
            refine ⟨.agg ((cs'.toList.drop o).take n).toArray, by simp [loadVar, isAggA_run ha, sizeA_run hs, hl2], ?_⟩
            simp only [ARel]
            refine ⟨_, rfl, ?_⟩
            rw [List.drop_take]
            have : o + n - o = n := by omega
            rw [this]
            simpa using LRel.take n (LRel.drop o h3)
          · cases hl

theorem load_rel (H : HC φ h w) {t : TypeId} {b o c : Nat} {r : AV} (hc : φ b = some c) (hl : loadA P t b o h = some r) :
    ∃ v, (loadVar t ⟨c, o, none⟩).run P w = .ok v w ∧ ARel φ r v :=
  load_loc (fun cs hb => by
    obtain ⟨c', cs', e, h1, h2, h3⟩ := H b cs hb
    rw [hc] at h1; cases h1
    exact ⟨cs', e, h2, h3⟩) hl

/-- What is read of some cells among others. -/
theorem load_win {t : TypeId} {o c base : Nat} {cs : List AV} {cs' : Array Value} {e : TypeId} {r : AV} (hw : w.heap[c]? = some (.cells cs' e (0, 0))) (hb : base + cs.length ≤ cs'.size)
    (h3 : LRel φ cs ((cs'.toList.drop base).take cs.length)) (hl : loadA P t 0 o [cs] = some r) : ∃ v, (loadVar t ⟨c, base + o, none⟩).run P w = .ok v w ∧ ARel φ r v := by
  unfold loadA at hl
  have hlt : ∀ i v, ((cs'.toList.drop base).take cs.length)[i]? = some v → cs'[base + i]? = some v := by
    intro i v hi
    rw [List.getElem?_take] at hi
    split at hi
    · rw [List.getElem?_drop, Array.getElem?_toList] at hi; exact hi
    · cases hi
  cases ha : isAggA P t with
  | none => simp [ha] at hl
  | some g =>
    cases g with
    | false =>
      simp only [List.getElem?_cons_zero, ha] at hl
      obtain ⟨v, hv, hr⟩ := LRel.get h3 hl
      refine ⟨v, ?_, hr⟩
      have hcell : w.cell? ⟨c, base + o, none⟩ = some v := by rw [cell_of_row w c (base + o) cs' e _ hw]; exact hlt _ _ hv
      simp [loadVar, isAggA_run ha, hcell]
    | true =>
      cases hs : sizeA P t with
      | none => simp [ha, hs] at hl
      | some n =>
        simp only [List.getElem?_cons_zero, ha, hs] at hl
        split at hl
        · rename_i hn
          cases hl
          have hlen : ((cs'.toList.drop base).take cs.length).length = cs.length := by simp; omega
          have hl2 : (loadCells ⟨c, base + o, none⟩ n).run P w = .ok ((((cs'.toList.drop base).take cs.length).drop o).take n).toArray w := by
            have hlen2 : ((((cs'.toList.drop base).take cs.length).drop o).take n).length = n := by rw [List.length_take, List.length_drop, hlen]; omega
            have := run_loadCells_list (P := P) w ⟨c, base + o, none⟩ ((((cs'.toList.drop base).take cs.length).drop o).take n) (fun j v hv => by
              rw [add_none, cell_of_row w c (base + o + j) cs' e _ hw]
              rw [List.getElem?_take] at hv
              split at hv
              · rw [List.getElem?_drop] at hv; rw [Nat.add_assoc]; exact hlt _ _ hv
              · cases hv)
            rwa [hlen2] at this
          refine ⟨.agg ((((cs'.toList.drop base).take cs.length).drop o).take n).toArray, by simp [loadVar, isAggA_run ha, sizeA_run hs, hl2], ?_⟩
          simp only [ARel]
          refine ⟨_, rfl, ?_⟩
          rw [List.drop_take, show o + n - o = n by omega]
          simpa using LRel.take n (LRel.drop o h3)
        · cases hl

/-- A value of one cell. -/
theorem one_of {x : AV} {u : Value} (hok1 : (match x with | .agg _ => false | .tuple _ => false | _ => true) = true) (h1 : ARel φ x u) : u.oneCell' = true := by
  cases x <;> simp at hok1 <;> (try (simp only [ARel] at h1; subst h1; rfl))
  case int k l n => simp only [ARel] at h1; obtain ⟨rfl, _⟩ := h1; rfl
  case ptr p => cases p with
    | none => simp only [ARel] at h1; subst h1; rfl
    | some p => obtain ⟨_, _⟩ := p; simp only [ARel] at h1; obtain ⟨_, _, rfl⟩ := h1; rfl
  case slice p n k => cases p with
    | none => simp only [ARel] at h1; subst h1; rfl
    | some p => obtain ⟨_, _⟩ := p; simp only [ARel] at h1; obtain ⟨_, _, rfl⟩ := h1; rfl
  case func fn f k => simp only [ARel] at h1; obtain ⟨_, _, rfl, _⟩ := h1; rfl
  case iface t x => simp only [ARel] at h1; obtain ⟨_, rfl, _⟩ := h1; rfl
  case fptr cs o => simp only [ARel] at h1; obtain ⟨_, _, _, _, rfl, _⟩ := h1; rfl
  case list e l => simp only [ARel] at h1; obtain ⟨_, _, rfl, _⟩ := list_val h1; rfl
  case junk => simp only [ARel] at h1; cases u <;> first | rfl | (simp [oneV] at h1)

/-- Cells of one block are written. -/
theorem storeCells_loc {c : Nat} (o : Nat) {e : TypeId} : ∀ {vs : List AV} {us : List Value} {cs : List AV} {cs' : Array Value} {w : World} {i : Nat}, w.heap[c]? = some (.cells cs' e (0, 0)) → LRel φ cs cs'.toList →
    LRel φ vs us → o + i + vs.length ≤ cs.length → (vs.all (fun c => match c with | .agg _ => false | .tuple _ => false | _ => true)) = true →
    ∃ w' ds', (storeCells ⟨c, o, none⟩ us i).run P w = .ok () w' ∧ w'.heap[c]? = some (.cells ds' e (0, 0)) ∧ LRel φ (fillA.setFrom cs (o + i) vs) ds'.toList ∧ (∀ c', c' ≠ c → w'.heap[c']? = w.heap[c']?) ∧ w'.heap.size = w.heap.size ∧
      (∀ B w0, B ≤ c → Below B w0 w → Below B w0 w')
  | [], us, cs, cs', w, i, hw, hr, hv, _, _ => by
    simp only [LRel] at hv; subst hv
    exact ⟨w, cs', rfl, hw, hr, fun _ _ => rfl, rfl, fun _ _ _ h => h⟩
  | x :: xs, us, cs, cs', w, i, hw, hr, hv, hl, hok => by
    simp only [LRel] at hv
    obtain ⟨u, us, rfl, h1, h2⟩ := hv
    simp only [List.all_cons, Bool.and_eq_true] at hok
    obtain ⟨hok1, hok2⟩ := hok
    have hlen := LRel.length hr
    simp only [Array.length_toList] at hlen
    simp only [List.length_cons] at hl
    have hone := one_of hok1 h1
    have hcell : (w.cell? ⟨c, o + i, none⟩).isSome := by rw [cell_of_row w c _ cs' e _ hw]; simp; omega
    obtain ⟨old, hold⟩ := Option.isSome_iff_exists.1 hcell
    have hfro : w.frozen? ⟨c, o + i, none⟩ = false := frozen_of_row w c _ cs' e hw
    have hst : (store ((⟨c, o, none⟩ : Addr).add i) u).run P w = .ok () (w.setCell ⟨c, o + i, none⟩ u) := by
      rw [add_none, run_store P w _ u _ hone, hold]; simp [hfro]
    have hw2 := heap_setCell_same w c (o + i) cs' e u hw
    obtain ⟨w', ds', g1, g2, g3, g4, g5, g6⟩ := storeCells_loc o (i := i + 1) (cs := cs.set (o + i) x) hw2 (by rw [Array.toList_setIfInBounds]; exact LRel.set h1 hr) h2 (by simp; omega) hok2
    refine ⟨w', ds', ?_, g2, by simp only [fillA.setFrom]; exact g3, fun c' hne => ?_, ?_, fun B w0 hB hb => g6 B w0 hB (hb.setCell (p := ⟨c, o + i, none⟩) hB u)⟩
    · simp only [storeCells, Sem.run_bind, hst, Result.andThen_ok]; exact g1
    · rw [g4 c' hne]; exact heap_setCell_other _ _ _ _ hne
    · rw [g5]; simp [World.setCell]

theorem store_loc {t : TypeId} {b o c : Nat} {v : AV} {u : Value} {h' : AH} {cs : List AV} {cs' : Array Value} {e : TypeId} (hb : h[b]? = some cs) (hw : w.heap[c]? = some (.cells cs' e (0, 0))) (hr : LRel φ cs cs'.toList)
    (hv : ARel φ v u) (hs : storeA P t b o v h = some h') :
    ∃ ds ds' w', (storeVar t ⟨c, o, none⟩ u).run P w = .ok () w' ∧ h' = h.set b ds ∧ w'.heap[c]? = some (.cells ds' e (0, 0)) ∧ LRel φ ds ds'.toList ∧ (∀ c', c' ≠ c → w'.heap[c']? = w.heap[c']?) ∧ w'.heap.size = w.heap.size ∧
      (∀ B w0, B ≤ c → Below B w0 w → Below B w0 w') := by
  unfold storeA at hs
  rw [hb] at hs
  cases hz : sizeA P t with
  | none => simp [hz] at hs
  | some n =>
    simp only [hz] at hs
    split at hs
    · rename_i hn
      obtain ⟨hn1, hn2, hn3⟩ := hn
      cases hs
      have hlen := LRel.length (cells_rel hv)
      simp only [Array.length_toList] at hlen
      obtain ⟨w', ds', g1, g2, g3, g4, g5, g6⟩ := storeCells_loc (P := P) o (i := 0) hw hr (cells_rel hv) (by omega) hn3
      refine ⟨_, ds', w', ?_, rfl, g2, by simpa using g3, g4, g5, g6⟩
      simp only [storeVar, Sem.run_bind, sizeA_run hz, Result.andThen_ok]
      rw [if_neg (by omega)]
      simpa using g1
    · cases hs

/-- A store keeps the number of blocks. -/
theorem storeA_shape {t : TypeId} {b o : Nat} {v : AV} {h' : AH} (hs : storeA P t b o v h = some h') : ∃ cs ds, h[b]? = some cs ∧ h' = h.set b ds := by
  unfold storeA at hs
  split at hs
  · rename_i cs n hb hz
    split at hs
    · cases hs; exact ⟨cs, _, hb, rfl⟩
    · cases hs
  · cases hs

theorem storeCells_rel {b c : Nat} (o : Nat) : ∀ {vs : List AV} {us : List Value} {cs : List AV} {h : AH} {w : World} {i : Nat}, HRel B w0 φ h w → φ b = some c → h[b]? = some cs →
    LRel φ vs us → o + i + vs.length ≤ cs.length → (vs.all (fun c => match c with | .agg _ => false | .tuple _ => false | _ => true)) = true →
    ∃ w', (storeCells ⟨c, o, none⟩ us i).run P w = .ok () w' ∧ HRel B w0 φ (h.set b (fillA.setFrom cs (o + i) vs)) w'
  | [], us, cs, h, w, i, H, hc, hb, hv, _, _ => by
    simp only [LRel] at hv; subst hv
    refine ⟨w, rfl, ?_⟩
    simp only [fillA.setFrom]
    have : h.set b cs = h := by
      obtain ⟨hlt, rfl⟩ := List.getElem?_eq_some_iff.1 hb
      exact List.set_getElem_self hlt
    rw [this]; exact H
  | x :: xs, us, cs, h, w, i, H, hc, hb, hv, hl, hok => by
    simp only [LRel] at hv
    obtain ⟨u, us, rfl, h1, h2⟩ := hv
    simp only [List.all_cons, Bool.and_eq_true] at hok
    obtain ⟨hok1, hok2⟩ := hok
    obtain ⟨c2, cs', e, g1, g2, g3⟩ := H.cells b cs hb
    rw [hc] at g1; cases g1
    have hlen := LRel.length g3
    simp only [Array.length_toList] at hlen
    simp only [List.length_cons] at hl
    have hone := one_of hok1 h1
    have hcell : (w.cell? ⟨c, o + i, none⟩).isSome := by rw [cell_of_row w c _ cs' e _ g2]; simp; omega
    obtain ⟨old, hold⟩ := Option.isSome_iff_exists.1 hcell
    have hfro : w.frozen? ⟨c, o + i, none⟩ = false := frozen_of_row w c _ cs' e g2
    have hst : (store ((⟨c, o, none⟩ : Addr).add i) u).run P w = .ok () (w.setCell ⟨c, o + i, none⟩ u) := by
      rw [add_none, run_store P w _ u _ hone, hold]; simp [hfro]
    have H2 := H.setCell (o := o + i) hb hc h1
    obtain ⟨w', hr, H'⟩ := storeCells_rel o (i := i + 1) (cs := cs.set (o + i) x) H2 hc (by rw [List.getElem?_set_self (H.dom _ _ hc)]) h2 (by simp; omega) hok2
    refine ⟨w', ?_, ?_⟩
    · simp only [storeCells, Sem.run_bind, hst, Result.andThen_ok]; exact hr
    · simp only [fillA.setFrom]
      rw [List.set_set] at H'
      exact H'

theorem store_rel (H : HRel B w0 φ h w) {t : TypeId} {b o c : Nat} {v : AV} {u : Value} {h' : AH} (hc : φ b = some c) (hv : ARel φ v u) (hs : storeA P t b o v h = some h') :
    ∃ w', (storeVar t ⟨c, o, none⟩ u).run P w = .ok () w' ∧ HRel B w0 φ h' w' := by
  unfold storeA at hs
  cases hb : h[b]? with
  | none => simp [hb] at hs
  | some cs =>
    cases hz : sizeA P t with
    | none => simp [hb, hz] at hs
    | some n =>
      simp only [hb, hz] at hs
      split at hs
      · rename_i hn
        obtain ⟨hn1, hn2, hn3⟩ := hn
        cases hs
        have hlen := LRel.length (cells_rel hv)
        simp only [Array.length_toList] at hlen
        obtain ⟨w', hr, H'⟩ := storeCells_rel (P := P) o (i := 0) H hc hb (cells_rel hv) (by omega) hn3
        refine ⟨w', ?_, by simpa using H'⟩
        simp only [storeVar, Sem.run_bind, sizeA_run hz, Result.andThen_ok]
        rw [if_neg (by omega)]
        simpa using hr
      · cases hs

end

/-! ### '==' -/
section
variable {P : Program} {φ : Ren}

theorem fieldsOf_eq {t : TypeId} {fs : Array Field} (h : P.underlying t = some (.struct fs)) : P.fieldsOf t = fs := by
  unfold Program.fieldsOf; rw [h]

theorem eqA_rel : ∀ (d : Nat) (t : TypeId) (x y : AV) (v u : Value) (l r : Bool) (w : World), eqA P d t x y = some (l, r) → ARel φ x v → ARel φ y u →
    (Op.equalIn d t v u).run P w = .ok r w := by
  intro d
  induction d with
  | zero => intro t x y v u l r w h; simp [eqA] at h
  | succ d ih =>
    intro t x y v u l r w h hx hy
    rw [eqA.eq_def] at h
    simp only at h
    split at h
    · rename_i l1 a l2 b hu
      cases h
      simp only [ARel] at hx hy; subst hx; subst hy
      exact run_equalIn_bool' w d t a b hu
    · rename_i k' k l1 a k2 l2 b hu
      split at h
      · rename_i hk
        cases h
        subst hk
        simp only [ARel] at hx hy; obtain ⟨rfl, _⟩ := hx; obtain ⟨rfl, _⟩ := hy
        exact run_equalIn_int w d t k k' a b hu
      · cases h
    · rename_i l1 a l2 b hu
      cases h
      simp only [ARel] at hx hy; subst hx; subst hy
      exact run_equalIn_string w d t a b hu
    · rename_i e b hu
      cases h
      simp only [ARel] at hx; subst hx
      cases b with
      | none => simp only [ARel] at hy; subst hy; simp [Op.equalIn, run_underlying hu]
      | some p => obtain ⟨b, o⟩ := p; simp only [ARel] at hy; obtain ⟨c, _, rfl⟩ := hy; simp [Op.equalIn, run_underlying hu]
    · rename_i e b hb hu
      cases h
      simp only [ARel] at hy; subst hy
      cases b with
      | none => exact absurd rfl hb
      | some p => obtain ⟨b, o⟩ := p; simp only [ARel] at hx; obtain ⟨c, _, rfl⟩ := hx; simp [Op.equalIn, run_underlying hu]
    · rename_i p1 p2 p3 hu
      cases h
      simp only [ARel] at hx hy; subst hx; subst hy
      simp [Op.equalIn, run_underlying hu]
    · rename_i p1 p2 p3 fn f c hu
      cases h
      simp only [ARel] at hx hy; subst hx; obtain ⟨_, _, rfl, _⟩ := hy
      simp [Op.equalIn, run_underlying hu]
    · rename_i p1 p2 p3 fn f c hu
      cases h
      simp only [ARel] at hx hy; subst hy; obtain ⟨_, _, rfl, _⟩ := hx
      simp [Op.equalIn, run_underlying hu]
    · rename_i e n1 k1 b n2 k2 hu
      cases h
      simp only [ARel] at hx; subst hx
      cases b with
      | none => simp only [ARel] at hy; subst hy; simp [Op.equalIn, run_underlying hu]
      | some p => obtain ⟨b, o⟩ := p; simp only [ARel] at hy; obtain ⟨c, _, rfl⟩ := hy; simp [Op.equalIn, run_underlying hu]
    · rename_i e b n1 k1 n2 k2 hb hu
      cases h
      simp only [ARel] at hy; subst hy
      cases b with
      | none => exact (hb rfl).elim
      | some p => obtain ⟨b, o⟩ := p; simp only [ARel] at hx; obtain ⟨c, _, rfl⟩ := hx; simp [Op.equalIn, run_underlying hu]
    · rename_i fields xs ys hu
      split at h
      · cases h
      · rename_i hst
        simp only [ARel] at hx hy
        obtain ⟨xs', rfl, hx⟩ := hx
        obtain ⟨ys', rfl, hy⟩ := hy
        have hfo := fieldsOf_eq hu
        rw [run_equalIn_struct w d t xs' ys' (by rw [hfo]; exact hu) (by simpa using hst), hfo]
        generalize fields.toList = fs at h
        clear hu hfo hst
        induction fs generalizing l r with
        | nil => simp only [List.foldr_nil, Option.some.injEq, Prod.mk.injEq] at h; rw [← h.2]; simp [Op.eqFields]
        | cons f fs ihf =>
          simp only [List.foldr_cons] at h
          simp only [Op.eqFields]
          by_cases hn : f.name = "_"
          · rw [if_pos hn] at h
            simp only [hn, ne_eq, not_true_eq_false, if_false]
            exact ihf _ _ h
          · rw [if_neg hn] at h
            simp only [ne_eq, hn, not_false_eq_true, if_true]
            split at h
            · rename_i pa pb l2 r2 ha hb hacc
              split at h
              · rename_i m c hm
                simp only [Option.some.injEq, Prod.mk.injEq] at h
                obtain ⟨_, rfl⟩ := h
                obtain ⟨va, hva, hra⟩ := part_rel (w := w) hx ha
                obtain ⟨vb, hvb, hrb⟩ := part_rel (w := w) hy hb
                have he := ih f.type pa pb va vb m c w hm hra hrb
                have hrest := ihf _ _ hacc
                simp only [Sem.run_bind, hva, hvb, he, Result.andThen_ok]
                cases c
                · simp
                · simpa using hrest
              · cases h
            · cases h
    · cases h

end
end Go.Sky

/- The evaluator's operations against the machine's: those that only read. -/
namespace Go.Sky
open Go.RowKit (Below)

section
variable {P : Program} {w : World} {B : Nat} {w0 : World} {φ : Ren}

theorem barred_run {l b : Bool} {t : Ans} {r : AV × AH} (h : (barred l b t).run = some r) : b = false ∧ t.run = some r := by
  cases l <;> cases b <;> simp_all [barred, Tr.run]

theorem barred_val {l b : Bool} {v : AV} {hh : AH} {r : AV × AH} (h : (barred l b (val v hh)).run = some r) : b = false ∧ r = (v, hh) := by
  obtain ⟨h1, h2⟩ := barred_run h; exact ⟨h1, val_run h2⟩

theorem bits_inR (op : BinOp) (k : IntKind) (x y : Int) : InR k (Go.bits op k x y) := wrap_inR k _

theorem tmod_inR {k : IntKind} {x y : Int} (hx : InR k x) : InR k (x.tmod y) := by
  unfold InR at *
  have h0 : k.min ≤ 0 ∧ 0 ≤ k.max := by cases k <;> decide
  have h1 : (x.tmod y).natAbs ≤ x.natAbs := by rw [Int.natAbs_tmod]; exact Nat.mod_le _ _
  rcases Int.le_total 0 x with h | h
  · have h2 := Int.tmod_nonneg y h
    omega
  · have h2 : (-x).tmod y = -(x.tmod y) := Int.neg_tmod x y
    have h3 := Int.tmod_nonneg y (show 0 ≤ -x by omega)
    omega

theorem fdiv_inR {k : IntKind} {x : Int} (hx : InR k x) (n : Nat) : InR k (x.fdiv (2 ^ n)) := by
  unfold InR at *
  have h0 : k.min ≤ 0 ∧ 0 ≤ k.max := by cases k <;> decide
  have hp : (0 : Int) < 2 ^ n := Int.pow_pos (by decide)
  rw [Int.fdiv_eq_ediv_of_nonneg _ (by omega)]
  rcases Int.le_total 0 x with h | h
  · have h1 := Int.ediv_nonneg h (show (0 : Int) ≤ 2 ^ n by omega)
    have h2 := Int.ediv_le_self (2 ^ n) h
    omega
  · have h1 : x / 2 ^ n ≤ 0 := Int.ediv_nonpos_of_nonpos_of_neg h (by omega)
    have h2 : x ≤ x / 2 ^ n := by
      rw [Int.le_ediv_iff_mul_le hp]
      have h3 : 0 ≤ (-x) * (2 ^ n - 1) := Int.mul_nonneg (by omega) (by omega)
      rw [Int.mul_sub, Int.neg_mul, Int.neg_mul, Int.mul_one] at h3
      omega
    omega

theorem binInt_rel {op : BinOp} {k : IntKind} {l1 l2 : Bool} {x y : Int} {h : AH} {r : AV × AH} (hx : InR k x) (hr : (binInt op k l1 x l2 y h).run = some r) :
    r.2 = h ∧ ∃ u, (binOp op 0 (.int k x) (.int k y)).run P w = .ok u w ∧ ARel φ r.1 u := by
  cases op <;> simp only [binInt, isBits, cmpInt] at hr
  case shl => simp [Tr.run] at hr
  case shr => simp [Tr.run] at hr
  case quo =>
    obtain ⟨h1, rfl⟩ := barred_val hr
    simp only [decide_eq_false_iff_not] at h1
    exact ⟨rfl, .int k (k.wrap (x.tdiv y)), by simp [binOp, Op.intDiv, h1], by simp [ARel, wrap_inR]⟩
  case rem =>
    obtain ⟨h1, rfl⟩ := barred_val hr
    simp only [decide_eq_false_iff_not] at h1
    exact ⟨rfl, .int k (x.tmod y), by simp [binOp, Op.intDiv, h1], by simp [ARel, tmod_inR hx]⟩
  all_goals
    have hv := val_run hr
    subst hv
    exact ⟨rfl, _, by simp only [binOp, ne_eq, not_true_eq_false, if_false]; rfl, by simp [ARel, Go.bits, wrap_inR]⟩

theorem shiftInt_rel {op : BinOp} {k k' : IntKind} {l1 l2 : Bool} {x y : Int} {h : AH} {r : AV × AH} (t : TypeId) (hx : InR k x) (hr : (shiftInt op k l1 x l2 y h).run = some r) :
    r.2 = h ∧ ∃ u, (binOp op t (.int k x) (.int k' y)).run P w = .ok u w ∧ ARel φ r.1 u := by
  cases op <;> simp only [shiftInt] at hr
  case shl =>
    obtain ⟨h1, rfl⟩ := barred_val hr
    simp only [decide_eq_false_iff_not] at h1
    exact ⟨rfl, .int k (k.wrap (x * 2 ^ (min y.toNat k.bits))), by simp [binOp, Op.shift, h1], by simp [ARel, wrap_inR]⟩
  case shr =>
    obtain ⟨h1, rfl⟩ := barred_val hr
    simp only [decide_eq_false_iff_not] at h1
    exact ⟨rfl, .int k (x.fdiv (2 ^ (min y.toNat k.bits))), by simp [binOp, Op.shift, h1], by simp [ARel, fdiv_inR hx]⟩
  all_goals simp [Tr.run] at hr

theorem binInt_type (op : BinOp) (t : TypeId) (k : IntKind) (x y : Int) : binOp op t (.int k x) (.int k y) = binOp op 0 (.int k x) (.int k y) := by
  cases op <;> simp [binOp]

theorem guard_int (op : BinOp) (t : TypeId) (x y : Operand) (k k' : IntKind) (a b : Int) : (eqGuard op t x y (.int k a) (.int k' b)).run P w = .ok () w := by
  cases op <;> simp [eqGuard]

theorem eqA_guard {d : Nat} {t : TypeId} {x y : AV} {v u : Value} {l r : Bool} (h : eqA P d t x y = some (l, r)) (hx : ARel φ x v) (hy : ARel φ y u) (op : BinOp) (p q : Operand)
    (hg : P.eqGuardType P.depth t = false) : (eqGuard op t p q v u).run P w = .ok () w := by
  cases d with
  | zero => simp [eqA] at h
  | succ d =>
    rw [eqA.eq_def] at h
    simp only at h
    split at h <;> (try simp only [ARel] at hx hy)
    · subst hx; subst hy; cases op <;> simp [eqGuard]
    · obtain ⟨rfl, _⟩ := hx; obtain ⟨rfl, _⟩ := hy; cases op <;> simp [eqGuard]
    · subst hx; subst hy; cases op <;> simp [eqGuard]
    · subst hx; cases op <;> simp [eqGuard]
    · rename_i e b _ _
      cases b with
      | none => simp only [ARel] at hx; subst hx; cases op <;> simp [eqGuard]
      | some p => obtain ⟨_, _⟩ := p; simp only [ARel] at hx; obtain ⟨c, _, rfl⟩ := hx; cases op <;> simp [eqGuard]
    · subst hx; cases op <;> simp [eqGuard]
    · subst hx; cases op <;> simp [eqGuard]
    · subst hy; obtain ⟨_, _, rfl, _⟩ := hx; cases op <;> simp [eqGuard]
    · subst hx; cases op <;> simp [eqGuard]
    · rename_i e b _ _ _ _ _ _
      cases b with
      | none => simp only [ARel] at hx; subst hx; cases op <;> simp [eqGuard]
      | some p => obtain ⟨_, _⟩ := p; simp only [ARel] at hx; obtain ⟨c, _, rfl⟩ := hx; cases op <;> simp [eqGuard]
    · obtain ⟨_, rfl, _⟩ := hx; obtain ⟨_, rfl, _⟩ := hy
      exact run_eqGuard_agg w op t p q _ _ hg
    · cases h

/-- '==' of what is no pair of numbers goes by 'Op.equal'. -/
theorem binEq {d : Nat} {t : TypeId} {x y : AV} {v u : Value} {l r : Bool} (h : eqA P d t x y = some (l, r)) (hx : ARel φ x v) (hy : ARel φ y u)
    (hn : ∀ k l n k' m j, ¬ (x = .int k l n ∧ y = .int k' m j)) (he : (Op.equal t v u).run P w = .ok r w) :
    (binOp .eql t v u).run P w = .ok (.bool r) w ∧ (binOp .neq t v u).run P w = .ok (.bool (!r)) w := by
  cases d with
  | zero => simp [eqA] at h
  | succ d =>
    rw [eqA.eq_def] at h
    simp only at h
    have key : (binOp .eql t v u = do pure (.bool (← Op.equal t v u))) → (binOp .neq t v u = do pure (.bool (!(← Op.equal t v u)))) →
        (binOp .eql t v u).run P w = .ok (.bool r) w ∧ (binOp .neq t v u).run P w = .ok (.bool (!r)) w := by
      intro h1 h2; rw [h1, h2]; simp [he]
    split at h <;> (try simp only [ARel] at hx hy)
    · subst hx; subst hy; exact key (by simp [binOp]) (by simp [binOp])
    · rename_i k' k l1 a k2 l2 b _; exact absurd ⟨rfl, rfl⟩ (hn k l1 a k2 l2 b)
    · subst hx; subst hy
      cases h
      simp [binOp, Op.stringOp]
    · subst hx; exact key (by simp [binOp]) (by simp [binOp])
    · rename_i e b _ _
      cases b with
      | none => simp only [ARel] at hx; subst hx; exact key (by simp [binOp]) (by simp [binOp])
      | some p => obtain ⟨_, _⟩ := p; simp only [ARel] at hx; obtain ⟨c, _, rfl⟩ := hx; exact key (by simp [binOp]) (by simp [binOp])
    · subst hx; exact key (by simp [binOp]) (by simp [binOp])
    · subst hx; exact key (by simp [binOp]) (by simp [binOp])
    · subst hy; obtain ⟨_, _, rfl, _⟩ := hx; exact key (by simp [binOp]) (by simp [binOp])
    · subst hx; exact key (by simp [binOp]) (by simp [binOp])
    · rename_i e b _ _ _ _ _ _
      cases b with
      | none => simp only [ARel] at hx; subst hx; exact key (by simp [binOp]) (by simp [binOp])
      | some p => obtain ⟨_, _⟩ := p; simp only [ARel] at hx; obtain ⟨c, _, rfl⟩ := hx; exact key (by simp [binOp]) (by simp [binOp])
    · obtain ⟨_, rfl, _⟩ := hx; obtain ⟨_, rfl, _⟩ := hy; exact key (by simp [binOp]) (by simp [binOp])
    · cases h

theorem minmax_rel {isMax : Bool} : ∀ {l : List AV} {m : List Value} {x r : AV} {v : Value}, ARel φ x v → LRel φ l m → minmax isMax x l = some r →
    ∃ u, (m.foldlM (if isMax then Builtin.max2 else Builtin.min2) v).run P w = .ok u w ∧ ARel φ r u
  | [], m, x, r, v, hx, hl, h => by
    simp only [LRel] at hl; subst hl
    simp only [minmax, Option.some.injEq] at h; subst h
    exact ⟨v, by simp, hx⟩
  | y :: l, m, x, r, v, hx, hl, h => by
    simp only [LRel] at hl
    obtain ⟨u, us, rfl, h1, h2⟩ := hl
    unfold minmax at h
    try unfold mm at h
    split at h
    · cases ‹_ :: _ = []›
    · rename_i k l1 a k2 l2 b l' heq
      simp only [List.cons.injEq] at heq
      obtain ⟨rfl, rfl⟩ := heq
      split at h
      · rename_i hk
        subst hk
        simp only [ARel] at hx h1; obtain ⟨rfl, hxr⟩ := hx; obtain ⟨rfl, hyr⟩ := h1
        obtain ⟨u, hu, hr⟩ := minmax_rel (v := .int k (if isMax then (if b > a then b else a) else (if b < a then b else a))) (by simp only [ARel]; exact ⟨trivial, by split <;> split <;> assumption⟩) h2 h
        refine ⟨u, ?_, hr⟩
        simp only [List.foldlM_cons, Sem.run_bind]
        cases isMax <;> simp_all [Builtin.max2, Builtin.min2]
      · cases h
    · cases h

theorem lenA_rel {t : TypeId} {x r : AV} {v : Value} (rt : TypeId) (ts : Array TypeId) (ht : ts[0]? = some t) (hx : ARel φ x v) (h : lenA P t x = some r) :
    ∃ u, (Builtin.len_ ts rt #[v]).run P w = .ok u w ∧ ARel φ r u := by
  unfold lenA at h
  unfold Builtin.len_
  split at h
  · rename_i n e hu
    split at h
    · rename_i hn
      cases h
      exact ⟨.int .i64 n, by simp [ht, run_underlying hu, goInt], by simp [ARel, hn]⟩
    · cases h
  · rename_i e a n k hu
    split at h
    · rename_i hn
      cases h
      refine ⟨.int .i64 n, ?_, by simp [ARel, hn]⟩
      cases a with
      | none => simp only [ARel] at hx; subst hx; simp [ht, run_underlying hu, goInt]
      | some p => obtain ⟨_, _⟩ := p; simp only [ARel] at hx; obtain ⟨_, _, rfl⟩ := hx; simp [ht, run_underlying hu, goInt]
    · cases h
  · rename_i e1 e l hu
    cases h
    simp only [ARel] at hx
    obtain ⟨a, k, rfl, hn, _⟩ := list_val hx
    exact ⟨.int .i64 (l.length : Int), by simp [ht, run_underlying hu, goInt], by simp [ARel, hn]⟩
  · cases h

theorem convA_rel {src dst : TypeId} {x r : AV} {v : Value} (hx : ARel φ x v) (h : convA P src dst x = some r) :
    ∃ u, (convert src dst v).run P w = .ok u w ∧ ARel φ r u := by
  unfold convA at h
  split at h
  · rename_i d k k' l n hs hd
    cases h
    simp only [ARel] at hx; obtain ⟨rfl, _⟩ := hx
    exact ⟨.int k (k.wrap n), by simp [convert, run_underlying hs, run_underlying hd, Conv.intToInt], by simp [ARel, wrap_inR]⟩
  · cases h

end
end Go.Sky

/- The evaluator's operations against the machine's: one theorem a class of operations. -/
set_option linter.unusedSimpArgs false
set_option linter.unusedVariables false
namespace Go.Sky
open Go.RowKit (Below)

section
variable {P : Program} {w : World} {B : Nat} {w0 : World} {φ : Ren}

theorem placesA_runL : ∀ {fs : List Field} {pl : List (Nat × Nat)}, placesA P fs = some pl → (fs.mapM (fun (f : Field) => Prod.mk f.offset <$> sizeOf f.type)).run P w = .ok pl w
  | [], pl, h => by simp only [placesA, Option.some.injEq] at h; subst h; simp
  | f :: fs, pl, h => by
    simp only [placesA] at h
    cases hn : sizeA P f.type with
    | none => simp [hn] at h
    | some n =>
      cases hl : placesA P fs with
      | none => simp [hn, hl] at h
      | some l => simp only [hn, hl, Option.some.injEq] at h; subst h; simp [sizeA_run hn, placesA_runL hl]

theorem placesA_run {fs : Array Field} {pl : List (Nat × Nat)} (h : placesA P fs.toList = some pl) : (fs.mapM (fun (f : Field) => Prod.mk f.offset <$> sizeOf f.type)).run P w = .ok pl.toArray w := by
  rw [Array.mapM_eq_mapM_toList]
  simp [placesA_runL h]

theorem equal_nil {t : TypeId} {ms : Array (String × TypeId)} (hu : P.underlying t = some (.interface ms)) :
    (∀ a b, (Op.equal t (.iface a b) .nilIface).run P w = .ok false w) ∧ (Op.equal t .nilIface .nilIface).run P w = .ok true w := by
  unfold Op.equal
  obtain ⟨k, hk⟩ : ∃ k, Op.maxDepth = k + 1 := ⟨Op.maxDepth - 1, by decide⟩
  rw [hk]
  constructor
  · intro a b; simp [Op.equalIn, run_underlying hu]
  · simp [Op.equalIn, run_underlying hu]

theorem nilCmp_run {op : BinOp} {t : TypeId} {x y : Operand} {a b : AV} {c : Bool} {u v : Value} {φ : Ren} (h : nilCmp P op t x y a b = some c) (ha : ARel φ a u) (hb : ARel φ b v) :
    (do eqGuard op t x y u v; binOp op t u v : Sem Value).run P w = .ok (.bool c) w := by
  unfold nilCmp at h
  split at h
  · simp only [ARel] at ha hb
    obtain ⟨z, rfl, _⟩ := ha
    subst hb
    split at h
    · rename_i hu
      cases h
      simp [eqGuard, binOp, (equal_nil (w := w) hu).1]
    · rename_i hu
      cases h
      simp [eqGuard, binOp, (equal_nil (w := w) hu).1]
    · cases h
  · simp only [ARel] at ha hb
    subst ha; subst hb
    split at h
    · rename_i hc
      split at h
      · rename_i hu
        cases h
        cases x <;> cases y <;> simp_all [isConstO, eqGuard, binOp, (equal_nil (w := w) hu).2]
      · rename_i hu
        cases h
        cases x <;> cases y <;> simp_all [isConstO, eqGuard, binOp, (equal_nil (w := w) hu).2]
      · cases h
    · cases h
  · cases h

/-- A method that takes its receiver as it is. -/
theorem method_of {t : TypeId} {name : String} {f : FuncId} (h : methodA P t name = some f) (v : Value) (n : Nat) : (method (n + 1) t v name).run P w = .ok (f, v) w := by
  unfold methodA at h
  cases hi : P.info? t with
  | none => simp [hi] at h
  | some i =>
    cases hu : P.underlying t with
    | none => simp [hi, hu] at h
    | some d =>
      simp only [hi, hu] at h
      split at h
      · rename_i m hm
        split at h
        · rename_i g pr hp hfn
          simp only [method, Sem.run_bind, run_info hi, Result.andThen_ok, hm, hp, follow, Sem.run_pure, hfn]
          split at h
          · cases h
            simp [receiverAt, run_underlying hu, Place.get]
          · cases h
          · cases h
          · rename_i h1 h2 h3
            cases h
            cases d <;> simp_all [receiverAt, run_underlying hu, Place.get]
        · cases h
      · cases h

theorem nilAhead_of {t : TypeId} {name : String} {f : FuncId} (h : methodA P t name = some f) (v : Value) (hv : True) (n : Nat) : (nilAhead (n + 1) t v name).run P w = .ok (some false) w := by
  unfold methodA at h
  cases hi : P.info? t with
  | none => simp [hi] at h
  | some i =>
    cases hu : P.underlying t with
    | none => simp [hi, hu] at h
    | some d =>
      simp only [hi, hu] at h
      split at h
      · rename_i m hm
        split at h
        · rename_i g pr hp hfn
          simp only [nilAhead, Sem.run_bind, run_info hi, Result.andThen_ok, hm, hp, followBlind, Sem.run_pure, hfn]
          split at h
          · cases h; rfl
          · cases h
          · cases h
          · rename_i h1 h2 h3
            cases h
            cases d <;> simp_all [run_underlying hu]
        · cases h
      · cases h

set_option maxHeartbeats 1000000 in
/-- What only reads: the world stays. -/
theorem evOp_pure (hF : FOk φ.frz w) {s : St} {o : Oper} {a : Act} {v : AV} {h' : AH} (hp : isReader o.op = true) (hr : (evOp P s o.op).run = some (v, h'))
    (H : ∀ t x, o.op = .load t x → ∀ b off, s.ev x = some (.ptr (some (b, off))) → ∀ cs, s.heap[b]? = some cs → ∃ c cs' e, φ b = some c ∧ w.heap[c]? = some (.cells cs' e (0, 0)) ∧ LRel φ cs cs'.toList)
    (ht : LRel φ s.tmps a.tmps.toList) : h' = s.heap ∧ ∃ u, (execOp a.eval o).run P w = .ok (.value u) w ∧ ARel φ v u := by
  unfold execOp
  cases ho : o.op <;> simp only [ho, isReader, Bool.false_eq_true] at hp <;> simp only [ho, evOp] at hr <;> simp only []
  case move x =>
    (replace hr := opt_run hr); obtain ⟨u, hu, hr⟩ := hr; cases val_run hr
    exact ⟨rfl, _, rfl, ev_rel ht hu⟩
  case assign x =>
    (replace hr := opt_run hr); obtain ⟨u, hu, hr⟩ := hr; cases val_run hr
    exact ⟨rfl, _, rfl, ev_rel ht hu⟩
  case build t parts =>
    (replace hr := opt_run hr); obtain ⟨z, hz, hr⟩ := hr
    (replace hr := opt_run hr); obtain ⟨ps, hps, hr⟩ := hr
    obtain ⟨zv, hzv, hzr⟩ := zeroA_rel (w := w) (φ := φ) hz
    have hpr := evParts_rel ht hps
    have hparts : (parts.map fun x => match x with | (i, x) => (i, a.eval x)).toList = parts.toList.map fun p => (p.1, a.eval p.2) := by simp
    cases hu : P.underlying t with
    | none => simp [hu, Tr.run] at hr
    | some d =>
      cases d <;> simp only [hu] at hr <;> try (simp [Tr.run] at hr; done)
      case struct fields =>
        (replace hr := opt_run hr); obtain ⟨pl, hpl, hr⟩ := hr
        (replace hr := opt_run hr); obtain ⟨cs, hcs, hr⟩ := hr; cases val_run hr
        obtain ⟨cs', hf, hrel⟩ := fill_rel hpr (cells_rel hzr) hcs
        refine ⟨rfl, .agg cs', ?_, by simp only [ARel]; exact ⟨_, rfl, hrel⟩⟩
        simp [Instr.build, hzv, run_underlying hu, placesA_run hpl, hf]
      case array n e =>
        (replace hr := opt_run hr); obtain ⟨size, hs, hr⟩ := hr
        (replace hr := opt_run hr); obtain ⟨cs, hcs, hr⟩ := hr; cases val_run hr
        obtain ⟨cs', hf, hrel⟩ := fill_rel hpr (cells_rel hzr) hcs
        refine ⟨rfl, .agg cs', ?_, by simp only [ARel]; exact ⟨_, rfl, hrel⟩⟩
        simp [Instr.build, hzv, run_underlying hu, sizeA_run hs, hf]
  case load t x =>
    (replace hr := opt_run hr); obtain ⟨u, hu, hr⟩ := hr
    split at hr
    · rename_i b o
      (replace hr := opt_run hr); obtain ⟨r, hl, hr⟩ := hr; cases val_run hr
      have he := ev_rel ht hu
      simp only [ARel] at he
      obtain ⟨c, hc, he⟩ := he
      obtain ⟨v, hv, hrel⟩ := load_loc (P := P) (w := w) (φ := φ) (c := c) (fun cs hb => by
        obtain ⟨c', cs', e, h1, h2, h3⟩ := H t x ho b o hu cs hb
        rw [hc] at h1; cases h1
        exact ⟨cs', e, h2, h3⟩) hl
      exact ⟨rfl, v, by simp [Instr.loadAt, Instr.sureAddr, he, hv], hrel⟩
    · rename_i cs off
      (replace hr := opt_run hr); obtain ⟨r, hl, hr⟩ := hr; cases val_run hr
      have he := ev_rel ht hu
      simp only [ARel] at he
      obtain ⟨c, base, cells, h1, he, h2, h3⟩ := he
      obtain ⟨e, hw⟩ := hF _ _ h1
      obtain ⟨v, hv, hrel⟩ := load_win (P := P) hw h2 h3 hl
      exact ⟨rfl, v, by simp [Instr.loadAt, Instr.sureAddr, he, hv], hrel⟩
    · simp [Tr.run] at hr
  case nilCheck x =>
    (replace hr := opt_run hr); obtain ⟨u, hu, hr⟩ := hr
    split at hr
    · rename_i p
      obtain ⟨b, o⟩ := p
      cases val_run hr
      have he := ev_rel ht hu
      have he' := he
      simp only [ARel] at he
      obtain ⟨c, hc, he⟩ := he
      rw [he] at he'
      exact ⟨rfl, _, by simp [he], he'⟩
    · rename_i cs off
      cases val_run hr
      have he := ev_rel ht hu
      have he' := he
      simp only [ARel] at he
      obtain ⟨c, base, cells, h1, he, h2, h3⟩ := he
      rw [he] at he'
      exact ⟨rfl, _, by simp [he], he'⟩
    · rename_i name t x
      split at hr
      · rename_i f hmth
        cases val_run hr
        have he := ev_rel ht hu
        simp only [ARel, LRel] at he
        obtain ⟨fs', cs', he, ⟨y, ys, hy, ⟨z, rfl, hz⟩, rfl⟩, hcs⟩ := he
        have hfs : fs' = #[.iface t z] := by apply Array.ext'; simpa using hy
        have hcs' : cs' = #[] := by apply Array.ext'; simpa using hcs
        subst hfs; subst hcs'
        refine ⟨rfl, .func (.method name) #[.iface t z] #[], ?_, by simp only [ARel, LRel]; exact ⟨_, _, rfl, ⟨_, _, rfl, ⟨_, rfl, hz⟩, rfl⟩, rfl⟩⟩
        have hn := nilAhead_of (w := w) hmth z trivial (P.types.size + 99)
        simp only [he, List.getElem?_toArray, List.getElem?_cons_zero, Sem.run_bind, run_program, Result.andThen_ok, show P.types.size + Made.depth = P.types.size + 99 + 1 from rfl, hn]
        simp
      · simp [Tr.run] at hr
    · simp [Tr.run] at hr
  case binOp op t x y yt =>
    (replace hr := opt_run hr); obtain ⟨p, hx, hr⟩ := hr
    (replace hr := opt_run hr); obtain ⟨q, hy, hr⟩ := hr
    have ex := ev_rel ht hx
    have ey := ev_rel ht hy
    split at hr
    · rename_i c hnil
      cases val_run hr
      have := nilCmp_run (w := w) hnil ex ey
      exact ⟨rfl, .bool c, by simp only [Sem.run_bind, this, Result.andThen_ok, Sem.run_pure], by simp [ARel]⟩
    rename_i hnone
    clear hnone
    split at hr
    · rename_i k l n k' m j
      simp only [ARel] at ex ey
      obtain ⟨ex, exr⟩ := ex; obtain ⟨ey, eyr⟩ := ey
      obtain ⟨h1, u, h2, h3⟩ := shiftInt_rel (P := P) (w := w) (φ := φ) (k' := k') t exr hr
      exact ⟨h1, u, by simp [ex, ey, guard_int, h2], h3⟩
    · rename_i k l n k' m j
      simp only [ARel] at ex ey
      obtain ⟨ex, exr⟩ := ex; obtain ⟨ey, eyr⟩ := ey
      obtain ⟨h1, u, h2, h3⟩ := shiftInt_rel (P := P) (w := w) (φ := φ) (k' := k') t exr hr
      exact ⟨h1, u, by simp [ex, ey, guard_int, h2], h3⟩
    · rename_i op' k l n k' m j _ _
      split at hr
      · rename_i hk
        subst hk
        simp only [ARel] at ex ey
        obtain ⟨ex, exr⟩ := ex; obtain ⟨ey, eyr⟩ := ey
        obtain ⟨h1, u, h2, h3⟩ := binInt_rel (P := P) (w := w) (φ := φ) exr hr
        exact ⟨h1, u, by simp [ex, ey, guard_int, binInt_type _ t, h2], h3⟩
      · simp [Tr.run] at hr
    · split at hr
      · simp [Tr.run] at hr
      · rename_i hg
        split at hr
        · rename_i l c he
          cases val_run hr
          have heq := eqA_rel Op.maxDepth t _ _ _ _ _ _ w he ex ey
          have hb := binEq (P := P) (w := w) he ex ey (fun k l n k' m j h => ‹∀ (k : IntKind) (l : Bool) (n : Int) (k' : IntKind) (m : Bool) (j : Int), p = AV.int k l n → q = AV.int k' m j → False› k l n k' m j h.1 h.2) (by unfold Op.equal; exact heq)
          exact ⟨rfl, .bool c, by simp [eqA_guard he ex ey .eql x y (by simpa using hg), hb.1], by simp [ARel]⟩
        · simp [Tr.run] at hr
    · split at hr
      · simp [Tr.run] at hr
      · rename_i hg
        split at hr
        · rename_i l c he
          cases val_run hr
          have heq := eqA_rel Op.maxDepth t _ _ _ _ _ _ w he ex ey
          have hb := binEq (P := P) (w := w) he ex ey (fun k l n k' m j h => ‹∀ (k : IntKind) (l : Bool) (n : Int) (k' : IntKind) (m : Bool) (j : Int), p = AV.int k l n → q = AV.int k' m j → False› k l n k' m j h.1 h.2) (by unfold Op.equal; exact heq)
          exact ⟨rfl, .bool (!c), by simp [eqA_guard he ex ey .neq x y (by simpa using hg), hb.2], by simp [ARel]⟩
        · simp [Tr.run] at hr
    · simp [Tr.run] at hr
  case unOp op t x =>
    (replace hr := opt_run hr); obtain ⟨p, hx, hr⟩ := hr
    have ex := ev_rel ht hx
    split at hr
    · cases val_run hr
      simp only [ARel] at ex
      obtain ⟨ex, exr⟩ := ex
      exact ⟨rfl, _, by rw [ex]; rfl, by simp [ARel, wrap_inR]⟩
    · cases val_run hr
      simp only [ARel] at ex
      obtain ⟨ex, exr⟩ := ex
      exact ⟨rfl, _, by rw [ex]; rfl, by simp [ARel, Go.bits, wrap_inR]⟩
    · cases val_run hr
      simp only [ARel] at ex
      exact ⟨rfl, _, by rw [ex]; rfl, by simp [ARel]⟩
    · simp [Tr.run] at hr
  case convert src dst x =>
    (replace hr := opt_run hr); obtain ⟨p, hx, hr⟩ := hr
    (replace hr := opt_run hr); obtain ⟨q, hc, hr⟩ := hr
    cases val_run hr
    obtain ⟨u, hu, hrel⟩ := convA_rel (P := P) (w := w) (ev_rel ht hx) hc
    exact ⟨rfl, u, by simp [hu], hrel⟩
  case makeInterface t x =>
    (replace hr := opt_run hr); obtain ⟨p, hx, hr⟩ := hr
    have ex := ev_rel ht hx
    cases hu : P.underlying t with
    | none => simp [hu, Tr.run] at hr
    | some d =>
      cases d <;> simp only [hu] at hr <;> first | (simp [Tr.run] at hr; done) | skip
      all_goals
        cases val_run hr
        exact ⟨rfl, .iface t (a.eval x), by simp [Instr.makeInterface, run_underlying hu], by simp only [ARel]; exact ⟨_, rfl, ex⟩⟩
  case makeFunc fn first captured =>
    (replace hr := opt_run hr); obtain ⟨p, hx, hr⟩ := hr
    (replace hr := opt_run hr); obtain ⟨q, hy, hr⟩ := hr
    split at hr
    · cases val_run hr
      refine ⟨rfl, _, rfl, ?_⟩
      simp only [ARel]
      exact ⟨_, _, rfl, by simpa using evs_rel ht hx, by simpa using evs_rel ht hy⟩
    · cases val_run hr
      refine ⟨rfl, _, rfl, ?_⟩
      simp only [ARel]
      exact ⟨_, _, rfl, by simpa using evs_rel ht hx, by simpa using evs_rel ht hy⟩
    · simp [Tr.run] at hr
  case fieldAddr t x f =>
    (replace hr := opt_run hr); obtain ⟨p, hx, hr⟩ := hr
    have ex := ev_rel ht hx
    split at hr
    · rename_i b o fields hu
      split at hr
      · rename_i fd hf
        (replace hr := opt_run hr); obtain ⟨n, hn, hr⟩ := hr
        split at hr
        · simp [Tr.run] at hr
        · rename_i hn0
          cases val_run hr
          simp only [ARel] at ex
          obtain ⟨c, hc, ex⟩ := ex
          refine ⟨rfl, .pointer (some ⟨c, o + fd.offset, none⟩), ?_, by simp only [ARel]; exact ⟨c, hc, rfl⟩⟩
          simp [Instr.fieldAt, run_underlying hu, hf, ex, Instr.sureAddr, fieldPlace, sizeA_run hn, hn0, add_none]
      · simp [Tr.run] at hr
    · rename_i cs o fields hu
      split at hr
      · rename_i fd hf
        (replace hr := opt_run hr); obtain ⟨n, hn, hr⟩ := hr
        split at hr
        · simp [Tr.run] at hr
        · rename_i hn0
          cases val_run hr
          simp only [ARel] at ex
          obtain ⟨c, base, cells, h1, ex, h2, h3⟩ := ex
          refine ⟨rfl, .pointer (some ⟨c, base + (o + fd.offset), none⟩), ?_, by simp only [ARel]; exact ⟨c, base, cells, h1, rfl, h2, h3⟩⟩
          simp [Instr.fieldAt, run_underlying hu, hf, ex, Instr.sureAddr, fieldPlace, sizeA_run hn, hn0, add_none, Nat.add_assoc]
      · simp [Tr.run] at hr
    · simp [Tr.run] at hr
  case field t x f =>
    (replace hr := opt_run hr); obtain ⟨p, hx, hr⟩ := hr
    have ex := ev_rel ht hx
    split at hr
    · rename_i cs fields hu
      split at hr
      · rename_i fd hf
        (replace hr := opt_run hr); obtain ⟨r, hp2, hr⟩ := hr
        cases val_run hr
        simp only [ARel] at ex
        obtain ⟨cs', ex, hrel⟩ := ex
        obtain ⟨v, hv, hvr⟩ := part_rel (P := P) (w := w) hrel hp2
        exact ⟨rfl, v, by simp [Instr.field, run_underlying hu, hf, ex, asAgg, hv], hvr⟩
      · simp [Tr.run] at hr
    · simp [Tr.run] at hr
  case indexAddr t x i =>
    (replace hr := opt_run hr); obtain ⟨p, hx, hr⟩ := hr
    (replace hr := opt_run hr); obtain ⟨q, hi, hr⟩ := hr
    have ex := ev_rel ht hx
    have ei := ev_rel ht hi
    split at hr
    · rename_i elem e l kk lit n hu
      (replace hr := opt_run hr); obtain ⟨size, hs, hr⟩ := hr
      split at hr
      · rename_i hse
        unfold pick at hr
        simp only [Tr.run] at hr
        split at hr
        · rename_i hb
          have hb := of_decide_eq_true hb
          cases val_run hr
          simp only [ARel] at ex ei
          obtain ⟨b, k, ex, hn, hx2⟩ := list_val ex
          have hnt : n.toNat < l.length := by omega
          obtain ⟨c, o, cells, rfl, h1, h2, h3⟩ := hx2 n.toNat (l.getD n.toNat (.list [])) (by rw [List.getD_eq_getElem?_getD, List.getElem?_eq_getElem hnt]; rfl)
          have hsz := seeC_length e (l.getD n.toNat (.list []))
          refine ⟨rfl, .pointer (some ⟨c, o + n.toNat * size, none⟩), ?_, ?_⟩
          · simp [Instr.indexAt, ei.1, asIntOf, run_underlying hu, ex, hb, sizeA_run hs, add_none]
          · simp only [ARel]
            refine ⟨c, o + n.toNat * e.size, cells, h1, by rw [hse]; rfl, ?_, ?_⟩
            · rw [hsz]
              have : (n.toNat + 1) * e.size = n.toNat * e.size + e.size := by rw [Nat.add_mul, Nat.one_mul]
              omega
            · rw [hsz]; exact see_rel _ _ _ h3
        · cases hr
      · simp [Tr.run] at hr
    (replace hr := opt_run hr); obtain ⟨n, hn, hr⟩ := hr
    have hq : ∃ k, a.eval i = .int k n := by
      unfold litIx at hn
      split at hn
      · cases hn; simp only [ARel] at ei; exact ⟨_, ei.1⟩
      · cases hn
    obtain ⟨k, hk⟩ := hq
    split at hr
    · rename_i len elem b o hu hneg
      (replace hr := opt_run hr); obtain ⟨size, hs, hr⟩ := hr
      split at hr
      · rename_i hb
        cases val_run hr
        simp only [ARel] at ex
        obtain ⟨c, hc, ex⟩ := ex
        refine ⟨rfl, .pointer (some ⟨c, o + n.toNat * size, none⟩), ?_, by simp only [ARel]; exact ⟨c, hc, rfl⟩⟩
        simp [Instr.indexAt, hk, asIntOf, run_underlying hu, ex, Instr.sureAddr, hb, sizeA_run hs, add_none]
      · simp [Tr.run] at hr
    · rename_i elem b o len cap hu hneg
      (replace hr := opt_run hr); obtain ⟨size, hs, hr⟩ := hr
      split at hr
      · rename_i hb
        cases val_run hr
        simp only [ARel] at ex
        obtain ⟨c, hc, ex⟩ := ex
        refine ⟨rfl, .pointer (some ⟨c, o + n.toNat * size, none⟩), ?_, by simp only [ARel]; exact ⟨c, hc, rfl⟩⟩
        simp [Instr.indexAt, hk, asIntOf, run_underlying hu, ex, hb, sizeA_run hs, add_none]
      · simp [Tr.run] at hr
    · rename_i len elem cs o hu hneg
      (replace hr := opt_run hr); obtain ⟨size, hs, hr⟩ := hr
      split at hr
      · rename_i hb
        cases val_run hr
        simp only [ARel] at ex
        obtain ⟨c, base, cells, h1, ex, h2, h3⟩ := ex
        refine ⟨rfl, .pointer (some ⟨c, base + (o + n.toNat * size), none⟩), ?_, by simp only [ARel]; exact ⟨c, base, cells, h1, rfl, h2, h3⟩⟩
        simp [Instr.indexAt, hk, asIntOf, run_underlying hu, ex, Instr.sureAddr, hb, sizeA_run hs, add_none, Nat.add_assoc]
      · simp [Tr.run] at hr
    · simp [Tr.run] at hr
  case index t x i =>
    (replace hr := opt_run hr); obtain ⟨p, hx, hr⟩ := hr
    (replace hr := opt_run hr); obtain ⟨q, hi, hr⟩ := hr
    (replace hr := opt_run hr); obtain ⟨n, hn, hr⟩ := hr
    have ex := ev_rel ht hx
    have ei := ev_rel ht hi
    have hq : ∃ k, a.eval i = .int k n := by
      unfold litIx at hn
      split at hn
      · cases hn; simp only [ARel] at ei; exact ⟨_, ei.1⟩
      · cases hn
    obtain ⟨k, hk⟩ := hq
    split at hr
    · rename_i len elem cs hu
      (replace hr := opt_run hr); obtain ⟨size, hs, hr⟩ := hr
      split at hr
      · rename_i hb
        (replace hr := opt_run hr); obtain ⟨r, hp2, hr⟩ := hr
        cases val_run hr
        simp only [ARel] at ex
        obtain ⟨cs', ex, hrel⟩ := ex
        obtain ⟨v, hv, hvr⟩ := part_rel (P := P) (w := w) hrel hp2
        exact ⟨rfl, v, by simp [Instr.index, hk, asIntOf, run_underlying hu, ex, hb, sizeA_run hs, hv], hvr⟩
      · simp [Tr.run] at hr
    · simp [Tr.run] at hr
  case slice t x lo hi mx =>
    cases lo <;> cases hi <;> cases mx <;> simp only [evOp] at hr <;> first | (simp [Tr.run] at hr; done) | skip
    · (replace hr := opt_run hr); obtain ⟨p, hx, hr⟩ := hr
      have ex := ev_rel ht hx
      split at hr
      · rename_i n e b o hu
        (replace hr := opt_run hr); obtain ⟨size, hs, hr⟩ := hr
        cases val_run hr
        simp only [ARel] at ex
        obtain ⟨c, hc, ex⟩ := ex
        refine ⟨rfl, .slice (some ⟨c, o, none⟩) n n, ?_, by simp only [ARel]; exact ⟨c, hc, rfl⟩⟩
        simp [Instr.sliceAt, run_underlying hu, ex, Instr.sureAddr, Instr.sliceBounds, sizeA_run hs, add_none]
      · rename_i e p n k hu
        (replace hr := opt_run hr); obtain ⟨size, hs, hr⟩ := hr
        cases val_run hr
        refine ⟨rfl, _, ?_, ex⟩
        cases p with
        | none => simp only [ARel] at ex; simp [Instr.sliceAt, Instr.slice, run_underlying hu, ex, Instr.sliceBounds, sizeA_run hs]
        | some p => obtain ⟨b, o⟩ := p; simp only [ARel] at ex; obtain ⟨c, hc, ex⟩ := ex; simp [Instr.sliceAt, Instr.slice, run_underlying hu, ex, Instr.sliceBounds, sizeA_run hs, add_none]
      · simp [Tr.run] at hr
  case extract x i =>
    (replace hr := opt_run hr); obtain ⟨p, hx, hr⟩ := hr
    have ex := ev_rel ht hx
    split at hr
    · rename_i vs
      (replace hr := opt_run hr); obtain ⟨r, hp2, hr⟩ := hr
      cases val_run hr
      simp only [ARel] at ex
      obtain ⟨cs', ex, hrel⟩ := ex
      obtain ⟨v, hv, hvr⟩ := LRel.get hrel hp2
      rw [Array.getElem?_toList] at hv
      exact ⟨rfl, v, by simp [Instr.extract, ex, hv], hvr⟩
    · simp [Tr.run] at hr
  case typeAssert x xt t ok =>
    (replace hr := opt_run hr); obtain ⟨p, hx, hr⟩ := hr
    have ex := ev_rel ht hx
    split at hr
    · simp [Tr.run] at hr
    · rename_i d u y hd hu
      simp only [ARel] at ex
      obtain ⟨y', ex, hrel⟩ := ex
      split at hr
      · rename_i htu
        subst htu
        cases val_run hr
        cases d <;> first | exact absurd rfl (hd _) | skip
        all_goals cases ok <;> first | exact ⟨rfl, y', by simp [Instr.typeAssert, run_underlying hu, ex], hrel⟩ | exact ⟨rfl, .tuple #[y', .bool true], by simp [Instr.typeAssert, run_underlying hu, ex], by simp only [ARel, LRel]; exact ⟨_, rfl, _, _, rfl, hrel, _, _, rfl, rfl, rfl⟩⟩
      · rename_i htu
        have htu' : ¬ u = t := fun e => htu e.symm
        split at hr
        · rename_i hok
          (replace hr := opt_run hr); obtain ⟨z, hz, hr⟩ := hr
          cases val_run hr
          obtain ⟨zv, hzv, hzr⟩ := zeroA_rel (w := w) (φ := φ) hz
          refine ⟨rfl, .tuple #[zv, .bool false], ?_, by simp only [ARel, LRel]; exact ⟨_, rfl, _, _, rfl, hzr, _, _, rfl, rfl, rfl⟩⟩
          cases d <;> first | exact absurd rfl (hd _) | (simp [Instr.typeAssert, run_underlying hu, ex, htu', hok, hzv]; done)
        · simp [Tr.run] at hr
    · rename_i d hd hu
      simp only [ARel] at ex
      split at hr
      · rename_i hok
        (replace hr := opt_run hr); obtain ⟨z, hz, hr⟩ := hr
        cases val_run hr
        obtain ⟨zv, hzv, hzr⟩ := zeroA_rel (w := w) (φ := φ) hz
        refine ⟨rfl, .tuple #[zv, .bool false], ?_, by simp only [ARel, LRel]; exact ⟨_, rfl, _, _, rfl, hzr, _, _, rfl, rfl, rfl⟩⟩
        cases d <;> first | exact absurd rfl (hd _) | (simp [Instr.typeAssert, run_underlying hu, ex, hok, hzv]; done)
      · simp [Tr.run] at hr
    · simp [Tr.run] at hr

theorem zeroA_fix {t : TypeId} {z : AV} (h : zeroA P t = some z) : ∃ v, (∀ w, (zeroValue t).run P w = .ok v w) ∧ ∀ φ, ARel φ z v := by
  unfold zeroA at h
  cases hi : P.info? t with
  | none => simp [hi] at h
  | some i =>
    simp only [hi] at h
    cases hz : i.zero with
    | none => simp [hz] at h
    | some v => simp only [hz] at h; exact ⟨v, fun w => by simp [zeroValue, run_info hi, hz], fun φ => ofConst_rel v z h⟩

theorem LRel.map_range {f : Nat → AV} {g : Nat → Value} (n : Nat) (h : ∀ i, ARel φ (f i) (g i)) : LRel φ ((List.range n).map f) ((List.range n).map g) := by
  generalize List.range n = l
  induction l with
  | nil => simp [LRel]
  | cons i l ih => simp only [List.map_cons, LRel]; exact ⟨_, _, rfl, h i, ih⟩

/-- What lays one new block. -/
theorem evOp_alloc {s : St} {o : Oper} {a : Act} {v : AV} {h' : AH} (hp : isAlloc o.op = true)
    (hr : (evOp P s o.op).run = some (v, h')) (ht : LRel φ s.tmps a.tmps.toList) :
    ∃ (cs : List AV) (cs' : Array Value) (t : TypeId) (mk : Nat → AV) (mk' : Nat → Value), h' = s.heap ++ [cs] ∧ LRel φ cs cs'.toList ∧ v = mk s.heap.length ∧ (∀ w, (execOp a.eval o).run P w = .ok (.value (mk' w.heap.size)) (w.alloc (.cells cs' t))) ∧
      (∀ (ψ : Ren) b c, ψ b = some c → ARel ψ (mk b) (mk' c)) := by
  unfold execOp
  cases ho : o.op <;> simp only [ho, isAlloc, Bool.false_eq_true] at hp <;> simp only [ho, evOp] at hr <;> simp only []
  case alloc t =>
    (replace hr := opt_run hr); obtain ⟨z, hz, hr⟩ := hr
    simp only [newBlock, Tr.run, Option.some.injEq, Prod.mk.injEq] at hr
    obtain ⟨rfl, rfl⟩ := hr
    obtain ⟨zv, hzv, hzr⟩ := zeroA_fix (P := P) hz
    refine ⟨z.cells, zv.cells, t, fun b => .ptr (some (b, 0)), fun c => .pointer (some ⟨c, 0, none⟩), rfl, cells_rel (hzr φ), rfl, fun w => ?_, fun ψ b c e => by simp only [ARel]; exact ⟨c, e, rfl⟩⟩
    simp [Instr.alloc, hzv, newVar, newRow]
  case box t x =>
    (replace hr := opt_run hr); obtain ⟨u, hu, hr⟩ := hr
    simp only [newBlock, Tr.run, Option.some.injEq, Prod.mk.injEq] at hr
    obtain ⟨rfl, rfl⟩ := hr
    refine ⟨u.cells, (a.eval x).cells, t, fun b => .ptr (some (b, 0)), fun c => .pointer (some ⟨c, 0, none⟩), rfl, cells_rel (ev_rel ht hu), rfl, fun w => ?_, fun ψ b c e => by simp only [ARel]; exact ⟨c, e, rfl⟩⟩
    simp [Instr.box, newVar, newRow]
  case buildSlice t len parts =>
    (replace hr := opt_run hr); obtain ⟨ps, hps, hr⟩ := hr
    cases hu : P.underlying t with
    | none => simp [hu, Tr.run] at hr
    | some d =>
      cases d <;> simp only [hu] at hr <;> first | (simp [Tr.run] at hr; done) | skip
      case slice elem =>
        (replace hr := opt_run hr); obtain ⟨size, hs, hr⟩ := hr
        (replace hr := opt_run hr); obtain ⟨z, hz, hr⟩ := hr
        split at hr
        · simp [Tr.run] at hr
        · rename_i hn
          (replace hr := opt_run hr); obtain ⟨cs, hcs, hr⟩ := hr
          simp only [Tr.run, Option.some.injEq, Prod.mk.injEq] at hr
          obtain ⟨rfl, rfl⟩ := hr
          obtain ⟨zv, hzv⟩ := zeroA_fix (P := P) hz
          have hzr : ARel φ z zv := hzv.2 φ
          have hlen := LRel.length (cells_rel hzr)
          simp only [Array.length_toList] at hlen
          have hn1 : ¬ len * size > 2 ^ 24 := fun e => hn (.inl e)
          have hn2 : ¬ len * size = 0 := fun e => hn (.inr (.inl e))
          have hn3 : zv.cells.size ≠ 0 := fun e => hn (.inr (.inr (by omega)))
          have hrow : LRel φ ((List.range (len * size)).map fun i => (z.cells[i % z.cells.length]?).getD .undef) ((Array.range (len * size)).map (zv.cells[· % zv.cells.size]!)).toList := by
            rw [Array.toList_map, Array.toList_range]
            refine LRel.map_range _ (fun i => ?_)
            have hlt : i % zv.cells.size < zv.cells.size := Nat.mod_lt _ (by omega)
            rw [hlen]
            have := LRel.getD (i % zv.cells.size) (cells_rel hzr)
            rw [getElem!_pos zv.cells _ hlt]
            simpa [List.getD_eq_getElem?_getD, Array.getD_eq_getD_getElem?, Array.getElem?_eq_getElem hlt] using this
          obtain ⟨cs', hf, hrel⟩ := fill_rel (evParts_rel ht hps) hrow hcs
          have hparts : (parts.map fun x => match x with | (i, x) => (i, a.eval x)).toList = parts.toList.map fun p => (p.1, a.eval p.2) := by simp
          refine ⟨cs, cs', elem, fun b => .slice (some (b, 0)) len len, fun c => .slice (some ⟨c, 0, none⟩) len len, rfl, hrel, rfl, fun w => ?_, fun ψ b c e => by simp only [ARel]; exact ⟨c, e, rfl⟩⟩
          rw [← hparts] at hf
          simp only [Instr.buildSlice, Sem.run_bind, run_underlying hu, Result.andThen_ok, sizeA_run hs]
          rw [if_neg hn1, if_neg hn2]
          simp only [Sem.run_bind, hzv.1, Sem.run_pure, Result.andThen_ok, hf, newRow, run_newObj, World.alloc]

theorem evOp_store {s : St} {o : Oper} {a : Act} {v : AV} {h' : AH} {t : TypeId} {x y : Operand} (ho : o.op = .store t x y) (hr : (evOp P s o.op).run = some (v, h')) (H : HRel B w0 φ s.heap w)
    (ht : LRel φ s.tmps a.tmps.toList) : v = .undef ∧ ∃ w', (execOp a.eval o).run P w = .ok .skip w' ∧ HRel B w0 φ h' w' := by
  unfold execOp
  simp only [ho, evOp] at hr
  simp only [ho]
  (replace hr := opt_run hr); obtain ⟨p, hx, hr⟩ := hr
  (replace hr := opt_run hr); obtain ⟨q, hy, hr⟩ := hr
  have ex := ev_rel ht hx
  have ey := ev_rel ht hy
  split at hr
  · rename_i b o
    split at hr
    · rename_i h2 hs
      cases val_run hr
      simp only [ARel] at ex
      obtain ⟨c, hc, ex⟩ := ex
      obtain ⟨w', hw, H'⟩ := store_rel (P := P) H hc ey hs
      exact ⟨rfl, w', by simp [Instr.storeAt, ex, Instr.sureAddr, hw], H'⟩
    · simp [Tr.run] at hr
  · simp [Tr.run] at hr

end
end Go.Sky

/- The evaluator against the machine: calls, and operations one behind the other. -/
set_option linter.unusedSimpArgs false
set_option linter.unusedVariables false
namespace Go.Sky
open Go.RowKit (Below)

mutual
theorem pureAV_rel {φ ψ : Ren} (hF : ∀ c s, φ.frz c = some s → ψ.frz c = some s) : ∀ (x : AV) (v : Value), pureAV x = true → ARel φ x v → ARel ψ x v
  | .bool _ _, _, _, e => by simpa only [ARel] using e
  | .int _ _ _, _, _, e => by simpa only [ARel] using e
  | .str _ _, _, _, e => by simpa only [ARel] using e
  | .ptr none, _, _, e => by simpa only [ARel] using e
  | .ptr (some (_, _)), _, p, e => by simp [pureAV] at p
  | .slice none _ _, _, _, e => by simpa only [ARel] using e
  | .slice (some (_, _)) _ _, _, p, e => by simp [pureAV] at p
  | .func _ fs cs, _, p, e => by
    simp only [pureAV, Bool.and_eq_true] at p
    simp only [ARel] at e ⊢; obtain ⟨fs', cs', rfl, h1, h2⟩ := e; exact ⟨fs', cs', rfl, pureL_rel hF fs _ p.1 h1, pureL_rel hF cs _ p.2 h2⟩
  | .nilFunc, _, _, e => by simpa only [ARel] using e
  | .iface _ x, _, p, e => by simp only [pureAV] at p; simp only [ARel] at e ⊢; obtain ⟨y, rfl, h1⟩ := e; exact ⟨y, rfl, pureAV_rel hF x y p h1⟩
  | .nilIface, _, _, e => by simpa only [ARel] using e
  | .junk, _, _, e => by simpa only [ARel] using e
  | .agg cs, _, p, e => by simp only [pureAV] at p; simp only [ARel] at e ⊢; obtain ⟨cs', rfl, h1⟩ := e; exact ⟨cs', rfl, pureL_rel hF cs _ p h1⟩
  | .tuple cs, _, p, e => by simp only [pureAV] at p; simp only [ARel] at e ⊢; obtain ⟨cs', rfl, h1⟩ := e; exact ⟨cs', rfl, pureL_rel hF cs _ p h1⟩
  | .fptr cs o, _, p, e => by simp only [pureAV] at p; simp only [ARel] at e ⊢; obtain ⟨c, base, cells, h1, rfl, h2, h3⟩ := e; exact ⟨c, base, cells, hF _ _ h1, rfl, h2, pureL_rel hF cs _ p h3⟩
  | .list s l, _, _, e => by simp only [ARel] at e ⊢; exact CRel.mono hF _ _ _ e
theorem pureL_rel {φ ψ : Ren} (hF : ∀ c s, φ.frz c = some s → ψ.frz c = some s) : ∀ (x : List AV) (v : List Value), pureL x = true → LRel φ x v → LRel ψ x v
  | [], _, _, e => by simpa only [LRel] using e
  | x :: xs, _, p, e => by
    simp only [pureL, Bool.and_eq_true] at p
    simp only [LRel] at e ⊢; obtain ⟨y, ys, rfl, h1, h2⟩ := e; exact ⟨y, ys, rfl, pureAV_rel hF x y p.1 h1, pureL_rel hF xs ys p.2 h2⟩
end

mutual
theorem solid_rel {φ ψ : Ren} : ∀ (x : AV) (v : Value), solid x = true → ARel φ x v → ARel ψ x v
  | .bool _ _, _, _, e => by simpa only [ARel] using e
  | .int _ _ _, _, _, e => by simpa only [ARel] using e
  | .str _ _, _, _, e => by simpa only [ARel] using e
  | .ptr none, _, _, e => by simpa only [ARel] using e
  | .ptr (some (_, _)), _, p, e => by simp [solid] at p
  | .slice none _ _, _, _, e => by simpa only [ARel] using e
  | .slice (some (_, _)) _ _, _, p, e => by simp [solid] at p
  | .func _ fs cs, _, p, e => by
    simp only [solid, Bool.and_eq_true] at p
    simp only [ARel] at e ⊢; obtain ⟨fs', cs', rfl, h1, h2⟩ := e; exact ⟨fs', cs', rfl, solidL_rel fs _ p.1 h1, solidL_rel cs _ p.2 h2⟩
  | .nilFunc, _, _, e => by simpa only [ARel] using e
  | .iface _ x, _, p, e => by simp only [solid] at p; simp only [ARel] at e ⊢; obtain ⟨y, rfl, h1⟩ := e; exact ⟨y, rfl, solid_rel x y p h1⟩
  | .nilIface, _, _, e => by simpa only [ARel] using e
  | .junk, _, _, e => by simpa only [ARel] using e
  | .agg cs, _, p, e => by simp only [solid] at p; simp only [ARel] at e ⊢; obtain ⟨cs', rfl, h1⟩ := e; exact ⟨cs', rfl, solidL_rel cs _ p h1⟩
  | .tuple cs, _, p, e => by simp only [solid] at p; simp only [ARel] at e ⊢; obtain ⟨cs', rfl, h1⟩ := e; exact ⟨cs', rfl, solidL_rel cs _ p h1⟩
  | .fptr _ _, _, p, _ => by simp [solid] at p
  | .list _ _, _, p, _ => by simp [solid] at p
theorem solidL_rel {φ ψ : Ren} : ∀ (x : List AV) (v : List Value), solidL x = true → LRel φ x v → LRel ψ x v
  | [], _, _, e => by simpa only [LRel] using e
  | x :: xs, _, p, e => by
    simp only [solidL, Bool.and_eq_true] at p
    simp only [LRel] at e ⊢; obtain ⟨y, ys, rfl, h1, h2⟩ := e; exact ⟨y, ys, rfl, solid_rel x y p.1 h1, solidL_rel xs ys p.2 h2⟩
end

/-- Nothing is one's own. -/
def Ren.bare (φ : Ren) (n : Nat) : Ren := { own := fun _ => none, frz := φ.frz, base := n }

open Classical in
/-- Nothing is one's own; some blocks that are stay as they are now. -/
noncomputable def Ren.still (φ : Ren) (w : World) (bs : List Nat) : Ren :=
  { own := fun _ => none, base := w.heap.size, frz := fun c => if ∃ b ∈ bs, φ b = some c then (match w.heap[c]? with | some (.cells cs _ (0, 0)) => some cs | _ => none) else φ.frz c }

theorem still_fok {φ : Ren} {w : World} {bs : List Nat} (h : FOk φ.frz w) : FOk (φ.still w bs).frz w := by
  intro c cs e
  unfold Ren.still at e
  simp only at e
  split at e
  · split at e
    · rename_i cs2 t hw; cases e; exact ⟨t, hw⟩
    · cases e
  · exact h c cs e

/-- Blocks to which addresses lead, as memory has them. -/
def Seen (φ : Ren) (h : AH) (w : World) (bs : List Nat) : Prop := ∀ b ∈ bs, b < h.length → ∀ c, φ b = some c → ∃ cs cs' e, h[b]? = some cs ∧ w.heap[c]? = some (.cells cs' e (0, 0)) ∧ LRel φ cs cs'.toList

section
variable {φ : Ren} {w : World} {h : AH} {bs : List Nat}

theorem still_mono (hd : ∀ b c, φ b = some c → φ.frz c = none) : ∀ c s, φ.frz c = some s → (φ.still w bs).frz c = some s := by
  intro c s e
  unfold Ren.still
  simp only
  rw [if_neg]
  · exact e
  · rintro ⟨b, _, hb⟩; rw [hd b c hb] at e; cases e

mutual
theorem frzA_rel (hd : ∀ b c, φ b = some c → φ.frz c = none) (hs : Seen φ h w bs) : ∀ (x : AV) (v : Value), (∀ b ∈ ptrsA x, b ∈ bs) → pureAV (frzA h x) = true → ARel φ x v → ARel (φ.still w bs) (frzA h x) v
  | .ptr (some (b, o)), v, hb, hp, e => by
    simp only [ARel] at e
    obtain ⟨c, hc, rfl⟩ := e
    have hbs := hb b (by simp [ptrsA])
    have hlt : b < h.length := by
      rcases Nat.lt_or_ge b h.length with g | g
      · exact g
      · simp only [frzA, List.getElem?_eq_none g] at hp; simp [pureAV] at hp
    obtain ⟨cs, cs', t, h1, h2, h3⟩ := hs b hbs hlt c hc
    simp only [frzA, h1, pureAV] at hp ⊢
    simp only [ARel]
    have hl := LRel.length h3
    simp only [Array.length_toList] at hl
    refine ⟨c, 0, cs', ?_, by rw [Nat.zero_add], by omega, ?_⟩
    · unfold Ren.still
      simp only
      rw [if_pos ⟨b, hbs, hc⟩, h2]
      rfl
    · rw [List.drop_zero, List.take_of_length_le (by simp; omega)]
      exact pureL_rel (still_mono hd) _ _ hp h3
  | .ptr none, v, _, hp, e => by simp only [frzA] at hp ⊢; exact pureAV_rel (still_mono hd) _ _ hp e
  | .bool _ _, v, _, hp, e => by simp only [frzA] at hp ⊢; exact pureAV_rel (still_mono hd) _ _ hp e
  | .int _ _ _, v, _, hp, e => by simp only [frzA] at hp ⊢; exact pureAV_rel (still_mono hd) _ _ hp e
  | .str _ _, v, _, hp, e => by simp only [frzA] at hp ⊢; exact pureAV_rel (still_mono hd) _ _ hp e
  | .slice _ _ _, v, _, hp, e => by simp only [frzA] at hp ⊢; exact pureAV_rel (still_mono hd) _ _ hp e
  | .nilFunc, v, _, hp, e => by simp only [frzA] at hp ⊢; exact pureAV_rel (still_mono hd) _ _ hp e
  | .nilIface, v, _, hp, e => by simp only [frzA] at hp ⊢; exact pureAV_rel (still_mono hd) _ _ hp e
  | .junk, v, _, hp, e => by simp only [frzA] at hp ⊢; exact pureAV_rel (still_mono hd) _ _ hp e
  | .fptr _ _, v, _, hp, e => by simp only [frzA] at hp ⊢; exact pureAV_rel (still_mono hd) _ _ hp e
  | .list _ _, v, _, hp, e => by simp only [frzA] at hp ⊢; exact pureAV_rel (still_mono hd) _ _ hp e
  | .func _ fs cs, v, hb, hp, e => by
    simp only [frzA, pureAV, Bool.and_eq_true] at hp ⊢
    simp only [ptrsA, List.mem_append] at hb
    simp only [ARel] at e ⊢; obtain ⟨fs', cs', rfl, h1, h2⟩ := e
    exact ⟨fs', cs', rfl, frzL_rel hd hs fs _ (fun b h => hb b (.inl h)) hp.1 h1, frzL_rel hd hs cs _ (fun b h => hb b (.inr h)) hp.2 h2⟩
  | .iface _ x, v, hb, hp, e => by
    simp only [frzA, pureAV] at hp ⊢
    simp only [ptrsA] at hb
    simp only [ARel] at e ⊢; obtain ⟨y, rfl, h1⟩ := e; exact ⟨y, rfl, frzA_rel hd hs x y hb hp h1⟩
  | .agg cs, v, hb, hp, e => by
    simp only [frzA, pureAV] at hp ⊢
    simp only [ptrsA] at hb
    simp only [ARel] at e ⊢; obtain ⟨cs', rfl, h1⟩ := e; exact ⟨cs', rfl, frzL_rel hd hs cs _ hb hp h1⟩
  | .tuple cs, v, hb, hp, e => by
    simp only [frzA, pureAV] at hp ⊢
    simp only [ptrsA] at hb
    simp only [ARel] at e ⊢; obtain ⟨cs', rfl, h1⟩ := e; exact ⟨cs', rfl, frzL_rel hd hs cs _ hb hp h1⟩
theorem frzL_rel (hd : ∀ b c, φ b = some c → φ.frz c = none) (hs : Seen φ h w bs) : ∀ (x : List AV) (v : List Value), (∀ b ∈ ptrsL x, b ∈ bs) → pureL (frzL h x) = true → LRel φ x v → LRel (φ.still w bs) (frzL h x) v
  | [], v, _, _, e => by simpa only [frzL, LRel] using e
  | x :: xs, v, hb, hp, e => by
    simp only [frzL, pureL, Bool.and_eq_true] at hp
    simp only [ptrsL, List.mem_append] at hb
    simp only [frzL, LRel] at e ⊢; obtain ⟨y, ys, rfl, h1, h2⟩ := e
    exact ⟨y, ys, rfl, frzA_rel hd hs x y (fun b h => hb b (.inl h)) hp.1 h1, frzL_rel hd hs xs ys (fun b h => hb b (.inr h)) hp.2 h2⟩
end
end

/-- A call that answers, whatever it is: a function of the text, or one without. -/
def CallOk (P : Program) (f : FuncId) (args : Array Value) (w : World) (R : Value → World → Prop) : Prop :=
  (∃ u, (callFunc f args).run P w = .ok (.value u) w ∧ R u w) ∨
  ((callFunc f args).run P w = .ok (.enter f args) w ∧ Calls P f args w (fun e w' => match e with | .returned u => R u w' | _ => False))

theorem CallOk.mono {P : Program} {f : FuncId} {args : Array Value} {w : World} {R R' : Value → World → Prop} (h : CallOk P f args w R) (hr : ∀ u w', R u w' → R' u w') : CallOk P f args w R' := by
  rcases h with ⟨u, h1, h2⟩ | ⟨h1, h2⟩
  · exact .inl ⟨u, h1, hr _ _ h2⟩
  · exact .inr ⟨h1, h2.mono fun e w' h => by cases e <;> first | exact hr _ _ h | exact h⟩

/-- What 'call' tells of calls is so. -/
def CallsOk (P : Program) (call : CallA) : Prop :=
  ∀ f args h v h', (call f args h).run = some (v, h') → ∀ (B : Nat) (w0 : World) (φ : Ren) (w : World) (cargs : Array Value), HRel B w0 φ h w → LRel φ args cargs.toList →
    CallOk P f cargs w fun u w' => ∃ φ', φ.le φ' ∧ ARel φ' v u ∧ HRel B w0 φ' h' w'

/-- The same where memory stays as it was. -/
def CallsPure (P : Program) (call : CallA) : Prop :=
  ∀ f args h v h', (call f args h).run = some (v, h') → h' = h ∧ ∀ (φ : Ren) (w : World) (cargs : Array Value), FOk φ.frz w → (∀ b c, φ b = some c → φ.frz c = none) → Seen φ h w (ptrsL args) → LRel φ args cargs.toList →
    CallOk P f cargs w fun u w' => (∀ ψ, ARel ψ v u) ∧ Below w.heap.size w w'

theorem HRel.bare {φ : Ren} (hn : ∀ b, φ b = none) (w : World) (h : FOk φ.frz w) (hb : φ.base = w.heap.size) : HRel w.heap.size w φ [] w :=
  ⟨fun b cs h => (by simp at h), fun b b' c h => (by rw [hn] at h; cases h), fun b c h => (by rw [hn] at h; cases h), fun b c h => (by rw [hn] at h; cases h), Below.refl _ _, Nat.le_refl _, h, fun b c h => (by rw [hn] at h; cases h), hb⟩

theorem run_bind_some {α β : Type} {t : Tr α} {k : α → Tr β} {r : β} (h : (t.bind k).run = some r) : ∃ a, t.run = some a ∧ (k a).run = some r := by
  rw [Tr.run_bind] at h
  cases ht : t.run with
  | none => simp [ht] at h
  | some a => exact ⟨a, rfl, by simpa [ht] using h⟩

theorem callPure_ok {P : Program} {call : CallA} (hc : CallsOk P call) : CallsPure P (callPure call) := by
  intro f args h v h' hr
  unfold callPure at hr
  split at hr
  · rename_i hp
    obtain ⟨⟨v', h2⟩, hr1, hr2⟩ := run_bind_some hr
    split at hr2
    · rename_i hv
      simp only [Tr.run, Option.some.injEq, Prod.mk.injEq] at hr2
      obtain ⟨rfl, rfl⟩ := hr2
      refine ⟨rfl, fun φ w cargs hF hd hs hl => ?_⟩
      exact (hc f _ [] v' h2 hr1 _ _ _ w cargs (HRel.bare (φ := φ.still w (ptrsL args)) (fun _ => rfl) w (still_fok hF) rfl) (frzL_rel hd hs _ _ (fun _ h => h) hp hl)).mono fun u w' ⟨φ', _, h4, h5⟩ => ⟨fun ψ => solid_rel _ _ hv h4, h5.below⟩
    · simp [Tr.run] at hr2
  · simp [Tr.run] at hr

/-- What a call with nothing of one's own left, beside what is one's own. -/
theorem HRel.join {B : Nat} {w0 : World} {φ φ' : Ren} {h h2 : AH} {w w' : World} (H : HRel B w0 φ h w) (hle : (φ.bare w.heap.size).le φ') (H' : HRel w.heap.size w φ' h2 w') :
    φ.le { own := φ.own, frz := φ'.frz, base := φ.base } ∧ HRel B w0 { own := φ.own, frz := φ'.frz, base := φ.base } h w' := by
  have le : φ.le { own := φ.own, frz := φ'.frz, base := φ.base } := ⟨fun _ _ h => h, hle.frz, fun c s e => by
    rcases hle.new c s e with h | h
    · exact .inl h
    · exact .inr (by rw [H.bas]; exact Nat.le_trans (Nat.le_trans H.base H.below.size) h), rfl⟩
  refine ⟨le, ?_⟩
  have G := H.grown H'.below
  refine ⟨?_, H.inj, H.dom, H.rng, G.below, H.base, H'.fok, ?_, H.bas⟩
  · intro b cs e
    obtain ⟨c, cs', t, h1, h3, h4⟩ := G.cells b cs e
    exact ⟨c, cs', t, h1, h3, LRel.mono le _ _ h4⟩
  · intro b c e
    cases hf : φ'.frz c with
    | none => rfl
    | some s =>
      rcases hle.new c s hf with h | h
      · have := H.dis b c e; rw [show φ.frz c = some s from h] at this; cases this
      · exact absurd (H.lt e) (Nat.not_lt.2 h)

theorem callAny_ok {P : Program} {call : CallA} (hc : CallsOk P call) : CallsOk P (callAny call) := by
  intro f args h v h' hr B w0 φ w cargs H hl
  unfold callAny at hr
  split at hr
  · rename_i hp
    obtain ⟨⟨v', h2⟩, hr1, hr2⟩ := run_bind_some hr
    split at hr2
    · rename_i hv
      simp only [Tr.run, Option.some.injEq, Prod.mk.injEq] at hr2
      obtain ⟨rfl, rfl⟩ := hr2
      refine (hc f args [] v' h2 hr1 _ _ (φ.bare w.heap.size) w cargs (HRel.bare (fun _ => rfl) w H.fok rfl) (pureL_rel (φ := φ) (ψ := φ.bare w.heap.size) (fun _ _ e => e) _ _ hp hl)).mono fun u w' ⟨φ', h3, h4, h5⟩ => ?_
      obtain ⟨g1, g2⟩ := H.join h3 h5
      exact ⟨_, g1, pureAV_rel (φ := φ') (ψ := { own := φ.own, frz := φ'.frz, base := φ.base }) (fun _ _ e => e) _ _ hv h4, g2⟩
    · exact hc f args h v h' hr2 B w0 φ w cargs H hl
  · exact hc f args h v h' hr B w0 φ w cargs H hl

section
variable {P : Program} {B : Nat} {w0 : World}

/-- A call as an operation. -/
theorem evCallOp_rel {call : CallA} {s : St} {a : Act} {φ : Ren} {c : Call} {ty : TypeId} {v : AV} {h' : AH} {w : World} (ht : LRel φ s.tmps a.tmps.toList)
    (hr : (evCallOp P call s c).run = some (v, h')) :
    (h' = s.heap ∧ ∃ u, (do let d ← resolve a.eval c ty; invoke d.target d.args : Sem Next).run P w = .ok (.value u) w ∧ ARel φ v u) ∨
    (∃ f args cargs, args = argsOf s c ∧ (call f args s.heap).run = some (v, h') ∧ LRel φ args cargs.toList ∧ (do let d ← resolve a.eval c ty; invoke d.target d.args : Sem Next).run P w = (callFunc f cargs).run P w) := by
  unfold evCallOp at hr
  (replace hr := opt_run hr); obtain ⟨args, hargs, hr⟩ := hr
  have hal := evs_rel ht hargs
  split at hr
  · rename_i f hcal
    (replace hr := opt_run hr); obtain ⟨fv, hf, hr⟩ := hr
    split at hr
    · rename_i g first captured
      have hfv := ev_rel ht hf
      simp only [ARel] at hfv
      obtain ⟨fs', cs', hfv, h1, h2⟩ := hfv
      refine .inr ⟨g, (first ++ args) ++ captured, (fs' ++ c.args.map a.eval) ++ cs', by unfold argsOf; simp only [hargs, hcal, hf], hr, ?_, ?_⟩
      · simp only [Array.toList_append, Array.toList_map]
        exact LRel.append (LRel.append h1 hal) h2
      · simp [resolve, hcal, hfv, Deferred.ofValue, invoke]
    · simp [Tr.run] at hr
  · rename_i recv name hcal
    (replace hr := opt_run hr); obtain ⟨rv, hrv, hr⟩ := hr
    split at hr
    · rename_i t x
      (replace hr := opt_run hr); obtain ⟨g, hg, hr⟩ := hr
      have hx := ev_rel ht hrv
      simp only [ARel] at hx
      obtain ⟨y, hx, hy⟩ := hx
      refine .inr ⟨g, x :: args, #[y] ++ c.args.map a.eval, by unfold argsOf; simp only [hargs, hcal, hrv], hr, ?_, ?_⟩
      · simp only [Array.toList_append, Array.toList_map, LRel]
        exact ⟨_, _, rfl, hy, hal⟩
      · have hm := method_of (w := w) hg y (P.types.size + 99)
        simp only [resolve, hcal, Sem.run_bind, Sem.run_pure, Result.andThen_ok, invoke, hx, callMethod]
        simp only [Array.getElem?_append, Sem.run_bind, run_program, Result.andThen_ok]
        simp [callMethod, Sem.run_bind, run_program, Result.andThen_ok, show P.types.size + Made.depth = P.types.size + 99 + 1 from rfl, hm]
        have e : (Array.map a.eval c.args).extract 0 c.args.size = Array.map a.eval c.args := by
          apply Array.ext'
          rw [Array.toList_extract, List.extract_eq_take_drop]
          simp [List.take_of_length_le]
        rw [e]
    · simp [Tr.run] at hr
  · rename_i hcal
    split at hr
    · rename_i t x hty
      (replace hr := opt_run hr); obtain ⟨r, hl, hr⟩ := hr
      cases val_run hr
      simp only [LRel] at hal
      obtain ⟨y, ys, hal, hy, hys⟩ := hal
      subst hys
      have hcargs : c.args.map a.eval = #[y] := by
        apply Array.ext'; simpa using hal
      obtain ⟨u, hu, hru⟩ := lenA_rel (P := P) (w := w) ty c.argTypes hty hy hl
      refine .inl ⟨rfl, u, ?_, hru⟩
      simp [resolve, hcal, hcargs, invoke, builtin, hu]
    · simp [Tr.run] at hr
  · rename_i hcal
    split at hr
    · rename_i x rest
      (replace hr := opt_run hr); obtain ⟨r, hl, hr⟩ := hr
      cases val_run hr
      simp only [LRel] at hal
      obtain ⟨y, ys, hal, hy, hys⟩ := hal
      obtain ⟨u, hu, hru⟩ := minmax_rel (P := P) (w := w) hy hys hl
      refine .inl ⟨rfl, u, ?_, hru⟩
      have hcargs : (c.args.map a.eval).toList = y :: ys := by simpa using hal
      simp [resolve, hcal, invoke, builtin, Builtin.min_, hal, hu] at hu ⊢
      simp [hu]
    · simp [Tr.run] at hr
  · rename_i hcal
    split at hr
    · rename_i x rest
      (replace hr := opt_run hr); obtain ⟨r, hl, hr⟩ := hr
      cases val_run hr
      simp only [LRel] at hal
      obtain ⟨y, ys, hal, hy, hys⟩ := hal
      obtain ⟨u, hu, hru⟩ := minmax_rel (P := P) (w := w) hy hys hl
      refine .inl ⟨rfl, u, ?_, hru⟩
      simp [resolve, hcal, invoke, builtin, Builtin.max_, hal] at hu ⊢
      simp [hu]
    · simp [Tr.run] at hr
  · simp [Tr.run] at hr

/-- What is asked of what follows an operation. -/
def Next1 (B : Nat) (w0 : World) (φ : Ren) (v : AV) (h' : AH) (o : Oper) (a : Act) (K : Act → World → Prop) : Prop :=
  ∀ u φ' w', φ.le φ' → ARel φ' v u → HRel B w0 φ' h' w' → K (a.put o.dst u) w'

theorem evOper_wp {call : CallA} (hc : CallsOk P call) {s : St} {o : Oper} {a : Act} {φ : Ren} {v : AV} {h' : AH} {w : World} {K : Act → World → Prop} {Q : Exit → Act → World → Prop}
    (hr : (evOper P call s o).run = some (v, h')) (H : HRel B w0 φ s.heap w) (ht : LRel φ s.tmps a.tmps.toList) (hk : Next1 B w0 φ v h' o a K) : o.wp P a w K Q := by
  unfold evOper at hr
  split at hr
  · rename_i c ho
    rcases evCallOp_rel (ty := o.type) (w := w) ht hr with ⟨rfl, u, h1, h2⟩ | ⟨f, args, cargs, _, h1, h2, h3⟩
    · unfold Oper.wp execOp
      simp only [ho, h1, Oper.upon]
      exact hk u φ w (Ren.le_refl _) h2 H
    · unfold Oper.wp execOp
      simp only [ho, h3]
      rcases hc f args s.heap v h' h1 B w0 φ w cargs H h2 with ⟨u, g1, φ', g2, g3, g4⟩ | ⟨g1, g2⟩
      · simp only [g1, Oper.upon]; exact hk u φ' w g2 g3 g4
      · simp only [g1, Oper.upon]
        exact g2.mono fun e w' h => by
          cases e with
          | returned u => obtain ⟨φ', h1, h2, h3⟩ := h; exact hk u φ' w' h1 h2 h3
          | panicked c => exact h.elim
          | outgrown => exact h.elim
  · rename_i hn
    by_cases hp : isReader o.op = true
    · obtain ⟨rfl, u, h1, h2⟩ := evOp_pure (P := P) (w := w) H.fok hp hr (fun _ _ _ b _ _ cs hcs => H.cells b cs hcs) ht
      unfold Oper.wp
      simp only [h1, Oper.upon]
      exact hk u φ w (Ren.le_refl _) h2 H
    · by_cases ha : isAlloc o.op = true
      · obtain ⟨cs, cs', t, mk, mk', rfl, h2, rfl, h4, h5⟩ := evOp_alloc (P := P) ha hr ht
        unfold Oper.wp
        simp only [h4 w, Oper.upon]
        obtain ⟨g1, g2⟩ := H.alloc t h2
        exact hk _ _ _ g1 (h5 _ _ _ (by simp [Ren.with])) g2
      · cases ho : o.op <;> simp only [ho, isReader, isAlloc, not_true_eq_false, Bool.false_eq_true, not_false_eq_true] at hp ha hr
        case store t x y =>
          obtain ⟨rfl, w', h1, h2⟩ := evOp_store (P := P) ho (by rw [ho]; exact hr) H ht
          unfold Oper.wp
          simp only [h1, Oper.upon]
          exact hk _ φ w' (Ren.le_refl _) ARel.undef h2
        all_goals simp [evOp, Tr.run] at hr

/-! ### operations in their order -/

def gval (ops : Array Oper) (s : St) (o : Oper) : Bool :=
  match o.guard with
  | none => true
  | some (j, want) => match (ops[j]?).bind (·.dst) with
    | some t => match s.tmps.getD t .undef with
      | .bool _ b => b == want
      | _ => false
    | none => false

/-- One operation's step. -/
def Step1 (exec : St → Oper → Ans) (ops : Array Oper) (s : St) (o : Oper) (s1 : St) : Prop :=
  (gval ops s o = false ∧ s1 = ⟨put s.tmps o.dst .undef, s.heap⟩) ∨
  (gval ops s o = true ∧
    ((∃ t x y l b u, o.op = .pick (.tmp t) x y ∧ s.tmps.getD t .undef = .bool l b ∧ s.ev (if b = true then x else y) = some u ∧ s1 = ⟨put s.tmps o.dst u, s.heap⟩) ∨
     ((∀ c x y, o.op ≠ .pick c x y) ∧ ∃ r, (exec s o).run = some r ∧ s1 = ⟨put s.tmps o.dst r.1, r.2⟩)))

inductive Run (exec : St → Oper → Ans) (ops : Array Oper) : List Oper → St → St → Prop
  | nil (s : St) : Run exec ops [] s s
  | cons {o : Oper} {rest : List Oper} {s s1 s2 : St} (h : Step1 exec ops s o s1) (r : Run exec ops rest s1 s2) : Run exec ops (o :: rest) s s2

def DecOk (d : Dec) (s : St) : Prop := ∀ t b, d.lookup t = some b → ∃ l, s.tmps.getD t .undef = .bool l b

theorem ask_run {α : Type} {d : Dec} {t : Tmp} {s : St} {k : Dec → Bool → Tr α} {r : α} (hd : DecOk d s) (h : (ask d t (s.tmps.getD t .undef) k).run = some r) :
    ∃ l b d', s.tmps.getD t .undef = .bool l b ∧ DecOk d' s ∧ (k d' b).run = some r := by
  unfold ask at h
  cases hl : d.lookup t with
  | some b => simp only [hl] at h; obtain ⟨l, hv⟩ := hd t b hl; exact ⟨l, b, d, hv, hd, h⟩
  | none =>
    simp only [hl] at h
    cases hv : s.tmps.getD t .undef with
    | bool l b =>
      rw [hv] at h
      cases l with
      | true => exact ⟨true, b, d, rfl, hd, h⟩
      | false =>
        simp only [Tr.run] at h
        have key : DecOk ((t, b) :: d) s := by
          intro t' b' e
          simp only [List.lookup_cons] at e
          split at e
          · rename_i ht
            simp only [beq_iff_eq] at ht
            cases e; subst ht; exact ⟨false, hv⟩
          · exact hd t' b' e
        cases b with
        | true => exact ⟨false, true, _, rfl, key, by simpa using h⟩
        | false => exact ⟨false, false, _, rfl, key, by simpa using h⟩
    | _ => rw [hv] at h; simp [Tr.run] at h

theorem Dec.drop_ok {d : Dec} {s : St} {o : Option Tmp} {v : AV} {h : AH} (hd : DecOk d s) : DecOk (d.drop o) ⟨put s.tmps o v, h⟩ := by
  cases o with
  | none => exact hd
  | some t =>
    intro t' b e
    have hne : t' ≠ t ∧ d.lookup t' = some b := by
      simp only [Dec.drop] at e
      clear hd
      induction d with
      | nil => simp at e
      | cons p d ih =>
        obtain ⟨q, c⟩ := p
        simp only [List.filter_cons] at e
        by_cases hq : q = t
        · subst hq
          simp at e
          obtain ⟨h1, h2⟩ := ih (by simpa using e)
          refine ⟨h1, ?_⟩
          simp only [List.lookup_cons]
          have : (t' == q) = false := by simpa using h1
          simp [this, h2]
        · simp only [bne_iff_ne, ne_eq, hq, not_false_eq_true, if_true, List.lookup_cons] at e
          simp only [List.lookup_cons]
          split at e
          · rename_i ht
            simp only [beq_iff_eq] at ht
            subst ht
            exact ⟨hq, e⟩
          · exact ih e
    obtain ⟨l, hl⟩ := hd t' b hne.2
    refine ⟨l, ?_⟩
    simp only [put]
    rw [List.getD_eq_getElem?_getD, List.getElem?_set_ne (Ne.symm hne.1), ← List.getD_eq_getElem?_getD]
    exact hl

theorem evOps_run {exec : St → Oper → Ans} {ops : Array Oper} : ∀ {l : List Oper} {d : Dec} {s s' : St}, DecOk d s → (evOps exec ops l d s).run = some s' → Run exec ops l s s'
  | [], d, s, s', _, h => by simp only [evOps, Tr.run, Option.some.injEq] at h; subst h; exact .nil _
  | o :: rest, d, s, s', hd, h => by
    have go : ∀ (d : Dec) (b : Bool), DecOk d s → gval ops s o = b → (match b with
        | true => match o.op with
          | .pick c x y => match c with
            | .tmp t => ask d t (s.tmps.getD t .undef) fun d b => match (if b = true then s.ev x else s.ev y) with
              | some v => evOps exec ops rest (d.drop o.dst) ⟨put s.tmps o.dst v, s.heap⟩
              | none => .bad
            | _ => .bad
          | _ => (exec s o).bind fun r => evOps exec ops rest (d.drop o.dst) ⟨put s.tmps o.dst r.1, r.2⟩
        | false => evOps exec ops rest (d.drop o.dst) ⟨put s.tmps o.dst .undef, s.heap⟩ : Tr St).run = some s' → Run exec ops (o :: rest) s s' := by
      intro d b hd hg h
      cases b with
      | false => exact .cons (.inl ⟨hg, rfl⟩) (evOps_run (Dec.drop_ok hd) h)
      | true =>
        simp only at h
        split at h
        · rename_i c x y ho
          split at h
          · rename_i t
            obtain ⟨l, b, d', h1, h2, h3⟩ := ask_run hd h
            split at h3
            · rename_i u hu
              exact .cons (.inr ⟨hg, .inl ⟨t, x, y, l, b, u, ho, h1, by cases b <;> simpa using hu, rfl⟩⟩) (evOps_run (Dec.drop_ok h2) h3)
            · simp [Tr.run] at h3
          · simp [Tr.run] at h
        · rename_i hn
          obtain ⟨r, h1, h2⟩ := run_bind_some h
          exact .cons (.inr ⟨hg, .inr ⟨fun c x y e => hn c x y e, r, h1, rfl⟩⟩) (evOps_run (Dec.drop_ok hd) h2)
    unfold evOps at h
    simp only at h
    cases hgd : o.guard with
    | none => rw [hgd] at h; exact go d true hd (by simp [gval, hgd]) h
    | some p =>
      obtain ⟨j, want⟩ := p
      rw [hgd] at h
      simp only at h
      cases hdst : (ops[j]?).bind (·.dst) with
      | none => rw [hdst] at h; exact go d false hd (by simp [gval, hgd, hdst]) h
      | some t =>
        rw [hdst] at h
        simp only at h
        cases hv : s.tmps.getD t .undef with
        | bool l b =>
          rw [hv] at h
          simp only at h
          rw [← hv] at h
          obtain ⟨l', b', d', h1, h2, h3⟩ := ask_run hd h
          exact go d' (b' == want) h2 (by simp only [gval, hgd, hdst, h1]) h3
        | _ => rw [hv] at h; exact go d false hd (by simp only [gval, hgd, hdst, hv]) h

theorem put_rel {φ : Ren} {l : List AV} {a : Act} {d : Option Tmp} {v : AV} {u : Value} (h : LRel φ l a.tmps.toList) (hv : ARel φ v u) : LRel φ (put l d v) (a.put d u).tmps.toList := by
  cases d with
  | none => exact h
  | some d => simp only [put, Act.put, Array.toList_setIfInBounds]; exact LRel.set hv h

theorem wanted_rel {φ : Ren} {ops : Array Oper} {s : St} {o : Oper} {a : Act} (ht : LRel φ s.tmps a.tmps.toList) : Region.wanted o (yielded ops a.tmps) = gval ops s o := by
  unfold Region.wanted gval
  cases o.guard with
  | none => rfl
  | some p =>
    obtain ⟨j, want⟩ := p
    simp only [yielded]
    cases hd : (ops[j]?).bind (·.dst) with
    | none => simp
    | some t =>
      have hv := LRel.getD t ht
      simp only [Option.bind_some]
      have hlen := LRel.length ht
      simp only [Array.length_toList] at hlen
      rcases Nat.lt_or_ge t a.tmps.size with hlt | hge
      · rw [Array.getD_eq_getD_getElem?, Array.getElem?_eq_getElem hlt] at hv
        simp only [Option.getD_some] at hv
        rw [Array.getElem?_eq_getElem hlt]
        generalize a.tmps[t] = u at hv ⊢
        cases hs : s.tmps.getD t .undef with
        | bool l b => rw [hs] at hv; simp only [ARel] at hv; subst hv; simp
        | int k l n => rw [hs] at hv; simp only [ARel] at hv; obtain ⟨rfl, _⟩ := hv; simp
        | ptr p =>
          rw [hs] at hv
          cases p with
          | none => simp only [ARel] at hv; subst hv; simp
          | some p => obtain ⟨_, _⟩ := p; simp only [ARel] at hv; obtain ⟨_, _, rfl⟩ := hv; simp
        | slice p n k =>
          rw [hs] at hv
          cases p with
          | none => simp only [ARel] at hv; subst hv; simp
          | some p => obtain ⟨_, _⟩ := p; simp only [ARel] at hv; obtain ⟨_, _, rfl⟩ := hv; simp
        | func _ _ _ => rw [hs] at hv; simp only [ARel] at hv; obtain ⟨_, _, rfl, _⟩ := hv; simp
        | iface _ _ => rw [hs] at hv; simp only [ARel] at hv; obtain ⟨_, rfl, _⟩ := hv; simp
        | agg _ => rw [hs] at hv; simp only [ARel] at hv; obtain ⟨_, rfl, _⟩ := hv; simp
        | tuple _ => rw [hs] at hv; simp only [ARel] at hv; obtain ⟨_, rfl, _⟩ := hv; simp
        | fptr _ _ => rw [hs] at hv; simp only [ARel] at hv; obtain ⟨_, _, _, _, rfl, _⟩ := hv; simp
        | list _ _ => rw [hs] at hv; simp only [ARel] at hv; obtain ⟨_, _, rfl, _⟩ := list_val hv; simp
        | junk => rw [hs] at hv; simp only [ARel] at hv; cases u <;> first | (simp; done) | (simp [oneV] at hv)
        | _ => rw [hs] at hv; simp only [ARel] at hv; subst hv; simp
      · rw [Array.getElem?_eq_none hge]
        rw [List.getD_eq_getElem?_getD, List.getElem?_eq_none (by omega)]
        simp

/-- Memory and slots stand for the machine's. -/
structure SRel (B : Nat) (w0 : World) (φ : Ren) (s : St) (a : Act) (w : World) : Prop where
  heap : HRel B w0 φ s.heap w
  tmps : LRel φ s.tmps a.tmps.toList
  defers : a.defers = []

theorem put_defers {a : Act} {d : Option Tmp} {u : Value} : (a.put d u).defers = a.defers := by cases d <;> rfl

/-- One step of the evaluator is one of the machine. -/
theorem step_wp {call : CallA} (hc : CallsOk P call) {ops : Array Oper} {s s1 : St} {o : Oper} {a : Act} {φ : Ren} {w : World} {K : Act → World → Prop} {Q : Exit → Act → World → Prop}
    (h : Step1 (evOper P call) ops s o s1) (R : SRel B w0 φ s a w) (hk : ∀ φ' a' w', φ.le φ' → SRel B w0 φ' s1 a' w' → K a' w') :
    if Region.wanted o (yielded ops a.tmps) then o.wp P a w K Q ∨ (o.asks P a w ∧ LetsOut Q) else K (a.put o.dst undef) w := by
  rw [wanted_rel (s := s) R.tmps]
  rcases h with ⟨hg, rfl⟩ | ⟨hg, ⟨t, x, y, l, b, u, ho, hv, hu, rfl⟩ | ⟨hn, ⟨v, h'⟩, hr, rfl⟩⟩
  · rw [hg]; simp only [Bool.false_eq_true, if_false]
    exact hk φ _ _ (Ren.le_refl _) ⟨R.heap, put_rel R.tmps ARel.undef, by rw [put_defers]; exact R.defers⟩
  · rw [hg]; simp only [if_true]
    refine .inl ?_
    unfold Oper.wp execOp
    have hb := LRel.getD t R.tmps
    rw [hv] at hb
    simp only [ARel] at hb
    have hb' : a.eval (.tmp t) = .bool b := hb
    have hu' := ev_rel R.tmps hu
    have hx : a.eval (if b = true then x else y) = if b = true then a.eval x else a.eval y := by cases b <;> rfl
    rw [hx] at hu'
    simp only [ho, Sem.run_bind, hb', asBool, Sem.run_pure, Result.andThen_ok, Oper.upon]
    exact hk φ _ _ (Ren.le_refl _) ⟨R.heap, put_rel R.tmps hu', by rw [put_defers]; exact R.defers⟩
  · rw [hg]; simp only [if_true]
    exact .inl (evOper_wp hc hr R.heap R.tmps fun u φ' w' h1 h2 h3 => hk φ' _ _ h1 ⟨h3, put_rel (LRel.mono h1 _ _ R.tmps) h2, by rw [put_defers]; exact R.defers⟩)

theorem run_wpOps {call : CallA} (hc : CallsOk P call) {ops : Array Oper} {Q : Exit → Act → World → Prop} : ∀ {l : List Oper} {k : Nat} {s s' : St} {a : Act} {φ : Ren} {w : World},
    Run (evOper P call) ops l s s' → (∀ j, l[j]? = ops[k + j]?) → SRel B w0 φ s a w → (∀ φ' a' w', φ.le φ' → SRel B w0 φ' s' a' w' → Q .normal a' w') → wpOps P ops Q (List.range' k l.length) a w
  | [], k, s, s', a, φ, w, h, _, R, hk => by
    cases h
    simp only [List.length_nil, List.range'_zero, wpOps]
    exact hk φ a w (Ren.le_refl _) R
  | o :: l, k, s, s', a, φ, w, h, hl, R, hk => by
    cases h
    rename_i s1 h1 h2
    have ho : ops[k]? = some o := by simpa using (hl 0).symm
    simp only [List.length_cons, List.range'_succ, wpOps, ho]
    exact step_wp hc h1 R fun φ' a' w' hle R' => run_wpOps hc h2 (fun j => by have := hl (j + 1); simpa [Nat.add_assoc, Nat.add_comm 1 j] using this) R'
      (fun φ'' a'' w'' hle' R'' => hk φ'' a'' w'' (Ren.le_trans hle hle') R'')

end
end Go.Sky

/- Regions that draw their order: facts. -/
set_option linter.unusedSimpArgs false
set_option linter.unusedVariables false
namespace Go.Sky
open Go.RowKit (Below)

/-! ### an operation looks at its operands alone -/

theorem ev_congr {s s' : St} {x : Operand} (h : ∀ t, x = .tmp t → s.tmps.getD t .undef = s'.tmps.getD t .undef) : s.ev x = s'.ev x := by
  cases x with
  | tmp t => simp only [St.ev]; rw [h t rfl]
  | _ => rfl

theorem evs_congr {s s' : St} : ∀ {l : List Operand}, (∀ x ∈ l, s.ev x = s'.ev x) → s.evs l = s'.evs l
  | [], _ => rfl
  | x :: xs, h => by
    simp only [St.evs]
    rw [h x (by simp), evs_congr (fun y hy => h y (by simp [hy]))]

theorem evParts_congr {s s' : St} : ∀ {l : List (Nat × Operand)}, (∀ x ∈ l.map (·.2), s.ev x = s'.ev x) → evParts s l = evParts s' l
  | [], _ => rfl
  | (i, x) :: xs, h => by
    simp only [evParts]
    rw [h x (by simp), evParts_congr (fun y hy => h y (by simp at hy ⊢; exact .inr hy))]

theorem evOp_congr {P : Program} {s s' : St} {op : Op} (hh : s.heap = s'.heap) (h : ∀ x ∈ op.operands.toList, s.ev x = s'.ev x) : evOp P s op = evOp P s' op := by
  cases op <;> simp only [Op.operands] at h <;> simp only [evOp, hh]
  case move x => rw [h x (by simp)]
  case assign x => rw [h x (by simp)]
  case box t x => rw [h x (by simp)]
  case build t ps => rw [evParts_congr (s := s) (s' := s') (fun x hx => h x (by simpa using hx))]
  case buildSlice t n ps => rw [evParts_congr (s := s) (s' := s') (fun x hx => h x (by simpa using hx))]
  case load t x => rw [h x (by simp)]
  case store t x y => rw [h x (by simp), h y (by simp)]
  case nilCheck x => rw [h x (by simp)]
  case binOp op t x y u => rw [h x (by simp), h y (by simp)]
  case unOp op t x => rw [h x (by simp)]
  case convert a b x => rw [h x (by simp)]
  case makeInterface t x => rw [h x (by simp)]
  case makeFunc fn f c => rw [evs_congr (s := s) (s' := s') (l := f.toList) (fun x hx => h x (by simp at hx ⊢; exact .inl hx)), evs_congr (s := s) (s' := s') (l := c.toList) (fun x hx => h x (by simp at hx ⊢; exact .inr hx))]
  case fieldAddr t x f => rw [h x (by simp)]
  case field t x f => rw [h x (by simp)]
  case indexAddr t x i => rw [h x (by simp), h i (by simp)]
  case index t x i => rw [h x (by simp), h i (by simp)]
  case slice t x lo hi mx =>
    cases lo <;> cases hi <;> cases mx <;> simp only [evOp, hh]
    rw [h x (by simp)]
  case extract x i => rw [h x (by simp)]
  case typeAssert x t u ok => rw [h x (by simp)]

theorem evCallOp_congr {P : Program} {call : CallA} {s s' : St} {c : Call} (hh : s.heap = s'.heap) (h : ∀ x ∈ c.operands.toList, s.ev x = s'.ev x) : evCallOp P call s c = evCallOp P call s' c := by
  have h1 : s.evs c.args.toList = s'.evs c.args.toList := evs_congr fun x hx => h x (by simp [Call.operands] at hx ⊢; exact .inr hx)
  have h2 : ∀ f, c.callee = .value f → s.ev f = s'.ev f := fun f hf => h f (by simp [Call.operands, hf])
  unfold evCallOp
  rw [h1, hh]
  cases hc : c.callee with
  | value f => simp only [h2 f hc]
  | invoke r n => simp only [h r (by simp [Call.operands, hc])]
  | builtin b => cases b <;> rfl

theorem argsOf_congr {s s' : St} {c : Call} (h : ∀ x ∈ c.operands.toList, s.ev x = s'.ev x) : argsOf s c = argsOf s' c := by
  have h1 : s.evs c.args.toList = s'.evs c.args.toList := evs_congr fun x hx => h x (by simp [Call.operands] at hx ⊢; exact .inr hx)
  unfold argsOf
  rw [h1]
  cases hc : c.callee with
  | value f => simp only [h f (by simp [Call.operands, hc])]
  | invoke r n => simp only [h r (by simp [Call.operands, hc])]
  | builtin b => rfl

/-! ### masks -/

theorem maskOf_bit {acc : List Nat} {o : Oper} {j : Nat} (h : (maskOf acc o).testBit j = true) : ∃ e ∈ o.after.toList, Region.binds .any e = true ∧ (e.on = j ∨ (acc.getD e.on 0).testBit j = true) := by
  unfold maskOf at h
  have key : ∀ (l : List Edge) (s : Nat), ((l.foldl (fun s e => if Region.binds .any e = true then s ||| 2 ^ e.on ||| acc.getD e.on 0 else s) s).testBit j = true) →
      s.testBit j = true ∨ ∃ e ∈ l, Region.binds .any e = true ∧ (e.on = j ∨ (acc.getD e.on 0).testBit j = true) := by
    intro l
    induction l with
    | nil => intro s h; exact .inl h
    | cons e l ih =>
      intro s h
      simp only [List.foldl_cons] at h
      rcases ih _ h with h1 | ⟨e', he', h1⟩
      · split at h1
        · rename_i hb
          simp only [Nat.testBit_or, Bool.or_eq_true] at h1
          rcases h1 with (h1 | h1) | h1
          · exact .inl h1
          · rw [Nat.testBit_two_pow] at h1
            exact .inr ⟨e, by simp, hb, .inl (by simpa using h1)⟩
          · exact .inr ⟨e, by simp, hb, .inr h1⟩
        · exact .inl h1
      · exact .inr ⟨e', by simp [he'], h1⟩
  rcases key _ _ h with h1 | h1
  · simp at h1
  · exact h1

theorem masksFrom_spec : ∀ (l : List Oper) (acc : List Nat) (i : Nat), i < acc.length → (masksFrom l acc).getD i 0 = acc.getD i 0
  | [], _, _, _ => rfl
  | o :: l, acc, i, h => by
    simp only [masksFrom]
    rw [masksFrom_spec l _ i (by simp; omega)]
    simp [List.getD_eq_getElem?_getD, List.getElem?_append_left h]

theorem masksFrom_bit : ∀ (l : List Oper) (acc : List Nat) (i : Nat) (o : Oper) (j : Nat), l[i]? = some o → ((masksFrom l acc).getD (acc.length + i) 0).testBit j = true →
    ∃ e ∈ o.after.toList, Region.binds .any e = true ∧ (e.on = j ∨ (e.on < acc.length + i ∧ ((masksFrom l acc).getD e.on 0).testBit j = true))
  | [], _, _, _, _, h, _ => by simp at h
  | p :: l, acc, 0, o, j, h, hb => by
    simp at h; subst h
    simp only [masksFrom, Nat.add_zero] at hb ⊢
    rw [masksFrom_spec l _ acc.length (by simp)] at hb
    simp only [List.getD_eq_getElem?_getD, List.getElem?_append_right (Nat.le_refl _), Nat.sub_self, List.getElem?_cons_zero, Option.getD_some] at hb
    obtain ⟨e, he, hbd, h1⟩ := maskOf_bit hb
    refine ⟨e, he, hbd, ?_⟩
    rcases h1 with h1 | h1
    · exact .inl h1
    · by_cases hlt : e.on < acc.length
      · refine .inr ⟨hlt, ?_⟩
        rw [masksFrom_spec l _ e.on (by simp; omega)]
        simp only [List.getD_eq_getElem?_getD, List.getElem?_append_left hlt] at h1 ⊢
        exact h1
      · simp only [List.getD_eq_getElem?_getD, List.getElem?_eq_none (Nat.le_of_not_lt hlt)] at h1
        simp at h1
  | p :: l, acc, i + 1, o, j, h, hb => by
    simp at h
    simp only [masksFrom] at hb ⊢
    have := masksFrom_bit l (acc ++ [maskOf acc p]) i o j h (by simpa [Nat.add_assoc, Nat.add_comm 1 i] using hb)
    simpa [Nat.add_assoc, Nat.add_comm 1 i] using this

theorem masks_bit {ops : Array Oper} {i j : Nat} {o : Oper} (ho : ops[i]? = some o) (h : ((masks ops).getD i 0).testBit j = true) :
    ∃ e ∈ o.after.toList, Region.binds .any e = true ∧ (e.on = j ∨ (e.on < i ∧ ((masks ops).getD e.on 0).testBit j = true)) := by
  have := masksFrom_bit ops.toList [] i o j (by simpa using ho) (by simpa [masks] using h)
  simpa [masks] using this

/-! ### what 'floatsOk' says -/

structure Fok (ops : Array Oper) (m : Nat) : Prop where
  le : m ≤ ops.size
  sel : ∀ (i : Nat) (o : Oper), ops[i]? = some o → ∀ cs b, o.op ≠ .select cs b
  back : ∀ (i : Nat) (o : Oper), ops[i]? = some o → ∀ e ∈ o.after.toList, Region.binds .any e = true → e.on < i
  look : ∀ (i : Nat) (o : Oper) (j : Nat) (o' : Oper) (d : Tmp), i < m → ops[i]? = some o → j < m → ops[j]? = some o' → o'.dst = some d → d ∈ looks ops o → ((masks ops).getD i 0).testBit j = true
  dst : ∀ (i : Nat) (o : Oper) (j : Nat) (o' : Oper) (d : Tmp), i < m → ops[i]? = some o → j < m → ops[j]? = some o' → o'.dst = some d → i ≠ j → o.dst ≠ some d
  tail : ∀ (i j : Nat), i < ops.size → m ≤ i → j < i → ((masks ops).getD i 0).testBit j = true

theorem fok_of {ops : Array Oper} {m : Nat} (h : floatsOk ops m = true) : Fok ops m := by
  unfold floatsOk at h
  simp only [Bool.and_eq_true, decide_eq_true_eq, List.all_eq_true, List.mem_range] at h
  obtain ⟨h0, h⟩ := h
  have key : ∀ i o, ops[i]? = some o → isSelect o.op = false ∧ (∀ e ∈ o.after.toList, Region.binds .any e = true → e.on < i) ∧ (if i < m then floatOk ops (masks ops) m i o = true else waitsAll (masks ops) i = true) := by
    intro i o ho
    have hi : i < ops.size := (Array.getElem?_eq_some_iff.1 ho).1
    have := h i hi
    rw [ho] at this
    simp only [Bool.and_eq_true, Bool.not_eq_true'] at this
    obtain ⟨⟨h1, h2⟩, h3⟩ := this
    refine ⟨h1, fun e he hb => ?_, ?_⟩
    · have := List.all_eq_true.1 h2 e he
      simpa [hb] using this
    · split at h3
      · rename_i hm; rw [if_pos hm]; exact h3
      · rename_i hm; rw [if_neg hm]; exact h3
  have flo : ∀ i o j o' d, i < m → ops[i]? = some o → j < m → ops[j]? = some o' → o'.dst = some d → ((looks ops o).contains d = true → ((masks ops).getD i 0).testBit j = true) ∧ (i ≠ j → o.dst ≠ some d) := by
    intro i o j o' d hi ho hj ho' hd
    have h3 := (key i o ho).2.2
    rw [if_pos hi] at h3
    unfold floatOk at h3
    have := List.all_eq_true.1 h3 j (by simpa using hj)
    rw [ho'] at this
    simp only [hd, Bool.and_eq_true, Bool.or_eq_true, Bool.not_eq_true', beq_iff_eq, bne_iff_ne, ne_eq] at this
    refine ⟨fun hc => ?_, fun hne => ?_⟩
    · rcases this.1 with h1 | h1
      · rw [hc] at h1; cases h1
      · exact h1
    · rcases this.2 with h1 | h1
      · exact absurd h1 hne
      · exact h1
  refine ⟨h0, fun i o ho cs b e => ?_, fun i o ho => (key i o ho).2.1, fun i o j o' d hi ho hj ho' hd hl => (flo i o j o' d hi ho hj ho' hd).1 (by simpa using hl),
    fun i o j o' d hi ho hj ho' hd hne => (flo i o j o' d hi ho hj ho' hd).2 hne, fun i j hi hm hj => ?_⟩
  · have := (key i o ho).1; rw [e] at this; simp [isSelect] at this
  · have h3 := (key i ops[i] (Array.getElem?_eq_getElem hi)).2.2
    rw [if_neg (by omega)] at h3
    exact List.all_eq_true.1 h3 j (by simpa using hj)

theorem mask_lt {ops : Array Oper} {m : Nat} (F : Fok ops m) : ∀ (i j : Nat), ((masks ops).getD i 0).testBit j = true → i < ops.size → j < i := by
  intro i
  induction i using Nat.strongRecOn with
  | _ i ih =>
    intro j h hi
    obtain ⟨e, he, hb, h1⟩ := masks_bit (Array.getElem?_eq_getElem hi) h
    have hlt := F.back i _ (Array.getElem?_eq_getElem hi) e he hb
    rcases h1 with h1 | ⟨h1, h2⟩
    · omega
    · have := ih e.on h1 j h2 (by omega); omega

/-- All for whom a listed operation waits are listed. -/
def Closed (ops : Array Oper) (listed : Array Bool) : Prop :=
  ∀ i o, listed.getD i false = true → ops[i]? = some o → ∀ e ∈ o.after.toList, Region.binds .any e = true → listed.getD e.on false = true

theorem closed_mask {ops : Array Oper} {m : Nat} {listed : Array Bool} (F : Fok ops m) (hc : Closed ops listed) : ∀ (i : Nat) (o : Oper) (j : Nat), ops[i]? = some o →
    (∀ e ∈ o.after.toList, Region.binds .any e = true → listed.getD e.on false = true) → ((masks ops).getD i 0).testBit j = true → listed.getD j false = true := by
  intro i
  induction i using Nat.strongRecOn with
  | _ i ih =>
    intro o j ho hd h
    obtain ⟨e, he, hb, h1⟩ := masks_bit ho h
    have hl := hd e he hb
    rcases h1 with h1 | ⟨h1, h2⟩
    · rw [← h1]; exact hl
    · have hi : e.on < ops.size := by have := (Array.getElem?_eq_some_iff.1 ho).1; omega
      exact ih e.on h1 _ j (Array.getElem?_eq_getElem hi) (fun e' he' hb' => hc e.on _ hl (Array.getElem?_eq_getElem hi) e' he' hb') h2

/-! ### a run's states, by number -/

theorem run_trace {exec : St → Oper → Ans} {ops : Array Oper} {l : List Oper} {s s' : St} (h : Run exec ops l s s') :
    ∃ tr : Nat → St, tr 0 = s ∧ tr l.length = s' ∧ ∀ i o, l[i]? = some o → Step1 exec ops (tr i) o (tr (i + 1)) := by
  induction h with
  | nil s => exact ⟨fun _ => s, rfl, rfl, fun i o e => by simp at e⟩
  | @cons o rest s s1 s2 h1 h2 ih =>
    obtain ⟨tr, h3, h4, h5⟩ := ih
    refine ⟨fun i => match i with | 0 => s | i + 1 => tr i, rfl, by simpa using h4, ?_⟩
    intro i o' e
    cases i with
    | zero => simp at e; subst e; simp only; rw [h3]; exact h1
    | succ i => simp at e; exact h5 i o' e

theorem step_put {exec : St → Oper → Ans} {ops : Array Oper} {s s1 : St} {o : Oper} (h : Step1 exec ops s o s1) : ∃ v, s1.tmps = put s.tmps o.dst v := by
  rcases h with ⟨_, rfl⟩ | ⟨_, ⟨_, _, _, _, _, _, _, _, _, rfl⟩ | ⟨_, _, _, rfl⟩⟩
  · exact ⟨_, rfl⟩
  · exact ⟨_, rfl⟩
  · exact ⟨_, rfl⟩

theorem put_length (l : List AV) (d : Option Tmp) (v : AV) : (put l d v).length = l.length := by cases d <;> simp [put]
theorem put_other {l : List AV} {d : Option Tmp} {v : AV} {t : Tmp} (h : d ≠ some t) : (put l d v).getD t .undef = l.getD t .undef := by
  cases d with
  | none => rfl
  | some d =>
    simp only [put]
    rw [List.getD_eq_getElem?_getD, List.getElem?_set_ne (fun e => h (by rw [e])), ← List.getD_eq_getElem?_getD]
theorem put_same {l : List AV} {d : Tmp} {v : AV} (h : d < l.length) : (put l (some d) v).getD d .undef = v := by
  simp only [put]
  rw [List.getD_eq_getElem?_getD, List.getElem?_set_self h]; rfl

/-- A slot that no operation from i to k writes holds what it held. -/
theorem trace_keeps {exec : St → Oper → Ans} {ops : Array Oper} {l : List Oper} {tr : Nat → St} (h : ∀ i o, l[i]? = some o → Step1 exec ops (tr i) o (tr (i + 1))) {t : Tmp} {i : Nat} :
    ∀ n, i + n ≤ l.length → (∀ j o, i ≤ j → j < i + n → l[j]? = some o → o.dst ≠ some t) → (tr (i + n)).tmps.getD t .undef = (tr i).tmps.getD t .undef
  | 0, _, _ => rfl
  | n + 1, hn, hd => by
    have ho : l[i + n]? = some l[i + n] := List.getElem?_eq_getElem (by omega)
    obtain ⟨v, hv⟩ := step_put (h (i + n) _ ho)
    have : i + (n + 1) = i + n + 1 := by omega
    rw [this, hv, put_other (hd (i + n) _ (by omega) (by omega) ho)]
    exact trace_keeps h n (by omega) (fun j o h1 h2 h3 => hd j o h1 (by omega) h3)

theorem trace_length {exec : St → Oper → Ans} {ops : Array Oper} {l : List Oper} {tr : Nat → St} (h : ∀ i o, l[i]? = some o → Step1 exec ops (tr i) o (tr (i + 1))) :
    ∀ n, n ≤ l.length → (tr n).tmps.length = (tr 0).tmps.length
  | 0, _ => rfl
  | n + 1, hn => by
    have ho : l[n]? = some l[n] := List.getElem?_eq_getElem (by omega)
    obtain ⟨v, hv⟩ := step_put (h n _ ho)
    rw [hv, put_length]; exact trace_length h n (by omega)

end Go.Sky

/- Regions that draw their order: whatever order is drawn, the evaluator's end is reached. -/
set_option linter.unusedSimpArgs false
set_option linter.unusedVariables false
namespace Go.Sky
open Go.RowKit (Below)

def maskA (S : List Tmp) (l : List AV) : List AV := (List.range l.length).map fun t => if t ∈ S then l.getD t .undef else .undef
def maskV (S : List Tmp) (a : Array Value) (n : Nat) : Array Value := ((List.range n).map fun t => if t ∈ S then a.getD t Go.undef else Go.undef).toArray

theorem maskA_get {S : List Tmp} {l : List AV} {t : Tmp} (h : t ∈ S) : (maskA S l).getD t .undef = l.getD t .undef := by
  unfold maskA
  by_cases ht : t < l.length
  · simp [List.getD_eq_getElem?_getD, ht, h]
  · simp [List.getD_eq_getElem?_getD, ht]

theorem maskV_get {S : List Tmp} {a : Array Value} {n : Nat} {t : Tmp} (h : t ∈ S) (hn : a.size = n) : (maskV S a n).getD t Go.undef = a.getD t Go.undef := by
  unfold maskV
  by_cases ht : t < n
  · simp [Array.getD_eq_getD_getElem?, ht, h]
  · simp [Array.getD_eq_getD_getElem?, ht, hn]

theorem mask_rel {φ : Ren} {S : List Tmp} {l : List AV} {a : Array Value} (hn : a.size = l.length) (h : ∀ t ∈ S, ARel φ (l.getD t .undef) (a.getD t Go.undef)) : LRel φ (maskA S l) (maskV S a l.length).toList := by
  unfold maskA maskV
  simp only
  refine LRel.map_range _ fun t => ?_
  by_cases ht : t ∈ S
  · rw [if_pos ht, if_pos ht]; exact h t ht
  · rw [if_neg ht, if_neg ht]; exact ARel.undef

section
variable {P : Program} {B : Nat} {w0 : World} {call0 call : CallA} {ops : Array Oper} {m : Nat} {h0 : AH} {φ : Ren} {tr : Nat → St}

theorem alloc_shape {s : St} {op : Op} {v : AV} {h' : AH} (ha : isAlloc op = true) (hr : (evOp P s op).run = some (v, h')) : ∃ cs, h' = s.heap ++ [cs] := by
  cases op <;> simp only [isAlloc, Bool.false_eq_true] at ha <;> simp only [evOp] at hr
  case alloc t =>
    (replace hr := opt_run hr); obtain ⟨z, hz, hr⟩ := hr
    simp only [newBlock, Tr.run, Option.some.injEq, Prod.mk.injEq] at hr
    exact ⟨_, hr.2.symm⟩
  case box t x =>
    (replace hr := opt_run hr); obtain ⟨z, hz, hr⟩ := hr
    simp only [newBlock, Tr.run, Option.some.injEq, Prod.mk.injEq] at hr
    exact ⟨_, hr.2.symm⟩
  case buildSlice t n ps =>
    (replace hr := opt_run hr); obtain ⟨ps, hps, hr⟩ := hr
    cases hu : P.underlying t with
    | none => simp [hu, Tr.run] at hr
    | some d =>
      cases d <;> simp only [hu] at hr <;> first | (simp [Tr.run] at hr; done) | skip
      case slice elem =>
        (replace hr := opt_run hr); obtain ⟨size, hs, hr⟩ := hr
        (replace hr := opt_run hr); obtain ⟨z, hz, hr⟩ := hr
        split at hr
        · simp [Tr.run] at hr
        · (replace hr := opt_run hr); obtain ⟨cs, hcs, hr⟩ := hr
          simp only [Tr.run, Option.some.injEq, Prod.mk.injEq] at hr
          exact ⟨_, hr.2.symm⟩

theorem evOp_store_shape {s : St} {t : TypeId} {x y : Operand} {v : AV} {h' : AH} (hr : (evOp P s (.store t x y)).run = some (v, h')) :
    v = .undef ∧ ∃ b o u, s.ev x = some (.ptr (some (b, o))) ∧ s.ev y = some u ∧ storeA P t b o u s.heap = some h' := by
  simp only [evOp] at hr
  (replace hr := opt_run hr); obtain ⟨p, hx, hr⟩ := hr
  (replace hr := opt_run hr); obtain ⟨q, hy, hr⟩ := hr
  split at hr
  · rename_i b o
    split at hr
    · rename_i h2 hs
      cases val_run hr
      exact ⟨rfl, b, o, q, hx, hy, hs⟩
    · simp [Tr.run] at hr
  · simp [Tr.run] at hr

theorem execF_run {s : St} {o : Oper} {v : AV} {h' : AH} (h : (execF P call0 s o).run = some (v, h')) :
    (isAlloc o.op = true ∧ (evOp P s o.op).run = some (v, h')) ∨
    (h' = s.heap ∧ isAlloc o.op = false ∧ ((isReader o.op = true ∧ ∃ h2, (evOp P s o.op).run = some (v, h2)) ∨ (∃ c h2, o.op = .call c ∧ (evCallOp P call0 s c).run = some (v, h2)))) ∨
    (∃ t x y, o.op = .store t x y ∧ (evOp P s o.op).run = some (v, h')) := by
  unfold execF at h
  split at h
  · rename_i ha; exact .inl ⟨ha, h⟩
  · rename_i ha
    refine .inr ?_
    split at h
    · rename_i hr
      obtain ⟨⟨v2, h2⟩, h3, h4⟩ := run_bind_some h
      simp only [Tr.run, Option.some.injEq, Prod.mk.injEq] at h4
      obtain ⟨rfl, rfl⟩ := h4
      exact .inl ⟨rfl, by simpa using ha, .inl ⟨hr, h2, h3⟩⟩
    · split at h
      · rename_i hs
        cases ho : o.op with
        | store t x y => rw [ho] at h; exact .inr ⟨t, x, y, rfl, h⟩
        | _ => rw [ho] at hs; simp [isStore] at hs
      · split at h
        · rename_i c ho
          obtain ⟨⟨v2, h2⟩, h3, h4⟩ := run_bind_some h
          simp only [Tr.run, Option.some.injEq, Prod.mk.injEq] at h4
          obtain ⟨rfl, rfl⟩ := h4
          exact .inl ⟨rfl, by simpa using ha, .inr ⟨c, h2, ho, h3⟩⟩
        · simp [Tr.run] at h

/-- The floating operations' states, in the text's order. -/
structure Trace (P : Program) (call0 : CallA) (ops : Array Oper) (m : Nat) (h0 : AH) (tr : Nat → St) : Prop where
  start : (tr 0).heap = h0
  step : ∀ (i : Nat) (o : Oper), i < m → ops[i]? = some o → Step1 (execF P call0) ops (tr i) o (tr (i + 1))

/-- Memory behind one of them. -/
theorem Trace.heap (T : Trace P call0 ops m h0 tr) (F : Fok ops m) {i : Nat} (hi : i < m) : (tr (i + 1)).heap = (tr i).heap ∨ (∃ cs, (tr (i + 1)).heap = (tr i).heap ++ [cs]) ∨
    (∃ o b cs ds, ops[i]? = some o ∧ isStore o.op = true ∧ accB (tr i) o = some b ∧ (tr i).heap[b]? = some cs ∧ (tr (i + 1)).heap = (tr i).heap.set b ds) := by
  have hs : i < ops.size := Nat.lt_of_lt_of_le hi F.le
  rcases T.step i _ hi (Array.getElem?_eq_getElem hs) with ⟨_, h⟩ | ⟨_, ⟨_, _, _, _, _, _, _, _, _, h⟩ | ⟨_, ⟨v, h'⟩, hr, h⟩⟩
  · rw [h]; exact .inl rfl
  · rw [h]; exact .inl rfl
  · rcases execF_run hr with ⟨h1, h2⟩ | ⟨h1, _⟩ | ⟨t, x, y, hop, h2⟩
    · rw [h]; exact .inr (.inl (alloc_shape h1 h2))
    · rw [h]; exact .inl h1
    · rw [hop] at h2
      obtain ⟨_, b, o, u, e1, e2, e3⟩ := evOp_store_shape h2
      obtain ⟨cs, ds, g1, g2⟩ := storeA_shape e3
      exact .inr (.inr ⟨_, b, cs, ds, Array.getElem?_eq_getElem hs, by rw [hop]; rfl, by unfold accB; simp only [hop, e1], g1, by rw [h]; exact g2⟩)

theorem Trace.mono (T : Trace P call0 ops m h0 tr) (F : Fok ops m) {i : Nat} : ∀ n, i + n ≤ m → (tr i).heap.length ≤ (tr (i + n)).heap.length
  | 0, _ => Nat.le_refl _
  | n + 1, h => by
    have h1 := T.mono F (i := i) n (by omega)
    rcases T.heap F (i := i + n) (by omega) with h2 | ⟨cs, h2⟩ | ⟨_, b, cs, ds, _, _, _, _, h2⟩
    · rw [show i + (n + 1) = i + n + 1 by omega, h2]; exact h1
    · rw [show i + (n + 1) = i + n + 1 by omega, h2]; simp; omega
    · rw [show i + (n + 1) = i + n + 1 by omega, h2]; simpa using h1

theorem Trace.mono' (T : Trace P call0 ops m h0 tr) (F : Fok ops m) {i j : Nat} (h : i ≤ j) (hj : j ≤ m) : (tr i).heap.length ≤ (tr j).heap.length := by
  have := T.mono F (i := i) (j - i) (by omega)
  rwa [show i + (j - i) = j by omega] at this

theorem Trace.base (T : Trace P call0 ops m h0 tr) (F : Fok ops m) {i : Nat} (h : i ≤ m) : h0.length ≤ (tr i).heap.length := by
  have := T.mono F (i := 0) i (by omega)
  rw [T.start] at this; simpa using this

theorem Trace.keeps (T : Trace P call0 ops m h0 tr) (F : Fok ops m) {t : Tmp} {i : Nat} (n : Nat) (hn : i + n ≤ m) (hd : ∀ j o, i ≤ j → j < i + n → ops[j]? = some o → o.dst ≠ some t) :
    (tr (i + n)).tmps.getD t .undef = (tr i).tmps.getD t .undef := by
  have hl : (ops.toList.take m).length = m := by simp [Nat.min_eq_left F.le]
  refine trace_keeps (exec := execF P call0) (ops := ops) (l := ops.toList.take m) (fun i o e => ?_) n (by omega) (fun j o h1 h2 h3 => hd j o h1 h2 ?_)
  · rw [List.getElem?_take] at e
    split at e
    · rename_i hi; exact T.step i o hi (by simpa using e)
    · cases e
  · rw [List.getElem?_take] at h3
    split at h3
    · simpa using h3
    · cases h3

theorem Trace.len (T : Trace P call0 ops m h0 tr) (F : Fok ops m) {i : Nat} (hi : i ≤ m) : (tr i).tmps.length = (tr 0).tmps.length := by
  have hl : (ops.toList.take m).length = m := by simp [Nat.min_eq_left F.le]
  refine trace_length (exec := execF P call0) (ops := ops) (l := ops.toList.take m) (fun i o e => ?_) i (by omega)
  rw [List.getElem?_take] at e
  split at e
  · rename_i hi; exact T.step i o hi (by simpa using e)
  · cases e

theorem operands_looks {o : Oper} {t : Tmp} (h : Operand.tmp t ∈ o.op.operands.toList) : t ∈ looks ops o := by
  unfold looks
  exact List.mem_append_left _ (List.mem_filterMap.2 ⟨_, h, rfl⟩)

/-- A slot that one looks at stays behind it. -/
theorem Trace.stays (T : Trace P call0 ops m h0 tr) (F : Fok ops m) {i : Nat} {o : Oper} (hi : i < m) (ho : ops[i]? = some o) {t : Tmp} (ht : t ∈ looks ops o) : (tr m).tmps.getD t .undef = (tr i).tmps.getD t .undef := by
  have hkeep := T.keeps F (t := t) (i := i) (m - i) (by omega) (fun k ok h1 h2 h3 e => by
    have := mask_lt F i k (F.look i o k ok t hi ho (by omega) h3 e ht) (Nat.lt_of_lt_of_le hi F.le)
    omega)
  rwa [show i + (m - i) = m by omega] at hkeep

theorem Trace.acc (T : Trace P call0 ops m h0 tr) (F : Fok ops m) {i : Nat} {o : Oper} (hi : i < m) (ho : ops[i]? = some o) : accB (tr m) o = accB (tr i) o := by
  have key : ∀ x ∈ o.op.operands.toList, (tr m).ev x = (tr i).ev x := fun x hx => ev_congr fun t e => T.stays F hi ho (operands_looks (by rw [← e]; exact hx))
  unfold accB
  cases hop : o.op <;> simp only
  case load t x => rw [key x (by rw [hop]; simp [Op.operands])]
  case store t x y => rw [key x (by rw [hop]; simp [Op.operands])]

theorem Trace.accR (T : Trace P call0 ops m h0 tr) (F : Fok ops m) {i : Nat} {o : Oper} (hi : i < m) (ho : ops[i]? = some o) : accR (tr m) o = accR (tr i) o := by
  have key : ∀ x ∈ o.op.operands.toList, (tr m).ev x = (tr i).ev x := fun x hx => ev_congr fun t e => T.stays F hi ho (operands_looks (by rw [← e]; exact hx))
  unfold Go.Sky.accR
  cases hop : o.op <;> simp only
  case call c => rw [argsOf_congr (s := tr m) (s' := tr i) fun x hx => key x (by rw [hop]; simpa [Op.operands] using hx)]

/-- 'i' changes block 'b'. -/
def Writes (tr : Nat → St) (i b : Nat) : Prop := (tr (i + 1)).heap[b]? ≠ (tr i).heap[b]?

/-- Who changes a block lays it, or stores into it. -/
theorem Trace.writer (T : Trace P call0 ops m h0 tr) (F : Fok ops m) {i b : Nat} (hi : i < m) (hw : Writes tr i b) :
    ((tr i).heap.length = b ∧ ∃ cs, (tr (i + 1)).heap = (tr i).heap ++ [cs]) ∨ (∃ o, ops[i]? = some o ∧ isStore o.op = true ∧ accB (tr i) o = some b ∧ b < (tr i).heap.length ∧ (tr (i + 1)).heap.length = (tr i).heap.length) := by
  rcases T.heap F hi with h | ⟨cs, h⟩ | ⟨o, b', cs, ds, h1, h2, h3, h4, h5⟩
  · exact absurd (by rw [h]) hw
  · refine .inl ⟨?_, cs, h⟩
    rcases Nat.lt_trichotomy b (tr i).heap.length with hb | hb | hb
    · exact absurd (by rw [h, List.getElem?_append_left hb]) hw
    · exact hb.symm
    · exact absurd (by rw [h, List.getElem?_eq_none (by simp; omega), List.getElem?_eq_none (by omega)]) hw
  · by_cases hb : b' = b
    · subst hb
      exact .inr ⟨o, h1, h2, h3, (List.getElem?_eq_some_iff.1 h4).1, by rw [h5]; simp⟩
    · exact absurd (by rw [h5, List.getElem?_set_ne hb]) hw

/-- Between two times at which nobody changes it a block is the same. -/
theorem same_between {b k i : Nat} (h1 : ∀ j, k ≤ j → j < i → ¬ Writes tr j b) (hki : k ≤ i) : (tr i).heap[b]? = (tr k).heap[b]? := by
  obtain ⟨n, rfl⟩ : ∃ n, i = k + n := ⟨i - k, by omega⟩
  clear hki
  induction n with
  | zero => rfl
  | succ n ih =>
    have h2 := h1 (k + n) (by omega) (by omega)
    unfold Writes at h2
    rw [show k + (n + 1) = k + n + 1 by omega, Classical.not_not.1 h2]
    exact ih fun j a c => h1 j a (by omega)

/-- What 'accOk' says. -/
def Aok (ops : Array Oper) (m : Nat) (tr : Nat → St) : Prop :=
  ∀ (i j : Nat) (o o' : Oper) (b : Nat), i < m → j < m → i ≠ j → ops[i]? = some o → ops[j]? = some o' → isStore o.op = true → accB (tr m) o = some b → (accB (tr m) o' = some b ∨ b ∈ accR (tr m) o') →
    ((masks ops).getD i 0).testBit j = true ∨ ((masks ops).getD j 0).testBit i = true

theorem aok_of {s : St} (h : accOk ops m s = true) (e : tr m = s) : Aok ops m tr := by
  intro i j o o' b hi hj hij ho ho' hs h1 h2
  rw [e] at h1 h2
  unfold accOk at h
  have h3 := List.all_eq_true.1 h i (List.mem_range.2 hi)
  rw [ho] at h3
  simp only [hs, h1] at h3
  have h4 := List.all_eq_true.1 h3 j (List.mem_range.2 hj)
  have hne : Nat.beq i j = false := by
    cases hb : Nat.beq i j
    · rfl
    · exact absurd (Nat.eq_of_beq_eq_true hb) hij
  rw [hne, ho'] at h4
  simp only [Bool.and_eq_true] at h4
  have hbb : Nat.beq b b = true := Nat.beq_refl b
  rcases h2 with h2 | h2
  · have h5 := h4.1
    simp only [h2] at h5
    rw [hbb] at h5
    simpa using h5
  · have h5 := h4.2
    have hany : ((accR s o').any (Nat.beq b)) = true := List.any_eq_true.2 ⟨b, h2, hbb⟩
    rw [hany] at h5
    simpa using h5

/-- What holds while the floating operations come up, in whatever order. -/
structure InvAt (B : Nat) (w0 : World) (φ : Ren) (h0 : AH) (ops : Array Oper) (m : Nat) (tr : Nat → St) (listed : Array Bool) (a : Act) (w : World) (ψ : Ren) : Prop where
  size : listed.size = ops.size
  closed : Closed ops listed
  only : ∀ i : Nat, listed.getD i false = true → i < m
  le : φ.le ψ
  below : Below B w0 w
  base : B ≤ w0.heap.size
  inj : ∀ (b b' c : Nat), ψ b = some c → ψ b' = some c → b = b'
  rng : ∀ (b c : Nat), ψ b = some c → B ≤ c ∧ c < w.heap.size
  dom : ∀ (b c : Nat), ψ b = some c → b < h0.length ∨ ∃ i : Nat, listed.getD i false = true ∧ (tr i).heap.length = b ∧ (tr (i + 1)).heap.length = b + 1
  all : ∀ b, b < h0.length → ∃ c, ψ b = some c
  laid : ∀ (i : Nat) (cs : List AV), listed.getD i false = true → (tr (i + 1)).heap = (tr i).heap ++ [cs] → ∃ c, ψ (tr i).heap.length = some c
  cur : ∀ (b c : Nat), ψ b = some c → ∃ k cs cs' e, k ≤ m ∧ (tr k).heap[b]? = some cs ∧ w.heap[c]? = some (.cells cs' e (0, 0)) ∧ LRel ψ cs cs'.toList ∧ ∀ j, j < m → Writes tr j b → (listed.getD j false = true ↔ j < k)
  wr : ∀ (j b : Nat), listed.getD j false = true → Writes tr j b → ∃ c, ψ b = some c
  old : ∀ t : Tmp, (∀ (i : Nat) (o : Oper), listed.getD i false = true → ops[i]? = some o → o.dst ≠ some t) → ARel ψ ((tr 0).tmps.getD t .undef) (a.tmps.getD t Go.undef)
  new : ∀ (i : Nat) (o : Oper) (t : Tmp), listed.getD i false = true → ops[i]? = some o → o.dst = some t → ARel ψ ((tr m).tmps.getD t .undef) (a.tmps.getD t Go.undef)
  len : a.tmps.size = (tr 0).tmps.length
  defers : a.defers = []
  fok : FOk ψ.frz w
  dis : ∀ b c, ψ b = some c → ψ.frz c = none
  bas : ψ.base = B

theorem getD_set_false {listed : Array Bool} {i j : Nat} (h : (listed.setIfInBounds i true).getD j false = true) : j = i ∨ listed.getD j false = true := by
  by_cases hij : i = j
  · exact .inl hij.symm
  · rw [getD_set_ne false hij] at h; exact .inr h

/-- A block that the next one may look at is as the text's order has it. -/
theorem InvAt.at (T : Trace P call0 ops m h0 tr) (F : Fok ops m) (A : Aok ops m tr) {listed : Array Bool} {a : Act} {w : World} {ψ : Ren} (I : InvAt B w0 φ h0 ops m tr listed a w ψ) {i : Nat} {o : Oper} (hi : i < m) (ho : ops[i]? = some o)
    (hun : listed.getD i false = false) (hed : ∀ e ∈ o.after.toList, Region.binds .any e = true → listed.getD e.on false = true) {b c : Nat} (hacc : accB (tr i) o = some b ∨ b ∈ accR (tr i) o) (hw : isStore o.op = true ∨ ¬ Writes tr i b) (hlt : b < (tr i).heap.length) (hc : ψ b = some c) :
    (∃ cs cs' e, (tr i).heap[b]? = some cs ∧ w.heap[c]? = some (.cells cs' e (0, 0)) ∧ LRel ψ cs cs'.toList) ∧ (∀ j, j < m → j ≠ i → Writes tr j b → (listed.getD j false = true ↔ j < i)) := by
  have hord : ∀ j, j < m → j ≠ i → Writes tr j b → (listed.getD j false = true ↔ j < i) := by
    intro j hj hji hwj
    rcases T.writer F hj hwj with ⟨g1, cs, g2⟩ | ⟨o', g1, g2, g3, _⟩
    · have hjlt : j < i := by
        rcases Nat.lt_or_ge j i with h | h
        · exact h
        · have := T.mono' F h (Nat.le_of_lt hj); omega
      refine ⟨fun _ => hjlt, fun _ => ?_⟩
      rcases I.dom b c hc with h1 | ⟨k, h1, h2, h3⟩
      · have := T.base F (i := j) (by omega); omega
      · have hk := I.only k h1
        have : k = j := by
          rcases Nat.lt_trichotomy k j with h | h | h
          · have := T.mono' F (i := k + 1) (j := j) (by omega) (by omega); omega
          · exact h
          · have := T.mono' F (i := j + 1) (j := k) (by omega) (by omega)
            rw [g2] at this; simp at this; omega
        rw [← this]; exact h1
    · have a1 : accB (tr m) o' = some b := by rw [T.acc F hj g1]; exact g3
      have a2 : accB (tr m) o = some b ∨ b ∈ accR (tr m) o := by rw [T.acc F hi ho, T.accR F hi ho]; exact hacc
      rcases A j i o' o b hj hi hji g1 ho g2 a1 a2 with h | h
      · -- j waits for i
        have hlt := mask_lt F j i h (Nat.lt_of_lt_of_le hj F.le)
        refine ⟨fun hl => ?_, fun h2 => by omega⟩
        exfalso
        have := closed_mask F I.closed j o' i g1 (fun e he hb => I.closed j o' hl g1 e he hb) h
        rw [hun] at this; cases this
      · have hlt := mask_lt F i j h (Nat.lt_of_lt_of_le hi F.le)
        exact ⟨fun _ => hlt, fun _ => closed_mask F I.closed i o j ho hed h⟩
  refine ⟨?_, hord⟩
  obtain ⟨k, cs, cs', e, hk, h1, h2, h3, h4⟩ := I.cur b c hc
  refine ⟨cs, cs', e, ?_, h2, h3⟩
  rw [← h1]
  have hself : Writes tr i b → ¬ i < k := fun hwi hik => by
    have := (h4 i hi hwi).2 hik
    rw [hun] at this; cases this
  rcases Nat.le_total k i with hki | hik
  · refine same_between (fun j g1 g2 hwj => ?_) hki
    have := (h4 j (by omega) hwj).1 ((hord j (by omega) (by omega) hwj).2 g2)
    omega
  · refine (same_between (fun j g1 g2 hwj => ?_) hik).symm
    by_cases hji : j = i
    · subst hji; exact hself hwj g2
    · have := (hord j (by omega) hji hwj).1 ((h4 j (by omega) hwj).2 g2)
      omega

/-- One more has come up. -/
theorem InvAt.next (T : Trace P call0 ops m h0 tr) (F : Fok ops m) {listed : Array Bool} {a : Act} {w w' : World} {ψ ψ' : Ren} (I : InvAt B w0 φ h0 ops m tr listed a w ψ) {i : Nat} {o : Oper} (hi : i < m) (ho : ops[i]? = some o)
    (hed : ∀ e ∈ o.after.toList, Region.binds .any e = true → listed.getD e.on false = true) {v : AV} {u : Value}
    (hle : ψ.le ψ') (hb : Below B w0 w') (hinj : ∀ (b b' c : Nat), ψ' b = some c → ψ' b' = some c → b = b') (hrng : ∀ (b c : Nat), ψ' b = some c → B ≤ c ∧ c < w'.heap.size)
    (hdom : ∀ (b c : Nat), ψ' b = some c → ψ b = some c ∨ ((tr i).heap.length = b ∧ (tr (i + 1)).heap.length = b + 1))
    (hlaid : ∀ cs, (tr (i + 1)).heap = (tr i).heap ++ [cs] → ∃ c, ψ' (tr i).heap.length = some c)
    (hcur : ∀ (b c : Nat), ψ' b = some c → ∃ k cs cs' e, k ≤ m ∧ (tr k).heap[b]? = some cs ∧ w'.heap[c]? = some (.cells cs' e (0, 0)) ∧ LRel ψ' cs cs'.toList ∧ ∀ j, j < m → Writes tr j b → ((listed.setIfInBounds i true).getD j false = true ↔ j < k))
    (hwr : ∀ b, Writes tr i b → ∃ c, ψ' b = some c) (hfok : FOk ψ'.frz w') (hdis : ∀ b c, ψ' b = some c → ψ'.frz c = none)
    (hv : ARel ψ' v u) (hp : (tr (i + 1)).tmps = put (tr i).tmps o.dst v) : InvAt B w0 φ h0 ops m tr (listed.setIfInBounds i true) (a.put o.dst u) w' ψ' := by
  have hs : i < ops.size := Nat.lt_of_lt_of_le hi F.le
  have hlis : (listed.setIfInBounds i true).getD i false = true := by simp [I.size, hs]
  have hsz : (a.put o.dst u).tmps.size = a.tmps.size := by cases o.dst <;> simp [Act.put]
  have hgo : ∀ t, o.dst ≠ some t → (a.put o.dst u).tmps.getD t Go.undef = a.tmps.getD t Go.undef := by
    intro t ht
    cases hd : o.dst with
    | none => rfl
    | some d =>
      have hne : d ≠ t := fun e => ht (by rw [hd, e])
      simp [Act.put, Array.getElem?_setIfInBounds_ne hne]
  refine ⟨by simpa using I.size, ?_, ?_, Ren.le_trans I.le hle, hb, I.base, hinj, hrng, ?_, fun b hb => by obtain ⟨c, h⟩ := I.all b hb; exact ⟨c, hle.own _ _ h⟩, ?_, hcur, ?_, ?_, ?_, by rw [hsz]; exact I.len, by rw [put_defers]; exact I.defers, hfok, hdis, by rw [hle.base]; exact I.bas⟩
  · intro j oj hj hoj e he hbd
    rcases getD_set_false hj with rfl | hj
    · rw [ho] at hoj; cases hoj; exact getD_set_true (hed e he hbd)
    · exact getD_set_true (I.closed j oj hj hoj e he hbd)
  · intro j hj
    rcases getD_set_false hj with rfl | hj
    · exact hi
    · exact I.only j hj
  · intro b c hbc
    rcases hdom b c hbc with h1 | h1
    · rcases I.dom b c h1 with h2 | ⟨j, h2, h3⟩
      · exact .inl h2
      · exact .inr ⟨j, getD_set_true h2, h3⟩
    · exact .inr ⟨i, hlis, h1⟩
  · intro j cs hj hcs
    rcases getD_set_false hj with rfl | hj
    · exact hlaid cs hcs
    · obtain ⟨c, h1⟩ := I.laid j cs hj hcs
      exact ⟨c, hle.own _ _ h1⟩
  · intro j b hj hw
    rcases getD_set_false hj with rfl | hj
    · exact hwr b hw
    · obtain ⟨c, h1⟩ := I.wr j b hj hw
      exact ⟨c, hle.own _ _ h1⟩
  · intro t ht
    rw [hgo t (ht i o hlis ho)]
    exact ARel.mono hle _ _ (I.old t fun j oj hj hoj => ht j oj (getD_set_true hj) hoj)
  · intro j oj t hj hoj hdt
    by_cases hji : j = i
    · subst hji
      rw [ho] at hoj; cases hoj
      have hkeep : (tr m).tmps.getD t .undef = (tr (j + 1)).tmps.getD t .undef := by
        have := T.keeps F (t := t) (i := j + 1) (m - (j + 1)) (by omega) (fun k ok h1 h2 h3 => F.dst k ok j o t (by omega) h3 hi ho hdt (by omega))
        rwa [show j + 1 + (m - (j + 1)) = m by omega] at this
      rw [hkeep, hp, hdt]
      have hjl := T.len F (i := j) (by omega)
      have hal := I.len
      rcases Nat.lt_or_ge t (tr j).tmps.length with ht | ht
      · rw [put_same ht]
        have ht2 : t < a.tmps.size := Nat.lt_of_lt_of_eq ht (by rw [hal, hjl])
        simp [Act.put, ht2]; exact hv
      · have hge : (put (tr j).tmps (some t) v).length ≤ t := Nat.le_trans (Nat.le_of_eq (put_length _ _ _)) ht
        rw [List.getD_eq_getElem?_getD, List.getElem?_eq_none hge]
        have ht2 : ¬ t < a.tmps.size := Nat.not_lt.2 (Nat.le_trans (Nat.le_of_eq (by rw [hal, hjl])) ht)
        have : (a.put (some t) u).tmps.getD t Go.undef = Go.undef := by simp [Act.put, ht2]
        rw [this]; exact ARel.undef
    · rcases getD_set_false hj with rfl | hj
      · exact absurd rfl hji
      · rw [hgo t (F.dst i o j oj t hi ho (I.only j hj) hoj hdt (Ne.symm hji))]
        exact ARel.mono hle _ _ (I.new j oj t hj hoj hdt)

/-- The slots that the next one looks at hold what the text's order has there. -/
theorem InvAt.looked (T : Trace P call0 ops m h0 tr) (F : Fok ops m) {listed : Array Bool} {a : Act} {w : World} {ψ : Ren} (I : InvAt B w0 φ h0 ops m tr listed a w ψ) {i : Nat} {o : Oper} (hi : i < m) (ho : ops[i]? = some o)
    (hed : ∀ e ∈ o.after.toList, Region.binds .any e = true → listed.getD e.on false = true) : ∀ t ∈ looks ops o, ARel ψ ((tr i).tmps.getD t .undef) (a.tmps.getD t Go.undef) := by
  intro t ht
  by_cases hw : ∃ j oj, j < m ∧ ops[j]? = some oj ∧ oj.dst = some t
  · obtain ⟨j, oj, hj, hoj, hd⟩ := hw
    have hl := closed_mask F I.closed i o j ho hed (F.look i o j oj t hi ho hj hoj hd ht)
    rw [← T.stays F hi ho ht]
    exact I.new j oj t hl hoj hd
  · have hkeep := T.keeps F (t := t) (i := 0) i (by omega) (fun k ok h1 h2 h3 e => hw ⟨k, ok, by omega, h3, e⟩)
    rw [Nat.zero_add] at hkeep
    rw [hkeep]
    exact I.old t fun j oj hj hoj e => hw ⟨j, oj, I.only j hj, hoj, e⟩

theorem pick_looks {o : Oper} {c x y : Operand} (ho : o.op = .pick c x y) {t : Tmp} (h : c = .tmp t ∨ x = .tmp t ∨ y = .tmp t) : t ∈ looks ops o :=
  operands_looks (by rw [ho]; simp [Op.operands]; rcases h with h | h | h <;> simp [h])

/-- A floating operation comes up. -/
theorem InvAt.step (T : Trace P call0 ops m h0 tr) (F : Fok ops m) (A : Aok ops m tr) (hc : CallsPure P call0) {listed : Array Bool} {a : Act} {w : World} {ψ : Ren} (I : InvAt B w0 φ h0 ops m tr listed a w ψ) {i : Nat} {o : Oper} (hi : i < m) (ho : ops[i]? = some o)
    (hun : listed.getD i false = false) (hed : ∀ e ∈ o.after.toList, Region.binds .any e = true → listed.getD e.on false = true) {K : Act → World → Prop} {Q : Exit → Act → World → Prop}
    (hk : ∀ a' w' ψ', InvAt B w0 φ h0 ops m tr (listed.setIfInBounds i true) a' w' ψ' → K a' w') : wpOp P ops Q i K a w := by
  have hlook := I.looked T F hi ho hed
  have hlen : a.tmps.size = (tr i).tmps.length := by rw [I.len, T.len F (i := i) (by omega)]
  obtain ⟨a', tm, hmask, htm, hav, hs'⟩ : ∃ (a' : Act) (tm : List AV), LRel ψ tm a'.tmps.toList ∧ (∀ t ∈ looks ops o, tm.getD t .undef = (tr i).tmps.getD t .undef) ∧
      (∀ t ∈ looks ops o, a'.tmps.getD t Go.undef = a.tmps.getD t Go.undef) ∧ a'.tmps.size = a.tmps.size :=
    ⟨{ tmps := maskV (looks ops o) a.tmps (tr i).tmps.length, defers := [] }, maskA (looks ops o) (tr i).tmps, mask_rel (φ := ψ) (S := looks ops o) hlen hlook,
      fun t ht => maskA_get ht, fun t ht => maskV_get ht hlen, by simp [maskV, hlen]⟩
  have heval : ∀ x ∈ o.op.operands, a'.eval x = a.eval x := by
    intro x hx
    cases x with
    | tmp t => exact hav t (operands_looks (by simpa using hx))
    | _ => rfl
  have hexec : execOp a.eval o = execOp a'.eval o := execOp_congr o (F.sel i o ho) fun x hx => (heval x hx).symm
  have hevs : ∀ (h : AH) x, x ∈ o.op.operands.toList → (⟨(tr i).tmps, h⟩ : St).ev x = (⟨tm, h⟩ : St).ev x := by
    intro h x hx
    exact ev_congr fun t e => (htm t (operands_looks (by rw [← e]; exact hx))).symm
  have hwant : Region.wanted o (yielded ops a.tmps) = gval ops (tr i) o := by
    have h1 : Region.wanted o (yielded ops a.tmps) = Region.wanted o (yielded ops a'.tmps) := by
      unfold Region.wanted
      cases hg : o.guard with
      | none => rfl
      | some p =>
        obtain ⟨j, want⟩ := p
        have : yielded ops a.tmps j = yielded ops a'.tmps j := by
          unfold yielded
          cases hd : (ops[j]?).bind (·.dst) with
          | none => rfl
          | some t =>
            have ht : t ∈ looks ops o := by unfold looks; rw [hg]; simp [hd]
            have hh := hav t ht
            simp only [Option.bind_some]
            rcases Nat.lt_or_ge t a.tmps.size with hlt | hge
            · rw [Array.getD_eq_getD_getElem?, Array.getD_eq_getD_getElem?, Array.getElem?_eq_getElem hlt, Array.getElem?_eq_getElem (Nat.lt_of_lt_of_eq hlt hs'.symm)] at hh
              simp only [Option.getD_some] at hh
              rw [Array.getElem?_eq_getElem hlt, Array.getElem?_eq_getElem (Nat.lt_of_lt_of_eq hlt hs'.symm), hh]
            · rw [Array.getElem?_eq_none hge, Array.getElem?_eq_none (Nat.le_trans (Nat.le_of_eq hs') hge)]
        simp only [this]
    have h2 : gval ops (tr i) o = gval ops ⟨tm, h0⟩ o := by
      unfold gval
      cases hg : o.guard with
      | none => rfl
      | some p =>
        obtain ⟨j, want⟩ := p
        simp only
        cases hd : (ops[j]?).bind (·.dst) with
        | none => rfl
        | some t =>
          have ht : t ∈ looks ops o := by unfold looks; rw [hg]; simp [hd]
          simp only
          rw [htm t ht]
    rw [h1, h2]
    exact wanted_rel (s := ⟨tm, h0⟩) (a := a') hmask
  have grown : ∀ w', Below w.heap.size w w' → Below B w0 w' := fun w' hb => I.below.trans (hb.mono (Nat.le_trans I.base I.below.size))
  have still : ∀ (w' : World) (ψ' : Ren), Below w.heap.size w w' → ψ.le ψ' → ∀ b c, ψ b = some c → (¬ Writes tr i b) → ∃ k cs cs' e, k ≤ m ∧ (tr k).heap[b]? = some cs ∧ w'.heap[c]? = some (.cells cs' e (0, 0)) ∧ LRel ψ' cs cs'.toList ∧
      ∀ j, j < m → Writes tr j b → ((listed.setIfInBounds i true).getD j false = true ↔ j < k) := by
    intro w' ψ' hb hle b c e hnw
    obtain ⟨k, cs, cs', t, h1, h2, h3, h4, h5⟩ := I.cur b c e
    refine ⟨k, cs, cs', t, h1, h2, by rw [hb.block c (I.rng _ _ e).2]; exact h3, LRel.mono hle _ _ h4, fun j hj hw => ?_⟩
    have hne : i ≠ j := fun e => hnw (by rw [e]; exact hw)
    rw [getD_set_ne false hne]; exact h5 j hj hw
  have same : ∀ (u : Value) (v : AV), (tr (i + 1)).heap = (tr i).heap → (tr (i + 1)).tmps = put (tr i).tmps o.dst v → ∀ w', Below w.heap.size w w' → ARel ψ v u →
      InvAt B w0 φ h0 ops m tr (listed.setIfInBounds i true) (a.put o.dst u) w' ψ := by
    intro u v hh hp w' hb hv
    have hnw : ∀ b, ¬ Writes tr i b := fun b hw => hw (by rw [hh])
    refine I.next T F hi ho hed (Ren.le_refl _) (grown w' hb) I.inj (fun b c e => ⟨(I.rng b c e).1, Nat.lt_of_lt_of_le (I.rng b c e).2 hb.size⟩) (fun b c e => .inl e) (fun cs e => ?_)
      (fun b c e => still w' ψ hb (Ren.le_refl _) b c e (hnw b)) (fun b hw => absurd hw (hnw b)) (I.fok.grown hb) I.dis hv hp
    rw [hh] at e
    have := congrArg List.length e
    simp at this
  unfold wpOp
  simp only [ho]
  rw [hwant]
  rcases T.step i o hi ho with ⟨hg, he⟩ | ⟨hg, ⟨t, x, y, l, b, u, hop, hv, hu, he⟩ | ⟨hn, ⟨v, h'⟩, hr, he⟩⟩
  · rw [hg]
    simp only [Bool.false_eq_true, if_false]
    exact hk _ _ _ (same Go.undef .undef (by rw [he]) (by rw [he]) w (Below.refl _ _) ARel.undef)
  · rw [hg]
    simp only [if_true]
    refine .inl ?_
    unfold Oper.wp
    rw [hexec]
    unfold execOp
    have hb : a'.eval (.tmp t) = .bool b := by
      have := LRel.getD t hmask
      have e2 : tm.getD t .undef = AV.bool l b := by rw [htm t (pick_looks hop (.inl rfl)), hv]
      rw [e2] at this
      have e3 : a'.tmps.getD t Go.undef = .bool b := by simpa only [ARel] using this
      exact e3
    have hu2 : (⟨tm, h0⟩ : St).ev (if b = true then x else y) = some u := by
      rw [← hu]
      symm
      exact ev_congr fun t e => (htm t (pick_looks hop (by cases b <;> simp at e <;> simp [e]))).symm
    have hu' := ev_rel (s := ⟨tm, h0⟩) (a := a') hmask hu2
    have hx : a'.eval (if b = true then x else y) = if b = true then a'.eval x else a'.eval y := by cases b <;> rfl
    rw [hx] at hu'
    simp only [hop, Sem.run_bind, hb, asBool, Sem.run_pure, Result.andThen_ok, Oper.upon]
    exact hk _ _ _ (same _ u (by rw [he]) (by rw [he]) w (Below.refl _ _) hu')
  · rw [hg]
    simp only [if_true]
    refine .inl ?_
    unfold Oper.wp
    rw [hexec]
    rcases execF_run hr with ⟨ha, hr⟩ | ⟨hh, ha, ⟨hrd, h2, hr⟩ | ⟨c, h2, hop, hr⟩⟩ | ⟨t, x, y, hop, hr⟩
    · have hr2 : (evOp P ⟨tm, (tr i).heap⟩ o.op).run = some (v, h') := by
        rw [← hr]; congr 1; symm; exact evOp_congr rfl (hevs (tr i).heap)
      obtain ⟨cs, cs', t, mk, mk', g1, g2, g3, g4, g5⟩ := evOp_alloc (P := P) (φ := ψ) (a := a') ha hr2 hmask
      simp only [g4 w, Oper.upon]
      have hhp : (tr (i + 1)).heap = (tr i).heap ++ [cs] := by rw [he]; exact g1
      have hfresh : ψ (tr i).heap.length = none := by
        cases hq : ψ (tr i).heap.length with
        | none => rfl
        | some c =>
          rcases I.dom _ _ hq with h1 | ⟨j, h1, h3, h4⟩
          · have := T.base F (i := i) (by omega); omega
          · have hj := I.only j h1
            have hji : j ≠ i := fun e => by rw [e, hun] at h1; cases h1
            rcases Nat.lt_or_ge j i with hlt | hge
            · have := T.mono' F (i := j + 1) (j := i) (by omega) (by omega)
              omega
            · have := T.mono' F (i := i + 1) (j := j) (by omega) (by omega)
              rw [hhp] at this
              simp at this; omega
      have hle : ψ.le (ψ.with (tr i).heap.length w.heap.size) := by
        refine ⟨fun b c e => ?_, fun _ _ h => h, fun _ _ h => .inl h, rfl⟩
        simp only [Ren.with]
        rw [if_neg (fun e2 => by rw [e2, hfresh] at e; cases e)]; exact e
      have hwonly : ∀ b, Writes tr i b → b = (tr i).heap.length := by
        intro b hw
        rcases T.writer F hi hw with ⟨h1, _⟩ | ⟨_, _, _, _, _, h5⟩
        · exact h1.symm
        · rw [hhp] at h5; simp at h5
      have hb' : Below w.heap.size w (w.alloc (.cells cs' t)) := (Below.refl _ _).alloc (Nat.le_refl _) _
      refine hk _ _ _ (I.next T F hi ho hed hle (grown _ hb') ?_ ?_ ?_ ?_ ?_ ?_ (I.fok.grown hb') ?_ (v := v) ?_ (by rw [he]))
      · intro b b' c e e'
        simp only [Ren.with] at e e'
        by_cases h1 : b = (tr i).heap.length
        · rw [if_pos h1] at e; cases e
          by_cases h3 : b' = (tr i).heap.length
          · rw [h1, h3]
          · rw [if_neg h3] at e'; have := (I.rng _ _ e').2; omega
        · rw [if_neg h1] at e
          by_cases h3 : b' = (tr i).heap.length
          · rw [if_pos h3] at e'; cases e'; have := (I.rng _ _ e).2; omega
          · rw [if_neg h3] at e'; exact I.inj _ _ _ e e'
      · intro b c e
        simp only [Ren.with] at e
        by_cases h1 : b = (tr i).heap.length
        · rw [if_pos h1] at e; cases e
          exact ⟨Nat.le_trans I.base I.below.size, by simp⟩
        · rw [if_neg h1] at e; have := I.rng _ _ e; exact ⟨this.1, by simp; omega⟩
      · intro b c e
        simp only [Ren.with] at e
        by_cases h1 : b = (tr i).heap.length
        · exact .inr ⟨h1.symm, by rw [hhp, h1]; simp⟩
        · rw [if_neg h1] at e; exact .inl e
      · intro cs2 e
        exact ⟨w.heap.size, by simp [Ren.with]⟩
      · intro b c e
        by_cases h1 : b = (tr i).heap.length
        · simp only [Ren.with, if_pos h1, Option.some.injEq] at e
          subst e
          refine ⟨i + 1, cs, cs', t, by omega, by rw [hhp, h1]; simp, heap_alloc_new _ _, LRel.mono hle _ _ g2, fun j hj hw => ?_⟩
          by_cases hji : j = i
          · subst hji
            have hs : j < ops.size := Nat.lt_of_lt_of_le hi F.le
            simp [I.size, hs]
          · rw [getD_set_ne false (Ne.symm hji)]
            rw [h1] at hw
            have hnl : ¬ listed.getD j false = true := fun hl => by
              obtain ⟨c2, h2⟩ := I.wr j _ hl hw
              rw [hfresh] at h2; cases h2
            refine ⟨fun hl => absurd hl hnl, fun hlt => ?_⟩
            exfalso
            have := T.mono' F (i := j + 1) (j := i) (by omega) (by omega)
            rcases T.writer F hj hw with ⟨h2, ds, h3⟩ | ⟨_, _, _, _, h4, h5⟩
            · rw [h3] at this; simp at this; omega
            · omega
        · simp only [Ren.with, if_neg h1] at e
          exact still _ _ hb' hle b c e (fun hw => h1 (hwonly b hw))
      · intro b hw
        rw [hwonly b hw]
        exact ⟨w.heap.size, by simp [Ren.with]⟩
      · intro b c e
        simp only [Ren.with] at e
        by_cases h1 : b = (tr i).heap.length
        · rw [if_pos h1] at e; cases e; exact I.fok.fresh
        · rw [if_neg h1] at e; exact I.dis _ _ e
      · rw [g3]; exact g5 _ _ _ (by simp [Ren.with])
    · have hr2 : (evOp P ⟨tm, (tr i).heap⟩ o.op).run = some (v, h2) := by
        rw [← hr]; congr 1; symm; exact evOp_congr rfl (hevs (tr i).heap)
      have hnw : ∀ b, ¬ Writes tr i b := fun b hw => hw (by rw [he]; exact congrArg (·[b]?) hh)
      obtain ⟨_, u, g1, g2⟩ := evOp_pure (P := P) (w := w) I.fok (s := ⟨tm, (tr i).heap⟩) (a := a') (φ := ψ) hrd hr2 (fun t x hop b off hx cs hcs => by
        have hx2 : (tr i).ev x = some (.ptr (some (b, off))) := by rw [← hx]; exact hevs (tr i).heap x (by rw [hop]; simp [Op.operands])
        have hrel := ev_rel (s := ⟨tm, (tr i).heap⟩) (a := a') hmask hx
        simp only [ARel] at hrel
        obtain ⟨c, hc2, _⟩ := hrel
        obtain ⟨⟨cs2, cs', e, k1, k2, k3⟩, _⟩ := I.at T F A hi ho hun hed (b := b) (c := c) (.inl (by unfold accB; simp only [hop, hx2])) (.inr (hnw b)) (List.getElem?_eq_some_iff.1 hcs).1 hc2
        have : cs2 = cs := by have := k1.symm.trans hcs; simpa using this
        subst this
        exact ⟨c, cs', e, hc2, k2, k3⟩) hmask
      simp only [g1, Oper.upon]
      exact hk _ _ _ (same u v (by rw [he]; exact hh) (by rw [he]) w (Below.refl _ _) g2)
    · have hr2 : (evCallOp P call0 ⟨tm, (tr i).heap⟩ c).run = some (v, h2) := by
        rw [← hr]; congr 1; symm; exact evCallOp_congr rfl (fun x hx => hevs (tr i).heap x (by rw [hop]; simpa [Op.operands] using hx))
      unfold execOp
      rcases evCallOp_rel (ty := o.type) (w := w) (a := a') hmask hr2 with ⟨_, u, g1, g2⟩ | ⟨f, args, cargs, gargs, g1, g2, g3⟩
      · simp only [hop, g1, Oper.upon]
        exact hk _ _ _ (same u v (by rw [he]; exact hh) (by rw [he]) w (Below.refl _ _) g2)
      · simp only [hop, g3]
        obtain ⟨_, hcall⟩ := hc f args (tr i).heap v h2 g1
        have hnw : ∀ b, ¬ Writes tr i b := fun b hw => hw (by rw [he]; exact congrArg (·[b]?) hh)
        have hac : argsOf (tr i) c = args := by
          rw [gargs]
          exact argsOf_congr (s := tr i) (s' := ⟨tm, (tr i).heap⟩) fun x hx => hevs (tr i).heap x (by rw [hop]; simpa [Op.operands] using hx)
        rcases hcall ψ w cargs I.fok I.dis (fun b hb hlt c' hc' => (I.at T F A hi ho hun hed (b := b) (c := c') (.inr (by unfold accR; simp only [hop, hac]; exact hb)) (.inr (hnw b)) hlt hc').1) g2 with ⟨u, k1, k2, k3⟩ | ⟨k1, k2⟩
        · simp only [k1, Oper.upon]; exact hk _ _ _ (same u v (by rw [he]; exact hh) (by rw [he]) w k3 (k2 ψ))
        · simp only [k1, Oper.upon]
          exact k2.mono fun e w' h => by
            cases e with
            | returned u => exact hk _ _ _ (same u v (by rw [he]; exact hh) (by rw [he]) w' h.2 (h.1 ψ))
            | panicked c => exact h.elim
            | outgrown => exact h.elim
    · have hr2 : (evOp P ⟨tm, (tr i).heap⟩ (.store t x y)).run = some (v, h') := by
        rw [← hr, ← hop]; congr 1; symm; exact evOp_congr rfl (hevs (tr i).heap)
      obtain ⟨rfl, b, off, q, e1, e2, e3⟩ := evOp_store_shape hr2
      have hx2 : (tr i).ev x = some (.ptr (some (b, off))) := by rw [← e1]; exact hevs (tr i).heap x (by rw [hop]; simp [Op.operands])
      have hacc : accB (tr i) o = some b := by unfold accB; simp only [hop, hx2]
      have rx := ev_rel (s := ⟨tm, (tr i).heap⟩) (a := a') hmask e1
      have ry := ev_rel (s := ⟨tm, (tr i).heap⟩) (a := a') hmask e2
      simp only [ARel] at rx
      obtain ⟨c, hcb, rx⟩ := rx
      obtain ⟨cs0, ds0, s1, s2⟩ := storeA_shape e3
      have hlt := (List.getElem?_eq_some_iff.1 s1).1
      obtain ⟨⟨cs, cs', e, k1, k2, k3⟩, hord⟩ := I.at T F A hi ho hun hed (.inl hacc) (.inl (by rw [hop]; rfl)) hlt hcb
      obtain ⟨ds, ds', w', p1, p2, p3, p4, p5, p6, p7⟩ := store_loc (P := P) (h := (tr i).heap) (w := w) (φ := ψ) (c := c) k1 k2 k3 ry e3
      have hex : (execOp a'.eval o).run P w = .ok .skip w' := by
        unfold execOp
        simp only [hop]
        simp [Instr.storeAt, rx, Instr.sureAddr, p1]
      simp only [hex, Oper.upon]
      have hhp : (tr (i + 1)).heap = (tr i).heap.set b ds := by rw [he]; exact p2
      have hwonly : ∀ b', Writes tr i b' → b' = b := by
        intro b' hw
        rcases Nat.decEq b b' with h | h
        · exact absurd (by rw [hhp, List.getElem?_set_ne h]) hw
        · exact h.symm
      have hs : i < ops.size := Nat.lt_of_lt_of_le hi F.le
      refine hk _ _ _ (I.next T F hi ho hed (Ren.le_refl _) (p7 B w0 (I.rng _ _ hcb).1 I.below) I.inj (fun b' c' e' => ⟨(I.rng b' c' e').1, by rw [p6]; exact (I.rng b' c' e').2⟩) (fun _ _ e' => .inl e') ?_ ?_ ?_ ?_ I.dis (v := .undef) ARel.undef (by rw [he]))
      · intro cs2 e'
        rw [hhp] at e'
        have := congrArg List.length e'
        simp at this
      · intro b' c' e'
        by_cases hbb : b' = b
        · subst hbb
          have hcc : c' = c := by rw [hcb] at e'; simpa using e'.symm
          subst hcc
          refine ⟨i + 1, ds, ds', e, by omega, by rw [hhp, List.getElem?_set_self hlt], p3, p4, fun j hj hw => ?_⟩
          by_cases hji : j = i
          · subst hji; simp [I.size, hs]
          · rw [getD_set_ne false (Ne.symm hji), hord j hj hji hw]; omega
        · obtain ⟨k, cs2, cs2', t2, h1, h2, h3, h4, h5⟩ := I.cur b' c' e'
          have hcc : c' ≠ c := fun e2 => hbb (I.inj _ _ _ e' (by rw [e2]; exact hcb))
          refine ⟨k, cs2, cs2', t2, h1, h2, by rw [p5 c' hcc]; exact h3, h4, fun j hj hw => ?_⟩
          have hji : i ≠ j := fun e2 => hbb (hwonly b' (by rw [e2]; exact hw))
          rw [getD_set_ne false hji]; exact h5 j hj hw
      · intro b' hw
        rw [hwonly b' hw]; exact ⟨c, hcb⟩
      · intro c' cs2 e'
        obtain ⟨t2, hw2⟩ := I.fok c' cs2 e'
        refine ⟨t2, ?_⟩
        rw [p5 c' (fun e2 => by rw [e2, I.dis _ _ hcb] at e'; cases e')]; exact hw2


end
end Go.Sky

/- The evaluator against the machine: regions, code, calls. -/
set_option linter.unusedSimpArgs false
set_option linter.unusedVariables false
namespace Go.Sky
open Go.RowKit (Below)

section
variable {P : Program} {B : Nat} {w0 : World} {call0 call : CallA} {ops : Array Oper} {m : Nat} {h0 : AH} {φ : Ren} {tr : Nat → St}

/-- Behind the floating ones: one after the other. -/
theorem tail_wp (hc : CallsOk P call) (F : Fok ops m) {Q : Exit → Act → World → Prop} : ∀ {l : List Oper} {k : Nat} {listed : Array Bool} {s s' : St} {a : Act} {φ : Ren} {w : World},
    Run (evOper P call) ops l s s' → (∀ j, l[j]? = ops[k + j]?) → m ≤ k → k + l.length = ops.size → listed.size = ops.size → (∀ i, i < ops.size → (listed.getD i false = true ↔ i < k)) →
    SRel B w0 φ s a w → (∀ φ' a' w', φ.le φ' → SRel B w0 φ' s' a' w' → Q .normal a' w') → wpAny P .any ops Q l.length listed a w
  | [], k, listed, s, s', a, φ, w, h, hl, hm, hk, hs, hlis, R, hq => by
    cases h
    simp only [List.length_nil, wpAny]
    refine ⟨?_, hq φ a w (Ren.le_refl _) R⟩
    cases hr : Region.ready .any ops listed with
    | nil => rfl
    | cons i r =>
      have : i ∈ Region.ready .any ops listed := by rw [hr]; simp
      obtain ⟨h1, o, ho, _⟩ := mem_ready.1 this
      have hi := (Array.getElem?_eq_some_iff.1 ho).1
      have h2 := (hlis i hi).2 (by simp at hk; omega)
      have hi2 : i < listed.size := by omega
      simp [hi2] at h1 h2
      rw [h2] at h1; cases h1
  | o :: l, k, listed, s, s', a, φ, w, h, hl, hm, hk, hs, hlis, R, hq => by
    cases h
    rename_i s1 h1 h2
    have ho : ops[k]? = some o := by simpa using (hl 0).symm
    have hks : k < ops.size := (Array.getElem?_eq_some_iff.1 ho).1
    simp only [List.length_cons] at hk ⊢
    simp only [wpAny]
    have hready : ∀ i, i ∈ Region.ready .any ops listed → i = k := by
      intro i hi
      obtain ⟨g1, o', ho', g2⟩ := mem_ready.1 hi
      have his := (Array.getElem?_eq_some_iff.1 ho').1
      have hnot : ¬ i < k := fun e => by
        have := (hlis i his).2 e
        have hi2 : i < listed.size := by omega
        simp [hi2] at g1 this
        rw [this] at g1; cases g1
      rcases Nat.lt_or_ge k i with hlt | hge
      · have hcl : Closed ops listed := by
          intro j oj hj hoj e he hb
          have hjs := (Array.getElem?_eq_some_iff.1 hoj).1
          have := F.back j oj hoj e he hb
          have hjk := (hlis j hjs).1 hj
          exact (hlis e.on (by omega)).2 (by omega)
        have := closed_mask F hcl i o' k ho' (fun e he hb => g2 e (by simpa using he) hb) (F.tail i k his (by omega) hlt)
        exact absurd ((hlis k hks).1 this) (by omega)
      · omega
    constructor
    · intro hnil
      exfalso
      have : k ∈ Region.ready .any ops listed := by
        rw [mem_ready]
        refine ⟨?_, o, ho, fun e he hb => ?_⟩
        · have hi2 : k < listed.size := by omega
          cases hv : listed.getD k true with
          | false => rfl
          | true =>
            have : listed.getD k false = true := by simpa [hi2] using hv
            exact absurd ((hlis k hks).1 this) (by omega)
        · have := F.back k o ho e (by simpa using he) hb
          exact (hlis e.on (by omega)).2 (by omega)
      rw [hnil] at this; cases this
    · intro i hi
      rw [hready i hi]
      unfold wpOp
      simp only [ho]
      exact step_wp hc h1 R fun φ' a' w' hle R' => tail_wp (k := k + 1) hc F h2 (fun j => by have := hl (j + 1); simpa [Nat.add_assoc, Nat.add_comm 1 j] using this) (by omega) (by omega) (by simpa using hs)
        (fun i' hi' => by
          by_cases e : k = i'
          · subst e; simp [hs, hks]
          · rw [getD_set_ne false e, hlis i' hi']; omega) R'
        (fun φ'' a'' w'' hle' R'' => hq φ'' a'' w'' (Ren.le_trans hle hle') R'')

/-- A block that is there was there, or has been laid. -/
theorem laid_by (T : Trace P call0 ops m h0 tr) (F : Fok ops m) : ∀ k, k ≤ m → ∀ b, b < (tr k).heap.length → b < h0.length ∨ ∃ i, i < k ∧ (tr i).heap.length = b ∧ ∃ cs, (tr (i + 1)).heap = (tr i).heap ++ [cs] := by
  intro k
  induction k with
  | zero => intro _ b h; rw [T.start] at h; exact .inl h
  | succ k ih =>
    intro hk b h
    have keep : b < (tr k).heap.length → b < h0.length ∨ ∃ i, i < k + 1 ∧ (tr i).heap.length = b ∧ ∃ cs, (tr (i + 1)).heap = (tr i).heap ++ [cs] := by
      intro hb
      rcases ih (by omega) b hb with h2 | ⟨i, h2, h3⟩
      · exact .inl h2
      · exact .inr ⟨i, by omega, h3⟩
    rcases T.heap F (i := k) (by omega) with h1 | ⟨ds, h1⟩ | ⟨_, _, _, _, _, _, _, _, h1⟩
    · rw [h1] at h; exact keep h
    · by_cases hb : b < (tr k).heap.length
      · exact keep hb
      · rw [h1] at h
        simp at h
        exact .inr ⟨k, by omega, by omega, ds, h1⟩
    · rw [h1] at h; simp at h; exact keep h

/-- All that float have come up: memory and slots are the text's. -/
theorem InvAt.done (T : Trace P call0 ops m h0 tr) (F : Fok ops m) {listed : Array Bool} {a : Act} {w : World} {ψ : Ren} (I : InvAt B w0 φ h0 ops m tr listed a w ψ)
    (hall : ∀ i, i < m → listed.getD i false = true) : SRel B w0 ψ (tr m) a w := by
  refine ⟨⟨?_, I.inj, ?_, fun b c e => (I.rng b c e).1, I.below, I.base, I.fok, I.dis, I.bas⟩, ?_, I.defers⟩
  · intro b cs h
    have hb := (List.getElem?_eq_some_iff.1 h).1
    have hc : ∃ c, ψ b = some c := by
      rcases laid_by T F m (Nat.le_refl _) b hb with h1 | ⟨i, h1, h2, cs2, h3⟩
      · exact I.all b h1
      · rw [← h2]; exact I.laid i cs2 (hall i h1) h3
    obtain ⟨c, hc⟩ := hc
    obtain ⟨k, cs2, cs', e, hk, h1, h2, h3, h4⟩ := I.cur b c hc
    have hsame := same_between (tr := tr) (b := b) (k := k) (i := m) (fun j g1 g2 hw => by have := (h4 j g2 hw).1 (hall j g2); omega) hk
    have : cs2 = cs := by rw [h, h1] at hsame; simpa using hsame.symm
    subst this
    exact ⟨c, cs', e, hc, h2, h3⟩
  · intro b c e
    rcases I.dom b c e with h1 | ⟨i, h1, h2, h3⟩
    · have := T.base F (i := m) (Nat.le_refl _); omega
    · have hi := I.only i h1
      have := T.mono' F (i := i + 1) (j := m) (by omega) (Nat.le_refl _)
      omega
  · have hlen := T.len F (i := m) (Nat.le_refl _)
    have hl := I.len
    have key : ∀ t : Tmp, ARel ψ ((tr m).tmps.getD t .undef) (a.tmps.getD t Go.undef) := by
      intro t
      by_cases hw : ∃ j oj, j < m ∧ ops[j]? = some oj ∧ oj.dst = some t
      · obtain ⟨j, oj, hj, hoj, hd⟩ := hw
        exact I.new j oj t (hall j hj) hoj hd
      · have hkeep := T.keeps F (t := t) (i := 0) m (by omega) (fun k ok h1 h2 h3 e => hw ⟨k, ok, by omega, h3, e⟩)
        rw [Nat.zero_add] at hkeep
        rw [hkeep]
        exact I.old t fun j oj hj hoj e => hw ⟨j, oj, I.only j hj, hoj, e⟩
    have hsize : (tr m).tmps.length = a.tmps.toList.length := by simp; omega
    clear hlen hl
    generalize (tr m).tmps = l at key hsize
    have key2 : ∀ t : Nat, ARel ψ (l.getD t .undef) (a.tmps.toList.getD t Go.undef) := by
      intro t
      have := key t
      rw [Array.getD_eq_getD_getElem?] at this
      rw [List.getD_eq_getElem?_getD (l := a.tmps.toList), Array.getElem?_toList]
      exact this
    generalize a.tmps.toList = l' at key2 hsize
    clear key
    induction l generalizing l' with
    | nil => cases l' with
      | nil => simp [LRel]
      | cons _ _ => simp at hsize
    | cons x xs ih => cases l' with
      | nil => simp at hsize
      | cons y ys =>
        simp only [LRel]
        exact ⟨y, ys, rfl, by simpa using key2 0, ih ys (fun t => by simpa using key2 (t + 1)) (by simpa using hsize)⟩

theorem count_set {listed : Array Bool} {i : Nat} (hi : i < listed.size) (h : listed.getD i true = false) : (listed.setIfInBounds i true).toList.count false + 1 = listed.toList.count false := by
  rw [Array.toList_setIfInBounds]
  have h2 : listed.toList[i]? = some false := by
    rw [Array.getElem?_toList]; simp [hi] at h ⊢; exact h
  generalize listed.toList = l at h2
  clear h hi
  induction l generalizing i with
  | nil => simp at h2
  | cons x xs ih =>
    cases i with
    | zero => simp at h2; subst h2; simp
    | succ i => simp at h2; simp only [List.set_cons_succ, List.count_cons]; have := ih h2; omega

theorem count_first {n k : Nat} : ∀ {l : List Bool}, l.length = n → (∀ i, i < n → (l[i]? = some true ↔ i < k)) → k ≤ n → l.count false = n - k := by
  intro l
  induction l generalizing n k with
  | nil => intro h _ hk; simp at h; subst h; simp
  | cons x xs ih =>
    intro h hi hk
    simp at h
    cases n with
    | zero => omega
    | succ n =>
      have h0 := hi 0 (by omega)
      simp at h0
      cases k with
      | zero =>
        have hx : x = false := by cases x <;> simp_all
        subst hx
        have := ih (n := n) (k := 0) (by omega) (fun i hn => by have := hi (i + 1) (by omega); simpa using this) (by omega)
        simp [this]
      | succ k =>
        have hx : x = true := by simp at h0; exact h0
        subst hx
        have := ih (n := n) (k := k) (by omega) (fun i hn => by have := hi (i + 1) (by omega); simpa using this) (by omega)
        simp [this]

theorem floats_wp (T : Trace P call0 ops m h0 tr) (F : Fok ops m) (A : Aok ops m tr) (hc0 : CallsPure P call0) (hc : CallsOk P call) {Q : Exit → Act → World → Prop} {s' : St}
    (hrun : Run (evOper P call) ops (ops.toList.drop m) (tr m) s') (hq : ∀ φ' a' w', φ.le φ' → SRel B w0 φ' s' a' w' → Q .normal a' w') :
    ∀ (fuel : Nat) (listed : Array Bool) (a : Act) (w : World) (ψ : Ren), listed.toList.count false = fuel → InvAt B w0 φ h0 ops m tr listed a w ψ → wpAny P .any ops Q fuel listed a w := by
  intro fuel
  induction fuel with
  | zero =>
    intro listed a w ψ hf I
    have hall : ∀ i, i < ops.size → listed.getD i false = true := by
      intro i hi
      have hi2 : i < listed.size := by rw [I.size]; exact hi
      cases hv : listed[i] with
      | true => simp [hi2, hv]
      | false =>
        exfalso
        have : false ∈ listed.toList := by rw [← hv]; exact Array.getElem_mem_toList hi2
        have := List.count_pos_iff.2 this
        omega
    have hm : m = ops.size := by
      have := F.le
      rcases Nat.lt_or_ge m ops.size with h | h
      · have := I.only m (hall m h); omega
      · omega
    have R := I.done T F (fun i hi => hall i (by omega))
    have hd : ops.toList.drop m = [] := by rw [hm]; simp
    rw [hd] at hrun
    have := tail_wp (k := m) (listed := listed) hc F hrun (fun j => by simp; omega) (Nat.le_refl _) (by simp; omega) I.size (fun i hi => by simp [hall i hi]; omega) R
      (fun φ' a' w' hle R' => hq φ' a' w' (Ren.le_trans I.le hle) R')
    simpa using this
  | succ fuel ih =>
    intro listed a w ψ hf I
    by_cases hall : ∀ i, i < m → listed.getD i false = true
    · have R := I.done T F hall
      have hlis : ∀ i, i < ops.size → (listed.getD i false = true ↔ i < m) := fun i hi => ⟨fun h => I.only i h, hall i⟩
      have hcount : listed.toList.count false = ops.size - m := by
        refine count_first (by simpa using I.size) (fun i hi => ?_) F.le
        rw [← hlis i hi, Array.getElem?_toList]
        have hi2 : i < listed.size := by rw [I.size]; exact hi
        simp [hi2]
      have := tail_wp (k := m) (listed := listed) hc F hrun (fun j => by simp) (Nat.le_refl _) (by simp; have := F.le; omega) I.size hlis R
        (fun φ' a' w' hle R' => hq φ' a' w' (Ren.le_trans I.le hle) R')
      rw [List.length_drop, Array.length_toList, ← hcount, hf] at this
      exact this
    · simp only [wpAny]
      constructor
      · intro hnil
        exfalso
        apply hall
        intro i
        induction i using Nat.strongRecOn with
        | _ i ihi =>
          intro him
          have his : i < ops.size := Nat.lt_of_lt_of_le him F.le
          have hi2 : i < listed.size := by rw [I.size]; exact his
          cases hv : listed.getD i false with
          | true => rfl
          | false =>
            have : i ∈ Region.ready .any ops listed := by
              rw [mem_ready]
              refine ⟨by simpa [hi2] using hv, ops[i], Array.getElem?_eq_getElem his, fun e he hb => ?_⟩
              have hlt := F.back i _ (Array.getElem?_eq_getElem his) e (by simpa using he) hb
              exact ihi e.on hlt (by omega)
            rw [hnil] at this; cases this
      · intro i hi
        obtain ⟨g1, o, ho, g2⟩ := mem_ready.1 hi
        have his := (Array.getElem?_eq_some_iff.1 ho).1
        have hi2 : i < listed.size := by rw [I.size]; exact his
        have him : i < m := by
          rcases Nat.lt_or_ge i m with h | h
          · exact h
          · exfalso
            apply hall
            intro j hj
            exact closed_mask F I.closed i o j ho (fun e he hb => g2 e (by simpa using he) hb) (F.tail i j his h (by omega))
        refine I.step T F A hc0 him ho (by simpa [hi2] using g1) (fun e he hb => g2 e (by simpa using he) hb) fun a' w' ψ' I' => ih _ a' w' ψ' ?_ I'
        have := count_set hi2 g1
        omega

end

theorem run_append {exec : St → Oper → Ans} {ops : Array Oper} {l : List Oper} {s s' : St} (h : Run exec ops l s s') : True := trivial

/-- A region that draws. -/
theorem region_draw_wp {P : Program} {B : Nat} {w0 : World} {call0 call : CallA} (hm : P.follows .mixedOrders = true) (hc0 : CallsPure P call0) (hc : CallsOk P call) {ops : Array Oper} {m id : Nat} (F : Fok ops m)
    {s s1 s' : St} {φ : Ren} {a : Act} {w : World} {Q : Exit → Act → World → Prop} (h1 : Run (execF P call0) ops (ops.toList.take m) s s1) (ha : accOk ops m s1 = true) (h2 : Run (evOper P call) ops (ops.toList.drop m) s1 s')
    (R : SRel B w0 φ s a w) (hq : ∀ φ' a' w', φ.le φ' → SRel B w0 φ' s' a' w' → Q .normal a' w') : (Code.region id ops true).wp P Q a w := by
  refine wp_region_any hm ?_
  obtain ⟨tr, g1, g2, g3⟩ := run_trace h1
  have hl : (ops.toList.take m).length = m := by simp [Nat.min_eq_left F.le]
  rw [hl] at g2
  have T : Trace P call0 ops m s.heap tr := ⟨by rw [g1], fun i o hi ho => g3 i o (by rw [List.getElem?_take, if_pos hi]; simpa using ho)⟩
  have hnone : ∀ i, (Array.replicate ops.size false).getD i false = false := by
    intro i
    by_cases hi : i < ops.size <;> simp [hi]
  have hno : ∀ (i : Nat), ¬ (Array.replicate ops.size false).getD i false = true := by intro i e; rw [hnone i] at e; cases e
  refine floats_wp (B := B) (w0 := w0) (φ := φ) (s' := s') T F (aok_of ha g2) hc0 hc (by rw [g2]; exact h2) hq ops.size _ a _ φ (by simp) ?_
  have H := R.heap.drew
  refine ⟨by simp, fun i o hi => absurd hi (hno i), fun i hi => absurd hi (hno i), Ren.le_refl _, H.below, H.base, H.inj, fun b c e => ⟨H.rng b c e, H.lt e⟩, fun b c e => .inl (H.dom b c e),
    fun b hb => by obtain ⟨c, _, _, h3, _⟩ := H.cells b _ (List.getElem?_eq_getElem hb); exact ⟨c, h3⟩, fun i cs hi => absurd hi (hno i), fun b c e => ?_, fun j b hj => absurd hj (hno j), fun t _ => ?_, fun i o t hi => absurd hi (hno i), ?_, R.defers, H.fok, H.dis, H.bas⟩
  · have hb := H.dom b c e
    obtain ⟨c2, cs', t, h3, h4, h5⟩ := H.cells b _ (List.getElem?_eq_getElem hb)
    rw [e] at h3; cases h3
    exact ⟨0, _, cs', t, by omega, by rw [g1]; exact List.getElem?_eq_getElem hb, h4, h5, fun j _ _ => ⟨fun h => absurd h (hno j), fun h => by omega⟩⟩
  · rw [g1]; exact LRel.getD t R.tmps
  · rw [g1]; have := LRel.length R.tmps; simpa using this.symm

end Go.Sky
