/- The abstract machine: a deterministic big-step semantics of the given code over a heap of rows, without a tape; definitions. -/
import Derived.RangeFuncLeaves
import Derived.OrdersIn
import Derived.LoopNIn
import Derived.Laws.MakeOwn
import Derived.Below
import Derived.Laws.AppendOwn
import Derived.KernelRfl
set_option linter.unusedVariables false
namespace Go.Ab
open Go

/-- A mark by which simp leaves an argument alone: another argument's type hangs on it. -/
inductive Tag.{u} {α : Sort u} (a : α) : Type where
  | mk

/-! ### Frames -/
abbrev Env := Nat → Value
def put (e : Env) (d : Option Tmp) (v : Value) : Env :=
  match d with
  | none => e
  | some t => fun k => if k = t then v else e k
def ev (e : Env) : Operand → Value
  | .tmp t => e t
  | .const v => v
  | .global g => .pointer (some ⟨g, 0, none⟩)
  | .func f => .func (.func f) #[] #[]
def env0 (args : List Value) : Env := fun k => args.getD k undef

/-! ### The heap -/
structure LoopRec where
  env : Env
  params : Array Tmp
  assign : Code
  body : Code
  state : LoopState
  pending : Option Code

inductive AObj where
  | row (c : List Value)
  | grown (c : List Value) (z : Nat)
  | iter (s : ByteArray) (pos : Nat)
  | loop (r : LoopRec)
  | map (es : List (Value × Value))
  | gone

def AObj.cells? : AObj → Option (List Value)
  | .row c => some c
  | .grown c _ => some c
  | _ => none
def AObj.withCells : AObj → List Value → AObj
  | .grown _ z, c => .grown c z
  | _, c => .row c

structure St where
  heap : Nat → AObj
  next : Nat

def St.alloc (s : St) (o : AObj) : St := ⟨fun b => if b = s.next then o else s.heap b, s.next + 1⟩
def St.upd (s : St) (b : Nat) (o : AObj) : St := ⟨fun k => if k = b then o else s.heap k, s.next⟩

/-- Nothing that was there has changed; there may be more. -/
structure Mild (s s' : St) : Prop where
  next : s.next ≤ s'.next
  heap : ∀ b, b < s.next → s'.heap b = s.heap b

def getL (c : List Value) (off n : Nat) : Option (List Value) := if off + n ≤ c.length then some ((c.drop off).take n) else none
def setL : List Value → Nat → List Value → List Value
  | c, _, [] => c
  | c, off, v :: vs => setL (c.set off v) (off + 1) vs

/-- What an old cell may hold, if it is to be read: an address in it is an old one. -/
def oldA (base : Nat) : Option Addr → Bool
  | none => true
  | some a => decide (a.block < base)
def oldOk (base : Nat) : Value → Bool
  | .bool _ => true
  | .int _ _ => true
  | .float _ _ => true
  | .complex _ _ _ => true
  | .string _ => true
  | .nilFunc => true
  | .nilIface => true
  | .pointer a => oldA base a
  | .slice a _ _ => oldA base a
  | .map r => r.isNone
  | .chan r => r.isNone
  | .func _ _ _ => false
  | .iface _ _ => false
  | .agg _ => false
  | .tuple _ => false

def isTup : Value → Bool
  | .tuple _ => true
  | _ => false
def oneB : Value → Bool
  | .tuple _ => false
  | .agg _ => false
  | _ => true

/-- A cell. -/
def ld1 (base : Nat) (s : St) (a : Addr) : Option Value :=
  match (s.heap a.block).cells? with
  | some c => if a.spot = none then (match c[a.off]? with
    | some v => if base ≤ a.block ∨ oldOk base v = true then some v else none
    | none => none) else none
  | none => none
/-- Several cells. -/
def ldN (base : Nat) (s : St) (a : Addr) (n : Nat) : Option (List Value) :=
  if n = 0 then some [] else
  match (s.heap a.block).cells? with
  | some c => if a.spot = none then (match getL c a.off n with
    | some l => if base ≤ a.block ∨ l.all (oldOk base) = true then some l else none
    | none => none) else none
  | none => none
/-- Several cells are written. -/
def stN (base : Nat) (s : St) (a : Addr) (vs : List Value) : Option St :=
  if vs = [] then some s else
  match (s.heap a.block).cells? with
  | some c => if a.spot = none ∧ base ≤ a.block ∧ a.off + vs.length ≤ c.length then some (s.upd a.block ((s.heap a.block).withCells (setL c a.off vs))) else none
  | none => none

/-! ### Types -/
section types
variable (P : Program)
def aggT (t : TypeId) : Option Bool := match P.underlying t with | some (.struct _) | some (.array _ _) => some true | some _ => some false | none => none
def sizT (t : TypeId) : Option Nat := (P.info? t).map (·.size)
def bytT (t : TypeId) : Option Nat := (P.info? t).map (·.bytes)
def zerT (t : TypeId) : Option (List Value) :=
  match P.info? t with
  | some i => (match i.zero with
    | some z => if z.cells.toList.all (oldOk 0) = true ∧ isTup z = false then some z.cells.toList else none
    | none => none)
  | none => none
def elemT (t : TypeId) : Option TypeId := match P.underlying t with | some (.slice e) => some e | _ => none
def arrT (t : TypeId) : Option (Nat × TypeId) := match P.underlying t with | some (.array n e) => some (n, e) | _ => none
def fldT (t : TypeId) (f : Nat) : Option (Nat × TypeId) :=
  match P.underlying t with
  | some (.struct fs) => (fs[f]?).map fun f => (f.offset, f.type)
  | _ => none
def intT (t : TypeId) : Option IntKind := match P.underlying t with | some (.int k) => some k | _ => none
def strT (t : TypeId) : Bool := match P.underlying t with | some .string => true | _ => false
def ifaceT (t : TypeId) : Bool := match P.underlying t with | some (.interface _) => true | _ => false
end types

def partV (P : Program) (t : TypeId) (cs : Array Value) (off : Nat) : Option Value :=
  match aggT P t with
  | some true => (match sizT P t with | some n => some (.agg (cs.extract off (off + n))) | none => none)
  | some false => cs[off]?
  | none => none

def ldVar (P : Program) (base : Nat) (s : St) (t : TypeId) (a : Addr) : Option Value :=
  match aggT P t with
  | some true => (match sizT P t with
    | some n => (match ldN base s a n with | some l => some (.agg l.toArray) | none => none)
    | none => none)
  | some false => ld1 base s a
  | none => none
def stVar (P : Program) (base : Nat) (s : St) (t : TypeId) (a : Addr) (v : Value) : Option St :=
  if isTup v = false ∧ sizT P t = some v.cells.size then stN base s a v.cells.toList else none

/-! ### Numbers, and what is quiet -/
def bitV (op : BinOp) (k : IntKind) (x y : Int) : Option Int :=
  match op with
  | .and => some (k.wrap ((x % 2 ^ k.bits).toNat &&& (y % 2 ^ k.bits).toNat : Nat))
  | .or => some (k.wrap ((x % 2 ^ k.bits).toNat ||| (y % 2 ^ k.bits).toNat : Nat))
  | .xor => some (k.wrap ((x % 2 ^ k.bits).toNat ^^^ (y % 2 ^ k.bits).toNat : Nat))
  | .andNot => some (k.wrap ((x % 2 ^ k.bits).toNat &&& (2 ^ k.bits - 1 - (y % 2 ^ k.bits).toNat) : Nat))
  | _ => none
def intV (op : BinOp) (k : IntKind) (x : Int) (k' : IntKind) (y : Int) : Option Value :=
  match op with
  | .shl => if 0 ≤ y then some (.int k (k.wrap (x * 2 ^ (min y.toNat k.bits)))) else none
  | .shr => if 0 ≤ y then some (.int k (x.fdiv (2 ^ (min y.toNat k.bits)))) else none
  | .add => if k = k' then some (.int k (k.wrap (x + y))) else none
  | .sub => if k = k' then some (.int k (k.wrap (x - y))) else none
  | .mul => if k = k' then some (.int k (k.wrap (x * y))) else none
  | .quo => if k = k' ∧ y ≠ 0 then some (.int k (k.wrap (x.tdiv y))) else none
  | .rem => if k = k' ∧ y ≠ 0 then some (.int k (x.tmod y)) else none
  | .eql => if k = k' then some (.bool (decide (x = y))) else none
  | .neq => if k = k' then some (.bool (decide (x ≠ y))) else none
  | .lss => if k = k' then some (.bool (decide (x < y))) else none
  | .leq => if k = k' then some (.bool (decide (x ≤ y))) else none
  | .gtr => if k = k' then some (.bool (decide (y < x))) else none
  | .geq => if k = k' then some (.bool (decide (y ≤ x))) else none
  | op => if k = k' then (bitV op k x y).map (.int k) else none
def strV (op : BinOp) (x y : ByteArray) : Option Value :=
  match op with
  | .add => if ((x.size + y.size : Nat) : Int) ≤ IntKind.i64.max then some (.string (x ++ y)) else none
  | .eql => some (.bool (x.toList == y.toList))
  | .neq => some (.bool (!(x.toList == y.toList)))
  | .lss => some (.bool (Op.bytesLess x.toList y.toList))
  | _ => none

/-- Kinds of the cells of a value that can be compared cell by cell. -/
inductive Kd where
  | bool
  | int (k : IntKind)
  | str
  deriving DecidableEq
def Kd.fits : Kd → Value → Bool
  | .bool, .bool _ => true
  | .int k, .int k' _ => decide (k = k')
  | .str, .string _ => true
  | _, _ => false
def kdFs (P : Program) (rec : TypeId → Option (List Kd)) : List Field → Nat → Option (List Kd)
  | [], _ => some []
  | f :: fs, off => if f.name = "_" ∨ f.offset ≠ off then none else
    match rec f.type with
    | some l => if sizT P f.type = some l.length then (match kdFs P rec fs (off + l.length) with
      | some r => some (l ++ r)
      | none => none) else none
    | none => none
def kdT (P : Program) : Nat → TypeId → Option (List Kd)
  | 0, _ => none
  | d + 1, t =>
    match P.underlying t with
    | some .bool => some [.bool]
    | some (.int k) => some [.int k]
    | some .string => some [.str]
    | some (.struct fs) => if P.stoodInHeld t = true then none else kdFs P (kdT P d) fs.toList 0
    | some (.array n e) => (match kdT P d e with
      | some l => if sizT P e = some l.length then some (List.replicate n l).flatten else none
      | none => none)
    | _ => none
def eqCell : Value → Value → Bool
  | .bool a, .bool b => a == b
  | .int _ a, .int _ b => decide (a = b)
  | .string a, .string b => a.toList == b.toList
  | _, _ => false
def fitsAll : List Kd → List Value → Bool
  | [], [] => true
  | k :: ks, v :: vs => k.fits v && fitsAll ks vs
  | _, _ => false
def eqCells : List Value → List Value → Bool
  | x :: xs, y :: ys => eqCell x y && eqCells xs ys
  | _, _ => true

end Go.Ab
