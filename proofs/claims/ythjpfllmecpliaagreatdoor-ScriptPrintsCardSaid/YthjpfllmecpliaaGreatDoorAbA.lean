/- The abstract machine (texts 1 to 13 of wip/ab, one behind the other). -/
import Derived.RangeFuncLeaves
import Derived.OrdersIn
import Derived.LoopNIn
import Derived.Laws.MakeOwn
import Derived.Below
import Derived.Laws.AppendOwn
import Derived.KernelRfl
import Derived.Laws.CopyRow
import Derived.Laws.Cells
import Derived.Laws.StructEq
import Derived.Laws.Append
import Derived.Laws.Build
/- The abstract machine: a deterministic big-step semantics of the given code over a heap of rows, without a tape; definitions. -/
set_option linter.unusedVariables false
namespace Go.Ab
open Go

/-- A mark by which simp leaves an argument alone: another argument's type hangs on it. -/
inductive Tag.{u} {α : Sort u} (a : α) : Type where
  | mk

/-! ### Frames -/
abbrev Env := Nat → Value
def put (e : Env) (d : Option Tmp) (v : Value) : Env :=
  match d with
  | none => e
  | some t => fun k => if k = t then v else e k
def ev (e : Env) : Operand → Value
  | .tmp t => e t
  | .const v => v
  | .global g => .pointer (some ⟨g, 0, none⟩)
  | .func f => .func (.func f) #[] #[]
def env0 (args : List Value) : Env := fun k => args.getD k undef

/-! ### The heap -/
structure LoopRec where
  env : Env
  params : Array Tmp
  assign : Code
  body : Code
  state : LoopState
  pending : Option Code

inductive AObj where
  | row (c : List Value)
  | grown (c : List Value) (z : Nat)
  | iter (s : ByteArray) (pos : Nat)
  | loop (r : LoopRec)
  | map (es : List (Value × Value))
  | gone

def AObj.cells? : AObj → Option (List Value)
  | .row c => some c
  | .grown c _ => some c
  | _ => none
def AObj.withCells : AObj → List Value → AObj
  | .grown _ z, c => .grown c z
  | _, c => .row c

structure St where
  heap : Nat → AObj
  next : Nat

def St.alloc (s : St) (o : AObj) : St := ⟨fun b => if b = s.next then o else s.heap b, s.next + 1⟩
def St.upd (s : St) (b : Nat) (o : AObj) : St := ⟨fun k => if k = b then o else s.heap k, s.next⟩

/-- Nothing that was there has changed; there may be more. -/
structure Mild (s s' : St) : Prop where
  next : s.next ≤ s'.next
  heap : ∀ b, b < s.next → s'.heap b = s.heap b

def getL (c : List Value) (off n : Nat) : Option (List Value) := if off + n ≤ c.length then some ((c.drop off).take n) else none
def setL : List Value → Nat → List Value → List Value
  | c, _, [] => c
  | c, off, v :: vs => setL (c.set off v) (off + 1) vs

/-- What an old cell may hold, if it is to be read: an address in it is an old one. -/
def oldA (base : Nat) : Option Addr → Bool
  | none => true
  | some a => decide (a.block < base)
def oldOk (base : Nat) : Value → Bool
  | .bool _ => true
  | .int _ _ => true
  | .float _ _ => true
  | .complex _ _ _ => true
  | .string _ => true
  | .nilFunc => true
  | .nilIface => true
  | .pointer a => oldA base a
  | .slice a _ _ => oldA base a
  | .map r => r.isNone
  | .chan r => r.isNone
  | .func _ _ _ => false
  | .iface _ _ => false
  | .agg _ => false
  | .tuple _ => false

def isTup : Value → Bool
  | .tuple _ => true
  | _ => false
def oneB : Value → Bool
  | .tuple _ => false
  | .agg _ => false
  | _ => true

/-- A cell. -/
def ld1 (base : Nat) (s : St) (a : Addr) : Option Value :=
  match (s.heap a.block).cells? with
  | some c => if a.spot = none then (match c[a.off]? with
    | some v => if base ≤ a.block ∨ oldOk base v = true then some v else none
    | none => none) else none
  | none => none
/-- Several cells. -/
def ldN (base : Nat) (s : St) (a : Addr) (n : Nat) : Option (List Value) :=
  if n = 0 then some [] else
  match (s.heap a.block).cells? with
  | some c => if a.spot = none then (match getL c a.off n with
    | some l => if base ≤ a.block ∨ l.all (oldOk base) = true then some l else none
    | none => none) else none
  | none => none
/-- Several cells are written. -/
def stN (base : Nat) (s : St) (a : Addr) (vs : List Value) : Option St :=
  if vs = [] then some s else
  match (s.heap a.block).cells? with
  | some c => if a.spot = none ∧ base ≤ a.block ∧ a.off + vs.length ≤ c.length then some (s.upd a.block ((s.heap a.block).withCells (setL c a.off vs))) else none
  | none => none

/-! ### Types -/
section types
variable (P : Program)
def aggT (t : TypeId) : Option Bool := match P.underlying t with | some (.struct _) | some (.array _ _) => some true | some _ => some false | none => none
def sizT (t : TypeId) : Option Nat := (P.info? t).map (·.size)
def bytT (t : TypeId) : Option Nat := (P.info? t).map (·.bytes)
def zerT (t : TypeId) : Option (List Value) :=
  match P.info? t with
  | some i => (match i.zero with
    | some z => if z.cells.toList.all (oldOk 0) = true ∧ isTup z = false then some z.cells.toList else none
    | none => none)
  | none => none
def elemT (t : TypeId) : Option TypeId := match P.underlying t with | some (.slice e) => some e | _ => none
def arrT (t : TypeId) : Option (Nat × TypeId) := match P.underlying t with | some (.array n e) => some (n, e) | _ => none
def fldT (t : TypeId) (f : Nat) : Option (Nat × TypeId) :=
  match P.underlying t with
  | some (.struct fs) => (fs[f]?).map fun f => (f.offset, f.type)
  | _ => none
def intT (t : TypeId) : Option IntKind := match P.underlying t with | some (.int k) => some k | _ => none
def strT (t : TypeId) : Bool := match P.underlying t with | some .string => true | _ => false
def ifaceT (t : TypeId) : Bool := match P.underlying t with | some (.interface _) => true | _ => false
end types

def partV (P : Program) (t : TypeId) (cs : Array Value) (off : Nat) : Option Value :=
  match aggT P t with
  | some true => (match sizT P t with | some n => some (.agg (cs.extract off (off + n))) | none => none)
  | some false => cs[off]?
  | none => none

def ldVar (P : Program) (base : Nat) (s : St) (t : TypeId) (a : Addr) : Option Value :=
  match aggT P t with
  | some true => (match sizT P t with
    | some n => (match ldN base s a n with | some l => some (.agg l.toArray) | none => none)
    | none => none)
  | some false => ld1 base s a
  | none => none
def stVar (P : Program) (base : Nat) (s : St) (t : TypeId) (a : Addr) (v : Value) : Option St :=
  if isTup v = false ∧ sizT P t = some v.cells.size then stN base s a v.cells.toList else none

/-! ### Numbers, and what is quiet -/
def bitV (op : BinOp) (k : IntKind) (x y : Int) : Option Int :=
  match op with
  | .and => some (k.wrap ((x % 2 ^ k.bits).toNat &&& (y % 2 ^ k.bits).toNat : Nat))
  | .or => some (k.wrap ((x % 2 ^ k.bits).toNat ||| (y % 2 ^ k.bits).toNat : Nat))
  | .xor => some (k.wrap ((x % 2 ^ k.bits).toNat ^^^ (y % 2 ^ k.bits).toNat : Nat))
  | .andNot => some (k.wrap ((x % 2 ^ k.bits).toNat &&& (2 ^ k.bits - 1 - (y % 2 ^ k.bits).toNat) : Nat))
  | _ => none
def intV (op : BinOp) (k : IntKind) (x : Int) (k' : IntKind) (y : Int) : Option Value :=
  match op with
  | .shl => if 0 ≤ y then some (.int k (k.wrap (x * 2 ^ (min y.toNat k.bits)))) else none
  | .shr => if 0 ≤ y then some (.int k (x.fdiv (2 ^ (min y.toNat k.bits)))) else none
  | .add => if k = k' then some (.int k (k.wrap (x + y))) else none
  | .sub => if k = k' then some (.int k (k.wrap (x - y))) else none
  | .mul => if k = k' then some (.int k (k.wrap (x * y))) else none
  | .quo => if k = k' ∧ y ≠ 0 then some (.int k (k.wrap (x.tdiv y))) else none
  | .rem => if k = k' ∧ y ≠ 0 then some (.int k (x.tmod y)) else none
  | .eql => if k = k' then some (.bool (decide (x = y))) else none
  | .neq => if k = k' then some (.bool (decide (x ≠ y))) else none
  | .lss => if k = k' then some (.bool (decide (x < y))) else none
  | .leq => if k = k' then some (.bool (decide (x ≤ y))) else none
  | .gtr => if k = k' then some (.bool (decide (y < x))) else none
  | .geq => if k = k' then some (.bool (decide (y ≤ x))) else none
  | op => if k = k' then (bitV op k x y).map (.int k) else none
def strV (op : BinOp) (x y : ByteArray) : Option Value :=
  match op with
  | .add => if ((x.size + y.size : Nat) : Int) ≤ IntKind.i64.max then some (.string (x ++ y)) else none
  | .eql => some (.bool (x.toList == y.toList))
  | .neq => some (.bool (!(x.toList == y.toList)))
  | .lss => some (.bool (Op.bytesLess x.toList y.toList))
  | _ => none

/-- Kinds of the cells of a value that can be compared cell by cell. -/
inductive Kd where
  | bool
  | int (k : IntKind)
  | str
  deriving DecidableEq
def Kd.fits : Kd → Value → Bool
  | .bool, .bool _ => true
  | .int k, .int k' _ => decide (k = k')
  | .str, .string _ => true
  | _, _ => false
def kdFs (P : Program) (rec : TypeId → Option (List Kd)) : List Field → Nat → Option (List Kd)
  | [], _ => some []
  | f :: fs, off => if f.name = "_" ∨ f.offset ≠ off then none else
    match rec f.type with
    | some l => if sizT P f.type = some l.length then (match kdFs P rec fs (off + l.length) with
      | some r => some (l ++ r)
      | none => none) else none
    | none => none
def kdT (P : Program) : Nat → TypeId → Option (List Kd)
  | 0, _ => none
  | d + 1, t =>
    match P.underlying t with
    | some .bool => some [.bool]
    | some (.int k) => some [.int k]
    | some .string => some [.str]
    | some (.struct fs) => if P.stoodInHeld t = true then none else kdFs P (kdT P d) fs.toList 0
    | some (.array n e) => (match kdT P d e with
      | some l => if sizT P e = some l.length then some (List.replicate n l).flatten else none
      | none => none)
    | _ => none
def eqCell : Value → Value → Bool
  | .bool a, .bool b => a == b
  | .int _ a, .int _ b => decide (a = b)
  | .string a, .string b => a.toList == b.toList
  | _, _ => false
def fitsAll : List Kd → List Value → Bool
  | [], [] => true
  | k :: ks, v :: vs => k.fits v && fitsAll ks vs
  | _, _ => false
def eqCells : List Value → List Value → Bool
  | x :: xs, y :: ys => eqCell x y && eqCells xs ys
  | _, _ => true

end Go.Ab
/- The abstract machine: operations, big steps of code, and the predicates by which contracts are stated. -/
set_option linter.unusedVariables false
namespace Go.Ab
open Go

/-! ### Values that are built, cut and appended -/
def fillL (place : Nat → Option (Nat × Nat)) : List Value → List (Nat × Value) → Option (List Value)
  | c, [] => some c
  | c, (i, v) :: rest =>
    match place i with
    | none => none
    | some (off, size) => if isTup v = false ∧ v.cells.size = size ∧ off + size ≤ c.length then fillL place (setL c off v.cells.toList) rest else none
def placeT (P : Program) (t : TypeId) (i : Nat) : Option (Nat × Nat) :=
  match P.underlying t with
  | some (.struct fs) => (match fs[i]? with
    | some f => (match sizT P f.type with | some n => some (f.offset, n) | none => none)
    | none => none)
  | some (.array _ e) => (match sizT P e with | some n => some (i * n, n) | none => none)
  | _ => none
def repL (z : List Value) (n : Nat) : List Value := (List.replicate n z).flatten
def sizesOk (P : Program) (t : TypeId) : Bool :=
  match P.underlying t with
  | some (.struct fs) => fs.toList.all fun f => (sizT P f.type).isSome
  | some (.array _ e) => (sizT P e).isSome
  | _ => false
def buildV (P : Program) (t : TypeId) (parts : List (Nat × Value)) : Option Value :=
  if aggT P t = some true ∧ sizesOk P t = true then (match zerT P t with
    | some z => (match fillL (placeT P t) z parts with
      | some l => some (.agg l.toArray)
      | none => none)
    | none => none)
  else none
def buildSliceV (P : Program) (s : St) (t : TypeId) (len : Nat) (parts : List (Nat × Value)) : Option (Value × St) :=
  match elemT P t with
  | some e => (match sizT P e, zerT P e with
    | some n, some z => if z.length = n ∧ 0 < n ∧ len * n ≤ 2 ^ 24 then (match fillL (fun i => some (i * n, n)) (repL z len) parts with
      | some l => some (.slice (some ⟨s.next, 0, none⟩) len len, s.alloc (.row l))
      | none => none) else none
    | _, _ => none)
  | none => none
def makeV (P : Program) (s : St) (t : TypeId) (len cap : Value) : Option (Value × St) :=
  match elemT P t, len, cap with
  | some e, .int _ l, .int _ c => (match sizT P e, zerT P e, bytT P e with
    | some n, some z, some b => if z.length = n ∧ 0 < n ∧ 0 ≤ l ∧ l ≤ c ∧ c * b ≤ 2 ^ 44 ∧ c ≤ 2 ^ 44 then
        some (.slice (some ⟨s.next, 0, none⟩) l.toNat c.toNat, s.alloc (.row (repL z c.toNat))) else none
    | _, _, _ => none)
  | _, _, _ => none

def intOf? : Value → Option Int
  | .int _ n => some n
  | _ => none
/-- The bounds of a cut: low, high, max; -1 stands for one that is not there. -/
def cutV (len cap : Nat) (lo hi mx : Option Value) : Option (Nat × Nat × Nat) :=
  match (match mx with | some v => intOf? v | none => some (cap : Int)) with
  | none => none
  | some m => match (match hi with | some v => intOf? v | none => (if mx.isSome = true then none else some (len : Int))) with
    | none => none
    | some h => match (match lo with | some v => intOf? v | none => some 0) with
      | none => none
      | some l => if 0 ≤ l ∧ l ≤ h ∧ h ≤ m ∧ m ≤ cap then some (l.toNat, h.toNat, m.toNat) else none
/-- Is a block's own size of elements this one (or has it none)? -/
def kindB (s : St) (b z : Nat) : Bool :=
  match s.heap b with
  | .row _ => true
  | .grown _ z' => z' == z
  | _ => false
def sliceV (P : Program) (s : St) (t : TypeId) (x : Value) (lo hi mx : Option Value) : Option Value :=
  match x with
  | .slice a len cap => (match elemT P t with
    | some e => (match sizT P e, cutV len cap lo hi mx with
      | some n, some (l, h, m) => (match a with
        | some a => if kindB s a.block n = true then some (.slice (some (a.add (l * n))) (h - l) (m - l)) else none
        | none => some (.slice none (h - l) (m - l)))
      | _, _ => none)
    | none => none)
  | .pointer (some a) => (match arrT P t with
    | some (k, e) => (match sizT P e, cutV k k lo hi mx with
      | some n, some (l, h, m) => some (.slice (some (a.add (l * n))) (h - l) (m - l))
      | _, _ => none)
    | none => none)
  | .string s => if strT P t = true ∧ mx = none then (match cutV s.size s.size lo hi none with
      | some (l, h, _) => some (.string (s.extract l h))
      | none => none) else none
  | _ => none

/-- What is appended is at hand: 'news' are n elements. -/
def appendV (P : Program) (base : Nat) (s : St) (t : TypeId) (v : Value) (n : Nat) (news : List Value) : Option (Value × St) :=
  match elemT P t, v with
  | some e, .slice b len cap => (match sizT P e, zerT P e, bytT P e with
    | some z, some zr, some by_ =>
      if zr.length = z ∧ 0 < z ∧ news.length = n * z ∧ len ≤ cap then
        if n = 0 then some (v, s)
        else if len + n ≤ cap then (match b with
          | some a => (match stN base s (a.add (len * z)) news with
            | some s' => some (.slice b (len + n) cap, s')
            | none => none)
          | none => none)
        else if (len + n) * by_ ≤ 2 ^ 44 ∧ len + n ≤ 2 ^ 44 ∧ by_ ≤ 2 ^ 20 then (match b with
          | none => if len = 0 then some (.slice (some ⟨s.next, 0, none⟩) n n, s.alloc (.grown news z)) else none
          | some a => (match s.heap a.block with
            | .row _ => (match ldN base s a (len * z) with
              | some olds => some (.slice (some ⟨s.next, 0, none⟩) (len + n) (len + n), s.alloc (.grown (olds ++ news) z))
              | none => none)
            | .grown c z' => (match ldN base s a (len * z) with
              | some olds => if z' = z ∧ base ≤ a.block ∧ a.spot = none ∧ a.off + len * z ≤ c.length then some (.slice (some ⟨s.next, 0, none⟩) (len + n) (len + n), (s.upd a.block .gone).alloc (.grown (olds ++ news) z)) else none
              | none => none)
            | _ => none))
        else none
      else none
    | _, _, _ => none)
  | _, _ => none
/-- Elements of what is appended or copied. -/
def newsV (base : Nat) (s : St) (z : Nat) (n : Nat) : Value → Option (List Value)
  | .slice (some a) k _ => if n ≤ k then ldN base s a (n * z) else none
  | .slice none _ _ => if n = 0 then some [] else none
  | .string t => if n ≤ t.size ∧ z = 1 then some ((t.data.toList.take n).map fun b => .int .u8 b.toNat) else none
  | _ => none
def lenV? : Value → Option Nat
  | .slice _ n _ => some n
  | .string s => some s.size
  | _ => none

def maxV (x y : Value) : Option Value :=
  match x, y with
  | .int k a, .int _ b => some (.int k (if b > a then b else a))
  | _, _ => none
def minV (x y : Value) : Option Value :=
  match x, y with
  | .int k a, .int _ b => some (.int k (if b < a then b else a))
  | _, _ => none
def foldV (f : Value → Value → Option Value) : Value → List Value → Option Value
  | x, [] => some x
  | x, y :: r => match f x y with | some z => foldV f z r | none => none

def ret1 (v : Option Value) (s : St) : Option (Value × St) := match v with | some v => some (v, s) | none => none
def ret0 (s : Option St) : Option (Value × St) := match s with | some s => some (undef, s) | none => none

def lenB (P : Program) : List TypeId → List Value → Option Value
  | t :: _, x :: _ => (match arrT P t with
    | some (n, _) => some (.int .i64 n)
    | none => (match x with
      | .slice _ n _ => if (elemT P t).isSome = true then some (.int .i64 n) else none
      | .string x => if strT P t = true then some (.int .i64 x.size) else none
      | _ => none))
  | _, _ => none
/-- The room of a slice that is none. -/
def capB (P : Program) : List TypeId → List Value → Option Value
  | t :: _, .slice none _ c :: _ => if (elemT P t).isSome = true then some (.int .i64 c) else none
  | _, _ => none
/-- A slice's elements are noughts from now on. -/
def clearB (P : Program) (base : Nat) (s : St) : List TypeId → List Value → Option (Value × St)
  | t :: _, [.slice b n _] => (match elemT P t with
    | some e => (match sizT P e, zerT P e with
      | some z, some zr => if zr.length = z ∧ 0 < z then (if n = 0 then some (.tuple #[], s) else (match b with
        | some a => (match stN base s a (repL zr n) with
          | some s' => some (.tuple #[], s')
          | none => none)
        | none => none)) else none
      | _, _ => none)
    | none => none)
  | _, _ => none
def minB : List Value → Option Value
  | x :: r => foldV minV x r
  | [] => none
def maxB : List Value → Option Value
  | x :: r => foldV maxV x r
  | [] => none
def appendB (P : Program) (base : Nat) (s : St) : List TypeId → List Value → Option (Value × St)
  | [t, t'], [v, x] => if (P.underlying t').isSome = true then (match intT P t', elemT P t with
    | some _, some e => (match x, zerT P e with
      | .int _ l, some z => (match bytT P e with
        | some b => if 0 ≤ l ∧ l ≤ 2 ^ 44 ∧ l * b ≤ 2 ^ 44 then appendV P base s t v l.toNat (repL z l.toNat) else none
        | none => none)
      | _, _ => none)
    | none, some e => (match sizT P e, lenV? x with
      | some z, some n => (match newsV base s z n x with
        | some news => appendV P base s t v n news
        | none => none)
      | _, _ => none)
    | _, _ => none) else none
  | _, _ => none
def copyB (P : Program) (base : Nat) (s : St) : List TypeId → List Value → Option (Value × St)
  | t :: _, [d, x] => (match elemT P t, d with
    | some e, .slice b dl _ => (match sizT P e, lenV? x with
      | some z, some n => (match newsV base s z (Nat.min n dl) x with
        | some news => (match b with
          | some a => (match stN base s a news with
            | some s' => some (.int .i64 (Nat.min n dl : Nat), s')
            | none => none)
          | none => if dl = 0 then some (.int .i64 (Nat.min n dl : Nat), s) else none)
        | none => none)
      | _, _ => none)
    | _, _ => none)
  | _, _ => none
def builtinV (P : Program) (base : Nat) (s : St) (b : Builtin) (ts : List TypeId) (as : List Value) : Option (Value × St) :=
  match b with
  | .len => ret1 (lenB P ts as) s
  | .cap => ret1 (capB P ts as) s
  | .min => ret1 (minB as) s
  | .max => ret1 (maxB as) s
  | .append => appendB P base s ts as
  | .copy => copyB P base s ts as
  | .clear => clearB P base s ts as
  | _ => none

/-- '==' of what are no two numbers, nor two strings. -/
def eqV (P : Program) (t : TypeId) (x y : Value) : Option Bool :=
  match x, y with
  | .bool a, .bool b => (match P.underlying t with | some .bool => some (a == b) | _ => none)
  | .agg cs, .agg ds => (match kdT P 60 t with
    | some ks => if fitsAll ks cs.toList = true ∧ fitsAll ks ds.toList = true ∧ P.eqGuardType P.depth t = false ∧ aggT P t = some true then some (eqCells cs.toList ds.toList) else none
    | none => none)
  | .pointer none, .pointer b => (match P.underlying t with | some (.pointer _) => some b.isNone | _ => none)
  | .pointer (some _), .pointer none => (match P.underlying t with | some (.pointer _) => some false | _ => none)
  | .slice none _ _, .slice b _ _ => (match P.underlying t with | some (.slice _) => some b.isNone | _ => none)
  | .slice (some _) _ _, .slice none _ _ => (match P.underlying t with | some (.slice _) => some false | _ => none)
  | .nilFunc, .nilFunc => (match P.underlying t with | some (.func _ _ _) => some true | _ => none)
  | .func _ _ _, .nilFunc => (match P.underlying t with | some (.func _ _ _) => some false | _ => none)
  | _, _ => none
def binV (P : Program) (op : BinOp) (t : TypeId) (x y : Value) : Option Value :=
  match x, y with
  | .int k a, .int k' b => intV op k a k' b
  | .string a, .string b => strV op a b
  | x, y => match op with
    | .eql => (match eqV P t x y with | some b => some (.bool b) | none => none)
    | .neq => (match eqV P t x y with | some b => some (.bool (!b)) | none => none)
    | _ => none
def unV (op : UnOp) (x : Value) : Option Value :=
  match op, x with
  | .neg, .int k n => some (.int k (k.wrap (0 - n)))
  | .xor, .int k n => (bitV .xor k (if k.signed then -1 else k.max) n).map (.int k)
  | .not, .bool b => some (.bool (!b))
  | _, _ => none
def convV (P : Program) (base : Nat) (s : St) (src dst : TypeId) (x : Value) : Option (Value × St) :=
  match x with
  | .int _ n => if (P.underlying src).isSome = true then (match intT P dst with | some k => some (.int k (k.wrap n), s) | none => none) else none
  | .string b => if strT P dst = true ∧ (P.underlying src).isSome = true then some (.string b, s) else none
  | _ => none

def ptrV : Value → Option Addr
  | .pointer (some a) => some a
  | _ => none

def pickV (c a b : Value) : Option Value := match c with | .bool t => some (if t = true then a else b) | _ => none
def loadV (P : Program) (base : Nat) (s : St) (t : TypeId) (a : Value) : Option Value := match ptrV a with | some a => ldVar P base s t a | none => none
def fieldAddrV (P : Program) (t : TypeId) (x : Value) (f : Nat) : Option Value :=
  match ptrV x, fldT P t f with
  | some a, some (off, u) => (match sizT P u with
    | some n => if 0 < n then some (.pointer (some (a.add off))) else none
    | none => none)
  | _, _ => none
def fieldV (P : Program) (t : TypeId) (x : Value) (f : Nat) : Option Value :=
  match x, fldT P t f with
  | .agg cs, some (off, u) => partV P u cs off
  | _, _ => none
def indexAddrV (P : Program) (t : TypeId) (x i : Value) : Option Value :=
  match intOf? i with
  | some i => (match x with
    | .slice (some a) len _ => (match elemT P t with
      | some e => (match sizT P e with
        | some n => if 0 ≤ i ∧ i < len then some (.pointer (some (a.add (i.toNat * n)))) else none
        | none => none)
      | none => none)
    | .pointer (some a) => (match arrT P t with
      | some (k, e) => (match sizT P e with
        | some n => if 0 ≤ i ∧ i < k then some (.pointer (some (a.add (i.toNat * n)))) else none
        | none => none)
      | none => none)
    | _ => none)
  | none => none
def indexV (P : Program) (t : TypeId) (x i : Value) : Option Value :=
  match intOf? i with
  | some i => (match x with
    | .agg cs => (match arrT P t with
      | some (k, e) => (match sizT P e with
        | some n => if 0 ≤ i ∧ i < k then partV P e cs (i.toNat * n) else none
        | none => none)
      | none => none)
    | .string b => if strT P t = true ∧ 0 ≤ i ∧ i < b.size then some (.int .u8 (b.data.toList.getD i.toNat 0).toNat) else none
    | _ => none)
  | none => none
def extractV (x : Value) (i : Nat) : Option Value := match x with | .tuple vs => vs[i]? | _ => none
def nilCheckV (x : Value) : Option Value :=
  match x with
  | .pointer (some a) => some (.pointer (some a))
  | .func (.func f) fi ca => some (.func (.func f) fi ca)
  | .func (.yield l) fi ca => some (.func (.yield l) fi ca)
  | _ => none
def mkFuncV (fn : Fn) (fi ca : Array Value) : Option Value := match fn with | .yield _ => none | fn => some (.func fn fi ca)
def ifaceV (P : Program) (t : TypeId) (x : Value) : Option Value := if ifaceT P t = false ∧ (P.underlying t).isSome = true ∧ isTup x = false then some (.iface t x) else none

/-- Runes of a string, one by one. -/
def rangeV (P : Program) (s : St) (t : TypeId) (x : Value) : Option (Value × St) :=
  match x with
  | .string b => if strT P t = true then some (.pointer (some ⟨s.next, 0, none⟩), s.alloc (.iter b 0)) else none
  | _ => none
def nextV (base : Nat) (s : St) (x : Value) (str : Bool) : Option (Value × St) :=
  match x with
  | .pointer (some a) => if a.off = 0 ∧ base ≤ a.block ∧ str = true then (match s.heap a.block with
    | .iter b p => if p < b.size then some (.tuple #[.bool true, .int .i64 (p : Int), .int .i32 ((Utf8.decode b p).1 : Int)], s.upd a.block (.iter b (p + (Utf8.decode b p).2)))
        else some (.tuple #[.bool false], s)
    | _ => none) else none
  | _ => none

/-! ### Operations -/
def Callee.isB : Callee → Bool
  | .builtin _ => true
  | _ => false
def isCall : Op → Bool
  | .call c => !Callee.isB c.callee
  | _ => false

def pop (P : Program) (base : Nat) (ρ : Operand → Value) (s : St) : Op → Option (Value × St)
  | .move x => some (ρ x, s)
  | .assign x => some (ρ x, s)
  | .pick c a b => ret1 (pickV (ρ c) (ρ a) (ρ b)) s
  | .alloc t => (match zerT P t with | some z => some (.pointer (some ⟨s.next, 0, none⟩), s.alloc (.row z)) | none => none)
  | .box _ x => if isTup (ρ x) = false then some (.pointer (some ⟨s.next, 0, none⟩), s.alloc (.row (ρ x).cells.toList)) else none
  | .build t parts => ret1 (buildV P t (parts.toList.map fun p => (p.1, ρ p.2))) s
  | .buildSlice t len parts => buildSliceV P s t len (parts.toList.map fun p => (p.1, ρ p.2))
  | .load t a => ret1 (loadV P base s t (ρ a)) s
  | .store t a x => (match ptrV (ρ a) with | some a => ret0 (stVar P base s t a (ρ x)) | none => none)
  | .nilCheck x => ret1 (nilCheckV (ρ x)) s
  | .binOp op t x y _ => ret1 (binV P op t (ρ x) (ρ y)) s
  | .unOp op _ x => ret1 (unV op (ρ x)) s
  | .convert a b x => convV P base s a b (ρ x)
  | .makeInterface t x => ret1 (ifaceV P t (ρ x)) s
  | .makeFunc fn fi ca => ret1 (mkFuncV fn (fi.map ρ) (ca.map ρ)) s
  | .makeSlice t l c => makeV P s t (ρ l) (ρ c)
  | .slice t x lo hi mx => ret1 (sliceV P s t (ρ x) (lo.map ρ) (hi.map ρ) (mx.map ρ)) s
  | .fieldAddr t x f => ret1 (fieldAddrV P t (ρ x) f) s
  | .field t x f => ret1 (fieldV P t (ρ x) f) s
  | .indexAddr t x i => ret1 (indexAddrV P t (ρ x) (ρ i)) s
  | .index t x i => ret1 (indexV P t (ρ x) (ρ i)) s
  | .extract x i => ret1 (extractV (ρ x) i) s
  | .range t x => rangeV P s t (ρ x)
  | .next x b => nextV base s (ρ x) b
  | .call c => (match c.callee with
    | .builtin b => builtinV P base s b c.argTypes.toList (c.args.toList.map ρ)
    | _ => none)
  | _ => none

/-! ### Big steps -/
structure Drw where
  eff : Nat → Bool
  lite : Nat → Bool
  kp : Nat → Bool
  n0 : Nat

inductive Jdg where
  | code (c : Code) (e : Env) (s : St) (x : Exit) (e' : Env) (s' : St)
  | ops (all : Array Oper) (D : Option Drw) (k : Nat) (l : List Oper) (e : Env) (s : St) (e' : Env) (s' : St)
  | call (f : FuncId) (args : List Value) (s : St) (v : Value) (s' : St)
  | func (fn : Fn) (args : List Value) (s : St) (v : Value) (s' : St)

def guardV (all : Array Oper) (e : Env) (j : Nat) : Option (Option Bool) :=
  match (all[j]?).bind (·.dst) with
  | some t => (match e t with | .bool b => some (some b) | _ => some none)
  | none => none
/-- What holds of the operations of a region whose order is drawn: 'eff': which ones may change old blocks; 'lite': which loads may come before or behind these; 'kp': blocks that none of them changes; 'n0': the blocks that there were. -/
def isLoad : Op → Bool
  | .load _ _ => true
  | _ => false
def Dok (D : Option Drw) (k : Nat) (s s' : St) : Prop :=
  match D with
  | none => True
  | some d => Mild s s' ∨ (d.eff k = true ∧ s.next ≤ s'.next ∧ ∀ b, d.kp b = true → b < d.n0 → s'.heap b = s.heap b)
def Lok (D : Option Drw) (k : Nat) (ρ : Operand → Value) : Op → Prop
  | .load _ a => (match D with
    | none => True
    | some d => d.lite k = true → (match ρ a with | .pointer (some ad) => d.kp ad.block = true ∧ ad.block < d.n0 | _ => False))
  | _ => True

def resV (P : Program) (base : Nat) (e : Env) (s : St) : ResultVar → Option Value
  | .tmp t => some (e t)
  | .cell a t => (match ptrV (e a) with | some a => ldVar P base s t a | none => none)
def allV (P : Program) (base : Nat) (e : Env) (s : St) : List ResultVar → Option (List Value)
  | [] => some []
  | r :: rs => match resV P base e s r, allV P base e s rs with
    | some v, some vs => some (v :: vs)
    | _, _ => none
def resultsV (P : Program) (base : Nat) (fn : Func) (e : Env) (s : St) : Option Value :=
  match allV P base e s fn.results.toList with
  | some [v] => some v
  | some vs => some (.tuple vs.toArray)
  | none => none

def putAll (e : Env) : List (Tmp × Value) → Env
  | [] => e
  | (t, v) :: r => putAll (put e (some t) v) r

/-- The callee's value, and the arguments. -/
def calleeV (ρ : Operand → Value) (c : Call) : Option (Fn × List Value) :=
  match c.callee with
  | .value f => (match ρ f with
    | .func fn fi ca => some (fn, fi.toList ++ (c.args.toList.map ρ) ++ (match fn with | .func _ => ca.toList | _ => []))
    | _ => none)
  | _ => none

/-- A frame of which nothing was drawn within a region: the check of its text is made by 'drawOk' (the simulation). -/
def reachB (ops : Array Oper) : Nat → Nat → Nat → Bool
  | 0, _, _ => false
  | n + 1, j, i => ((ops[j]?).map fun o => o.after.toList.any fun e => Region.binds .any e && (e.on == i || reachB ops n e.on i)).getD false
def loudO (o : Oper) : Bool :=
  match o.op with
  | .load .. | .store .. | .alloc _ | .box .. | .buildSlice .. | .makeSlice .. | .convert .. | .slice .. | .range .. | .next .. => true
  | .call c => (match c.callee with | .builtin .len => false | .builtin .min => false | .builtin .max => false | _ => true)
  | _ => false
def drawOk (ops : Array Oper) (eff lite : Nat → Bool) : Bool :=
  (List.range ops.size).all fun j => (List.range j).all fun i =>
    (match ops[i]?, ops[j]? with
     | some a, some b => (a.apart ops b || reachB ops (ops.size + 1) j i) &&
        (!(loudO a && loudO b && ((eff i && !(lite j && isLoad b.op)) || (eff j && !(lite i && isLoad a.op)))) || reachB ops (ops.size + 1) j i)
     | _, _ => true) 
def edgesOk (ops : Array Oper) : Bool :=
  (List.range ops.size).all fun j => ((ops[j]?).map fun o => o.after.toList.all fun e => !Region.binds .any e || decide (e.on < j)).getD true

/-! ### Code's own bounds -/
def constOk : Value → Bool
  | .agg cs => cs.toList.all (oldOk 0)
  | .tuple cs => cs.toList.all (oldOk 0)
  | .func (.func _) fi ca => fi.isEmpty && ca.isEmpty
  | v => oldOk 0 v
def opdOk (G N : Nat) : Operand → Bool
  | .tmp t => decide (t < N)
  | .const v => constOk v
  | .global g => decide (g < G)
  | .func _ => true
def operOk (G N : Nat) (o : Oper) : Bool := (match o.dst with | some t => decide (t < N) | none => true) && o.op.operands.toList.all (opdOk G N)
def noRF : Code → Bool
  | .seq a b => noRF a && noRF b
  | .cond _ a b => noRF a && noRF b
  | .block _ a => noRF a
  | .loop a => noRF a
  | .scope a => noRF a
  | .rangeFunc .. => false
  | _ => true
def codeOk (G N : Nat) : Code → Bool
  | .region _ ops _ => ops.toList.all (operOk G N)
  | .seq a b => codeOk G N a && codeOk G N b
  | .cond c a b => opdOk G N c && codeOk G N a && codeOk G N b
  | .block _ a => codeOk G N a
  | .loop a => codeOk G N a
  | .rangeFunc f ps a b => opdOk G N f && ps.toList.all (fun t => decide (t < N)) && codeOk G N a && codeOk G N b && noRF a && noRF b
  | .scope a => codeOk G N a
  | _ => true
def funcOk (G : Nat) (fn : Func) : Bool :=
  match fn.body with
  | some c => codeOk G fn.ntmps c && fn.results.toList.all (fun | .tmp t => decide (t < fn.ntmps) | .cell a _ => decide (a < fn.ntmps)) && fn.name != "runtime.NumGoroutine"
  | none => true
def progOk (G : Nat) (P : Program) : Bool := P.funcs.toList.all (funcOk G)

/-- A value that leads nowhere. -/
def bareV1 : Value → Bool
  | .agg c => c.toList.all (oldOk 0)
  | v => oldOk 0 v
def bareV : Value → Bool
  | .tuple c => c.toList.all bareV1
  | v => bareV1 v
def St.none : St := ⟨fun _ => .gone, 0⟩

section
open Go.RowKit
structure Mp where
  blk : Nat → Option (Nat × Nat)
  gr : Nat → Option Nat
  sz : Nat → Nat

def AR (M : Mp) (a a' : Addr) : Prop := ∃ B d, M.blk a.block = some (B, d) ∧ a' = ⟨B, a.off + d, a.spot⟩
inductive FR (M : Mp) : Fn → Fn → Prop
  | yield {l l'} (h : M.blk l = some (l', 0)) : FR M (.yield l) (.yield l')
  | other {f} (h : ∀ l, f ≠ .yield l) : FR M f f

inductive VR (M : Mp) : Value → Value → Prop
  | bool (b) : VR M (.bool b) (.bool b)
  | int (k n) : VR M (.int k n) (.int k n)
  | float (k b) : VR M (.float k b) (.float k b)
  | complex (k x y) : VR M (.complex k x y) (.complex k x y)
  | str (s) : VR M (.string s) (.string s)
  | ptrN : VR M (.pointer none) (.pointer none)
  | ptr {a a'} (h : AR M a a') : VR M (.pointer (some a)) (.pointer (some a'))
  | sliN (l c) : VR M (.slice none l c) (.slice none l c)
  | sli0 {x} (a a') (h : M.blk a.block = some x) : VR M (.slice (some a) 0 0) (.slice (some a') 0 0)
  | sli {a a' len cap cap'} (h : AR M a a') (hx : cap' = cap ∨ ∃ z, M.gr a.block = some z ∧ cap ≤ cap' ∧ a'.off + cap' * z ≤ M.sz a'.block) :
      VR M (.slice (some a) len cap) (.slice (some a') len cap')
  | mapN : VR M (.map none) (.map none)
  | map {r r'} (h : M.blk r = some (r', 0)) : VR M (.map (some r)) (.map (some r'))
  | chanN : VR M (.chan none) (.chan none)
  | funcN : VR M .nilFunc .nilFunc
  | ifaceN : VR M .nilIface .nilIface
  | func {fn fn' fi fi' ca ca'} (h : FR M fn fn') (s1 : fi.size = fi'.size) (h1 : ∀ (i : Nat) v v', fi[i]? = some v → fi'[i]? = some v' → VR M v v')
      (s2 : ca.size = ca'.size) (h2 : ∀ (i : Nat) v v', ca[i]? = some v → ca'[i]? = some v' → VR M v v') : VR M (.func fn fi ca) (.func fn' fi' ca')
  | iface (t) {v v'} (h : VR M v v') : VR M (.iface t v) (.iface t v')
  | agg {c c'} (s : c.size = c'.size) (h : ∀ (i : Nat) v v', c[i]? = some v → c'[i]? = some v' → VR M v v') (o : ∀ (i : Nat) v, c[i]? = some v → oneB v = true) : VR M (.agg c) (.agg c')
  | tuple {c c'} (s : c.size = c'.size) (h : ∀ (i : Nat) v v', c[i]? = some v → c'[i]? = some v' → VR M v v') : VR M (.tuple c) (.tuple c')

structure Mle (M M' : Mp) : Prop where
  blk : ∀ b x, M.blk b = some x → M'.blk b = some x
  gr : ∀ b x, M.blk b = some x → M'.gr b = M.gr b
  sz : ∀ b x, M.blk b = some x → M'.sz x.1 = M.sz x.1
/-- Lists of values. -/
def LR (M : Mp) (l l' : List Value) : Prop := l.length = l'.length ∧ ∀ (i : Nat) v v', l[i]? = some v → l'[i]? = some v' → VR M v v'
def ER (M : Mp) (e : Env) (tmps : Array Value) : Prop := ∀ t, t < tmps.size → VR M (e t) (tmps.getD t undef)

structure LoopR (G : Nat) (M : Mp) (r : LoopRec) (R : Loop) : Prop where
  env : ER M r.env R.tmps
  params : R.params = r.params
  assign : R.assign = r.assign
  body : R.body = r.body
  state : R.state = r.state
  pending : R.pending = r.pending
  okA : codeOk G R.tmps.size r.assign = true
  okB : codeOk G R.tmps.size r.body = true
  okP : ∀ t ∈ r.params.toList, t < R.tmps.size
  rfA : noRF r.assign = true
  rfB : noRF r.body = true

def RowR (M : Mp) (x : Nat × Nat) (c : List Value) (o : Obj) : Prop :=
  ∃ C t, o = .cells C t (0, 0) ∧ C.size = M.sz x.1 ∧ ∀ (i : Nat) v, c[i]? = some v → oneB v = true ∧ ∃ v', C[x.2 + i]? = some v' ∧ VR M v v'
def OR (G0 : Nat) (M : Mp) (b : Nat) (x : Nat × Nat) : AObj → Obj → Prop
  | .row c, o => M.gr b = none ∧ RowR M x c o
  | .grown c z, o => M.gr b = some z ∧ RowR M x c o
  | .iter s p, o => x.2 = 0 ∧ o = .stringIter s p
  | .loop r, o => x.2 = 0 ∧ ∃ R G, o = .loop R ∧ LoopR G M r R ∧ G ≤ G0 ∧ R.tmps.size = M.sz x.1
  | .map _, _ => False
  | .gone, _ => True
def goneB : AObj → Bool
  | .gone => true
  | _ => false

/-- An old slice of no room is read as one that lies where it was read. -/
def normV (b : Nat) : Value → Value
  | .slice (some _) 0 0 => .slice (some ⟨b, 0, none⟩) 0 0
  | v => v
def oldObj (w0 : World) (b : Nat) : AObj := match w0.heap[b]? with | some (.cells c _ _) => .row (c.toList.map (normV b)) | _ => .gone
structure Sm (w0 : World) (M : Mp) (s : St) (w : World) : Prop where
  below : Below w0.heap.size w0 w
  nxt : w0.heap.size ≤ s.next
  old : ∀ b, b < w0.heap.size → M.blk b = some (b, 0) ∧ M.gr b = none
  olds : ∀ b, b < w0.heap.size → s.heap b = oldObj w0 b
  new : ∀ b x, M.blk b = some x → w0.heap.size ≤ b → b < s.next ∧ w0.heap.size ≤ x.1 ∧ ∃ o, w.heap[x.1]? = some o ∧ OR w0.heap.size M b x (s.heap b) o
  inj : ∀ b b' x x', w0.heap.size ≤ b → w0.heap.size ≤ b' → M.blk b = some x → M.blk b' = some x' → x.1 = x'.1 → goneB (s.heap b) = false → goneB (s.heap b') = false → b = b'

/-- What a step may do: the map grows; blocks that stand for nothing that lives stay. -/
structure Gr (M : Mp) (s : St) (w : World) (M' : Mp) (s' : St) (w' : World) : Prop where
  le : Mle M M'
  nxt : s.next ≤ s'.next
  dom : ∀ b x, M'.blk b = some x → b < s.next → M.blk b = some x
  img : ∀ b x, M'.blk b = some x → (∃ b' x', M.blk b' = some x' ∧ x'.1 = x.1) ∨ w.heap.size ≤ x.1
  live : ∀ b x, M'.blk b = some x → goneB (s'.heap b) = false → (∃ b' x', M.blk b' = some x' ∧ goneB (s.heap b') = false ∧ x'.1 = x.1) ∨ w.heap.size ≤ x.1
  fr : ∀ B, B < w.heap.size → (∀ b x, M.blk b = some x → goneB (s.heap b) = false → x.1 ≠ B) → w'.heap[B]? = w.heap[B]?
  size : w.heap.size ≤ w'.heap.size
def Fwide (F : Fence) : Prop := (∀ f, F.fn f) ∧ F.depth = none ∧ F.alive = false

def CallGood (P : Program) (w0 : World) (f : FuncId) (args : List Value) (s : St) (v : Value) (s' : St) : Prop :=
  ∀ M w (args' : Array Value) (F : Fence) n, Fwide F → Sm w0 M s w → LR M args args'.toList →
    (∃ fn c, P.funcs[f]? = some fn ∧ fn.body = some c ∧ fn.name ≠ "runtime.NumGoroutine") ∧ CallsIn F n P f args' w (fun e w' => ∃ v' M', e = .returned v' ∧ Gr M s w M' s' w' ∧ Sm w0 M' s' w' ∧ VR M' v v')
/-- Has a function a body? -/
def HasBody (P : Program) (f : FuncId) : Prop := ∃ fn c, P.funcs[f]? = some fn ∧ fn.body = some c
def noFn (args : List Value) : Bool := args.all fun v => match v with | .func _ _ _ => false | _ => true
/-- A call of a function that has no body: the model's own stand-in for it gives its value at once. -/
def ExtGood (P : Program) (w0 : World) (f : FuncId) (args : List Value) (s : St) (v : Value) (s' : St) : Prop :=
  ∀ M w (args' : Array Value), Sm w0 M s w → LR M args args'.toList → ∃ v' w' M', (callFunc f args').run P w = .ok (.value v') w' ∧ Gr M s w M' s' w' ∧ Sm w0 M' s' w' ∧ VR M' v v'
end

inductive Ev (P : Program) : Nat → Jdg → Prop
  | skip {base e s} : Ev P base (.code .skip e s .normal e s)
  | label {base l e s} : Ev P base (.code (.label l) e s .normal e s)
  | exit {base i e s} : Ev P base (.code (.exit i) e s (.exit i) e s)
  | ret {base e s} : Ev P base (.code .ret e s .ret e s)
  | seq {base a b e s e1 s1 x e2 s2} (h1 : Ev P base (.code a e s .normal e1 s1)) (h2 : Ev P base (.code b e1 s1 x e2 s2)) : Ev P base (.code (.seq a b) e s x e2 s2)
  | seq_out {base a b e s x e1 s1} (h1 : Ev P base (.code a e s x e1 s1)) (hx : x ≠ .normal) : Ev P base (.code (.seq a b) e s x e1 s1)
  | cond {base c a b e s x e1 s1} (t : Bool) (hc : ev e c = .bool t) (h : Ev P base (.code (if t = true then a else b) e s x e1 s1)) : Ev P base (.code (.cond c a b) e s x e1 s1)
  | block {base i a e s x e1 s1} (h : Ev P base (.code a e s x e1 s1)) (hx : x ≠ .exit i) : Ev P base (.code (.block i a) e s x e1 s1)
  | block_out {base i a e s e1 s1} (h : Ev P base (.code a e s (.exit i) e1 s1)) : Ev P base (.code (.block i a) e s .normal e1 s1)
  | loop {base a e s e1 s1 x e2 s2} (h1 : Ev P base (.code a e s .normal e1 s1)) (h2 : Ev P base (.code (.loop a) e1 s1 x e2 s2)) : Ev P base (.code (.loop a) e s x e2 s2)
  | loop_out {base a e s x e1 s1} (h1 : Ev P base (.code a e s x e1 s1)) (hx : x ≠ .normal) : Ev P base (.code (.loop a) e s x e1 s1)
  | scope {base a e s x e1 s1} (h : Ev P base (.code a e s x e1 s1)) (hx : x = .normal ∨ x = .ret ∨ ∃ i, x = .exit i) : Ev P base (.code (.scope a) e s x e1 s1)
  | region {base i ops e s e1 s1} (h : Ev P base (.ops ops none 0 ops.toList e s e1 s1)) : Ev P base (.code (.region i ops false) e s .normal e1 s1)
  | region_draw {base i ops e s e1 s1} (eff lite kp : Nat → Bool) (hd : drawOk ops eff lite = true) (he : edgesOk ops = true) (h : Ev P base (.ops ops (some ⟨eff, lite, kp, s.next⟩) 0 ops.toList e s e1 s1)) : Ev P base (.code (.region i ops true) e s .normal e1 s1)
  | rangeFunc {base f ps as body e s fn args v s1 r st} (hf : ev e f = .func (.func fn) #[] args)
      (h : Ev P base (.call fn (.func (.yield s.next) #[] #[] :: args.toList) (s.alloc (.loop ⟨e, ps, as, body, .ready, none⟩)) v s1))
      (hl : s1.heap s.next = .loop r) (hs : r.state = st) (hst : st ≠ .busy) (hp : r.pending = none) :
      Ev P base (.code (.rangeFunc f ps as body) e s .normal e (s1.upd s.next .gone))
  | rangeFunc_out {base f ps as body e s fn args v s1 r c x e2 s2} (hf : ev e f = .func (.func fn) #[] args)
      (h : Ev P base (.call fn (.func (.yield s.next) #[] #[] :: args.toList) (s.alloc (.loop ⟨e, ps, as, body, .ready, none⟩)) v s1))
      (hl : s1.heap s.next = .loop r) (hst : r.state ≠ .busy) (hp : r.pending = some c) (hc : c = .ret ∨ ∃ i, c = .exit i)
      (h2 : Ev P base (.code c e (s1.upd s.next .gone) x e2 s2)) :
      Ev P base (.code (.rangeFunc f ps as body) e s x e2 s2)
  | ops_nil {base all D k e s} : Ev P base (.ops all D k [] e s e s)
  | ops_not {base all D k o l e s j w b e1 s1} (hg : o.guard = some (j, w)) (hb : guardV all e j = some b) (hw : b ≠ some w)
      (h : Ev P base (.ops all D (k + 1) l (put e o.dst undef) s e1 s1)) : Ev P base (.ops all D k (o :: l) e s e1 s1)
  | ops_plain {base all D k o l e s v s1 e2 s2} (hg : ∀ j w, o.guard = some (j, w) → guardV all e j = some (some w)) (hc : isCall o.op = false)
      (hv : pop P base (ev e) s o.op = some (v, s1)) (hD : Dok D k s s1) (hL : Lok D k (ev e) o.op)
      (h : Ev P base (.ops all D (k + 1) l (put e o.dst v) s1 e2 s2)) : Ev P base (.ops all D k (o :: l) e s e2 s2)
  | ops_call {base all D k o l e s c fn args v s1 e2 s2} (hg : ∀ j w, o.guard = some (j, w) → guardV all e j = some (some w)) (ho : o.op = .call c) (hb : Callee.isB c.callee = false)
      (hcal : calleeV (ev e) c = some (fn, args)) (hc : Ev P base (.func fn args s v s1)) (hD : Dok D k s s1)
      (h : Ev P base (.ops all D (k + 1) l (put e o.dst v) s1 e2 s2)) : Ev P base (.ops all D k (o :: l) e s e2 s2)
  | func {base f args s v s1} (h : Ev P base (.call f args s v s1)) : Ev P base (.func (.func f) args s v s1)
  | yield {base l args s r e1 s1 x e2 s2} (hl : s.heap l = .loop r) (hn : r.params.size = args.length) (hst : r.state = .ready) (hold : base ≤ l)
      (h1 : Ev P base (.code r.assign (putAll r.env (r.params.toList.zip args)) s .normal e1 s1))
      (hl1 : s1.heap l = .loop r)
      (h2 : Ev P base (.code r.body e1 (s1.upd l (.loop { r with state := .busy })) x e2 s2))
      (hl2 : s2.heap l = .loop { r with state := .busy })
      (j : Option Code) (hx : (x = .normal ∧ j = none) ∨ (x = .ret ∧ j = some .ret) ∨ (∃ i, x = .exit i ∧ j = some (.exit i))) :
      Ev P base (.func (.yield l) args s (.bool j.isNone) (s2.upd l (.loop { r with state := (if j.isNone = true then .ready else .done), pending := j })))
  | call {base f args s fn c x e1 s1 v} (hf : P.funcs[f]? = some fn) (hb : fn.body = some c)
      (h : Ev P base (.code c (env0 args) s x e1 s1)) (hx : x = .normal ∨ x = .ret) (hr : resultsV P base fn e1 s1 = some v) :
      Ev P base (.call f args s v s1)
  | ext {base f args s v s'} (hb : ¬ HasBody P f) (hn : noFn args = true) (h : ∀ w0 : World, w0.heap.size = base → ExtGood P w0 f args s v s') : Ev P base (.call f args s v s')
  | given {base f args s v s'} (hb : HasBody P f) (h : ∀ w0 : World, w0.heap.size = base → CallGood P w0 f args s v s') : Ev P base (.call f args s v s')
  | closed {base f args s v s1 g t} (hg : g ≤ base) (hP : progOk g P = true) (ha : args.all bareV = true) (hv : bareV v = true) (htn : t.next = g) (hth : ∀ b, b < g → t.heap b = s.heap b) (h : Ev P g (.call f args t v s1)) :
      Ev P base (.call f args s v s)

/-! ### The predicates -/
def W (P : Program) (base : Nat) (c : Code) (e : Env) (s : St) (Q : Exit → Env → St → Prop) (_ : Tag (c, Q) := .mk) : Prop := ∃ x e' s', Ev P base (.code c e s x e' s') ∧ Q x e' s'
def WO (P : Program) (base : Nat) (all : Array Oper) (D : Option Drw) (k : Nat) (l : List Oper) (e : Env) (s : St) (K : Env → St → Prop) (_ : Tag (all, l, K) := .mk) : Prop := ∃ e' s', Ev P base (.ops all D k l e s e' s') ∧ K e' s'
def WC (P : Program) (base : Nat) (f : FuncId) (args : List Value) (s : St) (R : Value → St → Prop) (_ : Tag R := .mk) : Prop := ∃ v s', Ev P base (.call f args s v s') ∧ R v s'
def WF (P : Program) (base : Nat) (fn : Fn) (args : List Value) (s : St) (R : Value → St → Prop) (_ : Tag R := .mk) : Prop := ∃ v s', Ev P base (.func fn args s v s') ∧ R v s'
end Go.Ab
/- The abstract machine: the equations by which code is walked. -/
set_option linter.unusedVariables false
namespace Go.Ab
open Go

section
variable {P : Program} {base : Nat}

/-! ### Connectives that simp opens at their first argument alone -/
def Qv (o : Option Value) (K : Value → Prop) (_ : Tag K := .mk) : Prop := match o with | some v => K v | none => False
def Q2 (o : Option (Value × St)) (K : Value → St → Prop) (_ : Tag K := .mk) : Prop := match o with | some (v, s) => K v s | none => False
def Wif (v : Value) (A B : Prop) (_ : Tag (A, B) := .mk) : Prop := match v with | .bool true => A | .bool false => B | _ => False
def Gif (o : Option (Option Bool)) (w : Bool) (A B : Prop) (_ : Tag (A, B) := .mk) : Prop := match o with | some b => if b = some w then A else B | none => False
def Qc (o : Option (Fn × List Value)) (K : Fn → List Value → Prop) (_ : Tag K := .mk) : Prop := match o with | some (f, a) => K f a | none => False
theorem Qv_some (v : Value) (K : Value → Prop) : Qv (some v) K = K v := rfl
theorem Q2_some (v : Value) (s : St) (K : Value → St → Prop) : Q2 (some (v, s)) K = K v s := rfl
theorem Qc_some (f : Fn) (a : List Value) (K : Fn → List Value → Prop) : Qc (some (f, a)) K = K f a := rfl
theorem Qv_ite (p : Prop) [Decidable p] (o : Option Value) (K : Value → Prop) : Qv (if p then o else none) K = (p ∧ Qv o K) := by
  by_cases h : p <;> simp [Qv, h]
theorem Q2_ite (p : Prop) [Decidable p] (o : Option (Value × St)) (K : Value → St → Prop) : Q2 (if p then o else none) K = (p ∧ Q2 o K) := by
  by_cases h : p <;> simp [Q2, h]
theorem Q2_ret1 (o : Option Value) (s : St) (K : Value → St → Prop) : Q2 (ret1 o s) K = Qv o (fun v => K v s) := by cases o <;> rfl
theorem Wif_true (A B : Prop) : Wif (.bool true) A B = A := rfl
theorem Wif_false (A B : Prop) : Wif (.bool false) A B = B := rfl
theorem Gif_same (w : Bool) (A B : Prop) : Gif (some (some w)) w A B = A := by simp [Gif]
theorem Gif_un (w : Bool) (A B : Prop) : Gif (some none) w A B = B := by simp [Gif]
theorem Gif_tf (A B : Prop) : Gif (some (some true)) false A B = B := by simp [Gif]
theorem Gif_ft (A B : Prop) : Gif (some (some false)) true A B = B := by simp [Gif]
theorem Gif_dec {p : Prop} [Decidable p] {w : Bool} {A B : Prop} (h1 : decide p = w → A) (h2 : decide p = (!w) → B) : Gif (some (some (decide p))) w A B := by
  by_cases h : p <;> cases w <;> simp_all [Gif]
/-! ### Frames -/
theorem put_none (e : Env) (v : Value) : put e none v = e := rfl
theorem put_at (e : Env) (t : Tmp) (v : Value) (k : Nat) : put e (some t) v k = if k = t then v else e k := rfl
theorem ev_tmp (e : Env) (t : Tmp) : ev e (.tmp t) = e t := rfl
theorem ev_const (e : Env) (v : Value) : ev e (.const v) = v := rfl
theorem ev_global (e : Env) (g : Nat) : ev e (.global g) = .pointer (some ⟨g, 0, none⟩) := rfl
theorem ev_func (e : Env) (f : FuncId) : ev e (.func f) = .func (.func f) #[] #[] := rfl

/-! ### Code -/
def Th (next : Env → St → Prop) (Q : Exit → Env → St → Prop) : Exit → Env → St → Prop
  | .normal, e, s => next e s
  | x, e, s => Q x e s
def Bk (i : Nat) (Q : Exit → Env → St → Prop) : Exit → Env → St → Prop
  | .exit j, e, s => if j = i then Q .normal e s else Q (.exit j) e s
  | x, e, s => Q x e s
theorem Th_normal (n : Env → St → Prop) (Q : Exit → Env → St → Prop) (e : Env) (s : St) : Th n Q .normal e s = n e s := rfl
theorem Th_ret (n : Env → St → Prop) (Q : Exit → Env → St → Prop) (e : Env) (s : St) : Th n Q .ret e s = Q .ret e s := rfl
theorem Th_exit (n : Env → St → Prop) (Q : Exit → Env → St → Prop) (i : Nat) (e : Env) (s : St) : Th n Q (.exit i) e s = Q (.exit i) e s := rfl
theorem Bk_normal (i : Nat) (Q : Exit → Env → St → Prop) (e : Env) (s : St) : Bk i Q .normal e s = Q .normal e s := rfl
theorem Bk_ret (i : Nat) (Q : Exit → Env → St → Prop) (e : Env) (s : St) : Bk i Q .ret e s = Q .ret e s := rfl
theorem Bk_exit (i j : Nat) (Q : Exit → Env → St → Prop) (e : Env) (s : St) : Bk i Q (.exit j) e s = if j = i then Q .normal e s else Q (.exit j) e s := rfl

theorem W_mono {c : Code} {e : Env} {s : St} {Q Q' : Exit → Env → St → Prop} (h : W P base c e s Q) (hq : ∀ x e s, Q x e s → Q' x e s) : W P base c e s Q' := by
  obtain ⟨x, e', s', h, q⟩ := h; exact ⟨x, e', s', h, hq _ _ _ q⟩
variable {e : Env} {s : St} {Q : Exit → Env → St → Prop}

theorem W_skip : W P base .skip e s Q ↔ Q .normal e s := by
  constructor
  · rintro ⟨x, e', s', h, q⟩; cases h; exact q
  · exact fun h => ⟨_, _, _, .skip, h⟩
theorem W_label {l : Nat} : W P base (.label l) e s Q ↔ Q .normal e s := by
  constructor
  · rintro ⟨x, e', s', h, q⟩; cases h; exact q
  · exact fun h => ⟨_, _, _, .label, h⟩
theorem W_exit {i : Nat} : W P base (.exit i) e s Q ↔ Q (.exit i) e s := by
  constructor
  · rintro ⟨x, e', s', h, q⟩; cases h; exact q
  · exact fun h => ⟨_, _, _, .exit, h⟩
theorem W_ret : W P base .ret e s Q ↔ Q .ret e s := by
  constructor
  · rintro ⟨x, e', s', h, q⟩; cases h; exact q
  · exact fun h => ⟨_, _, _, .ret, h⟩
theorem Th_ne {n : Env → St → Prop} {x : Exit} (h : x ≠ .normal) : Th n Q x e s = Q x e s := by cases x <;> first | rfl | exact absurd rfl h
theorem W_seq {a b : Code} : W P base (.seq a b) e s Q ↔ W P base a e s (Th (fun e s => W P base b e s Q) Q) := by
  constructor
  · rintro ⟨x, e', s', h, q⟩
    cases h with
    | seq h1 h2 => exact ⟨_, _, _, h1, _, _, _, h2, q⟩
    | seq_out h1 hx => exact ⟨_, _, _, h1, by rw [Th_ne hx]; exact q⟩
  · rintro ⟨x, e', s', h, q⟩
    cases x with
    | normal => obtain ⟨x2, e2, s2, h2, q2⟩ := q; exact ⟨_, _, _, .seq h h2, q2⟩
    | exit i => exact ⟨_, _, _, .seq_out h (by simp), q⟩
    | goto i => exact ⟨_, _, _, .seq_out h (by simp), q⟩
    | ret => exact ⟨_, _, _, .seq_out h (by simp), q⟩
    | panic c => exact ⟨_, _, _, .seq_out h (by simp), q⟩
    | outgrown => exact ⟨_, _, _, .seq_out h (by simp), q⟩
theorem W_loop {a : Code} : W P base (.loop a) e s Q ↔ W P base a e s (Th (fun e s => W P base (.loop a) e s Q) Q) := by
  constructor
  · rintro ⟨x, e', s', h, q⟩
    cases h with
    | loop h1 h2 => exact ⟨_, _, _, h1, _, _, _, h2, q⟩
    | loop_out h1 hx => exact ⟨_, _, _, h1, by rw [Th_ne hx]; exact q⟩
  · rintro ⟨x, e', s', h, q⟩
    cases x with
    | normal => obtain ⟨x2, e2, s2, h2, q2⟩ := q; exact ⟨_, _, _, .loop h h2, q2⟩
    | exit i => exact ⟨_, _, _, .loop_out h (by simp), q⟩
    | goto i => exact ⟨_, _, _, .loop_out h (by simp), q⟩
    | ret => exact ⟨_, _, _, .loop_out h (by simp), q⟩
    | panic c => exact ⟨_, _, _, .loop_out h (by simp), q⟩
    | outgrown => exact ⟨_, _, _, .loop_out h (by simp), q⟩
theorem W_block {i : Nat} {a : Code} : W P base (.block i a) e s Q ↔ W P base a e s (Bk i Q) := by
  constructor
  · rintro ⟨x, e', s', h, q⟩
    cases h with
    | block h hx => exact ⟨_, _, _, h, by cases x <;> first | exact q | (rename_i j; have : j ≠ i := fun hj => hx (by rw [hj]); simp only [Bk, if_neg this]; exact q)⟩
    | block_out h => exact ⟨_, _, _, h, by simp only [Bk, if_true]; exact q⟩
  · rintro ⟨x, e', s', h, q⟩
    cases x with
    | exit j =>
      by_cases hj : j = i
      · subst hj; simp only [Bk, if_true] at q; exact ⟨_, _, _, .block_out h, q⟩
      · simp only [Bk, if_neg hj] at q; exact ⟨_, _, _, .block h (by simp [hj]), q⟩
    | normal => exact ⟨_, _, _, .block h (by simp), q⟩
    | goto i => exact ⟨_, _, _, .block h (by simp), q⟩
    | ret => exact ⟨_, _, _, .block h (by simp), q⟩
    | panic c => exact ⟨_, _, _, .block h (by simp), q⟩
    | outgrown => exact ⟨_, _, _, .block h (by simp), q⟩
def Sc (Q : Exit → Env → St → Prop) : Exit → Env → St → Prop
  | .normal, e, s => Q .normal e s
  | .ret, e, s => Q .ret e s
  | .exit i, e, s => Q (.exit i) e s
  | _, _, _ => False
theorem Sc_normal (Q : Exit → Env → St → Prop) (e : Env) (s : St) : Sc Q .normal e s = Q .normal e s := rfl
theorem Sc_ret (Q : Exit → Env → St → Prop) (e : Env) (s : St) : Sc Q .ret e s = Q .ret e s := rfl
theorem Sc_exit (Q : Exit → Env → St → Prop) (i : Nat) (e : Env) (s : St) : Sc Q (.exit i) e s = Q (.exit i) e s := rfl
theorem W_scope {a : Code} : W P base (.scope a) e s Q ↔ W P base a e s (Sc Q) := by
  constructor
  · rintro ⟨x, e', s', h, q⟩
    cases h with
    | scope h hx => exact ⟨_, _, _, h, by rcases hx with rfl | rfl | ⟨i, rfl⟩ <;> exact q⟩
  · rintro ⟨x, e', s', h, q⟩
    cases x with
    | normal => exact ⟨_, _, _, .scope h (.inl rfl), q⟩
    | ret => exact ⟨_, _, _, .scope h (.inr (.inl rfl)), q⟩
    | exit i => exact ⟨_, _, _, .scope h (.inr (.inr ⟨i, rfl⟩)), q⟩
    | _ => exact q.elim
theorem W_cond {c : Operand} {a b : Code} : W P base (.cond c a b) e s Q ↔ Wif (ev e c) (W P base a e s Q) (W P base b e s Q) := by
  constructor
  · rintro ⟨x, e', s', h, q⟩
    cases h with
    | cond t hc h => rw [hc]; cases t <;> exact ⟨_, _, _, h, q⟩
  · intro h
    cases hv : ev e c with
    | bool t =>
      rw [hv] at h
      cases t
      · obtain ⟨x, e', s', h, q⟩ := (show W P base b e s Q from h); exact ⟨_, _, _, .cond false hv (by simpa using h), q⟩
      · obtain ⟨x, e', s', h, q⟩ := (show W P base a e s Q from h); exact ⟨_, _, _, .cond true hv (by simpa using h), q⟩
    | _ => rw [hv] at h; exact h.elim
theorem W_region {i : Nat} {ops : Array Oper} : W P base (.region i ops false) e s Q ↔ WO P base ops none 0 ops.toList e s (fun e s => Q .normal e s) := by
  constructor
  · rintro ⟨x, e', s', h, q⟩
    cases h with
    | region h => exact ⟨_, _, h, q⟩
  · rintro ⟨e', s', h, q⟩; exact ⟨_, _, _, .region h, q⟩
theorem W_draw {i : Nat} {ops : Array Oper} (eff lite kp : Nat → Bool) (hd : drawOk ops eff lite = true) (he : edgesOk ops = true)
    (h : WO P base ops (some ⟨eff, lite, kp, s.next⟩) 0 ops.toList e s (fun e s => Q .normal e s)) : W P base (.region i ops true) e s Q := by
  obtain ⟨e', s', h, q⟩ := h; exact ⟨_, _, _, .region_draw eff lite kp hd he h, q⟩

/-! ### Calls -/
def Rt (P : Program) (base : Nat) (fn : Func) (R : Value → St → Prop) : Exit → Env → St → Prop
  | .normal, e, s | .ret, e, s => Qv (resultsV P base fn e s) (fun v => R v s)
  | _, _, _ => False
theorem WC_open {f : FuncId} {fn : Func} {c : Code} {a : List Value} {R : Value → St → Prop} (hf : P.funcs[f]? = some fn) (hb : fn.body = some c)
    (h : W P base c (env0 a) s (Rt P base fn R)) : WC P base f a s R := by
  obtain ⟨x, e', s', h, q⟩ := h
  have key : x = .normal ∨ x = .ret → Qv (resultsV P base fn e' s') (fun v => R v s') → WC P base f a s R := fun hx hq => by
    cases hr : resultsV P base fn e' s' with
    | none => rw [hr] at hq; exact hq.elim
    | some v => rw [hr] at hq; exact ⟨v, s', .call hf hb h hx hr, hq⟩
  cases x with
  | normal => exact key (.inl rfl) q
  | ret => exact key (.inr rfl) q
  | _ => exact q.elim
theorem WF_func {f : FuncId} {a : List Value} {R : Value → St → Prop} : WF P base (.func f) a s R ↔ WC P base f a s R := by
  constructor
  · rintro ⟨v, s', h, q⟩; cases h with | func h => exact ⟨v, s', h, q⟩
  · rintro ⟨v, s', h, q⟩; exact ⟨v, s', .func h, q⟩

/-! ### Operations -/
variable {all : Array Oper} {D : Option Drw} {k : Nat} {l : List Oper} {K : Env → St → Prop} {dst : Option Tmp} {ty : TypeId} {pos : String} {af : Array Edge}

theorem WO_nil : WO P base all D k [] e s K ↔ K e s := by
  constructor
  · rintro ⟨e', s', h, q⟩; cases h; exact q
  · exact fun h => ⟨_, _, .ops_nil, h⟩
theorem WO_guard {o : Op} {j : Nat} {w : Bool} : WO P base all D k (⟨dst, o, ty, pos, af, some (j, w)⟩ :: l) e s K ↔
    Gif (guardV all e j) w (WO P base all D k (⟨dst, o, ty, pos, af, none⟩ :: l) e s K) (WO P base all D (k + 1) l (put e dst undef) s K) := by
  constructor
  · rintro ⟨e', s', h, q⟩
    cases h with
    | ops_not hg hb hw h => simp only [Option.some.injEq, Prod.mk.injEq] at hg; obtain ⟨rfl, rfl⟩ := hg; rw [hb]; simp only [Gif, if_neg hw]; exact ⟨_, _, h, q⟩
    | ops_plain hg hc hv hD hL h => rw [hg j w rfl]; simp only [Gif, if_true]; exact ⟨_, _, .ops_plain (fun _ _ h => by cases h) hc hv hD hL h, q⟩
    | ops_call hg ho hb hcal hc hD h => rw [hg j w rfl]; simp only [Gif, if_true]; exact ⟨_, _, .ops_call (fun _ _ h => by cases h) ho hb hcal hc hD h, q⟩
  · intro h
    cases hb : guardV all e j with
    | none => rw [hb] at h; exact h.elim
    | some b =>
      rw [hb] at h
      by_cases hw : b = some w
      · subst hw
        simp only [Gif, if_true] at h
        obtain ⟨e', s', h, q⟩ := h
        have hg' : ∀ j' w', some (j, w) = some (j', w') → guardV all e j' = some (some w') := fun j' w' h => by
          simp only [Option.some.injEq, Prod.mk.injEq] at h; obtain ⟨rfl, rfl⟩ := h; exact hb
        cases h with
        | ops_not hg => cases hg
        | ops_plain hg hc hv hD hL h => exact ⟨_, _, .ops_plain hg' hc hv hD hL h, q⟩
        | ops_call hg ho hbb hcal hc hD h => exact ⟨_, _, .ops_call hg' ho hbb hcal hc hD h, q⟩
      · simp only [Gif, if_neg hw] at h
        obtain ⟨e', s', h, q⟩ := h
        exact ⟨_, _, .ops_not rfl hb hw h, q⟩
theorem WO_plainL {o : Op} (hc : isCall o = false) : WO P base all D k (⟨dst, o, ty, pos, af, none⟩ :: l) e s K ↔
    Q2 (pop P base (ev e) s o) (fun v s1 => (Dok D k s s1 ∧ Lok D k (ev e) o) ∧ WO P base all D (k + 1) l (put e dst v) s1 K) := by
  constructor
  · rintro ⟨e', s', h, q⟩
    cases h with
    | ops_not hg => cases hg
    | ops_plain hg hc hv hD hL h => rw [hv]; exact ⟨⟨hD, hL⟩, _, _, h, q⟩
    | ops_call hg ho hb => simp only at ho; subst ho; simp [isCall, hb] at hc
  · intro h
    cases hv : pop P base (ev e) s o with
    | none => rw [hv] at h; exact h.elim
    | some vs =>
      obtain ⟨v, s1⟩ := vs
      rw [hv] at h
      obtain ⟨⟨hD, hL⟩, e', s', h, q⟩ := h
      exact ⟨_, _, .ops_plain (fun _ _ h => by cases h) hc hv hD hL h, q⟩
theorem Lok_not {D : Option Drw} {k : Nat} {ρ : Operand → Value} {o : Op} (h : isLoad o = false) : Lok D k ρ o := by cases o <;> first | trivial | cases h
theorem Lok_none {k : Nat} {ρ : Operand → Value} {o : Op} : Lok none k ρ o = True := by cases o <;> rfl
theorem WO_plain {o : Op} (hc : isCall o = false) (hl : isLoad o = false) : WO P base all D k (⟨dst, o, ty, pos, af, none⟩ :: l) e s K ↔
    Q2 (pop P base (ev e) s o) (fun v s1 => Dok D k s s1 ∧ WO P base all D (k + 1) l (put e dst v) s1 K) := by
  rw [WO_plainL hc]
  cases pop P base (ev e) s o with
  | none => exact Iff.rfl
  | some vs => exact ⟨fun h => ⟨h.1.1, h.2⟩, fun h => ⟨⟨h.1, Lok_not hl⟩, h.2⟩⟩
theorem WO_call {c : Call} (hb : Callee.isB c.callee = false) : WO P base all D k (⟨dst, .call c, ty, pos, af, none⟩ :: l) e s K ↔
    Qc (calleeV (ev e) c) (fun fn args => WF P base fn args s (fun v s1 => Dok D k s s1 ∧ WO P base all D (k + 1) l (put e dst v) s1 K)) := by
  constructor
  · rintro ⟨e', s', h, q⟩
    cases h with
    | ops_not hg => cases hg
    | ops_plain hg hc hv hD hL h => simp [isCall, hb] at hc
    | ops_call hg ho hbb hcal hc hD h => simp only [Op.call.injEq] at ho; subst ho; rw [hcal]; exact ⟨_, _, hc, hD, _, _, h, q⟩
  · intro h
    cases hv : calleeV (ev e) c with
    | none => rw [hv] at h; exact h.elim
    | some vs =>
      obtain ⟨fn, args⟩ := vs
      rw [hv] at h
      obtain ⟨v, s1, hc, hD, e', s', h, q⟩ := h
      exact ⟨_, _, .ops_call (fun _ _ h => by cases h) rfl hb hv hc hD h, q⟩

theorem Mild.refl (s : St) : Mild s s := ⟨Nat.le_refl _, fun _ _ => rfl⟩
theorem Mild.trans {s s1 s2 : St} (h : Mild s s1) (h' : Mild s1 s2) : Mild s s2 := ⟨Nat.le_trans h.next h'.next, fun b hb => (h'.heap b (Nat.lt_of_lt_of_le hb h.next)).trans (h.heap b hb)⟩
theorem Mild.alloc (s : St) (o : AObj) : Mild s (s.alloc o) := ⟨Nat.le_succ _, fun b hb => by simp only [St.alloc]; rw [if_neg (by omega)]⟩
theorem Dok_none (k : Nat) (s s' : St) : Dok none k s s' = True := rfl
theorem Dok_same (D : Option Drw) (k : Nat) (s : St) : Dok D k s s = True := by cases D <;> simp [Dok, Mild.refl]
theorem Dok_alloc (D : Option Drw) (k : Nat) (s : St) (o : AObj) : Dok D k s (s.alloc o) = True := by cases D <;> simp [Dok, Mild.alloc]
theorem Dok_mild {D : Option Drw} {k : Nat} {s s' : St} (h : Mild s s') : Dok D k s s' := by cases D <;> simp [Dok, h]

theorem WO_move {x : Operand} : WO P base all D k (⟨dst, .move x, ty, pos, af, none⟩ :: l) e s K ↔ WO P base all D (k + 1) l (put e dst (ev e x)) s K := by
  rw [WO_plain rfl rfl]; simp only [pop, Q2, Dok_same, true_and]
theorem WO_assign {x : Operand} : WO P base all D k (⟨dst, .assign x, ty, pos, af, none⟩ :: l) e s K ↔ WO P base all D (k + 1) l (put e dst (ev e x)) s K := by
  rw [WO_plain rfl rfl]; simp only [pop, Q2, Dok_same, true_and]
theorem WO_ret1 {o : Op} {v : Option Value} (hc : isCall o = false) (hl : isLoad o = false) (hp : pop P base (ev e) s o = ret1 v s) :
    WO P base all D k (⟨dst, o, ty, pos, af, none⟩ :: l) e s K ↔ Qv v (fun v => WO P base all D (k + 1) l (put e dst v) s K) := by
  rw [WO_plain hc hl, hp]; cases v <;> simp only [ret1, Q2, Qv, Dok_same, true_and]
theorem WO_pick {c a b : Operand} : WO P base all D k (⟨dst, .pick c a b, ty, pos, af, none⟩ :: l) e s K ↔ Qv (pickV (ev e c) (ev e a) (ev e b)) (fun v => WO P base all D (k + 1) l (put e dst v) s K) :=
  WO_ret1 rfl rfl rfl
theorem WO_build {t : TypeId} {ps : Array (Nat × Operand)} : WO P base all D k (⟨dst, .build t ps, ty, pos, af, none⟩ :: l) e s K ↔
    Qv (buildV P t (ps.toList.map fun p => (p.1, ev e p.2))) (fun v => WO P base all D (k + 1) l (put e dst v) s K) := WO_ret1 rfl rfl rfl
theorem WO_load {t : TypeId} {a : Operand} : WO P base all D k (⟨dst, .load t a, ty, pos, af, none⟩ :: l) e s K ↔
    Qv (loadV P base s t (ev e a)) (fun v => Lok D k (ev e) (.load t a) ∧ WO P base all D (k + 1) l (put e dst v) s K) := by
  rw [WO_plainL rfl]
  simp only [pop]
  cases loadV P base s t (ev e a) <;> simp only [ret1, Q2, Qv, Dok_same, true_and]
theorem WO_binOp {op : BinOp} {t u : TypeId} {x y : Operand} : WO P base all D k (⟨dst, .binOp op t x y u, ty, pos, af, none⟩ :: l) e s K ↔
    Qv (binV P op t (ev e x) (ev e y)) (fun v => WO P base all D (k + 1) l (put e dst v) s K) := WO_ret1 rfl rfl rfl
theorem WO_unOp {op : UnOp} {t : TypeId} {x : Operand} : WO P base all D k (⟨dst, .unOp op t x, ty, pos, af, none⟩ :: l) e s K ↔
    Qv (unV op (ev e x)) (fun v => WO P base all D (k + 1) l (put e dst v) s K) := WO_ret1 rfl rfl rfl
theorem WO_slice {t : TypeId} {x : Operand} {lo hi mx : Option Operand} : WO P base all D k (⟨dst, .slice t x lo hi mx, ty, pos, af, none⟩ :: l) e s K ↔
    Qv (sliceV P s t (ev e x) (lo.map (ev e)) (hi.map (ev e)) (mx.map (ev e))) (fun v => WO P base all D (k + 1) l (put e dst v) s K) := WO_ret1 rfl rfl rfl
theorem WO_fieldAddr {t : TypeId} {x : Operand} {f : Nat} : WO P base all D k (⟨dst, .fieldAddr t x f, ty, pos, af, none⟩ :: l) e s K ↔
    Qv (fieldAddrV P t (ev e x) f) (fun v => WO P base all D (k + 1) l (put e dst v) s K) :=
  WO_ret1 rfl rfl rfl
theorem WO_field {t : TypeId} {x : Operand} {f : Nat} : WO P base all D k (⟨dst, .field t x f, ty, pos, af, none⟩ :: l) e s K ↔
    Qv (fieldV P t (ev e x) f) (fun v => WO P base all D (k + 1) l (put e dst v) s K) :=
  WO_ret1 rfl rfl rfl
theorem WO_indexAddr {t : TypeId} {x i : Operand} : WO P base all D k (⟨dst, .indexAddr t x i, ty, pos, af, none⟩ :: l) e s K ↔
    Qv (indexAddrV P t (ev e x) (ev e i)) (fun v => WO P base all D (k + 1) l (put e dst v) s K) :=
  WO_ret1 rfl rfl rfl
theorem WO_index {t : TypeId} {x i : Operand} : WO P base all D k (⟨dst, .index t x i, ty, pos, af, none⟩ :: l) e s K ↔
    Qv (indexV P t (ev e x) (ev e i)) (fun v => WO P base all D (k + 1) l (put e dst v) s K) :=
  WO_ret1 rfl rfl rfl
theorem WO_extract {x : Operand} {i : Nat} : WO P base all D k (⟨dst, .extract x i, ty, pos, af, none⟩ :: l) e s K ↔
    Qv (extractV (ev e x) i) (fun v => WO P base all D (k + 1) l (put e dst v) s K) :=
  WO_ret1 rfl rfl rfl
theorem WO_nilCheck {x : Operand} : WO P base all D k (⟨dst, .nilCheck x, ty, pos, af, none⟩ :: l) e s K ↔
    Qv (nilCheckV (ev e x)) (fun v => WO P base all D (k + 1) l (put e dst v) s K) :=
  WO_ret1 rfl rfl rfl
theorem WO_makeFunc {fn : Fn} {fi ca : Array Operand} : WO P base all D k (⟨dst, .makeFunc fn fi ca, ty, pos, af, none⟩ :: l) e s K ↔
    Qv (mkFuncV fn (fi.map (ev e)) (ca.map (ev e))) (fun v => WO P base all D (k + 1) l (put e dst v) s K) := WO_ret1 rfl rfl rfl
theorem WO_alloc {t : TypeId} : WO P base all D k (⟨dst, .alloc t, ty, pos, af, none⟩ :: l) e s K ↔
    Q2 (match zerT P t with | some z => some (.pointer (some ⟨s.next, 0, none⟩), s.alloc (.row z)) | none => none) (fun v s1 => WO P base all D (k + 1) l (put e dst v) s1 K) := by
  rw [WO_plain rfl rfl]; simp only [pop]; cases zerT P t <;> simp only [Q2, Dok_alloc, true_and]
theorem WO_box {t : TypeId} {x : Operand} : WO P base all D k (⟨dst, .box t x, ty, pos, af, none⟩ :: l) e s K ↔
    (isTup (ev e x) = false ∧ WO P base all D (k + 1) l (put e dst (.pointer (some ⟨s.next, 0, none⟩))) (s.alloc (.row (ev e x).cells.toList)) K) := by
  rw [WO_plain rfl rfl]; simp only [pop, Q2_ite, Q2_some, Dok_alloc, true_and]
theorem buildSliceV_mild {t : TypeId} {n : Nat} {ps : List (Nat × Value)} {v : Value} {s1 : St} (h : buildSliceV P s t n ps = some (v, s1)) : Mild s s1 := by
  simp only [buildSliceV] at h
  repeat' (split at h <;> try cases h)
  exact Mild.alloc _ _
theorem makeV_mild {t : TypeId} {x y v : Value} {s1 : St} (h : makeV P s t x y = some (v, s1)) : Mild s s1 := by
  simp only [makeV] at h
  repeat' (split at h <;> try cases h)
  exact Mild.alloc _ _
theorem WO_mild {o : Op} {p : Option (Value × St)} (hc : isCall o = false) (hl : isLoad o = false) (hp : pop P base (ev e) s o = p) (hm : ∀ v s1, p = some (v, s1) → Mild s s1) :
    WO P base all D k (⟨dst, o, ty, pos, af, none⟩ :: l) e s K ↔ Q2 p (fun v s1 => WO P base all D (k + 1) l (put e dst v) s1 K) := by
  rw [WO_plain hc hl, hp]
  cases hp2 : p with
  | none => simp only [Q2]
  | some vs => obtain ⟨v, s1⟩ := vs; simp only [Q2]; exact ⟨fun h => h.2, fun h => ⟨Dok_mild (hm v s1 hp2), h⟩⟩
theorem WO_buildSlice {t : TypeId} {n : Nat} {ps : Array (Nat × Operand)} : WO P base all D k (⟨dst, .buildSlice t n ps, ty, pos, af, none⟩ :: l) e s K ↔
    Q2 (buildSliceV P s t n (ps.toList.map fun p => (p.1, ev e p.2))) (fun v s1 => WO P base all D (k + 1) l (put e dst v) s1 K) :=
  WO_mild rfl rfl rfl fun _ _ h => buildSliceV_mild h
theorem WO_makeSlice {t : TypeId} {x y : Operand} : WO P base all D k (⟨dst, .makeSlice t x y, ty, pos, af, none⟩ :: l) e s K ↔
    Q2 (makeV P s t (ev e x) (ev e y)) (fun v s1 => WO P base all D (k + 1) l (put e dst v) s1 K) :=
  WO_mild rfl rfl rfl fun _ _ h => makeV_mild h
theorem convV_mild {t u : TypeId} {x v : Value} {s1 : St} (h : convV P base s t u x = some (v, s1)) : Mild s s1 := by
  simp only [convV] at h
  repeat' (split at h <;> try cases h)
  all_goals exact Mild.refl _
theorem rangeV_mild {t : TypeId} {x v : Value} {s1 : St} (h : rangeV P s t x = some (v, s1)) : Mild s s1 := by
  unfold rangeV at h
  repeat' (split at h <;> try cases h)
  exact Mild.alloc _ _
theorem WO_range {t : TypeId} {x : Operand} : WO P base all D k (⟨dst, .range t x, ty, pos, af, none⟩ :: l) e s K ↔
    Q2 (rangeV P s t (ev e x)) (fun v s1 => WO P base all D (k + 1) l (put e dst v) s1 K) :=
  WO_mild rfl rfl rfl fun _ _ h => rangeV_mild h
theorem WO_next {x : Operand} {b : Bool} : WO P base all D k (⟨dst, .next x b, ty, pos, af, none⟩ :: l) e s K ↔
    Q2 (nextV base s (ev e x) b) (fun v s1 => Dok D k s s1 ∧ WO P base all D (k + 1) l (put e dst v) s1 K) := WO_plain rfl rfl
theorem WO_convert {t u : TypeId} {x : Operand} : WO P base all D k (⟨dst, .convert t u x, ty, pos, af, none⟩ :: l) e s K ↔
    Q2 (convV P base s t u (ev e x)) (fun v s1 => WO P base all D (k + 1) l (put e dst v) s1 K) :=
  WO_mild rfl rfl rfl fun _ _ h => convV_mild h
theorem WO_store {t : TypeId} {a x : Operand} : WO P base all D k (⟨dst, .store t a x, ty, pos, af, none⟩ :: l) e s K ↔
    Q2 (match ptrV (ev e a) with | some a => ret0 (stVar P base s t a (ev e x)) | none => none) (fun v s1 => Dok D k s s1 ∧ WO P base all D (k + 1) l (put e dst v) s1 K) := WO_plain rfl rfl
theorem WO_builtin {b : Builtin} {as : Array Operand} {ts : Array TypeId} : WO P base all D k (⟨dst, .call ⟨.builtin b, as, ts⟩, ty, pos, af, none⟩ :: l) e s K ↔
    Q2 (builtinV P base s b ts.toList (as.toList.map (ev e))) (fun v s1 => Dok D k s s1 ∧ WO P base all D (k + 1) l (put e dst v) s1 K) := WO_plain rfl rfl
theorem WO_callv {f : Operand} {as : Array Operand} {ts : Array TypeId} : WO P base all D k (⟨dst, .call ⟨.value f, as, ts⟩, ty, pos, af, none⟩ :: l) e s K ↔
    Qc (calleeV (ev e) ⟨.value f, as, ts⟩) (fun fn args => WF P base fn args s (fun v s1 => Dok D k s s1 ∧ WO P base all D (k + 1) l (put e dst v) s1 K)) := WO_call rfl
end
end Go.Ab
namespace Go.Ab
open Go
def boolV? : Value → Option (Option Bool)
  | .bool b => some (some b)
  | _ => some none
theorem boolV_bool (b : Bool) : boolV? (.bool b) = some (some b) := rfl
theorem boolV_undef : boolV? undef = some none := rfl
theorem WO_guardL {P : Program} {base : Nat} {e : Env} {s : St} {l0 : List Oper} {D : Option Drw} {k : Nat} {l : List Oper} {K : Env → St → Prop} {dst : Option Tmp} {ty : TypeId} {pos : String} {af : Array Edge} {o : Op} {j : Nat} {w : Bool} :
    WO P base l0.toArray D k (⟨dst, o, ty, pos, af, some (j, w)⟩ :: l) e s K ↔
    Gif (match l0[j]? with | some o => (match o.dst with | some t => boolV? (e t) | none => none) | none => none) w
      (WO P base l0.toArray D k (⟨dst, o, ty, pos, af, none⟩ :: l) e s K) (WO P base l0.toArray D (k + 1) l (put e dst undef) s K) := by
  rw [WO_guard]
  have : guardV l0.toArray e j = (match l0[j]? with | some o => (match o.dst with | some t => boolV? (e t) | none => none) | none => none) := by
    simp only [guardV, List.getElem?_toArray]
    cases l0[j]? with
    | none => rfl
    | some o => simp only [Option.bind_some]; rfl
  rw [this]

/-! ### The heap, read -/
theorem heap_alloc_ne (s : St) (o : AObj) {b : Nat} (h : b ≠ s.next) : (s.alloc o).heap b = s.heap b := by simp only [St.alloc]; rw [if_neg h]
theorem heap_alloc_new (s : St) (o : AObj) : (s.alloc o).heap s.next = o := by simp [St.alloc]
theorem heap_alloc_lt (s : St) (o : AObj) {b : Nat} (h : b < s.next) : (s.alloc o).heap b = s.heap b := heap_alloc_ne s o (by omega)
theorem next_alloc (s : St) (o : AObj) : (s.alloc o).next = s.next + 1 := rfl
theorem heap_upd_same (s : St) (b : Nat) (o : AObj) : (s.upd b o).heap b = o := by simp [St.upd]
theorem heap_upd_ne (s : St) {b b' : Nat} (o : AObj) (h : b' ≠ b) : (s.upd b o).heap b' = s.heap b' := by simp only [St.upd]; rw [if_neg h]
theorem next_upd (s : St) (b : Nat) (o : AObj) : (s.upd b o).next = s.next := rfl
theorem add_lit (b o n : Nat) : (⟨b, o, none⟩ : Addr).add n = ⟨b, o + n, none⟩ := by
  unfold Addr.add; split
  · rename_i h; subst h; rfl
  · rfl

end Go.Ab
/- The simulation: how values, heaps and frames of the abstract machine stand for the model's. -/
set_option linter.unusedVariables false
namespace Go.Ab
open Go Go.RowKit

theorem Mle.refl (M : Mp) : Mle M M := ⟨fun _ _ h => h, fun _ _ _ => rfl, fun _ _ _ => rfl⟩
theorem Mle.trans {M M' M'' : Mp} (h : Mle M M') (k : Mle M' M'') : Mle M M'' :=
  ⟨fun b x e => k.blk b x (h.blk b x e), fun b x e => (k.gr b x (h.blk b x e)).trans (h.gr b x e), fun b x e => (k.sz b x (h.blk b x e)).trans (h.sz b x e)⟩
theorem AR.mono {M M' : Mp} (hm : Mle M M') {a a' : Addr} (h : AR M a a') : AR M' a a' := by
  obtain ⟨B, d, h, e⟩ := h; exact ⟨B, d, hm.blk _ _ h, e⟩
theorem FR.mono {M M' : Mp} (hm : Mle M M') {a a' : Fn} (h : FR M a a') : FR M' a a' := by
  cases h with
  | yield h => exact .yield (hm.blk _ _ h)
  | other h => exact .other h
theorem VR.mono {M M' : Mp} (hm : Mle M M') {v v' : Value} (h : VR M v v') : VR M' v v' := by
  induction h with
  | bool => exact .bool _
  | int => exact .int _ _
  | float => exact .float _ _
  | complex => exact .complex _ _ _
  | str => exact .str _
  | ptrN => exact .ptrN
  | ptr h => exact .ptr (h.mono hm)
  | sliN => exact .sliN _ _
  | sli0 _ _ h => exact .sli0 _ _ (hm.blk _ _ h)
  | @sli a a' len cap cap' h hx =>
    have h' := h
    obtain ⟨B, d, hb, rfl⟩ := h'
    have hgr := hm.gr _ _ hb
    have hsz := hm.sz _ _ hb
    refine .sli (h.mono hm) ?_
    rcases hx with hx | ⟨z, h1, h2, h3⟩
    · exact .inl hx
    · exact .inr ⟨z, by rw [hgr]; exact h1, h2, by simp only at hsz h3 ⊢; rw [hsz]; exact h3⟩
  | mapN => exact .mapN
  | map h => exact .map (hm.blk _ _ h)
  | chanN => exact .chanN
  | funcN => exact .funcN
  | ifaceN => exact .ifaceN
  | func h s1 _ s2 _ ih1 ih2 => exact .func (h.mono hm) s1 ih1 s2 ih2
  | iface t _ ih => exact .iface t ih
  | agg s _ o ih => exact .agg s ih o
  | tuple s _ ih => exact .tuple s ih

theorem VR.oneB {M : Mp} {v v' : Value} (h : VR M v v') : oneB v' = oneB v := by cases h <;> rfl
theorem oneB_eq (v : Value) : v.oneCell' = oneB v := by cases v <;> rfl
theorem VR.isTup {M : Mp} {v v' : Value} (h : VR M v v') : isTup v' = isTup v := by cases h <;> rfl

theorem LR.nil (M : Mp) : LR M [] [] := ⟨rfl, fun i v v' h => by simp at h⟩
theorem LR.cons {M : Mp} {v v' : Value} {l l' : List Value} (h : VR M v v') (hl : LR M l l') : LR M (v :: l) (v' :: l') :=
  ⟨by simp [hl.1], fun i u u' h1 h2 => by
    cases i with
    | zero => simp at h1 h2; subst h1; subst h2; exact h
    | succ i => exact hl.2 i u u' (by simpa using h1) (by simpa using h2)⟩
theorem LR.head {M : Mp} {v v' : Value} {l l' : List Value} (h : LR M (v :: l) (v' :: l')) : VR M v v' := h.2 0 v v' rfl rfl
theorem LR.tail {M : Mp} {v v' : Value} {l l' : List Value} (h : LR M (v :: l) (v' :: l')) : LR M l l' :=
  ⟨by simpa using h.1, fun i u u' h1 h2 => h.2 (i + 1) u u' (by simpa using h1) (by simpa using h2)⟩
theorem LR.inv_nil {M : Mp} {l' : List Value} (h : LR M [] l') : l' = [] := List.eq_nil_of_length_eq_zero (by simpa using h.1.symm)
theorem LR.inv_cons {M : Mp} {v : Value} {l l' : List Value} (h : LR M (v :: l) l') : ∃ v' r, l' = v' :: r ∧ VR M v v' ∧ LR M l r := by
  cases l' with
  | nil => simp [LR] at h
  | cons v' r => exact ⟨v', r, rfl, h.head, h.tail⟩
theorem LR.append {M : Mp} {a a' b b' : List Value} (h : LR M a a') (k : LR M b b') : LR M (a ++ b) (a' ++ b') := by
  induction a generalizing a' with
  | nil => rw [h.inv_nil]; exact k
  | cons v l ih => obtain ⟨v', r, rfl, hv, hl⟩ := h.inv_cons; exact .cons hv (ih hl)
theorem LR.mono {M M' : Mp} (hm : Mle M M') {l l' : List Value} (h : LR M l l') : LR M' l l' := ⟨h.1, fun i v v' a b => (h.2 i v v' a b).mono hm⟩
theorem LR.at {M : Mp} {l l' : List Value} (h : LR M l l') {i : Nat} {v : Value} (hv : l[i]? = some v) : ∃ v', l'[i]? = some v' ∧ VR M v v' := by
  have hi : i < l.length := (List.getElem?_eq_some_iff.1 hv).1
  have : i < l'.length := by rw [← h.1]; exact hi
  exact ⟨l'[i], List.getElem?_eq_getElem this, h.2 i v _ hv (List.getElem?_eq_getElem this)⟩
theorem LR.map {M : Mp} {α : Type} {f g : α → Value} {l : List α} (h : ∀ x ∈ l, VR M (f x) (g x)) : LR M (l.map f) (l.map g) := by
  induction l with
  | nil => exact .nil M
  | cons x l ih => exact .cons (h x (by simp)) (ih fun y hy => h y (by simp [hy]))
theorem LR.agg {M : Mp} {c c' : Array Value} (h : LR M c.toList c'.toList) (o : ∀ v ∈ c.toList, oneB v = true) : VR M (.agg c) (.agg c') :=
  .agg (by simpa using h.1) (fun i v v' a b => h.2 i v v' (by simpa using a) (by simpa using b)) (fun i v hv => o v (by have := Array.mem_of_getElem? hv; simpa using this))
theorem LR.tuple {M : Mp} {c c' : Array Value} (h : LR M c.toList c'.toList) : VR M (.tuple c) (.tuple c') :=
  .tuple (by simpa using h.1) (fun i v v' a b => h.2 i v v' (by simpa using a) (by simpa using b))
theorem LR.ofArr {M : Mp} {c c' : Array Value} (s : c.size = c'.size) (h : ∀ (i : Nat) v v', c[i]? = some v → c'[i]? = some v' → VR M v v') : LR M c.toList c'.toList :=
  ⟨by simpa using s, fun i v v' a b => h i v v' (by simpa using a) (by simpa using b)⟩

/-- A value as cells. -/
theorem VR.cells {M : Mp} {v v' : Value} (h : VR M v v') (ht : Ab.isTup v = false) : LR M v.cells.toList v'.cells.toList ∧ ∀ u ∈ v.cells.toList, Ab.oneB u = true := by
  cases h with
  | agg s h o => exact ⟨LR.ofArr s h, fun u hu => by
      obtain ⟨i, hi⟩ := List.mem_iff_getElem?.1 hu
      exact o i u (by simpa [Value.cells] using hi)⟩
  | tuple s h => simp [Ab.isTup] at ht
  | bool b => exact ⟨.cons (.bool b) (.nil M), by simp [Value.cells, Ab.oneB]⟩
  | int k n => exact ⟨.cons (.int k n) (.nil M), by simp [Value.cells, Ab.oneB]⟩
  | float k n => exact ⟨.cons (.float k n) (.nil M), by simp [Value.cells, Ab.oneB]⟩
  | complex k x y => exact ⟨.cons (.complex k x y) (.nil M), by simp [Value.cells, Ab.oneB]⟩
  | str s => exact ⟨.cons (.str s) (.nil M), by simp [Value.cells, Ab.oneB]⟩
  | ptrN => exact ⟨.cons .ptrN (.nil M), by simp [Value.cells, Ab.oneB]⟩
  | ptr h => exact ⟨.cons (.ptr h) (.nil M), by simp [Value.cells, Ab.oneB]⟩
  | sliN l c => exact ⟨.cons (.sliN l c) (.nil M), by simp [Value.cells, Ab.oneB]⟩
  | sli0 a a' h => exact ⟨.cons (.sli0 a a' h) (.nil M), by simp [Value.cells, Ab.oneB]⟩
  | sli h hx => exact ⟨.cons (.sli h hx) (.nil M), by simp [Value.cells, Ab.oneB]⟩
  | mapN => exact ⟨.cons .mapN (.nil M), by simp [Value.cells, Ab.oneB]⟩
  | map h => exact ⟨.cons (.map h) (.nil M), by simp [Value.cells, Ab.oneB]⟩
  | chanN => exact ⟨.cons .chanN (.nil M), by simp [Value.cells, Ab.oneB]⟩
  | funcN => exact ⟨.cons .funcN (.nil M), by simp [Value.cells, Ab.oneB]⟩
  | ifaceN => exact ⟨.cons .ifaceN (.nil M), by simp [Value.cells, Ab.oneB]⟩
  | func h s1 h1 s2 h2 => exact ⟨.cons (.func h s1 h1 s2 h2) (.nil M), by simp [Value.cells, Ab.oneB]⟩
  | iface t h => exact ⟨.cons (.iface t h) (.nil M), by simp [Value.cells, Ab.oneB]⟩

/-! ### Heaps -/
theorem Gr.refl (M : Mp) (s : St) (w : World) : Gr M s w M s w := ⟨.refl M, Nat.le_refl _, fun _ _ h _ => h, fun b x h => .inl ⟨b, x, h, rfl⟩, fun b x h g => .inl ⟨b, x, h, g, rfl⟩, fun _ _ _ => rfl, Nat.le_refl _⟩
theorem Gr.trans {M M' M'' : Mp} {s s' s'' : St} {w w' w'' : World} (h : Gr M s w M' s' w') (k : Gr M' s' w' M'' s'' w'') : Gr M s w M'' s'' w'' := by
  refine ⟨h.le.trans k.le, Nat.le_trans h.nxt k.nxt, fun b x hx hb => h.dom b x (k.dom b x hx (Nat.lt_of_lt_of_le hb h.nxt)) hb, fun b x hx => ?_, fun b x hx hg => ?_, fun B hB hn => ?_, Nat.le_trans h.size k.size⟩
  · rcases k.img b x hx with ⟨b', x', h1, h2⟩ | h1
    · rcases h.img b' x' h1 with ⟨b2, x2, h3, h4⟩ | h3
      · exact .inl ⟨b2, x2, h3, h4.trans h2⟩
      · exact .inr (by omega)
    · exact .inr (Nat.le_trans h.size h1)
  · rcases k.live b x hx hg with ⟨b', x', h1, hg', h2⟩ | h1
    · rcases h.live b' x' h1 hg' with ⟨b2, x2, h3, hg2, h4⟩ | h3
      · exact .inl ⟨b2, x2, h3, hg2, h4.trans h2⟩
      · exact .inr (by omega)
    · exact .inr (Nat.le_trans h.size h1)
  · rw [k.fr B (Nat.lt_of_lt_of_le hB h.size) fun b x hx hg => ?_, h.fr B hB hn]
    rcases h.live b x hx hg with ⟨b', x', h1, hg', h2⟩ | h1
    · exact h2 ▸ hn b' x' h1 hg'
    · omega

theorem OR.mono {G0 : Nat} {M M' : Mp} (hm : Mle M M') {b : Nat} {x : Nat × Nat} (hb : M.blk b = some x) {a : AObj} {o : Obj} (h : OR G0 M b x a o) : OR G0 M' b x a o := by
  have row : ∀ c, RowR M x c o → RowR M' x c o := by
    rintro c ⟨C, t, rfl, hs, hc⟩
    exact ⟨C, t, rfl, by rw [hs, hm.sz _ _ hb], fun i v hv => let ⟨h1, v', h2, h3⟩ := hc i v hv; ⟨h1, v', h2, h3.mono hm⟩⟩
  cases a with
  | row c => exact ⟨by rw [hm.gr _ _ hb]; exact h.1, row _ h.2⟩
  | grown c z => exact ⟨by rw [hm.gr _ _ hb]; exact h.1, row _ h.2⟩
  | iter s p => exact h
  | loop r =>
    obtain ⟨h0, R, G, rfl, hR, hG, hz⟩ := h
    exact ⟨h0, R, G, rfl, ⟨fun t ht => (hR.env t ht).mono hm, hR.params, hR.assign, hR.body, hR.state, hR.pending, hR.okA, hR.okB, hR.okP, hR.rfA, hR.rfB⟩, hG, by rw [hz, hm.sz _ _ hb]⟩
  | map _ => exact h.elim
  | gone => trivial
end Go.Ab
/- The simulation: memory. -/
set_option linter.unusedVariables false
namespace Go.Ab
open Go Go.RowKit

theorem getL_some {c l : List Value} {off n : Nat} (h : getL c off n = some l) : off + n ≤ c.length ∧ l = (c.drop off).take n ∧ l.length = n ∧ ∀ i, i < n → l[i]? = c[off + i]? := by
  unfold getL at h
  split at h
  · rename_i hl
    cases h
    refine ⟨hl, rfl, by simp; omega, fun i hi => ?_⟩
    rw [List.getElem?_take_of_lt hi, List.getElem?_drop]
  · cases h
theorem setL_length : ∀ (vs : List Value) (c : List Value) (off : Nat), (setL c off vs).length = c.length
  | [], _, _ => rfl
  | v :: vs, c, off => by simp only [setL]; rw [setL_length vs]; simp
theorem setL_get : ∀ (vs : List Value) (c : List Value) (off i : Nat), off + vs.length ≤ c.length → (setL c off vs)[i]? = if off ≤ i ∧ i < off + vs.length then vs[i - off]? else c[i]?
  | [], c, off, i, _ => by simp only [setL, List.length_nil]; rw [if_neg (by omega)]
  | v :: vs, c, off, i, h => by
    simp only [List.length_cons] at h
    simp only [setL]
    rw [setL_get vs (c.set off v) (off + 1) i (by simp; omega)]
    simp only [List.length_cons]
    by_cases h1 : off + 1 ≤ i ∧ i < off + 1 + vs.length
    · rw [if_pos h1, if_pos (by omega)]
      have : i - off = (i - (off + 1)) + 1 := by omega
      rw [this, List.getElem?_cons_succ]
    · rw [if_neg h1]
      by_cases h2 : i = off
      · subst h2
        rw [if_pos (by omega), List.getElem?_set_self (by omega), Nat.sub_self]; rfl
      · rw [List.getElem?_set_ne (fun h => h2 h.symm), if_neg (by omega)]

section
variable {P : Program} {w0 : World} {M : Mp} {s : St} {w : World}

theorem Sm.size (h : Sm w0 M s w) : w0.heap.size ≤ w.heap.size := h.below.size
theorem oldVR (h : Sm w0 M s w) {v : Value} (hv : oldOk w0.heap.size v = true) : VR M v v ∧ oneB v = true := by
  have ar : ∀ a : Addr, a.block < w0.heap.size → AR M a a := fun a ha => ⟨a.block, 0, (h.old _ ha).1, by simp⟩
  cases v with
  | bool b => exact ⟨.bool b, rfl⟩
  | int k n => exact ⟨.int k n, rfl⟩
  | float k n => exact ⟨.float k n, rfl⟩
  | complex k x y => exact ⟨.complex k x y, rfl⟩
  | string b => exact ⟨.str b, rfl⟩
  | pointer a => cases a with
    | none => exact ⟨.ptrN, rfl⟩
    | some a => exact ⟨.ptr (ar a (by simpa [oldOk, oldA] using hv)), rfl⟩
  | slice a l c => cases a with
    | none => exact ⟨.sliN l c, rfl⟩
    | some a =>
      have ha : a.block < w0.heap.size := by simpa [oldOk, oldA] using hv
      exact ⟨.sli (ar a ha) (.inl rfl), rfl⟩
  | nilFunc => exact ⟨.funcN, rfl⟩
  | nilIface => exact ⟨.ifaceN, rfl⟩
  | map r => cases r with
    | none => exact ⟨.mapN, rfl⟩
    | some _ => cases hv
  | chan r => cases r with
    | none => exact ⟨.chanN, rfl⟩
    | some _ => cases hv
  | func => cases hv
  | iface => cases hv
  | agg => cases hv
  | tuple => cases hv

theorem normV_else {b : Nat} {u : Value} (h : ∀ a, u ≠ .slice (some a) 0 0) : normV b u = u := by
  unfold normV
  split
  · exact absurd rfl (h _)
  · rfl
theorem normVR (h : Sm w0 M s w) {b : Nat} (hb : b < w0.heap.size) {u : Value} (hv : oldOk w0.heap.size (normV b u) = true) : VR M (normV b u) u ∧ oneB (normV b u) = true := by
  by_cases hz : ∃ a, u = .slice (some a) 0 0
  · obtain ⟨a, rfl⟩ := hz
    exact ⟨.sli0 _ _ (h.old _ hb).1, rfl⟩
  · have e : normV b u = u := normV_else fun a ha => hz ⟨a, ha⟩
    rw [e] at hv ⊢; exact oldVR h hv
/-- A row's cells, there and here. -/
theorem cells_at (h : Sm w0 M s w) {a a' : Addr} (ha : AR M a a') {c : List Value} (hc : (s.heap a.block).cells? = some c) (hsp : a.spot = none) {i : Nat} {v : Value} (hv : c[a.off + i]? = some v)
    (ho : w0.heap.size ≤ a.block ∨ oldOk w0.heap.size v = true) : ∃ v', w.cell? (a'.add i) = some v' ∧ VR M v v' ∧ oneB v = true := by
  obtain ⟨B, d, hb, rfl⟩ := ha
  have hadd : (⟨B, a.off + d, a.spot⟩ : Addr).add i = ⟨B, a.off + d + i, none⟩ := by rw [hsp]; exact add_lit _ _ _
  rw [hadd]
  by_cases hlt : a.block < w0.heap.size
  · have ho' : oldOk w0.heap.size v = true := by rcases ho with ho | ho; omega; exact ho
    have hold := h.old _ hlt
    rw [hold.1] at hb
    simp only [Option.some.injEq, Prod.mk.injEq] at hb
    obtain ⟨rfl, rfl⟩ := hb
    rw [h.olds _ hlt] at hc
    simp only [oldObj] at hc
    have hbl := h.below.block a.block hlt
    cases hw : w0.heap[a.block]? with
    | none => rw [hw] at hc; simp [AObj.cells?] at hc
    | some o =>
      rw [hw] at hc hbl
      cases o with
      | cells C t fr =>
        simp only [AObj.cells?, Option.some.injEq] at hc
        subst hc
        rw [List.getElem?_map] at hv
        cases hu : C.toList[a.off + i]? with
        | none => rw [hu] at hv; cases hv
        | some u =>
          rw [hu] at hv
          simp only [Option.map_some, Option.some.injEq] at hv
          subst hv
          refine ⟨u, ?_, normVR h hlt ho'⟩
          simp only [World.cell?, hbl]
          simpa using hu
      | _ => simp [AObj.cells?] at hc
  · obtain ⟨_, _, o, ho', hor⟩ := h.new _ _ hb (by omega)
    have key : RowR M (B, d) c o := by
      cases hh : s.heap a.block with
      | row c' => rw [hh] at hc hor; simp only [AObj.cells?, Option.some.injEq] at hc; subst hc; exact hor.2
      | grown c' z => rw [hh] at hc hor; simp only [AObj.cells?, Option.some.injEq] at hc; subst hc; exact hor.2
      | _ => rw [hh] at hc; simp [AObj.cells?] at hc
    obtain ⟨C, t, rfl, hs, hcc⟩ := key
    obtain ⟨h1, v', h2, h3⟩ := hcc _ v hv
    refine ⟨v', ?_, h3, h1⟩
    have e : a.off + d + i = d + (a.off + i) := by omega
    rw [e]
    simp only [World.cell?, ho']
    simpa using h2

theorem ld1_sim (h : Sm w0 M s w) {a a' : Addr} (ha : AR M a a') {v : Value} (hv : ld1 w0.heap.size s a = some v) : ∃ v', w.cell? a' = some v' ∧ VR M v v' ∧ oneB v = true := by
  unfold ld1 at hv
  split at hv
  · rename_i c hc
    split at hv
    · rename_i hsp
      split at hv
      · rename_i u hu
        split at hv
        · rename_i ho
          cases hv
          obtain ⟨v', h1, h2⟩ := cells_at h ha hc hsp (i := 0) (by simpa using hu) ho
          exact ⟨v', by simpa [Addr.add] using h1, h2⟩
        · cases hv
      · cases hv
    · cases hv
  · cases hv

theorem ldN_sim (h : Sm w0 M s w) {a a' : Addr} {n : Nat} (ha : n ≠ 0 → AR M a a') {l : List Value} (hl : ldN w0.heap.size s a n = some l) :
    l.length = n ∧ ∃ l', LR M l l' ∧ (∀ v ∈ l, oneB v = true) ∧ ∀ (j : Nat) v, l'[j]? = some v → w.cell? (a'.add j) = some v := by
  unfold ldN at hl
  split at hl
  · rename_i hn
    cases hl
    exact ⟨hn.symm, [], .nil M, by simp, by simp⟩
  · rename_i hn
    have ha := ha hn
    split at hl
    · rename_i c hc
      split at hl
      · rename_i hsp
        split at hl
        · rename_i u hu
          split at hl
          · rename_i ho
            cases hl
            obtain ⟨h1, h2, h3, h4⟩ := getL_some hu
            have each : ∀ i v, l[i]? = some v → ∃ v', w.cell? (a'.add i) = some v' ∧ VR M v v' ∧ oneB v = true := fun i v hv => by
              have hi : i < n := by rw [← h3]; exact (List.getElem?_eq_some_iff.1 hv).1
              refine cells_at h ha hc hsp (by rw [← h4 i hi]; exact hv) ?_
              rcases ho with ho | ho
              · exact .inl ho
              · exact .inr (List.all_eq_true.1 ho v (List.mem_of_getElem? hv))
            refine ⟨h3, (List.range n).map fun i => (w.cell? (a'.add i)).getD undef, ⟨by simp [h3], fun i v v' e1 e2 => ?_⟩, fun v hv => ?_, fun j v hv => ?_⟩
            · obtain ⟨u', e3, e4, _⟩ := each i v e1
              have hi : i < n := by rw [← h3]; exact (List.getElem?_eq_some_iff.1 e1).1
              rw [List.getElem?_map, List.getElem?_range hi] at e2
              simp only [Option.map_some, e3, Option.getD_some, Option.some.injEq] at e2
              exact e2 ▸ e4
            · obtain ⟨i, hi⟩ := List.mem_iff_getElem?.1 hv
              exact (each i v hi).choose_spec.2.2
            · have hj : j < n := by have := (List.getElem?_eq_some_iff.1 hv).1; simpa using this
              rw [List.getElem?_map, List.getElem?_range hj] at hv
              have hj2 : j < l.length := by omega
              obtain ⟨u', e3, _, _⟩ := each j l[j] (List.getElem?_eq_getElem hj2)
              simp only [Option.map_some, e3, Option.getD_some, Option.some.injEq] at hv
              rw [e3, hv]
          · cases hl
        · cases hl
      · cases hl
    · cases hl

/-- An own block's row is another one. -/
theorem setRow_sim (h : Sm w0 M s w) {b : Nat} {x : Nat × Nat} (hb : M.blk b = some x) (hge : w0.heap.size ≤ b) {c c' : List Value} (hc : (s.heap b).cells? = some c)
    {C : Array Value} {t : TypeId} (hC : w.heap[x.1]? = some (.cells C t (0, 0))) {C' : Array Value} (hs : C'.size = C.size)
    (hcc : ∀ (i : Nat) v, c'[i]? = some v → oneB v = true ∧ ∃ v', C'[x.2 + i]? = some v' ∧ VR M v v') :
    Sm w0 M (s.upd b ((s.heap b).withCells c')) (w.setRow x.1 C') ∧ Gr M s w M (s.upd b ((s.heap b).withCells c')) (w.setRow x.1 C') := by
  obtain ⟨hlt, hbase, o, ho, hor⟩ := h.new b x hb hge
  have hng : goneB (s.heap b) = false := by cases hh : s.heap b <;> first | rfl | (rw [hh] at hc; simp [AObj.cells?] at hc)
  have hset := setRow_heap w x.1 C C' t (0, 0) hC
  have hxlt : x.1 < w.heap.size := (Array.getElem?_eq_some_iff.1 hC).1
  have hsz : (w.setRow x.1 C').heap.size = w.heap.size := by simp [World.setRow]
  refine ⟨⟨⟨h.below.os, h.below.tape, h.below.output, by rw [hsz]; exact h.below.size, fun k hk => ?_⟩, h.nxt, h.old, fun k hk => ?_, fun k y hk hkb => ?_, fun k k' y y' h1 h2 h3 h4 h5 h6 h7 => ?_⟩, ⟨.refl M, Nat.le_refl _, fun _ _ h _ => h, fun k y hk => .inl ⟨k, y, hk, rfl⟩, fun k y hk hg => .inl ⟨k, y, hk, ?_, rfl⟩, fun B hB hn => ?_, by rw [hsz]; exact Nat.le_refl _⟩⟩
  · rw [setRow_other w x.1 k C' (by omega)]; exact h.below.block k hk
  · rw [heap_upd_ne _ _ (by omega)]; exact h.olds k hk
  · obtain ⟨g1, g2, o', g3, g4⟩ := h.new k y hk hkb
    by_cases hkb' : k = b
    · subst hkb'
      rw [hb] at hk; cases hk
      refine ⟨g1, g2, _, hset, ?_⟩
      rw [heap_upd_same]
      rw [hC] at g3; cases g3
      cases hh : s.heap k with
      | row c0 =>
        rw [hh] at g4
        obtain ⟨e1, C0, t0, e2, e3, e4⟩ := g4
        cases e2
        exact ⟨e1, C', _, rfl, hs.trans e3, hcc⟩
      | grown c0 z =>
        rw [hh] at g4
        obtain ⟨e1, C0, t0, e2, e3, e4⟩ := g4
        cases e2
        exact ⟨e1, C', _, rfl, hs.trans e3, hcc⟩
      | _ => rw [hh] at hc; simp [AObj.cells?] at hc
    · rw [heap_upd_ne _ _ hkb']
      by_cases hy : y.1 = x.1
      · cases hg : goneB (s.heap k) with
        | true => 
          refine ⟨g1, g2, .cells C' t (0, 0), by rw [hy]; exact hset, ?_⟩
          cases hh : s.heap k <;> first | trivial | (rw [hh] at hg; simp [goneB] at hg)
        | false => exact absurd (h.inj k b y x hkb hge hk hb hy hg hng) hkb'
      · refine ⟨g1, g2, o', ?_, g4⟩
        rw [setRow_other w x.1 y.1 C' hy]; exact g3
  · have e : ∀ j, goneB ((s.upd b ((s.heap b).withCells c')).heap j) = false → goneB (s.heap j) = false := fun j hj => by
      by_cases hjb : j = b
      · subst hjb; exact hng
      · rw [heap_upd_ne _ _ hjb] at hj; exact hj
    exact h.inj k k' y y' h1 h2 h3 h4 h5 (e _ h6) (e _ h7)
  · by_cases hjb : k = b
    · subst hjb; exact hng
    · rw [heap_upd_ne _ _ hjb] at hg; exact hg
  · rw [setRow_other w x.1 B C' (fun e => hn b x hb hng e.symm)]

theorem stN_sim (h : Sm w0 M s w) {a a' : Addr} {vs vs' : List Value} (ha : vs ≠ [] → AR M a a') (hv : LR M vs vs') (h1 : ∀ v ∈ vs, oneB v = true) {s' : St} (hs : stN w0.heap.size s a vs = some s') :
    ∃ w', (storeCells a' vs').run P w = .ok () w' ∧ Sm w0 M s' w' ∧ Gr M s w M s' w' := by
  unfold stN at hs
  split at hs
  · rename_i hn
    cases hs
    subst hn
    rw [hv.inv_nil]
    exact ⟨w, rfl, h, .refl M _ w⟩
  · rename_i hn
    have ha := ha hn
    split at hs
    · rename_i c hc
      split at hs
      · rename_i hcond
        obtain ⟨hsp, hge, hlen⟩ := hcond
        cases hs
        obtain ⟨B, d, hb, rfl⟩ := ha
        obtain ⟨g1, g2, o, g3, g4⟩ := h.new _ _ hb hge
        have key : RowR M (B, d) c o := by
          cases hh : s.heap a.block with
          | row c' => rw [hh] at hc g4; simp only [AObj.cells?, Option.some.injEq] at hc; subst hc; exact g4.2
          | grown c' z => rw [hh] at hc g4; simp only [AObj.cells?, Option.some.injEq] at hc; subst hc; exact g4.2
          | _ => rw [hh] at hc; simp [AObj.cells?] at hc
        obtain ⟨C, t, rfl, hsz, hcc⟩ := key
        have hlast : d + (c.length - 1) < C.size := by
          have hpos : 0 < c.length := by
            cases vs with
            | nil => exact absurd rfl hn
            | cons v vs => simp at hlen; omega
          obtain ⟨_, v', e, _⟩ := hcc (c.length - 1) c[c.length - 1] (List.getElem?_eq_getElem (by omega))
          exact (Array.getElem?_eq_some_iff.1 e).1
        have h1' : ∀ v ∈ vs', v.oneCell' = true := fun v hv' => by
          obtain ⟨i, hi⟩ := List.mem_iff_getElem?.1 hv'
          have hi2 : i < vs.length := by rw [hv.1]; exact (List.getElem?_eq_some_iff.1 hi).1
          have := hv.2 i vs[i] v (List.getElem?_eq_getElem hi2) hi
          rw [oneB_eq, this.oneB]
          exact h1 _ (List.getElem_mem _)
        have hlen' : vs'.length = vs.length := hv.1.symm
        have hpos : 0 < vs.length := List.length_pos_iff.2 hn
        have hst := run_storeCells_at P B (a.off + d) t vs' 0 C w g3 (by omega) h1'
        simp only [Nat.add_zero] at hst
        have ea : (⟨B, a.off + d, a.spot⟩ : Addr) = ⟨B, a.off + d, none⟩ := by rw [hsp]
        refine ⟨_, by rw [ea]; exact hst, ?_⟩
        refine setRow_sim h hb hge hc g3 (by simp; omega) fun i v hi => ?_
        rw [setL_get vs c a.off i hlen] at hi
        have hCget : ∀ k, ((C.toList.take (a.off + d) ++ vs' ++ C.toList.drop (a.off + d + vs'.length)).toArray)[k]? = if a.off + d ≤ k ∧ k < a.off + d + vs'.length then vs'[k - (a.off + d)]? else C[k]? := fun k => by
          simp only [List.getElem?_toArray, List.append_assoc]
          have hA : a.off + d + vs'.length ≤ C.size := by omega
          by_cases k1 : k < a.off + d
          · rw [List.getElem?_append_left (by simp; omega), List.getElem?_take_of_lt k1, if_neg (by omega), Array.getElem?_toList]
          · rw [List.getElem?_append_right (by simp; omega)]
            simp only [List.length_take, Array.length_toList, Nat.min_eq_left (show a.off + d ≤ C.size by omega)]
            by_cases k2 : k < a.off + d + vs'.length
            · rw [List.getElem?_append_left (by omega), if_pos (by omega)]
            · rw [List.getElem?_append_right (by omega), List.getElem?_drop, if_neg (by omega), Array.getElem?_toList]
              congr 1; omega
        simp only [hCget]
        by_cases hr : a.off ≤ i ∧ i < a.off + vs.length
        · rw [if_pos hr] at hi
          rw [if_pos (by omega)]
          obtain ⟨v', e1, e2⟩ := hv.at hi
          refine ⟨h1 v (List.mem_of_getElem? hi), v', ?_, e2⟩
          have : d + i - (a.off + d) = i - a.off := by omega
          rw [this]; exact e1
        · rw [if_neg hr] at hi
          rw [if_neg (by omega)]
          exact hcc i v hi
      · cases hs
    · cases hs

def Mp.ext (M : Mp) (b : Nat) (x : Nat × Nat) (g : Option Nat) (n : Nat) : Mp :=
  ⟨fun k => if k = b then some x else M.blk k, fun k => if k = b then g else M.gr k, fun k => if k = x.1 then n else M.sz k⟩
theorem Mp.ext_blk (M : Mp) (b : Nat) (x : Nat × Nat) (g : Option Nat) (n : Nat) : (M.ext b x g n).blk b = some x := by simp [Mp.ext]
theorem Mp.ext_gr (M : Mp) (b : Nat) (x : Nat × Nat) (g : Option Nat) (n : Nat) : (M.ext b x g n).gr b = g := by simp [Mp.ext]
theorem Mp.ext_sz (M : Mp) (b : Nat) (x : Nat × Nat) (g : Option Nat) (n : Nat) : (M.ext b x g n).sz x.1 = n := by simp [Mp.ext]
theorem Sm.next_free (h : Sm w0 M s w) : M.blk s.next = none := by
  cases hb : M.blk s.next with
  | none => rfl
  | some x => have := (h.new _ _ hb h.nxt).1; omega
theorem Sm.img_lt (h : Sm w0 M s w) {b : Nat} {x : Nat × Nat} (hb : M.blk b = some x) : x.1 < w.heap.size := by
  by_cases hlt : b < w0.heap.size
  · rw [(h.old b hlt).1] at hb; cases hb; have := h.size; simp only; omega
  · obtain ⟨_, _, o, ho, _⟩ := h.new b x hb (by omega)
    exact (Array.getElem?_eq_some_iff.1 ho).1
theorem Mle.ext (h : Sm w0 M s w) (x : Nat × Nat) (g : Option Nat) (n : Nat) (hx : ∀ b y, M.blk b = some y → y.1 = x.1 → n = M.sz x.1) : Mle M (M.ext s.next x g n) := by
  refine ⟨fun b y hb => ?_, fun b y hb => ?_, fun b y hb => ?_⟩
  · have : b ≠ s.next := fun e => by rw [e, h.next_free] at hb; cases hb
    simp [Mp.ext, this, hb]
  · have : b ≠ s.next := fun e => by rw [e, h.next_free] at hb; cases hb
    simp [Mp.ext, this]
  · simp only [Mp.ext]
    split
    · rename_i e; rw [hx b y hb e, e]
    · rfl

/-- A new block. -/
theorem alloc_sim (h : Sm w0 M s w) (o : AObj) (O : Obj) (g : Option Nat) (n : Nat) (ho : OR w0.heap.size (M.ext s.next (w.heap.size, 0) g n) s.next (w.heap.size, 0) o O) :
    Sm w0 (M.ext s.next (w.heap.size, 0) g n) (s.alloc o) (w.alloc O) ∧ Gr M s w (M.ext s.next (w.heap.size, 0) g n) (s.alloc o) (w.alloc O) := by
  have hle : Mle M (M.ext s.next (w.heap.size, 0) g n) := Mle.ext h _ g n fun b y hb e => by have := h.img_lt hb; simp only at e; omega
  have hsz := h.size
  have hnx := h.nxt
  refine ⟨⟨⟨h.below.os, h.below.tape, h.below.output, by simp; omega, fun k hk => ?_⟩, by rw [next_alloc]; omega, fun b hb => ?_, fun b hb => ?_, fun b y hb hge => ?_, fun b b' y y' h1 h2 h3 h4 h5 h6 h7 => ?_⟩, ⟨hle, by rw [next_alloc]; omega, fun b y hb hlt => ?_, fun b y hb => ?_, fun b y hb hg => ?_, fun B hB hn => ?_, by simp⟩⟩
  · rw [heap_alloc_old w O k (by omega)]; exact h.below.block k hk
  · have := h.old b hb
    have hne : b ≠ s.next := by omega
    exact ⟨hle.blk _ _ this.1, by simp [Mp.ext, hne, this.2]⟩
  · rw [heap_alloc_ne _ _ (by omega)]; exact h.olds b hb
  · by_cases hbn : b = s.next
    · subst hbn
      rw [Mp.ext_blk] at hb; cases hb
      exact ⟨by rw [next_alloc]; omega, hsz, O, Go.heap_alloc_new w O, by rw [heap_alloc_new]; exact ho⟩
    · have hb0 : M.blk b = some y := by simpa [Mp.ext, hbn] using hb
      obtain ⟨g1, g2, o', g3, g4⟩ := h.new b y hb0 hge
      refine ⟨by rw [next_alloc]; omega, g2, o', ?_, ?_⟩
      · rw [heap_alloc_old w O y.1 (h.img_lt hb0)]; exact g3
      · rw [heap_alloc_ne _ _ hbn]; exact g4.mono hle hb0
  · by_cases e1 : b = s.next
    · by_cases e2 : b' = s.next
      · rw [e1, e2]
      · subst e1
        rw [Mp.ext_blk] at h3; cases h3
        have h4' : M.blk b' = some y' := by simpa [Mp.ext, e2] using h4
        have := h.img_lt h4'; simp only at h5; omega
    · have h3' : M.blk b = some y := by simpa [Mp.ext, e1] using h3
      by_cases e2 : b' = s.next
      · subst e2
        rw [Mp.ext_blk] at h4; cases h4
        have := h.img_lt h3'; simp only at h5; omega
      · have h4' : M.blk b' = some y' := by simpa [Mp.ext, e2] using h4
        rw [heap_alloc_ne _ _ e1] at h6
        rw [heap_alloc_ne _ _ e2] at h7
        exact h.inj b b' y y' h1 h2 h3' h4' h5 h6 h7
  · have hbn : b ≠ s.next := by omega
    simpa [Mp.ext, hbn] using hb
  · by_cases hbn : b = s.next
    · subst hbn; rw [Mp.ext_blk] at hb; cases hb; exact .inr (Nat.le_refl _)
    · exact .inl ⟨b, y, by simpa [Mp.ext, hbn] using hb, rfl⟩
  · by_cases hbn : b = s.next
    · subst hbn; rw [Mp.ext_blk] at hb; cases hb; exact .inr (Nat.le_refl _)
    · rw [heap_alloc_ne _ _ hbn] at hg
      exact .inl ⟨b, y, by simpa [Mp.ext, hbn] using hb, hg, rfl⟩
  · exact heap_alloc_old w O B hB

theorem rowR_new (h : Sm w0 M s w) {l l' : List Value} (hl : LR M l l') (h1 : ∀ v ∈ l, oneB v = true) (r : Array Value) (g : Option Nat) (n : Nat) (hn : (l'.toArray ++ r).size = n) (t : TypeId) :
    RowR (M.ext s.next (w.heap.size, 0) g n) (w.heap.size, 0) l (.cells (l'.toArray ++ r) t) := by
  have hle : Mle M (M.ext s.next (w.heap.size, 0) g n) := Mle.ext h _ g n fun b y hb e => by have := h.img_lt hb; simp only at e; omega
  refine ⟨_, t, rfl, by rw [hn, Mp.ext_sz], fun i v hv => ⟨h1 v (List.mem_of_getElem? hv), ?_⟩⟩
  obtain ⟨v', e1, e2⟩ := hl.at hv
  refine ⟨v', ?_, e2.mono hle⟩
  have hi : i < l'.length := (List.getElem?_eq_some_iff.1 e1).1
  simp only [Nat.zero_add]
  rw [Array.getElem?_append_left (by simpa using hi)]
  simpa using e1
theorem allocRow_sim (h : Sm w0 M s w) {l l' : List Value} (hl : LR M l l') (h1 : ∀ v ∈ l, oneB v = true) (t : TypeId) :
    ∃ M', Sm w0 M' (s.alloc (.row l)) (w.alloc (.cells l'.toArray t)) ∧ Gr M s w M' (s.alloc (.row l)) (w.alloc (.cells l'.toArray t)) ∧ M'.blk s.next = some (w.heap.size, 0) ∧ M'.gr s.next = none ∧ M'.sz w.heap.size = l.length := by
  have hr := rowR_new h hl h1 #[] none l.length (by simp [hl.1]) t
  simp only [Array.append_empty] at hr
  obtain ⟨a, b⟩ := alloc_sim h (.row l) (.cells l'.toArray t) none l.length ⟨Mp.ext_gr .., hr⟩
  exact ⟨_, a, b, Mp.ext_blk .., Mp.ext_gr .., Mp.ext_sz ..⟩
theorem Sm.drew (h : Sm w0 M s w) : Sm w0 M s w.drew := ⟨h.below.drew, h.nxt, h.old, h.olds, h.new, h.inj⟩
theorem Gr.drew {M' : Mp} {s' : St} {w' : World} (h : Gr M s w.drew M' s' w') : Gr M s w M' s' w' := ⟨h.le, h.nxt, h.dom, h.img, h.live, h.fr, h.size⟩
end
end Go.Ab
/- The simulation: operations that call nothing. -/
set_option linter.unusedVariables false
set_option linter.unusedSimpArgs false
namespace Go.Ab
open Go Go.RowKit

section
variable {P : Program} {w0 : World} {M : Mp} {s : St} {w : World}

/-! ### Types, run -/
theorem sizT_run {t : TypeId} {n : Nat} (h : sizT P t = some n) (w : World) : (sizeOf t).run P w = .ok n w := by
  unfold sizT at h
  cases hi : P.info? t with
  | none => rw [hi] at h; cases h
  | some i => rw [hi] at h; simp only [Option.map_some, Option.some.injEq] at h; simp [sizeOf, typeInfo, hi, h]
theorem sizT_info {t : TypeId} {n : Nat} (h : sizT P t = some n) : ∃ i, P.info? t = some i ∧ i.size = n := by
  unfold sizT at h
  cases hi : P.info? t with
  | none => rw [hi] at h; cases h
  | some i => rw [hi] at h; exact ⟨i, rfl, by simpa using h⟩
theorem zerT_info {t : TypeId} {l : List Value} (h : zerT P t = some l) : ∃ i z, P.info? t = some i ∧ i.zero = some z ∧ z.cells.toList = l ∧ l.all (oldOk 0) = true ∧ isTup z = false := by
  unfold zerT at h
  split at h
  · rename_i i hi
    split at h
    · rename_i z hz
      split at h
      · rename_i hc; cases h; exact ⟨i, z, hi, hz, rfl, hc⟩
      · cases h
    · cases h
  · cases h
theorem free_LR (h : Sm w0 M s w) {l : List Value} (hl : l.all (oldOk 0) = true) : LR M l l ∧ ∀ v ∈ l, oneB v = true := by
  have each : ∀ v ∈ l, VR M v v ∧ oneB v = true := fun v hv => by
    refine oldVR h ?_
    have := List.all_eq_true.1 hl v hv
    cases v with
    | pointer a => cases a with
      | none => rfl
      | some a => simp [oldOk, oldA] at this
    | slice a _ _ => cases a with
      | none => rfl
      | some a => simp [oldOk, oldA] at this
    | map r => exact this
    | chan r => exact this
    | func => cases this
    | iface => cases this
    | agg => cases this
    | tuple => cases this
    | _ => rfl
  exact ⟨⟨rfl, fun i v v' a b => by rw [a] at b; cases b; exact (each v (List.mem_of_getElem? a)).1⟩, fun v hv => (each v hv).2⟩
theorem aggT_run {t : TypeId} {b : Bool} (h : aggT P t = some b) (w : World) : (isAgg t).run P w = .ok b w := by
  unfold aggT at h
  cases hu : P.underlying t with
  | none => rw [hu] at h; cases h
  | some d => rw [hu] at h; cases d <;> simp at h <;> subst h <;> simp [isAgg, run_underlying hu]
theorem elemT_u {t e : TypeId} (h : elemT P t = some e) : P.underlying t = some (.slice e) := by
  unfold elemT at h; split at h <;> simp_all
theorem arrT_u {t e : TypeId} {n : Nat} (h : arrT P t = some (n, e)) : P.underlying t = some (.array n e) := by
  unfold arrT at h; split at h <;> simp_all
theorem strT_u {t : TypeId} (h : strT P t = true) : P.underlying t = some .string := by
  unfold strT at h; split at h <;> simp_all
theorem intT_u {t : TypeId} {k : IntKind} (h : intT P t = some k) : P.underlying t = some (.int k) := by
  unfold intT at h; split at h <;> simp_all
theorem fldT_u {t u : TypeId} {f off : Nat} (h : fldT P t f = some (off, u)) : ∃ fs fd, P.underlying t = some (.struct fs) ∧ fs[f]? = some fd ∧ fd.offset = off ∧ fd.type = u := by
  unfold fldT at h
  split at h
  · rename_i fs hu
    cases hf : fs[f]? with
    | none => rw [hf] at h; cases h
    | some fd => rw [hf] at h; simp only [Option.map_some, Option.some.injEq, Prod.mk.injEq] at h; exact ⟨fs, fd, hu, hf, h⟩
  · cases h

/-! ### Reading and writing variables -/
theorem ldVar_sim (h : Sm w0 M s w) {t : TypeId} {a a' : Addr} (ha : AR M a a') {v : Value} (hv : ldVar P w0.heap.size s t a = some v) : ∃ v', (loadVar t a').run P w = .ok v' w ∧ VR M v v' := by
  unfold ldVar at hv
  split at hv
  · rename_i ht
    split at hv
    · rename_i n hn
      split at hv
      · rename_i l hl
        cases hv
        obtain ⟨h1, l', h2, h3, h4⟩ := ldN_sim h (fun _ => ha) hl
        have := run_loadCells_list (P := P) w a' l' h4
        refine ⟨.agg l'.toArray, ?_, LR.agg (by simpa using h2) (by simpa using h3)⟩
        have hlen : l'.length = n := by rw [← h2.1, h1]
        simp only [loadVar, Sem.run_bind, aggT_run ht, Result.andThen_ok, if_true, Sem.run_ite, sizT_run hn]
        rw [← hlen, this]
        rfl
      · cases hv
    · cases hv
  · rename_i ht
    obtain ⟨v', h1, h2, _⟩ := ld1_sim h ha hv
    refine ⟨v', ?_, h2⟩
    simp only [loadVar, Sem.run_bind, aggT_run ht, Result.andThen_ok, Sem.run_ite, Bool.false_eq_true, if_false, run_load, h1]
  · cases hv
theorem stVar_sim (h : Sm w0 M s w) {t : TypeId} {a a' : Addr} (ha : AR M a a') {v v' : Value} (hv : VR M v v') {s' : St} (hs : stVar P w0.heap.size s t a v = some s') :
    ∃ w', (storeVar t a' v').run P w = .ok () w' ∧ Sm w0 M s' w' ∧ Gr M s w M s' w' := by
  unfold stVar at hs
  split at hs
  · rename_i hc
    obtain ⟨ht, hsz⟩ := hc
    obtain ⟨hl, h1⟩ := hv.cells ht
    obtain ⟨w', e1, e2⟩ := stN_sim (P := P) h (fun _ => ha) hl h1 hs
    refine ⟨w', ?_, e2⟩
    have : v'.cells.size = v.cells.size := by have := hl.1; simpa using this.symm
    simp only [storeVar, Sem.run_bind, sizT_run hsz, Result.andThen_ok, this, ne_eq, not_true_eq_false, if_false, Sem.run_ite]
    exact e1
  · cases hs

theorem partV_sim {t : TypeId} {cs cs' : Array Value} {off : Nat} {v : Value} (hc : VR M (.agg cs) (.agg cs')) (hv : partV P t cs off = some v) (w : World) : ∃ v', (part t cs' off).run P w = .ok v' w ∧ VR M v v' := by
  cases hc with
  | agg hs hr ho =>
    unfold partV at hv
    split at hv
    · rename_i ht
      split at hv
      · rename_i n hn
        cases hv
        refine ⟨.agg (cs'.extract off (off + n)), ?_, .agg (by simp [hs]) (fun i v v' a b => ?_) (fun i v a => ?_)⟩
        · simp only [part, Sem.run_bind, aggT_run ht, Result.andThen_ok, if_true, Sem.run_ite, sizT_run hn]; rfl
        · rw [Array.getElem?_extract] at a b
          split at a
          · rename_i hi
            rw [if_pos (by rw [← hs]; exact hi)] at b
            exact hr _ v v' a b
          · cases a
        · rw [Array.getElem?_extract] at a
          split at a
          · exact ho _ v a
          · cases a
      · cases hv
    · rename_i ht
      have hi : off < cs'.size := by rw [← hs]; exact (Array.getElem?_eq_some_iff.1 hv).1
      refine ⟨cs'[off], ?_, hr off v _ hv (Array.getElem?_eq_getElem hi)⟩
      simp only [part, Sem.run_bind, aggT_run ht, Result.andThen_ok, Sem.run_ite, Bool.false_eq_true, if_false, Array.getElem?_eq_getElem hi]
      rfl
    · cases hv

/-! ### Numbers -/
theorem beq_dec (a b : Int) : (a == b) = decide (a = b) := by by_cases h : a = b <;> simp [h]
theorem bne_dec (a b : Int) : (a != b) = decide (a ≠ b) := by by_cases h : a = b <;> simp [h, bne]
theorem bitV_run {op : BinOp} {k : IntKind} {x y z : Int} (h : bitV op k x y = some z) (w : World) : (Op.intBits op k x y).run P w = .ok (.int k z) w := by
  cases op <;> simp only [bitV, Option.some.injEq, reduceCtorEq] at h <;> subst h <;> (unfold Op.intBits; simp)
theorem intV_run {op : BinOp} {k k' : IntKind} {x y : Int} {v : Value} (h : intV op k x k' y = some v) (t : TypeId) (w : World) :
    (binOp op t (.int k x) (.int k' y)).run P w = .ok v w ∧ VR M v v := by
  cases op <;> simp only [intV] at h
  case shl =>
    split at h
    · cases h; rename_i hy; refine ⟨?_, .int _ _⟩; simp only [binOp, Op.shift]; rw [if_neg (by omega)]; rfl
    · cases h
  case shr =>
    split at h
    · cases h; rename_i hy; refine ⟨?_, .int _ _⟩; simp only [binOp, Op.shift]; rw [if_neg (by omega)]; rfl
    · cases h
  case quo =>
    split at h
    · rename_i hk; obtain ⟨rfl, hy⟩ := hk; cases h; exact ⟨by simp [binOp, Op.intDiv, hy], .int _ _⟩
    · cases h
  case rem =>
    split at h
    · rename_i hk; obtain ⟨rfl, hy⟩ := hk; cases h; exact ⟨by simp [binOp, Op.intDiv, hy], .int _ _⟩
    · cases h
  case and =>
    split at h
    · rename_i hk; subst hk
      obtain ⟨z, hz, rfl⟩ := Option.map_eq_some_iff.1 h
      exact ⟨by simp only [binOp, ne_eq, not_true_eq_false, if_false]; exact bitV_run hz w, .int _ _⟩
    · cases h
  case or =>
    split at h
    · rename_i hk; subst hk
      obtain ⟨z, hz, rfl⟩ := Option.map_eq_some_iff.1 h
      exact ⟨by simp only [binOp, ne_eq, not_true_eq_false, if_false]; exact bitV_run hz w, .int _ _⟩
    · cases h
  case xor =>
    split at h
    · rename_i hk; subst hk
      obtain ⟨z, hz, rfl⟩ := Option.map_eq_some_iff.1 h
      exact ⟨by simp only [binOp, ne_eq, not_true_eq_false, if_false]; exact bitV_run hz w, .int _ _⟩
    · cases h
  case andNot =>
    split at h
    · rename_i hk; subst hk
      obtain ⟨z, hz, rfl⟩ := Option.map_eq_some_iff.1 h
      exact ⟨by simp only [binOp, ne_eq, not_true_eq_false, if_false]; exact bitV_run hz w, .int _ _⟩
    · cases h
  all_goals
    split at h
    · rename_i hk
      subst hk
      simp only [Option.some.injEq] at h
      first
        | (subst h; exact ⟨by simp [binOp, Op.intArith], .int _ _⟩)
        | (subst h; exact ⟨by simp only [binOp, Op.intCmp, ne_eq, not_true_eq_false, if_false, Sem.run_pure, beq_dec, bne_dec, gt_iff_lt, ge_iff_le], .bool _⟩)
    · cases h
theorem strV_run {op : BinOp} {x y : ByteArray} {v : Value} (h : strV op x y = some v) (t : TypeId) (w : World) :
    (binOp op t (.string x) (.string y)).run P w = .ok v w ∧ VR M v v := by
  cases op <;> simp only [strV] at h
  case add =>
    split at h
    · rename_i hl; cases h
      refine ⟨?_, .str _⟩
      simp only [binOp, Op.stringOp]
      rw [if_neg (by omega)]; rfl
    · cases h
  all_goals first | (cases h; exact ⟨by simp [binOp, Op.stringOp], .bool _⟩) | cases h
theorem unV_run {op : UnOp} {x v : Value} (h : unV op x = some v) (w : World) : ∀ x', VR M x x' → (Op.unary op x').run P w = .ok v w ∧ VR M v v := by
  intro x' hx
  cases op <;> cases hx <;> simp only [unV, Option.some.injEq, reduceCtorEq] at h
  · subst h; exact ⟨by simp [Op.unary, Op.intArith], .int _ _⟩
  · obtain ⟨z, hz, rfl⟩ := Option.map_eq_some_iff.1 h
    exact ⟨by simp only [Op.unary]; exact bitV_run hz w, .int _ _⟩
  · subst h; exact ⟨by simp [Op.unary], .bool _⟩

end
end Go.Ab
/- The simulation: what is built, made and cut. -/
set_option linter.unusedVariables false
set_option linter.unusedSimpArgs false
namespace Go.Ab
open Go Go.RowKit

section
variable {P : Program} {w0 : World} {M : Mp} {s : St} {w : World}

theorem run_mapM {α β : Type} (f : α → Sem β) (g : α → β) (w : World) (xs : Array α) (h : ∀ x ∈ xs.toList, (f x).run P w = .ok (g x) w) : (xs.mapM f).run P w = .ok (xs.map g) w := by
  rw [Array.mapM_eq_mapM_toList, Sem.run_map]
  have key : ∀ l : List α, (∀ x ∈ l, (f x).run P w = .ok (g x) w) → (l.mapM f).run P w = .ok (l.map g) w := by
    intro l
    induction l with
    | nil => intro _; rfl
    | cons x l ih =>
      intro h
      rw [List.mapM_cons]
      simp only [Sem.run_bind, h x (by simp), Result.andThen_ok, ih fun y hy => h y (by simp [hy]), Sem.run_pure, List.map_cons]
  rw [key _ h]
  simp only [Result.andThen, ← Array.toList_map, Array.toArray_toList]

theorem rz0 : Array.range 0 = #[] := rfl
/-! ### Filling -/
theorem foldl_set (off : Nat) : ∀ (vs : List Value) (k : Nat) (C : Array Value), ((vs.zipIdx k).foldl (fun cs p => cs.setIfInBounds (off + p.2) p.1) C).toList = setL C.toList (off + k) vs
  | [], _, _ => rfl
  | v :: vs, k, C => by
    simp only [List.zipIdx_cons, List.foldl_cons, setL]
    rw [foldl_set off vs (k + 1) _]
    simp [Nat.add_assoc]
theorem setL_LR {c c' vs vs' : List Value} (hc : LR M c c') (hv : LR M vs vs') (off : Nat) (hl : off + vs.length ≤ c.length) : LR M (setL c off vs) (setL c' off vs') := by
  refine ⟨by rw [setL_length, setL_length]; exact hc.1, fun i v v' a b => ?_⟩
  rw [setL_get vs c off i hl] at a
  rw [setL_get vs' c' off i (by rw [← hv.1, ← hc.1]; exact hl), ← hv.1] at b
  split at a
  · rename_i hi; rw [if_pos hi] at b; exact hv.2 _ v v' a b
  · rename_i hi; rw [if_neg hi] at b; exact hc.2 _ v v' a b
theorem setL_mem {c vs : List Value} {off : Nat} (hl : off + vs.length ≤ c.length) {v : Value} (h : v ∈ setL c off vs) : v ∈ vs ∨ v ∈ c := by
  obtain ⟨i, hi⟩ := List.mem_iff_getElem?.1 h
  rw [setL_get vs c off i hl] at hi
  split at hi
  · exact .inl (List.mem_of_getElem? hi)
  · exact .inr (List.mem_of_getElem? hi)
/-- Parts of what is built. -/
def PR (M : Mp) (ps ps' : List (Nat × Value)) : Prop := ps.map (·.1) = ps'.map (·.1) ∧ LR M (ps.map (·.2)) (ps'.map (·.2))
theorem fill_sim (place place' : Nat → Option (Nat × Nat)) (hp : ∀ i x, place i = some x → place' i = some x) : ∀ (ps ps' : List (Nat × Value)) (c : List Value) (C : Array Value) (l : List Value), PR M ps ps' → LR M c C.toList → (∀ v ∈ c, oneB v = true) →
    fillL place c ps = some l → ∃ C', Instr.fill place' C ps' = some C' ∧ LR M l C'.toList ∧ ∀ v ∈ l, oneB v = true
  | [], ps', c, C, l, hps, hc, h1, hf => by
    obtain rfl : ps' = [] := by have := hps.1; simpa using this.symm
    simp only [fillL, Option.some.injEq] at hf
    subst hf
    exact ⟨C, rfl, hc, h1⟩
  | (i, v) :: ps, ps', c, C, l, hps, hc, h1, hf => by
    cases ps' with
    | nil => have := hps.1; simp at this
    | cons q ps' =>
      obtain ⟨i', v'⟩ := q
      have hii : i = i' := by have := hps.1; simp at this; exact this.1
      subst hii
      have hvv : VR M v v' := hps.2.head
      have hrest : PR M ps ps' := ⟨by have := hps.1; simp at this; exact this, hps.2.tail⟩
      simp only [fillL] at hf
      split at hf
      · cases hf
      · rename_i off size hpl
        split at hf
        · rename_i hcond
          obtain ⟨ht, hsz, hle⟩ := hcond
          obtain ⟨hcl, ho⟩ := hvv.cells ht
          have hsz' : v'.cells.size = size := by rw [← hsz]; have := hcl.1; simpa using this.symm
          have hCl : C.size = c.length := by have := hc.1; simpa using this.symm
          have hlen : v.cells.toList.length = size := by simpa using hsz
          have heq : (v'.cells.zipIdx.foldl (fun cs (x : Value × Nat) => cs.setIfInBounds (off + x.2) x.1) C).toList = setL C.toList off v'.cells.toList := by
            have := foldl_set off v'.cells.toList 0 C
            rw [Nat.add_zero] at this
            rw [← this, ← Array.foldl_toList, Array.toList_zipIdx]
          obtain ⟨C', e1, e2⟩ := fill_sim place place' hp ps ps' (setL c off v.cells.toList) _ l hrest (by rw [heq]; exact setL_LR hc hcl off (by omega))
            (fun u hu => by rcases setL_mem (by omega) hu with hu | hu; exact ho u hu; exact h1 u hu) hf
          refine ⟨C', ?_, e2⟩
          simp only [Instr.fill, hp i _ hpl]
          rw [if_neg (by simp [hsz']; omega)]
          exact e1
        · cases hf

theorem build_sim (h : Sm w0 M s w) {t : TypeId} {ps ps' : List (Nat × Value)} (hps : PR M ps ps') {v : Value} (hv : buildV P t ps = some v) : ∃ v', (Instr.build t ps'.toArray).run P w = .ok v' w ∧ VR M v v' := by
  unfold buildV at hv
  split at hv
  · rename_i hc
    obtain ⟨ha, hso⟩ := hc
    split at hv
    · rename_i z hz
      split at hv
      · rename_i l hl
        cases hv
        obtain ⟨i, zv, hi, hzz, hzl, hfree, _⟩ := zerT_info hz
        have hzr : (zeroValue t).run P w = .ok zv w := by simp [zeroValue, typeInfo, hi, hzz]
        obtain ⟨hzLR, hz1⟩ := free_LR h hfree
        have hzc : LR M z zv.cells.toList := by rw [hzl]; exact hzLR
        unfold aggT at ha
        cases hu : P.underlying t with
        | none => rw [hu] at ha; cases ha
        | some d =>
          rw [hu] at ha
          cases d with
          | struct fs =>
            have hpl : ∀ k x, placeT P t k = some x → (fs.map fun f => (f.offset, (sizT P f.type).getD 0))[k]? = some x := fun k x hx => by
              simp only [placeT, hu] at hx
              split at hx
              · rename_i f hf
                split at hx
                · rename_i n hn; cases hx; simp [hf, hn]
                · cases hx
              · cases hx
            obtain ⟨C', e1, e2, e3⟩ := fill_sim (placeT P t) _ hpl ps ps' z zv.cells l hps hzc hz1 hl
            refine ⟨.agg C', ?_, LR.agg (by simpa using e2) (by simpa using e3)⟩
            have hmap : (fs.mapM fun f => do pure (f.offset, ← sizeOf f.type) : Sem (Array (Nat × Nat))).run P w = .ok (fs.map fun f => (f.offset, (sizT P f.type).getD 0)) w := by
              refine run_mapM _ _ w fs fun f hf => ?_
              simp only [sizesOk, hu] at hso
              have := List.all_eq_true.1 hso f hf
              obtain ⟨n, hn⟩ := Option.isSome_iff_exists.1 this
              simp [sizT_run hn, hn]
            simp only [Instr.build, Sem.run_bind, hzr, Result.andThen_ok, run_underlying hu, hmap, e1, Sem.run_pure]
          | array n e =>
            have hso' : (sizT P e).isSome = true := by simpa [sizesOk, hu] using hso
            obtain ⟨m, hm⟩ := Option.isSome_iff_exists.1 hso'
            have hpl : ∀ k x, placeT P t k = some x → (fun i => some (i * m, m)) k = some x := fun k x hx => by
              simp only [placeT, hu, hm] at hx; exact hx
            obtain ⟨C', e1, e2, e3⟩ := fill_sim (placeT P t) _ hpl ps ps' z zv.cells l hps hzc hz1 hl
            refine ⟨.agg C', ?_, LR.agg (by simpa using e2) (by simpa using e3)⟩
            simp only [Instr.build, Sem.run_bind, hzr, Result.andThen_ok, run_underlying hu, sizT_run hm, e1, Sem.run_pure]
          | _ => simp at ha
      · cases hv
    · cases hv
  · cases hv

/-! ### Rows of zeros -/
theorem repL_get (z : List Value) (hz : 0 < z.length) : ∀ (n i : Nat), (repL z n)[i]? = if i < n * z.length then z[i % z.length]? else none
  | 0, i => by simp [repL]
  | n + 1, i => by
    have hcons : repL z (n + 1) = z ++ repL z n := by simp [repL, List.replicate_succ]
    rw [hcons]
    by_cases hi : i < z.length
    · rw [List.getElem?_append_left hi, if_pos (by rw [Nat.add_mul]; omega), Nat.mod_eq_of_lt hi]
    · rw [List.getElem?_append_right (by omega), repL_get z hz n (i - z.length)]
      have : i % z.length = (i - z.length) % z.length := Nat.mod_eq_sub_mod (by omega)
      rw [this]
      simp only [Nat.add_mul, Nat.one_mul]
      by_cases h2 : i - z.length < n * z.length
      · rw [if_pos h2, if_pos (by omega)]
      · rw [if_neg h2, if_neg (by omega)]
theorem made_eq (z : Array Value) (hz : 0 < z.size) (n : Nat) : (Array.range (n * z.size)).map (fun i => z[i % z.size]!) = (repL z.toList n).toArray := by
  apply Array.ext'
  apply List.ext_getElem?
  intro i
  simp only [Array.toList_map, Array.toList_range, List.getElem?_map]
  rw [repL_get z.toList (by simpa using hz)]
  simp only [Array.length_toList]
  by_cases hi : i < n * z.size
  · rw [List.getElem?_range hi, if_pos hi]
    have : i % z.size < z.size := Nat.mod_lt _ hz
    simp [this]
  · rw [if_neg hi, List.getElem?_eq_none (by simpa using hi)]; rfl
theorem repL_LR {z z' : List Value} (h : LR M z z') : ∀ n, LR M (repL z n) (repL z' n)
  | 0 => .nil M
  | n + 1 => by
    have e : ∀ y : List Value, repL y (n + 1) = y ++ repL y n := fun y => by simp [repL, List.replicate_succ]
    rw [e, e]; exact h.append (repL_LR h n)
theorem repL_mem {z : List Value} {n : Nat} {v : Value} (h : v ∈ repL z n) : v ∈ z := by
  simp only [repL, List.mem_flatten, List.mem_replicate] at h
  obtain ⟨l, ⟨_, rfl⟩, h⟩ := h; exact h

theorem buildSlice_sim (h : Sm w0 M s w) {t : TypeId} {len : Nat} {ps ps' : List (Nat × Value)} (hps : PR M ps ps') {v : Value} {s' : St} (hv : buildSliceV P s t len ps = some (v, s')) :
    ∃ v' w' M', (Instr.buildSlice t len ps'.toArray).run P w = .ok v' w' ∧ Sm w0 M' s' w' ∧ Gr M s w M' s' w' ∧ VR M' v v' := by
  unfold buildSliceV at hv
  split at hv
  · rename_i e he
    split at hv
    · rename_i n z hn hz
      split at hv
      · rename_i hc
        obtain ⟨hzl, hpos, hbig⟩ := hc
        split at hv
        · rename_i l hl
          cases hv
          obtain ⟨i, zv, hi, hzz, hzc, hfree, _⟩ := zerT_info hz
          have hzr : (zeroValue e).run P w = .ok zv w := by simp [zeroValue, typeInfo, hi, hzz]
          obtain ⟨hzLR, hz1⟩ := free_LR h hfree
          have hzs : zv.cells.size = n := by rw [← hzl, ← hzc]; simp
          have hmade : (Array.range (len * n)).map (fun i => zv.cells[i % zv.cells.size]!) = (repL z len).toArray := by
            rw [← hzs, made_eq _ (by omega), hzc]
          obtain ⟨C', e1, e2, e3⟩ := fill_sim (fun i => some (i * n, n)) (fun i => some (i * n, n)) (fun _ _ h => h) ps ps' (repL z len) (repL z len).toArray l hps
            (by simpa using repL_LR hzLR len) (fun v hv => hz1 v (repL_mem hv)) hl
          obtain ⟨M', a1, a2, a3, a4, a5⟩ := allocRow_sim h (l' := C'.toList) e2 e3 e
          refine ⟨.slice (some ⟨w.heap.size, 0, none⟩) len len, _, M', ?_, a1, a2, ?_⟩
          · by_cases h0 : len * n = 0
            · have hl0 : len = 0 := by
                rcases Nat.mul_eq_zero.1 h0 with h | h
                · exact h
                · omega
              subst hl0
              simp only [Nat.zero_mul] at hmade
              have hnil : (repL z 0).toArray = #[] := rfl
              rw [hnil] at e1 hmade
              simp only [Instr.buildSlice, Sem.run_bind, run_underlying (elemT_u he), Result.andThen_ok, sizT_run hn, Nat.zero_mul, Sem.run_ite, Sem.run_pure, if_true]
              simp [e1, newRow, rz0]
            · simp only [Instr.buildSlice, Sem.run_bind, run_underlying (elemT_u he), Result.andThen_ok, sizT_run hn, Sem.run_ite, Sem.run_pure, if_neg (show ¬ (len * n > 2 ^ 24) by omega), if_neg h0, hzr, hmade]
              simp [e1, newRow]
          · exact .sli ⟨_, 0, a3, rfl⟩ (.inl rfl)
        · cases hv
      · cases hv
    · cases hv
  · cases hv

theorem make_sim (h : Sm w0 M s w) {t : TypeId} {x y x' y' : Value} (hx : VR M x x') (hy : VR M y y') {v : Value} {s' : St} (hv : makeV P s t x y = some (v, s')) :
    ∃ v' w' M', (Instr.makeSlice t x' y').run P w = .ok v' w' ∧ Sm w0 M' s' w' ∧ Gr M s w M' s' w' ∧ VR M' v v' := by
  unfold makeV at hv
  split at hv
  · rename_i e k1 l k2 c he
    cases hx; cases hy
    split at hv
    · rename_i n z b hn hz hb
      split at hv
      · rename_i hc
        obtain ⟨hzl, hpos, hl0, hlc, hbig, hbig2⟩ := hc
        cases hv
        obtain ⟨i, zv, hi, hzz, hzc, hfree, _⟩ := zerT_info hz
        obtain ⟨hzLR, hz1⟩ := free_LR h hfree
        obtain ⟨i', hi', hin⟩ := sizT_info hn
        rw [hi] at hi'; cases hi'
        have hbb : i.bytes = b := by unfold bytT at hb; rw [hi] at hb; simpa using hb
        have hrun := run_make (P := P) w t e i zv (elemT_u he) hi hzz k1 k2 l c hl0 hlc (by rw [hbb, Int.mul_comm]; omega) (by omega)
        have hzs : zv.cells.size = n := by rw [← hzl, ← hzc]; simp
        have hmade : madeCells zv.cells (c.toNat * i.size) = (repL z c.toNat).toArray := by
          rw [hin, ← hzs, ← hzc, ← made_eq _ (by omega)]; rfl
        rw [hmade] at hrun
        obtain ⟨M', a1, a2, a3, a4, a5⟩ := allocRow_sim h (l := repL z c.toNat) (l' := repL z c.toNat) (repL_LR hzLR _) (fun v hv => hz1 v (repL_mem hv)) e
        exact ⟨_, _, M', hrun, a1, a2, .sli ⟨_, 0, a3, rfl⟩ (.inl rfl)⟩
      · cases hv
    · cases hv
  · cases hv

end
end Go.Ab
/- The simulation: cuts, appends, copies, comparisons. -/
set_option linter.unusedVariables false
set_option linter.unusedSimpArgs false
namespace Go.Ab
open Go Go.RowKit
theorem extract_dt {α : Type} {l : List α} {a b : Nat} : l.extract a b = (l.drop a).take (b - a) := by
  rw [List.extract_eq_take_drop]

section
variable {P : Program} {w0 : World} {M : Mp} {s : St} {w : World}

theorem AR.add {a a' : Addr} (h : AR M a a') (n : Nat) : AR M (a.add n) (a'.add n) := by
  obtain ⟨B, d, hb, rfl⟩ := h
  unfold Addr.add
  split
  · exact ⟨B, d, hb, rfl⟩
  · exact ⟨B, d, hb, by simp; omega⟩
theorem add_block (a : Addr) (n : Nat) : (a.add n).block = a.block := by unfold Addr.add; split <;> rfl
theorem AR.off_add {a' : Addr} (n : Nat) : (a'.add n).off = a'.off + n ∧ (a'.add n).block = a'.block := by unfold Addr.add; split <;> simp_all

theorem intOf_run {v v' : Value} {n : Int} (h : intOf? v = some n) (hv : VR M v v') (w : World) : ∃ k, v' = .int k n ∧ (asIntOf v').run P w = .ok (k, n) w := by
  cases hv <;> simp [intOf?] at h
  subst h
  exact ⟨_, rfl, rfl⟩
def OVR (M : Mp) (o o' : Option Value) : Prop := match o, o' with
  | some v, some v' => VR M v v'
  | none, none => True
  | _, _ => False
theorem bound_run {v v' : Value} {n : Int} (h : intOf? v = some n) (hv : VR M v v') (y : Nat) (code : BoundsCode) (h0 : 0 ≤ n) (h1 : n ≤ y) (w : World) :
    (Instr.sliceBound v' y code).run P w = .ok n.toNat w := by
  obtain ⟨k, rfl, hr⟩ := intOf_run (P := P) h hv w
  simp only [Instr.sliceBound, Sem.run_bind, hr, Result.andThen_ok, Sem.run_ite]
  rw [if_pos ⟨h0, h1⟩]; rfl

theorem low_run {lo lo' : Option Value} (h1 : OVR M lo lo') {li : Int} (hl : (match (generalizing := false) lo with | some v => intOf? v | none => some 0) = some li) (y : Nat) (c1 : 0 ≤ li) (c2 : li ≤ y) (code : BoundsCode) (a b : Nat) (w : World) :
    (match (generalizing := false) lo' with | some v => (do let l ← Instr.sliceBound v y code; pure (l, a, b)) | none => (do let l ← pure 0; pure (l, a, b)) : Sem (Nat × Nat × Nat)).run P w = .ok (li.toNat, a, b) w := by
  cases lo with
  | none =>
    cases lo' with
    | none => simp at hl; subst hl; rfl
    | some _ => exact h1.elim
  | some v =>
    cases lo' with
    | none => exact h1.elim
    | some v' => simp only [Sem.run_bind, bound_run (P := P) hl h1 y code c1 c2 w, Result.andThen_ok]; rfl
theorem cut_run {len cap cap' : Nat} {lo hi mx lo' hi' mx' : Option Value} (h1 : OVR M lo lo') (h2 : OVR M hi hi') (h3 : OVR M mx mx') {l h m : Nat} (hc : cutV len cap lo hi mx = some (l, h, m)) (hcap : cap ≤ cap') (b : Bool) (w : World) :
    (Instr.sliceBounds b len cap' lo' hi' mx').run P w = .ok (l, h, if mx.isSome = true then m else cap') w ∧ l ≤ h ∧ h ≤ m ∧ m ≤ cap ∧ (mx = none → m = cap) := by
  unfold cutV at hc
  split at hc
  · cases hc
  · rename_i mi hm
    split at hc
    · cases hc
    · rename_i hhi hh
      split at hc
      · cases hc
      · rename_i li hl
        split at hc
        · rename_i hcond
          obtain ⟨c1, c2, c3, c4⟩ := hcond
          cases hc
          refine ⟨?_, by omega, by omega, by omega, fun e => by subst e; simp at hm; omega⟩
          cases mx with
          | some v =>
            cases mx' with
            | none => exact h3.elim
            | some v' =>
              cases hi with
              | none => simp at hh
              | some u =>
                cases hi' with
                | none => exact h2.elim
                | some u' =>
                  have e1 := fun code => bound_run (P := P) hm h3 cap' code (by omega) (by omega) w
                  have e2 := fun code => bound_run (P := P) hh h2 mi.toNat code (by omega) (by omega) w
                  simp only [Instr.sliceBounds, Sem.run_bind, e1, Result.andThen_ok, e2, Option.isSome_some, if_true]
                  exact low_run h1 hl _ c1 (by omega) _ _ _ w
          | none =>
            cases mx' with
            | some _ => exact h3.elim
            | none =>
              simp at hm
              cases hi with
              | none =>
                cases hi' with
                | some _ => exact h2.elim
                | none =>
                  simp at hh
                  simp only [Instr.sliceBounds, Sem.run_bind, Sem.run_pure, Result.andThen_ok, Option.isSome_none, Bool.false_eq_true, if_false]
                  rw [show hhi.toNat = len from by omega]
                  exact low_run h1 hl _ c1 (by omega) _ _ _ w
              | some u =>
                cases hi' with
                | none => exact h2.elim
                | some u' =>
                  have e2 := fun code => bound_run (P := P) hh h2 cap' code (by omega) (by omega) w
                  simp only [Instr.sliceBounds, Sem.run_bind, Sem.run_pure, e2, Result.andThen_ok, Option.isSome_none, Bool.false_eq_true, if_false]
                  exact low_run h1 hl _ c1 (by omega) _ _ _ w
        · cases hc

theorem kind_gr (h : Sm w0 M s w) {a a' : Addr} (ha : AR M a a') {n z : Nat} (hk : kindB s a.block n = true) (hg : M.gr a.block = some z) : z = n := by
  obtain ⟨B, d, hb, rfl⟩ := ha
  by_cases hlt : a.block < w0.heap.size
  · rw [(h.old _ hlt).2] at hg; cases hg
  · obtain ⟨_, _, o, _, hor⟩ := h.new _ _ hb (by omega)
    unfold kindB at hk
    cases hh : s.heap a.block with
    | row c => rw [hh] at hor; rw [hor.1] at hg; cases hg
    | grown c z' => rw [hh] at hor hk; rw [hor.1] at hg; cases hg; simpa using hk
    | _ => rw [hh] at hk; cases hk

theorem slice_sim (h : Sm w0 M s w) {t : TypeId} {x x' : Value} {lo hi mx lo' hi' mx' : Option Value} (hx : VR M x x') (h1 : OVR M lo lo') (h2 : OVR M hi hi') (h3 : OVR M mx mx') {v : Value} (hv : sliceV P s t x lo hi mx = some v) :
    ∃ v', (Instr.sliceAt t x' lo' hi' mx').run P w = .ok v' w ∧ VR M v v' := by
  cases hx with
  | sliN len cap =>
    simp only [sliceV] at hv
    split at hv
    · rename_i e he
      split at hv
      · rename_i n l hh m hn hc
        cases hv
        obtain ⟨e1, c1, c2, c3, c4⟩ := cut_run (P := P) h1 h2 h3 hc (Nat.le_refl cap) true w
        refine ⟨.slice none (hh - l) (m - l), ?_, .sliN _ _⟩
        have hm : (if mx.isSome = true then m else cap) = m := by
          cases mx with
          | none => simp [c4 rfl]
          | some _ => rfl
        rw [hm] at e1
        simp only [Instr.sliceAt, Instr.slice, Sem.run_bind, run_underlying (elemT_u he), Result.andThen_ok, e1, sizT_run hn, Sem.run_pure, Option.map_none, ite_self]
      · cases hv
    · cases hv
  | sli0 a a' hb0 =>
    simp only [sliceV] at hv
    split at hv
    · rename_i e he
      split at hv
      · rename_i n l hh m hn hc
        split at hv
        · rename_i hk
          cases hv
          obtain ⟨e1, c1, c2, c3, c4⟩ := cut_run (P := P) h1 h2 h3 hc (Nat.le_refl 0) true w
          have hm : (if mx.isSome = true then m else 0) = 0 := by split <;> omega
          rw [hm] at e1
          have hl : l = 0 := by omega
          have hhh : hh = 0 := by omega
          have hmm : m = 0 := by omega
          subst hl; subst hhh; subst hmm
          refine ⟨.slice (some a') 0 0, ?_, .sli0 _ _ (by rw [add_block]; exact hb0)⟩
          simp only [Instr.sliceAt, Instr.slice, Sem.run_bind, run_underlying (elemT_u he), Result.andThen_ok, e1, sizT_run hn, Sem.run_pure, if_true]
        · cases hv
      · cases hv
    · cases hv
  | @sli a a' len cap cap' ha hx =>
    simp only [sliceV] at hv
    split at hv
    · rename_i e he
      split at hv
      · rename_i n l hh m hn hc
        split at hv
        · rename_i hk
          cases hv
          have hcap : cap ≤ cap' := by rcases hx with rfl | ⟨_, _, h, _⟩ <;> omega
          obtain ⟨e1, c1, c2, c3, c4⟩ := cut_run (P := P) h1 h2 h3 hc hcap true w
          obtain ⟨m', hm'⟩ : ∃ m', m' = if mx.isSome = true then m else cap' := ⟨_, rfl⟩
          rw [← hm'] at e1
          have hmm : m ≤ m' := by rw [hm']; split <;> omega
          have hmc : m' ≤ cap' := by rw [hm']; split <;> omega
          refine ⟨.slice (if m' = l then some a' else (some a').map (·.add (l * n))) (hh - l) (m' - l), ?_, ?_⟩
          · simp only [Instr.sliceAt, Instr.slice, Sem.run_bind, run_underlying (elemT_u he), Result.andThen_ok, e1, sizT_run hn, Sem.run_pure]
          · by_cases hml : m' = l
            · rw [if_pos hml]
              have : hh - l = 0 := by omega
              rw [this, show m - l = 0 from by omega, show m' - l = 0 from by omega]
              exact .sli0 _ _ (by rw [add_block]; exact ha.choose_spec.choose_spec.1)
            · rw [if_neg hml]
              refine .sli (ha.add _) ?_
              rcases hx with hx | ⟨z, g1, g2, g3⟩
              · left
                rw [hm']
                cases mx with
                | none => have := c4 rfl; simp; omega
                | some _ => rfl
              · right
                have hz := kind_gr h ha hk g1
                subst hz
                refine ⟨z, by rw [add_block]; exact g1, by omega, ?_⟩
                rw [(AR.off_add _).1, (AR.off_add _).2]
                have e3 : l * z + (m' - l) * z = m' * z := by rw [← Nat.add_mul]; congr 1; omega
                have e4 : m' * z ≤ cap' * z := Nat.mul_le_mul_right _ hmc
                omega
        · cases hv
      · cases hv
    · cases hv
  | @ptr a a' ha =>
    simp only [sliceV] at hv
    split at hv
    · rename_i k e he
      split at hv
      · rename_i n l hh m hn hc
        cases hv
        obtain ⟨e1, c1, c2, c3, c4⟩ := cut_run (P := P) h1 h2 h3 hc (Nat.le_refl k) false w
        have hm : (if mx.isSome = true then m else k) = m := by
          cases mx with
          | none => simp [c4 rfl]
          | some _ => rfl
        rw [hm] at e1
        refine ⟨.slice (some (if m = l then a' else a'.add (l * n))) (hh - l) (m - l), ?_, ?_⟩
        · simp only [Instr.sliceAt, Instr.sureAddr, Sem.run_bind, run_underlying (arrT_u he), Result.andThen_ok, Sem.run_pure, e1, sizT_run hn]
        · by_cases hml : m = l
          · rw [if_pos hml, show hh - l = 0 from by omega, show m - l = 0 from by omega]
            exact .sli0 _ _ (by rw [add_block]; exact ha.choose_spec.choose_spec.1)
          · rw [if_neg hml]; exact .sli (ha.add _) (.inl rfl)
      · cases hv
    · cases hv
  | str b =>
    simp only [sliceV] at hv
    split at hv
    · rename_i hc0
      obtain ⟨ht, rfl⟩ := hc0
      split at hv
      · rename_i l hh m hc
        cases hv
        cases mx' with
        | some _ => exact h3.elim
        | none =>
          obtain ⟨e1, c1, c2, c3, c4⟩ := cut_run (P := P) (mx := none) (mx' := none) h1 h2 trivial hc (Nat.le_refl b.size) false w
          refine ⟨.string (b.extract l hh), ?_, .str _⟩
          simp only [Instr.sliceAt, Instr.slice, Sem.run_bind, run_underlying (strT_u ht), Result.andThen_ok, Option.isSome_none, Bool.false_eq_true, if_false, e1, Sem.run_pure, Sem.run_ite]
      · cases hv
    · cases hv
  | _ => simp [sliceV] at hv

/-! ### What is appended -/
theorem cell_drew (w : World) (a : Addr) : w.drew.cell? a = w.cell? a := rfl
theorem first_sim (h : Sm w0 M s w) {x x' : Value} (hx : VR M x x') {z n : Nat} {news : List Value} (hn : newsV w0.heap.size s z n x = some news) :
    news.length = n * z ∧ ∃ news', LR M news news' ∧ (∀ v ∈ news, oneB v = true) ∧ (Builtin.firstCells z n x').run P w = .ok news'.toArray w ∧ (Builtin.firstCells z n x').run P w.drew = .ok news'.toArray w.drew := by
  cases hx with
  | sliN l c =>
    simp only [newsV] at hn
    split at hn
    · rename_i h0; cases hn; subst h0
      exact ⟨by simp, [], .nil M, by simp, rfl, rfl⟩
    · cases hn
  | sli0 a a' hb0 =>
    simp only [newsV] at hn
    split at hn
    · rename_i h0
      have : n = 0 := by omega
      subst this
      simp only [Nat.zero_mul] at hn
      obtain ⟨h1, l', h2, h3, h4⟩ := ldN_sim h (a' := a') (fun e => absurd rfl e) hn
      have hl : l' = [] := List.eq_nil_of_length_eq_zero (by rw [← h2.1, h1])
      subst hl
      refine ⟨by rw [h1]; simp, [], h2, h3, ?_, ?_⟩ <;> simp [Builtin.firstCells, loadCells, loadCellsFrom]
    · cases hn
  | @sli a a' len cap cap' ha hx =>
    simp only [newsV] at hn
    split at hn
    · obtain ⟨h1, l', h2, h3, h4⟩ := ldN_sim h (fun _ => ha) hn
      refine ⟨h1, l', h2, h3, ?_, ?_⟩
      · have := run_loadCells_list (P := P) w a' l' h4
        rw [← h2.1, h1] at this
        exact this
      · have := run_loadCells_list (P := P) w.drew a' l' (fun j v hv => by rw [cell_drew]; exact h4 j v hv)
        rw [← h2.1, h1] at this
        exact this
    · cases hn
  | str b =>
    simp only [newsV] at hn
    split at hn
    · rename_i hc
      obtain ⟨h1, rfl⟩ := hc
      cases hn
      have hb : b.data.size = b.size := rfl
      refine ⟨by simp; omega, _, ⟨rfl, fun i v v' e1 e2 => ?_⟩, fun v hv => ?_, ?_, ?_⟩
      · rw [e1] at e2; cases e2
        obtain ⟨x, _, rfl⟩ := List.mem_map.1 (List.mem_of_getElem? e1)
        exact .int _ _
      · obtain ⟨x, _, rfl⟩ := List.mem_map.1 hv; rfl
      all_goals
        simp only [Builtin.firstCells, Sem.run_pure]
        congr 1
        apply Array.ext'
        simp [ByteArray.data_extract, Array.toList_extract, extract_dt]
    · cases hn
  | _ => simp [newsV] at hn
theorem len_sim {x x' : Value} (hx : VR M x x') {n : Nat} (h : lenV? x = some n) (w : World) : (Builtin.lenOf x').run P w = .ok n w := by
  cases hx <;> simp [lenV?] at h <;> subst h <;> rfl
end
end Go.Ab
/- The simulation: append and copy. -/
set_option linter.unusedVariables false
set_option linter.unusedSimpArgs false
namespace Go.Ab
open Go Go.RowKit

section
variable {P : Program} {w0 : World} {M : Mp} {s : St} {w : World}

/-- What append comes to where there is room. -/
def Placed (P : Program) (w : World) (base : Option Addr) (off need cap : Nat) (news : List Value) : Result Value :=
  match base with
  | some a => ((storeCells (a.add off) news).run P w).andThen fun _ w' => .ok (.slice (some a) need cap) w'
  | none => .ok (.slice none need cap) w
theorem app_place {t t' ty e : TypeId} {i : TypeInfo} {d : TypeDesc} (hu : P.underlying t = some (.slice e)) (hi : P.info? e = some i) (hu' : P.underlying t' = some d) (hd : ∀ k, d ≠ .int k)
    {base : Option Addr} {len cap n : Nat} {x : Value} (hn : (Builtin.lenOf x).run P w = .ok n w) {news : List Value} (ha : (Builtin.firstCells i.size n x).run P w = .ok news.toArray w) (hc : len + n ≤ cap) :
    (Builtin.append_ #[t, t'] ty #[.slice base len cap, x]).run P w = Placed P w base (len * i.size) (len + n) cap news := by
  have hm : (match (generalizing := false) d with | .int _ => true | _ => false) = false := by cases d <;> first | rfl | exact absurd rfl (hd _)
  cases base <;> simp [Builtin.append_, Placed, run_underlying hu, run_underlying hu', hm, sizeOf, typeInfo, hi, hn, hc, ha]
theorem app_grow {t t' ty e : TypeId} {i : TypeInfo} {d : TypeDesc} (hu : P.underlying t = some (.slice e)) (hi : P.info? e = some i) (hu' : P.underlying t' = some d) (hd : ∀ k, d ≠ .int k) {z : Value} (hz : i.zero = some z)
    {base : Option Addr} {len cap n : Nat} {x : Value} (hn : (Builtin.lenOf x).run P w = .ok n w) {news olds : List Value} (ha : (Builtin.firstCells i.size n x).run P w.drew = .ok news.toArray w.drew)
    (ho : (Builtin.firstCells i.size len (.slice base len cap)).run P w.drew = .ok olds.toArray w.drew) (hc : cap < len + n) (h63 : ((len + n : Nat) : Int) ≤ 9223372036854775807)
    (hfit : Builtin.nextslicecap (len + n) cap * i.bytes ≤ 281474976710656) :
    (Builtin.append_ #[t, t'] ty #[.slice base len cap, x]).run P w =
      .ok (.slice (some ⟨w.heap.size, 0, none⟩) (len + n) (grownCap w (len + n) cap e)) (w.drew.alloc (.cells ((olds ++ news).toArray ++ Builtin.zeroCells z.cells (grownCap w (len + n) cap e - (len + n))) e)) := by
  have hn' : ¬ (len + n ≤ cap) := by omega
  have h63' : ¬ (9223372036854775807 < ((len : Int) + (n : Int))) := by omega
  have h48' : ¬ (281474976710656 < Builtin.nextslicecap (len + n) cap * i.bytes) := by omega
  have hm : (match (generalizing := false) d with | .int _ => true | _ => false) = false := by cases d <;> first | rfl | exact absurd rfl (hd _)
  simp [Builtin.append_, run_underlying hu, run_underlying hu', hm, sizeOf, typeInfo, hi, hn, hn', h63', h48', Question.forced, ha, ho, zeroValue, hz, newRow, grownCap]
  congr 2
  apply Array.ext'
  simp [List.append_assoc]
theorem zapp_place {t t' ty e : TypeId} {i : TypeInfo} {k k2 : IntKind} (hu : P.underlying t = some (.slice e)) (hi : P.info? e = some i) (hu' : P.underlying t' = some (.int k)) {z : Value} (hz : i.zero = some z) (hzs : z.cells.size = i.size) (hpos : 0 < i.size)
    {base : Option Addr} {len cap : Nat} {l : Int} (h0 : 0 ≤ l) (h1 : l ≤ 2 ^ 44) (h2 : l * i.bytes ≤ 2 ^ 44) (hc : len + l.toNat ≤ cap) :
    (Builtin.append_ #[t, t'] ty #[.slice base len cap, .int k2 l]).run P w = Placed P w base (len * i.size) (len + l.toNat) cap (repL z.cells.toList l.toNat) := by
  have wl : IntKind.i64.wrap l = l := by rw [IntKind.wrap_i64]; omega
  have n1 : ¬ l < 0 := by omega
  have n2 : ¬ (281474976710656 < l * (i.bytes : Int)) := by omega
  have hm := made_eq z.cells (by omega) l.toNat
  by_cases hn : l.toNat = 0
  · have hl : l = 0 := by omega
    subst hl
    simp at hc
    cases base <;> simp [Builtin.append_, Placed, run_underlying hu, run_underlying hu', sizeOf, typeInfo, hi, asInt, asIntOf, IntKind.wrap_i64, repL, hc]
  · have hs0 : ¬ i.size = 0 := by omega
    have hl1 : ¬ l ≤ 0 := by omega
    have hz0 : ¬ l.toNat * i.size = 0 := by
      intro h; rcases Nat.mul_eq_zero.1 h with h | h <;> omega
    cases base <;> simp [hz0, Builtin.append_, Placed, run_underlying hu, run_underlying hu', sizeOf, typeInfo, hi, asInt, asIntOf, wl, n1, n2, hn, hs0, hl1, zeroValue, hz, Builtin.zeroCells, hm, hc]
theorem zapp_grow {t t' ty e : TypeId} {i : TypeInfo} {k k2 : IntKind} (hu : P.underlying t = some (.slice e)) (hi : P.info? e = some i) (hu' : P.underlying t' = some (.int k)) {z : Value} (hz : i.zero = some z) (hzs : z.cells.size = i.size) (hpos : 0 < i.size)
    {base : Option Addr} {len cap : Nat} {l : Int} (h0 : 0 ≤ l) (h1 : l ≤ 2 ^ 44) (h2 : l * i.bytes ≤ 2 ^ 44) {olds : List Value}
    (ho : (Builtin.firstCells i.size len (.slice base len cap)).run P w.drew = .ok olds.toArray w.drew) (hc : cap < len + l.toNat) (hne : 0 < l) (h63 : ((len + l.toNat : Nat) : Int) ≤ 9223372036854775807)
    (hfit : Builtin.nextslicecap (len + l.toNat) cap * i.bytes ≤ 281474976710656) :
    (Builtin.append_ #[t, t'] ty #[.slice base len cap, .int k2 l]).run P w =
      .ok (.slice (some ⟨w.heap.size, 0, none⟩) (len + l.toNat) (grownCap w (len + l.toNat) cap e)) (w.drew.alloc (.cells ((olds ++ repL z.cells.toList l.toNat).toArray ++ Builtin.zeroCells z.cells (grownCap w (len + l.toNat) cap e - (len + l.toNat))) e)) := by
  have wl : IntKind.i64.wrap l = l := by rw [IntKind.wrap_i64]; omega
  have n1 : ¬ l < 0 := by omega
  have n2 : ¬ (281474976710656 < l * (i.bytes : Int)) := by omega
  have hm := made_eq z.cells (by omega) l.toNat
  have hn' : ¬ (len + l.toNat ≤ cap) := by omega
  have h63' : ¬ (9223372036854775807 < ((len : Int) + (l.toNat : Int))) := by omega
  have h63'' : ¬ (9223372036854775807 < ((len : Int) + max l 0)) := by omega
  have h48' : ¬ (281474976710656 < Builtin.nextslicecap (len + l.toNat) cap * i.bytes) := by omega
  have hs0 : ¬ i.size = 0 := by omega
  have hl1 : ¬ l ≤ 0 := by omega
  have hz0 : ¬ l.toNat * i.size = 0 := by
    intro h; rcases Nat.mul_eq_zero.1 h with h | h <;> omega
  simp [hz0, Builtin.append_, run_underlying hu, run_underlying hu', sizeOf, typeInfo, hi, asInt, asIntOf, wl, n1, n2, hs0, hl1, hn', h63', h63'', h48', Question.forced, ho, zeroValue, hz, newRow, grownCap]
  simp only [Builtin.zeroCells, hm]
  congr 2
  apply Array.ext'
  simp

theorem upd_gone_sim (h : Sm w0 M s w) {b : Nat} (hge : w0.heap.size ≤ b) : Sm w0 M (s.upd b .gone) w := by
  refine ⟨h.below, h.nxt, h.old, fun k hk => ?_, fun k y hk hkb => ?_, fun k k' y y' h1 h2 h3 h4 h5 h6 h7 => ?_⟩
  · rw [heap_upd_ne _ _ (by omega)]; exact h.olds k hk
  · obtain ⟨g1, g2, o, g3, g4⟩ := h.new k y hk hkb
    by_cases e : k = b
    · subst e; exact ⟨g1, g2, o, g3, by rw [heap_upd_same]; trivial⟩
    · exact ⟨g1, g2, o, g3, by rw [heap_upd_ne _ _ e]; exact g4⟩
  · have e1 : k ≠ b := fun e => by rw [e, heap_upd_same] at h6; cases h6
    have e2 : k' ≠ b := fun e => by rw [e, heap_upd_same] at h7; cases h7
    rw [heap_upd_ne _ _ e1] at h6
    rw [heap_upd_ne _ _ e2] at h7
    exact h.inj k k' y y' h1 h2 h3 h4 h5 h6 h7

/-- The row has grown where it lay: its abstract block is a new one. -/
theorem regrow_sim (h : Sm w0 M s w) {b z len : Nat} {c olds news : List Value} {x : Nat × Nat} (hb : M.blk b = some x) (hge : w0.heap.size ≤ b) (hh : s.heap b = .grown c z) {off : Nat} (hold : getL c off (len * z) = some olds)
    {news' : List Value} (hn : LR M news news') (h1 : ∀ v ∈ news, oneB v = true) {C : Array Value} {t : TypeId} (hC : w.heap[x.1]? = some (.cells C t (0, 0))) (hCs : C.size = M.sz x.1)
    (hcc : ∀ (i : Nat) v, c[i]? = some v → oneB v = true ∧ ∃ v', C[x.2 + i]? = some v' ∧ VR M v v') (hroom : x.2 + off + len * z + news.length ≤ C.size) :
    ∃ M' C', Sm w0 M' ((s.upd b .gone).alloc (.grown (olds ++ news) z)) (w.setRow x.1 C') ∧ Gr M s w M' ((s.upd b .gone).alloc (.grown (olds ++ news) z)) (w.setRow x.1 C') ∧ M'.blk s.next = some (x.1, x.2 + off) ∧ M'.gr s.next = some z ∧ M'.sz x.1 = M.sz x.1 ∧
      C' = (C.toList.take (x.2 + off + len * z) ++ news' ++ C.toList.drop (x.2 + off + len * z + news'.length)).toArray := by
  obtain ⟨C', hC'⟩ : ∃ C', C' = (C.toList.take (x.2 + off + len * z) ++ news' ++ C.toList.drop (x.2 + off + len * z + news'.length)).toArray := ⟨_, rfl⟩
  have hnl : news'.length = news.length := hn.1.symm
  have hCget : ∀ k, C'[k]? = if x.2 + off + len * z ≤ k ∧ k < x.2 + off + len * z + news'.length then news'[k - (x.2 + off + len * z)]? else C[k]? := fun k => by
    rw [hC']
    simp only [List.getElem?_toArray, List.append_assoc]
    by_cases k1 : k < x.2 + off + len * z
    · rw [List.getElem?_append_left (by simp; omega), List.getElem?_take_of_lt k1, if_neg (by omega), Array.getElem?_toList]
    · rw [List.getElem?_append_right (by simp; omega)]
      simp only [List.length_take, Array.length_toList, Nat.min_eq_left (show x.2 + off + len * z ≤ C.size by omega)]
      by_cases k2 : k < x.2 + off + len * z + news'.length
      · rw [List.getElem?_append_left (by omega), if_pos (by omega)]
      · rw [List.getElem?_append_right (by omega), List.getElem?_drop, if_neg (by omega), Array.getElem?_toList]
        congr 1; omega
  have hC's : C'.size = C.size := by rw [hC']; simp; omega
  have h' := upd_gone_sim h hge (b := b)
  have hle : Mle M (M.ext s.next (x.1, x.2 + off) (some z) (M.sz x.1)) := Mle.ext h _ _ _ fun b' y hb' e => rfl
  have hset := setRow_heap w x.1 C C' t (0, 0) hC
  have hsz : (w.setRow x.1 C').heap.size = w.heap.size := by simp [World.setRow]
  obtain ⟨hb1, hb2, _⟩ := h.new b x hb hge
  obtain ⟨g1, g2, g3, g4⟩ := getL_some hold
  refine ⟨M.ext s.next (x.1, x.2 + off) (some z) (M.sz x.1), C', ⟨⟨h.below.os, h.below.tape, h.below.output, by rw [hsz]; exact h.size, fun k hk => ?_⟩, by rw [next_alloc, next_upd]; have := h.nxt; omega, fun k hk => ?_, fun k hk => ?_, fun k y hk hkb => ?_, fun k k' y y' p1 p2 p3 p4 p5 p6 p7 => ?_⟩,
    ⟨hle, by rw [next_alloc, next_upd]; omega, fun k y hk hlt => ?_, fun k y hk => ?_, fun k y hk hg => ?_, fun B hB hnn => ?_, by rw [hsz]; exact Nat.le_refl _⟩, Mp.ext_blk .., Mp.ext_gr .., Mp.ext_sz .., hC'⟩
  · rw [setRow_other w x.1 k C' (by omega)]; exact h.below.block k hk
  · have := h.old k hk
    have hne : k ≠ s.next := by have := h.nxt; omega
    exact ⟨hle.blk _ _ this.1, by simp [Mp.ext, hne, this.2]⟩
  · rw [heap_alloc_ne _ _ (by rw [next_upd]; have := h.nxt; omega), heap_upd_ne _ _ (by omega)]; exact h.olds k hk
  · by_cases hkn : k = s.next
    · subst hkn
      rw [Mp.ext_blk] at hk; cases hk
      refine ⟨by rw [next_alloc, next_upd]; omega, hb2, _, hset, ?_⟩
      have e : ((s.upd b .gone).alloc (.grown (olds ++ news) z)).heap s.next = .grown (olds ++ news) z := by
        have := heap_alloc_new (s.upd b .gone) (.grown (olds ++ news) z); rw [next_upd] at this; exact this
      rw [e]
      refine ⟨Mp.ext_gr .., C', t, rfl, by rw [Mp.ext_sz, hC's, hCs], fun i v hv => ?_⟩
      simp only [hCget]
      by_cases hi : i < olds.length
      · rw [List.getElem?_append_left hi, g4 i (by omega)] at hv
        obtain ⟨q1, v', q2, q3⟩ := hcc _ v hv
        refine ⟨q1, v', ?_, q3.mono hle⟩
        rw [if_neg (by omega)]
        rw [← q2]; congr 1; omega
      · rw [List.getElem?_append_right (by omega)] at hv
        obtain ⟨v', q2, q3⟩ := hn.at hv
        have hi2 : i - olds.length < news'.length := (List.getElem?_eq_some_iff.1 q2).1
        refine ⟨h1 v (List.mem_of_getElem? hv), v', ?_, q3.mono hle⟩
        rw [if_pos (by omega)]
        rw [← q2]; congr 1; omega
    · have hk0 : M.blk k = some y := by simpa [Mp.ext, hkn] using hk
      obtain ⟨q1, q2, o, q3, q4⟩ := h.new k y hk0 hkb
      rw [heap_alloc_ne _ _ (by rw [next_upd]; exact hkn)]
      by_cases hkb' : k = b
      · subst hkb'
        rw [hb] at hk0; cases hk0
        exact ⟨by rw [next_alloc, next_upd]; omega, q2, _, hset, by rw [heap_upd_same]; trivial⟩
      · rw [heap_upd_ne _ _ hkb']
        by_cases hy : y.1 = x.1
        · cases hg : goneB (s.heap k) with
          | true =>
            refine ⟨by rw [next_alloc, next_upd]; omega, q2, .cells C' t (0, 0), by rw [hy]; exact hset, ?_⟩
            cases hs : s.heap k <;> first | trivial | (rw [hs] at hg; simp [goneB] at hg)
          | false => exact absurd (h.inj k b y x hkb hge hk0 hb hy hg (by rw [hh]; rfl)) hkb'
        · refine ⟨by rw [next_alloc, next_upd]; omega, q2, o, ?_, q4.mono hle hk0⟩
          rw [setRow_other w x.1 y.1 C' hy]; exact q3
  · have ge : ∀ j, j ≠ s.next → goneB (((s.upd b .gone).alloc (.grown (olds ++ news) z)).heap j) = false → j ≠ b ∧ goneB (s.heap j) = false := fun j hj hg => by
      rw [heap_alloc_ne _ _ (by rw [next_upd]; exact hj)] at hg
      have hjb : j ≠ b := fun e => by rw [e, heap_upd_same] at hg; cases hg
      rw [heap_upd_ne _ _ hjb] at hg
      exact ⟨hjb, hg⟩
    by_cases e1 : k = s.next
    · by_cases e2 : k' = s.next
      · rw [e1, e2]
      · exfalso
        subst e1
        rw [Mp.ext_blk] at p3; cases p3
        obtain ⟨r1, r2⟩ := ge k' e2 p7
        have p4' : M.blk k' = some y' := by simpa [Mp.ext, e2] using p4
        exact r1 (h.inj k' b y' x p2 hge p4' hb p5.symm r2 (by rw [hh]; rfl))
    · obtain ⟨r1, r2⟩ := ge k e1 p6
      have p3' : M.blk k = some y := by simpa [Mp.ext, e1] using p3
      by_cases e2 : k' = s.next
      · exfalso
        subst e2
        rw [Mp.ext_blk] at p4; cases p4
        exact r1 (h.inj k b y x p1 hge p3' hb p5 r2 (by rw [hh]; rfl))
      · obtain ⟨r3, r4⟩ := ge k' e2 p7
        have p4' : M.blk k' = some y' := by simpa [Mp.ext, e2] using p4
        exact h.inj k k' y y' p1 p2 p3' p4' p5 r2 r4
  · have hkn : k ≠ s.next := by omega
    simpa [Mp.ext, hkn] using hk
  · by_cases hkn : k = s.next
    · subst hkn; rw [Mp.ext_blk] at hk; cases hk; exact .inl ⟨b, x, hb, rfl⟩
    · exact .inl ⟨k, y, by simpa [Mp.ext, hkn] using hk, rfl⟩
  · by_cases hkn : k = s.next
    · subst hkn; rw [Mp.ext_blk] at hk; cases hk; exact .inl ⟨b, x, hb, by rw [hh]; rfl, rfl⟩
    · rw [heap_alloc_ne _ _ (by rw [next_upd]; exact hkn)] at hg
      have hkb : k ≠ b := fun e => by rw [e, heap_upd_same] at hg; cases hg
      rw [heap_upd_ne _ _ hkb] at hg
      exact .inl ⟨k, y, by simpa [Mp.ext, hkn] using hk, hg, rfl⟩
  · rw [setRow_other w x.1 B C' (fun e => hnn b x hb (by rw [hh]; rfl) e.symm)]
end
end Go.Ab
/- The simulation: append, copy, comparison; all operations that call nothing. -/
set_option linter.unusedVariables false
set_option linter.unusedSimpArgs false
namespace Go.Ab
open Go Go.RowKit

section
variable {P : Program} {w0 : World} {M : Mp} {s : St} {w : World}

theorem Gr.of_gone {b : Nat} {M' : Mp} {s' : St} {w' : World} (h : Gr M (s.upd b .gone) w M' s' w') : Gr M s w M' s' w' := by
  have e : ∀ k, goneB ((s.upd b .gone).heap k) = false → goneB (s.heap k) = false := fun k hk => by
    have hkb : k ≠ b := fun e => by rw [e, heap_upd_same] at hk; cases hk
    rw [heap_upd_ne _ _ hkb] at hk; exact hk
  refine ⟨h.le, h.nxt, h.dom, h.img, fun k y hk hg => ?_, fun B hB hn => h.fr B hB fun k y hk hg => hn k y hk (e k hg), h.size⟩
  rcases h.live k y hk hg with ⟨b', x', h1, h2, h3⟩ | h1
  · exact .inl ⟨b', x', h1, e _ h2, h3⟩
  · exact .inr h1

/-- A new row that may grow: its cells are 'l', and more. -/
theorem allocGrown_sim (h : Sm w0 M s w) {l l' : List Value} (hl : LR M l l') (h1 : ∀ v ∈ l, oneB v = true) (r : Array Value) (z : Nat) (t : TypeId) :
    ∃ M', Sm w0 M' (s.alloc (.grown l z)) (w.drew.alloc (.cells (l'.toArray ++ r) t)) ∧ Gr M s w M' (s.alloc (.grown l z)) (w.drew.alloc (.cells (l'.toArray ++ r) t)) ∧ M'.blk s.next = some (w.heap.size, 0) ∧ M'.gr s.next = some z ∧ M'.sz w.heap.size = (l'.toArray ++ r).size := by
  have hr := rowR_new h.drew hl h1 r (some z) (l'.toArray ++ r).size rfl t
  obtain ⟨a, b⟩ := alloc_sim h.drew (.grown l z) (.cells (l'.toArray ++ r) t) (some z) (l'.toArray ++ r).size ⟨Mp.ext_gr .., hr⟩
  exact ⟨_, a, b.drew, Mp.ext_blk .., Mp.ext_gr .., Mp.ext_sz ..⟩

theorem rep_size (z : Array Value) (n : Nat) : (Builtin.zeroCells z n).size = n * z.size := size_zeroCells z n

theorem append_sim (h : Sm w0 M s w) {t : TypeId} {v v' : Value} (hv : VR M v v') {n : Nat} {news news' : List Value} (hn : LR M news news') (h1 : ∀ u ∈ news, oneB u = true) {r : Value} {s' : St}
    (hr : appendV P w0.heap.size s t v n news = some (r, s')) {run : Result Value}
    (hplace : ∀ (e : TypeId) (i : TypeInfo) b len cap, P.underlying t = some (.slice e) → P.info? e = some i → v' = .slice b len cap → len + n ≤ cap → run = Placed P w b (len * i.size) (len + n) cap news')
    (hgrow : ∀ (e : TypeId) (i : TypeInfo) z b len cap olds, P.underlying t = some (.slice e) → P.info? e = some i → i.zero = some z → z.cells.size = i.size → 0 < i.size → v' = .slice b len cap →
      (Builtin.firstCells i.size len v').run P w.drew = .ok olds.toArray w.drew → cap < len + n → 0 < n → ((len + n : Nat) : Int) ≤ 9223372036854775807 → Builtin.nextslicecap (len + n) cap * i.bytes ≤ 281474976710656 →
      run = .ok (.slice (some ⟨w.heap.size, 0, none⟩) (len + n) (grownCap w (len + n) cap e)) (w.drew.alloc (.cells ((olds ++ news').toArray ++ Builtin.zeroCells z.cells (grownCap w (len + n) cap e - (len + n))) e))) :
    ∃ r' w' M', run = .ok r' w' ∧ Sm w0 M' s' w' ∧ Gr M s w M' s' w' ∧ VR M' r r' := by
  unfold appendV at hr
  split at hr
  · rename_i e b len cap he
    split at hr
    · rename_i z zr by_ hz hzr hby
      split at hr
      · rename_i hc
        obtain ⟨c1, c2, c3, c4⟩ := hc
        obtain ⟨i, hi, hiz⟩ := sizT_info hz
        obtain ⟨i2, zv, hi2, hzz, hzc, hfree, _⟩ := zerT_info hzr
        rw [hi] at hi2; cases hi2
        have hbb : i.bytes = by_ := by unfold bytT at hby; rw [hi] at hby; simpa using hby
        have hzs : zv.cells.size = i.size := by rw [hiz, ← c1, ← hzc]; simp
        have hu := elemT_u he
        have hnl : news'.length = n * z := by rw [← hn.1, c3]
        split at hr
        · -- nothing
          rename_i hn0
          cases hr
          have hnil : news' = [] := List.eq_nil_of_length_eq_zero (by rw [hnl, hn0]; simp)
          cases hv with
          | sliN => exact ⟨_, w, M, by rw [hplace e i none len cap hu hi rfl (by omega)]; rfl, h, .refl M _ w, by rw [hn0]; exact .sliN _ _⟩
          | sli0 a a' hb0 => exact ⟨_, w, M, by rw [hplace e i (some a') 0 0 hu hi rfl (by omega), hnil]; rfl, h, .refl M _ w, by rw [hn0]; exact .sli0 _ _ hb0⟩
          | @sli a a' _ _ cap' ha hx =>
            have hcap : cap ≤ cap' := by rcases hx with rfl | ⟨_, _, h, _⟩ <;> omega
            exact ⟨_, w, M, by rw [hplace e i (some a') len cap' hu hi rfl (by omega), hnil]; rfl, h, .refl M _ w, by rw [hn0]; exact .sli ha hx⟩
        · rename_i hn0
          split at hr
          · -- in place
            rename_i hroom
            split at hr
            · rename_i a
              split at hr
              · rename_i s1 hst
                cases hr
                cases hv with
                | sli0 a a' _ => omega
                | @sli _ a' _ _ cap' ha hx =>
                  have hcap : cap ≤ cap' := by rcases hx with rfl | ⟨_, _, h, _⟩ <;> omega
                  obtain ⟨w', e1, e2, e3⟩ := stN_sim (P := P) h (fun _ => ha.add _) hn h1 hst
                  refine ⟨.slice (some a') (len + n) cap', w', M, ?_, e2, e3, .sli ha hx⟩
                  rw [hplace e i (some a') len cap' hu hi rfl (by omega)]
                  simp only [Placed, hiz, e1, Result.andThen_ok]
              · cases hr
            · cases hr
          · rename_i hroom
            split at hr
            · -- a new row
              rename_i hbig
              obtain ⟨b1, b2, b3⟩ := hbig
              have hfit : ∀ cap', cap' < len + n → Builtin.nextslicecap (len + n) cap' * i.bytes ≤ 281474976710656 := fun cap' hlt => by
                have := nextslicecap_le hlt
                have h2 : Builtin.nextslicecap (len + n) cap' * i.bytes ≤ 2 * (len + n) * i.bytes := Nat.mul_le_mul_right _ this
                rw [hbb] at h2 ⊢
                have h3 : 2 * (len + n) * by_ = 2 * ((len + n) * by_) := Nat.mul_assoc ..
                omega
              have h63 : ((len + n : Nat) : Int) ≤ 9223372036854775807 := by omega
              have hge := grownCap_ge w (len + n)
              have hzpos : 0 < i.size := by omega
              -- the new row here, where it is copied
              have fresh : ∀ (olds olds' : List Value) (cap' : Nat), LR M olds olds' → (∀ u ∈ olds, oneB u = true) → olds.length = len * z →
                  ∃ M', Sm w0 M' (s.alloc (.grown (olds ++ news) z)) (w.drew.alloc (.cells ((olds' ++ news').toArray ++ Builtin.zeroCells zv.cells (grownCap w (len + n) cap' e - (len + n))) e)) ∧
                    Gr M s w M' (s.alloc (.grown (olds ++ news) z)) (w.drew.alloc (.cells ((olds' ++ news').toArray ++ Builtin.zeroCells zv.cells (grownCap w (len + n) cap' e - (len + n))) e)) ∧
                    VR M' (.slice (some ⟨s.next, 0, none⟩) (len + n) (len + n)) (.slice (some ⟨w.heap.size, 0, none⟩) (len + n) (grownCap w (len + n) cap' e)) := fun olds olds' cap' ho ho1 hol => by
                have hg := hge cap' e
                obtain ⟨M', a1, a2, a3, a4, a5⟩ := allocGrown_sim h (ho.append hn) (fun u hu => by rcases List.mem_append.1 hu with hu | hu; exact ho1 u hu; exact h1 u hu) (Builtin.zeroCells zv.cells (grownCap w (len + n) cap' e - (len + n))) z e
                refine ⟨M', a1, a2, .sli ⟨_, 0, a3, rfl⟩ (.inr ⟨z, a4, hg, ?_⟩)⟩
                simp only [a5]
                have hsz : ((olds' ++ news').toArray ++ Builtin.zeroCells zv.cells (grownCap w (len + n) cap' e - (len + n))).size = len * z + n * z + (grownCap w (len + n) cap' e - (len + n)) * z := by
                  rw [Array.size_append, rep_size, hzs, hiz]
                  simp only [List.size_toArray, List.length_append, ← ho.1, ← hn.1, hol, c3]
                rw [hsz, ← Nat.add_mul, ← Nat.add_mul, Nat.zero_add]
                exact Nat.mul_le_mul_right _ (by omega)
              split at hr
              · split at hr
                · rename_i hl0
                  cases hr
                  subst hl0
                  cases hv with
                  | sliN =>
                    obtain ⟨M', a1, a2, a3⟩ := fresh [] [] cap (.nil M) (by simp) (by simp)
                    have e0 := hgrow e i zv none 0 cap [] hu hi hzz hzs hzpos rfl (by rfl) (by omega) (by omega) h63 (hfit cap (by omega))
                    simp only [List.nil_append, Nat.zero_add] at a1 a2 a3 e0
                    exact ⟨_, _, M', e0, a1, a2, a3⟩
                · cases hr
              · rename_i a
                split at hr
                · -- a row of its own size
                  rename_i c hh
                  split at hr
                  · rename_i olds hol
                    cases hr
                    have src : ∃ b' cap' olds', v' = .slice (some b') len cap' ∧ cap' < len + n ∧ LR M olds olds' ∧ (∀ u ∈ olds, oneB u = true) ∧ olds.length = len * z ∧ (Builtin.firstCells i.size len v').run P w.drew = .ok olds'.toArray w.drew := by
                      cases hv with
                      | sli0 _ a' _ =>
                        simp only [Nat.zero_mul] at hol
                        obtain ⟨q1, l', q2, q3, q4⟩ := ldN_sim h (a' := a') (fun e => absurd rfl e) hol
                        have hl : l' = [] := List.eq_nil_of_length_eq_zero (by rw [← q2.1, q1])
                        subst hl
                        exact ⟨a', 0, [], rfl, by omega, q2, q3, by rw [q1]; simp, by simp [Builtin.firstCells, loadCells, loadCellsFrom]⟩
                      | @sli _ a' _ _ cap' ha hx =>
                        have hcap : cap' = cap := by
                          rcases hx with hx | ⟨z', g1, g2, g3⟩
                          · exact hx
                          · exfalso
                            obtain ⟨B, d, hb, rfl⟩ := ha
                            by_cases hlt : a.block < w0.heap.size
                            · rw [(h.old _ hlt).2] at g1; cases g1
                            · obtain ⟨_, _, o, _, hor⟩ := h.new _ _ hb (by omega)
                              rw [hh] at hor; rw [hor.1] at g1; cases g1
                        subst hcap
                        obtain ⟨q1, l', q2, q3, q4⟩ := ldN_sim h (fun _ => ha) hol
                        refine ⟨a', cap', l', rfl, by omega, q2, q3, q1, ?_⟩
                        have := run_loadCells_list (P := P) w.drew a' l' (fun j v hv => by rw [cell_drew]; exact q4 j v hv)
                        rw [← q2.1, q1, ← hiz] at this
                        exact this
                    obtain ⟨b', cap', olds', e1, e2, e3, e4, e5, e6⟩ := src
                    obtain ⟨M', a1, a2, a3⟩ := fresh olds olds' cap' e3 e4 e5
                    exact ⟨_, _, M', hgrow e i zv (some b') len cap' olds' hu hi hzz hzs hzpos e1 e6 e2 (by omega) h63 (hfit cap' e2), a1, a2, a3⟩
                  · cases hr
                · -- a row that may have room
                  rename_i c z' hh
                  split at hr
                  · rename_i olds hol
                    split at hr
                    · rename_i hcond
                      obtain ⟨rfl, hge2, hsp, hoffc⟩ := hcond
                      cases hr
                      have hnx : (s.upd a.block .gone).next = s.next := rfl
                      have again : ∀ b' cap' olds', v' = .slice (some b') len cap' → cap' < len + n → LR M olds olds' → (∀ u ∈ olds, oneB u = true) → olds.length = len * z' → (Builtin.firstCells i.size len v').run P w.drew = .ok olds'.toArray w.drew →
                          ∃ r' w' M', run = .ok r' w' ∧ Sm w0 M' ((s.upd a.block .gone).alloc (.grown (olds ++ news) z')) w' ∧ Gr M s w M' ((s.upd a.block .gone).alloc (.grown (olds ++ news) z')) w' ∧ VR M' (.slice (some ⟨s.next, 0, none⟩) (len + n) (len + n)) r' := fun b' cap' olds' e1 e2 e3 e4 e5 e6 => by
                        have hg := hge cap' e
                        obtain ⟨M', a1, a2, a3, a4, a5⟩ := allocGrown_sim (upd_gone_sim h hge2) (e3.append hn) (fun u hu => by rcases List.mem_append.1 hu with hu | hu; exact e4 u hu; exact h1 u hu) (Builtin.zeroCells zv.cells (grownCap w (len + n) cap' e - (len + n))) z' e
                        refine ⟨_, _, M', hgrow e i zv (some b') len cap' olds' hu hi hzz hzs hzpos e1 e6 e2 (by omega) h63 (hfit cap' e2), a1, a2.of_gone, .sli ⟨_, 0, a3, rfl⟩ (.inr ⟨z', a4, hg, ?_⟩)⟩
                        simp only [a5]
                        have hsz : ((olds' ++ news').toArray ++ Builtin.zeroCells zv.cells (grownCap w (len + n) cap' e - (len + n))).size = len * z' + n * z' + (grownCap w (len + n) cap' e - (len + n)) * z' := by
                          rw [Array.size_append, rep_size, hzs, hiz]
                          simp only [List.size_toArray, List.length_append, ← e3.1, ← hn.1, e5, c3]
                        rw [hsz, ← Nat.add_mul, ← Nat.add_mul, Nat.zero_add]
                        exact Nat.mul_le_mul_right _ (by omega)
                      cases hv with
                      | sli0 _ a' _ =>
                        simp only [Nat.zero_mul] at hol
                        obtain ⟨q1, l', q2, q3, q4⟩ := ldN_sim h (a' := a') (fun e => absurd rfl e) hol
                        have hl : l' = [] := List.eq_nil_of_length_eq_zero (by rw [← q2.1, q1])
                        subst hl
                        exact again a' 0 [] rfl (by omega) q2 q3 (by rw [q1]; simp) (by simp [Builtin.firstCells, loadCells, loadCellsFrom])
                      | @sli _ a' _ _ cap' ha hx =>
                        obtain ⟨q1, l', q2, q3, q4⟩ := ldN_sim h (fun _ => ha) hol
                        by_cases hplc : len + n ≤ cap'
                        · -- there is room
                          rcases hx with hx | ⟨z2, g1, g2, g3⟩
                          · omega
                          · have ha' := ha
                            obtain ⟨B, d, hb, rfl⟩ := ha'
                            obtain ⟨k1, k2, o, k3, k4⟩ := h.new _ _ hb hge2
                            rw [hh] at k4
                            obtain ⟨k5, C, ty, rfl, k6, k7⟩ := k4
                            rw [k5] at g1; cases g1
                            have hgetL : getL c a.off (len * z') = some olds := by
                              unfold ldN at hol
                              split at hol
                              · rename_i hz0
                                cases hol
                                simp only [getL]
                                rw [if_pos hoffc, hz0]
                                simp
                              · simp only [hh, AObj.cells?, hsp, if_true] at hol
                                split at hol
                                · rename_i u hu2
                                  split at hol
                                  · cases hol; exact hu2
                                  · cases hol
                                · cases hol
                            simp only at g3 k6 k3
                            have hroom2 : d + a.off + len * z' + news.length ≤ C.size := by
                              have : (len + n) * z' ≤ cap' * z' := Nat.mul_le_mul_right _ hplc
                              rw [Nat.add_mul] at this
                              rw [k6, c3]; omega
                            obtain ⟨M', C', m1, m2, m3, m4, m5, m6⟩ := regrow_sim h hb hge2 hh hgetL hn h1 k3 k6 k7 hroom2
                            have h1' : ∀ v ∈ news', v.oneCell' = true := fun v hv' => by
                              obtain ⟨j, hj⟩ := List.mem_iff_getElem?.1 hv'
                              have hj2 : j < news.length := by rw [hn.1]; exact (List.getElem?_eq_some_iff.1 hj).1
                              have := hn.2 j news[j] v (List.getElem?_eq_getElem hj2) hj
                              rw [oneB_eq, this.oneB]
                              exact h1 _ (List.getElem_mem _)
                            have hst := run_storeCells_at P B (a.off + d + len * z') ty news' 0 C w k3 (by rw [← hn.1]; omega) h1'
                            simp only [Nat.add_zero] at hst
                            refine ⟨.slice (some ⟨B, a.off + d, a.spot⟩) (len + n) cap', _, M', ?_, m1, m2, .sli ⟨B, d + a.off, m3, by simp [hsp]; omega⟩ (.inr ⟨z', m4, hplc, by simp only at m5 ⊢; rw [m5]; exact g3⟩)⟩
                            rw [hplace e i _ len cap' hu hi rfl hplc]
                            have hadd : (⟨B, a.off + d, a.spot⟩ : Addr).add (len * i.size) = ⟨B, a.off + d + len * z', none⟩ := by rw [hsp, hiz]; exact add_lit _ _ _
                            simp only [Placed, hadd, hst, Result.andThen_ok, m6]
                            congr 3
                            simp [Nat.add_comm d a.off]
                        · have := run_loadCells_list (P := P) w.drew a' l' (fun j v hv => by rw [cell_drew]; exact q4 j v hv)
                          rw [← q2.1, q1, ← hiz] at this
                          exact again a' cap' l' rfl (by omega) q2 q3 q1 this
                    · cases hr
                  · cases hr
                · cases hr
            · cases hr
      · cases hr
    · cases hr
  · cases hr
end
end Go.Ab
/- The simulation: comparison, cell by cell. -/
set_option linter.unusedVariables false
set_option linter.unusedSimpArgs false
namespace Go.Ab
open Go Go.RowKit

section
variable {P : Program}

theorem fitsAll_length : ∀ {ks : List Kd} {xs : List Value}, fitsAll ks xs = true → xs.length = ks.length
  | [], [], _ => rfl
  | [], _ :: _, h => by simp [fitsAll] at h
  | _ :: _, [], h => by simp [fitsAll] at h
  | k :: ks, v :: vs, h => by
    simp only [fitsAll, Bool.and_eq_true] at h
    simp [fitsAll_length h.2]
theorem fitsAll_append : ∀ {ks rs : List Kd} {xs : List Value}, fitsAll (ks ++ rs) xs = true → fitsAll ks (xs.take ks.length) = true ∧ fitsAll rs (xs.drop ks.length) = true
  | [], _, _, h => ⟨by simp [fitsAll], by simpa using h⟩
  | k :: ks, rs, [], h => by simp [fitsAll] at h
  | k :: ks, rs, v :: vs, h => by
    simp only [List.cons_append, fitsAll, Bool.and_eq_true] at h
    obtain ⟨h1, h2⟩ := fitsAll_append h.2
    simp only [List.length_cons, List.take_succ_cons, List.drop_succ_cons, fitsAll, Bool.and_eq_true]
    exact ⟨⟨h.1, h1⟩, h2⟩
theorem eqCells_append : ∀ {a c b d : List Value}, a.length = c.length → eqCells (a ++ b) (c ++ d) = (eqCells a c && eqCells b d)
  | [], [], _, _, _ => by simp [eqCells]
  | [], _ :: _, _, _, h => by simp at h
  | _ :: _, [], _, _, h => by simp at h
  | x :: a, y :: c, b, d, h => by
    simp only [List.cons_append, eqCells]
    rw [eqCells_append (by simpa using h), Bool.and_assoc]

/-- A value of a type, out of its cells. -/
def asV (P : Program) (t : TypeId) (xs : List Value) : Value := if aggT P t = some true then .agg xs.toArray else xs.headD undef

theorem kdT_one {d : Nat} {t : TypeId} {ks : List Kd} (h : kdT P d t = some ks) : (aggT P t = some true) ∨ (aggT P t = some false ∧ ∃ k, ks = [k]) := by
  cases d with
  | zero => simp [kdT] at h
  | succ d =>
    simp only [kdT] at h
    cases hu : P.underlying t with
    | none => rw [hu] at h; cases h
    | some D =>
      rw [hu] at h
      cases D <;> simp only [reduceCtorEq, Option.some.injEq] at h
      · exact .inr ⟨by simp [aggT, hu], _, h.symm⟩
      · exact .inr ⟨by simp [aggT, hu], _, h.symm⟩
      · exact .inr ⟨by simp [aggT, hu], _, h.symm⟩
      · exact .inl (by simp [aggT, hu])
      · exact .inl (by simp [aggT, hu])

theorem part_as {d : Nat} {t : TypeId} {ks : List Kd} (hk : kdT P d t = some ks) (hs : sizT P t = some ks.length) {X : Array Value} {off : Nat} {xs : List Value} (hx : xs.length = ks.length) (hg : ∀ i, i < xs.length → X[off + i]? = xs[i]?) (w : World) :
    (part t X off).run P w = .ok (asV P t xs) w := by
  rcases kdT_one hk with ha | ⟨ha, k, rfl⟩
  · simp only [part, Sem.run_bind, aggT_run ha, Result.andThen_ok, if_true, Sem.run_ite, sizT_run hs, Sem.run_pure, asV, ha]
    congr 2
    apply Array.ext'
    apply List.ext_getElem?
    intro i
    rw [← hx]
    simp only [Array.getElem?_toList, Array.getElem?_extract]
    by_cases hi : i < xs.length
    · have h1 := hg i hi
      have h2 : off + i < X.size := by
        rw [List.getElem?_eq_getElem hi] at h1
        exact (Array.getElem?_eq_some_iff.1 h1).1
      rw [if_pos (by omega), h1]
    · rw [if_neg (by omega), List.getElem?_eq_none (by omega)]
  · obtain ⟨x, rfl⟩ : ∃ x, xs = [x] := by
      cases xs with
      | nil => simp at hx
      | cons x r => cases r with
        | nil => exact ⟨x, rfl⟩
        | cons _ _ => simp at hx
    have := hg 0 (by simp)
    simp only [Nat.add_zero, List.getElem?_cons_zero] at this
    simp only [part, Sem.run_bind, aggT_run ha, Result.andThen_ok, Sem.run_ite, Bool.false_eq_true, if_false, this, Sem.run_pure, asV, ha]
    rfl

theorem asV_agg {t : TypeId} (h : aggT P t = some true) (xs : List Value) : asV P t xs = .agg xs.toArray := by simp [asV, h]
theorem eqFields_run {d D : Nat} {w : World} (ih : ∀ t ks, kdT P d t = some ks → ∀ xs ys, fitsAll ks xs = true → fitsAll ks ys = true → (Op.equalIn D t (asV P t xs) (asV P t ys)).run P w = .ok (eqCells xs ys) w) :
    ∀ (fs : List Field) (off : Nat) (ks : List Kd), kdFs P (kdT P d) fs off = some ks → ∀ (X Y : Array Value) (xs ys : List Value), fitsAll ks xs = true → fitsAll ks ys = true →
      (∀ i, i < xs.length → X[off + i]? = xs[i]?) → (∀ i, i < ys.length → Y[off + i]? = ys[i]?) → (Op.eqFields D X Y fs).run P w = .ok (eqCells xs ys) w
  | [], off, ks, hk, X, Y, xs, ys, hx, hy, _, _ => by
    simp only [kdFs, Option.some.injEq] at hk
    subst hk
    have := fitsAll_length hx
    have hxs : xs = [] := List.eq_nil_of_length_eq_zero (by simpa using this)
    subst hxs
    cases ys <;> rfl
  | f :: fs, off, ks, hk, X, Y, xs, ys, hx, hy, gx, gy => by
    simp only [kdFs] at hk
    split at hk
    · cases hk
    · rename_i hf
      split at hk
      · rename_i l hl
        split at hk
        · rename_i hs
          split at hk
          · rename_i r hr
            cases hk
            have hf1 : f.name ≠ "_" := fun e => hf (.inl e)
            have hf2 : f.offset = off := Decidable.byContradiction fun e => hf (.inr e)
            obtain ⟨x1, x2⟩ := fitsAll_append hx
            obtain ⟨y1, y2⟩ := fitsAll_append hy
            have lx := fitsAll_length x1
            have ly := fitsAll_length y1
            have lx2 := fitsAll_length hx
            have ly2 := fitsAll_length hy
            simp only [List.length_append] at lx2 ly2
            have px := part_as hl hs lx (X := X) (off := off) (fun i hi => by rw [lx] at hi; rw [List.getElem?_take_of_lt hi]; exact gx i (by omega)) w
            have py := part_as hl hs ly (X := Y) (off := off) (fun i hi => by rw [ly] at hi; rw [List.getElem?_take_of_lt hi]; exact gy i (by omega)) w
            have e1 := ih f.type l hl _ _ x1 y1
            have rest := eqFields_run ih fs (off + l.length) r hr X Y (xs.drop l.length) (ys.drop l.length) x2 y2
              (fun i hi => by rw [List.getElem?_drop, ← gx (l.length + i) (by simp at hi; omega)]; congr 1; omega)
              (fun i hi => by rw [List.getElem?_drop, ← gy (l.length + i) (by simp at hi; omega)]; congr 1; omega)
            have hsplit : eqCells xs ys = (eqCells (xs.take l.length) (ys.take l.length) && eqCells (xs.drop l.length) (ys.drop l.length)) := by
              rw [← eqCells_append (by rw [lx, ly]), List.take_append_drop, List.take_append_drop]
            simp only [Op.eqFields, ne_eq, hf1, not_false_eq_true, if_true, Sem.run_bind, hf2, px, Result.andThen_ok, py, e1, Sem.run_ite, Sem.run_pure]
            rw [hsplit]
            cases hb : eqCells (xs.take l.length) (ys.take l.length) with
            | false => rfl
            | true => simp only [Bool.not_true, Bool.false_eq_true, if_false, Bool.true_and]; exact rest
          · cases hk
        · cases hk
      · cases hk

theorem eqArr_run {D e : Nat} {w : World} {l : List Kd} (ih : ∀ xs ys, fitsAll l xs = true → fitsAll l ys = true → (Op.equalIn D e (asV P e xs) (asV P e ys)).run P w = .ok (eqCells xs ys) w)
    (hp : ∀ (X : Array Value) (off : Nat) (xs : List Value), fitsAll l xs = true → (∀ i, i < xs.length → X[off + i]? = xs[i]?) → (part e X off).run P w = .ok (asV P e xs) w) (X Y : Array Value) :
    ∀ (n k : Nat) (xs ys : List Value), fitsAll (List.replicate n l).flatten xs = true → fitsAll (List.replicate n l).flatten ys = true →
      (∀ i, i < xs.length → X[k * l.length + i]? = xs[i]?) → (∀ i, i < ys.length → Y[k * l.length + i]? = ys[i]?) →
      ((forIn (List.range' k n) ((none, ()) : Option Bool × Unit) (fun i __s => do
              let a ← part e X (i * l.length)
              let b ← part e Y (i * l.length)
              let r ← Op.equalIn D e a b
              if (!r) = true then pure (ForInStep.done (some false, ())) else pure (ForInStep.yield (none, ()))) : Sem (Option Bool × Unit)).run P w) = .ok (if eqCells xs ys = true then (none, ()) else (some false, ())) w
  | 0, k, xs, ys, hx, hy, _, _ => by
    have := fitsAll_length hx
    have hxs : xs = [] := List.eq_nil_of_length_eq_zero (by simpa using this)
    subst hxs
    simp [List.range'_zero, eqCells]
  | n + 1, k, xs, ys, hx, hy, gx, gy => by
    simp only [List.replicate_succ, List.flatten_cons] at hx hy
    obtain ⟨x1, x2⟩ := fitsAll_append hx
    obtain ⟨y1, y2⟩ := fitsAll_append hy
    have lx := fitsAll_length x1
    have ly := fitsAll_length y1
    have lx2 := fitsAll_length hx
    have ly2 := fitsAll_length hy
    simp only [List.length_append] at lx2 ly2
    have px := hp X (k * l.length) _ x1 (fun i hi => by rw [lx] at hi; rw [List.getElem?_take_of_lt hi]; exact gx i (by omega))
    have py := hp Y (k * l.length) _ y1 (fun i hi => by rw [ly] at hi; rw [List.getElem?_take_of_lt hi]; exact gy i (by omega))
    have e1 := ih _ _ x1 y1
    have rest := eqArr_run ih hp X Y n (k + 1) (xs.drop l.length) (ys.drop l.length) x2 y2
      (fun i hi => by rw [List.getElem?_drop, ← gx (l.length + i) (by simp at hi; omega)]; congr 1; rw [Nat.add_mul]; omega)
      (fun i hi => by rw [List.getElem?_drop, ← gy (l.length + i) (by simp at hi; omega)]; congr 1; rw [Nat.add_mul]; omega)
    have hsplit : eqCells xs ys = (eqCells (xs.take l.length) (ys.take l.length) && eqCells (xs.drop l.length) (ys.drop l.length)) := by
      rw [← eqCells_append (by rw [lx, ly]), List.take_append_drop, List.take_append_drop]
    simp only [List.range'_succ, List.forIn_cons, Sem.run_bind, px, Result.andThen_ok, py, e1, Sem.run_ite, Sem.run_pure]
    rw [hsplit]
    cases hb : eqCells (xs.take l.length) (ys.take l.length) with
    | false => rfl
    | true => simp only [Bool.not_true, Bool.false_eq_true, if_false, Bool.true_and, Result.andThen_ok]; exact rest

theorem equalIn_kd (w : World) : ∀ (d : Nat) (t : TypeId) (ks : List Kd), kdT P d t = some ks → ∀ (D : Nat), d ≤ D → ∀ xs ys, fitsAll ks xs = true → fitsAll ks ys = true →
    (Op.equalIn D t (asV P t xs) (asV P t ys)).run P w = .ok (eqCells xs ys) w
  | 0, t, ks, hk, _, _, _, _, _, _ => by simp [kdT] at hk
  | d + 1, t, ks, hk, D, hD, xs, ys, hx, hy => by
    obtain ⟨D, rfl⟩ : ∃ D', D = D' + 1 := ⟨D - 1, by omega⟩
    have hk0 := hk
    simp only [kdT] at hk
    have one : ∀ k : Kd, ks = [k] → ∃ x y, xs = [x] ∧ ys = [y] ∧ k.fits x = true ∧ k.fits y = true := fun k hks => by
      subst hks
      have lx := fitsAll_length hx
      have ly := fitsAll_length hy
      cases xs with
      | nil => simp at lx
      | cons x r => cases r with
        | cons _ _ => simp at lx
        | nil => cases ys with
          | nil => simp at ly
          | cons y r => cases r with
            | cons _ _ => simp at ly
            | nil => exact ⟨x, y, rfl, rfl, by simpa [fitsAll] using hx, by simpa [fitsAll] using hy⟩
    cases hu : P.underlying t with
    | none => rw [hu] at hk; cases hk
    | some T =>
      rw [hu] at hk
      cases T with
      | bool =>
        cases hk
        have ha : aggT P t = some false := by simp [aggT, hu]
        obtain ⟨x, y, rfl, rfl, fx, fy⟩ := one _ rfl
        cases x <;> simp [Kd.fits] at fx
        cases y <;> simp [Kd.fits] at fy
        simp [asV, ha, Op.equalIn, run_underlying hu, eqCells, eqCell]
      | int k =>
        cases hk
        have ha : aggT P t = some false := by simp [aggT, hu]
        obtain ⟨x, y, rfl, rfl, fx, fy⟩ := one _ rfl
        cases x <;> simp [Kd.fits] at fx
        cases y <;> simp [Kd.fits] at fy
        subst fx; subst fy
        simp [asV, ha, Op.equalIn, run_underlying hu, eqCells, eqCell, beq_dec]
      | string =>
        cases hk
        have ha : aggT P t = some false := by simp [aggT, hu]
        obtain ⟨x, y, rfl, rfl, fx, fy⟩ := one _ rfl
        cases x <;> simp [Kd.fits] at fx
        cases y <;> simp [Kd.fits] at fy
        simp only [asV, ha, eqCells, eqCell, Bool.and_true]
        have := run_equalIn_string (P := P) w D t
        simp only [List.headD, Option.some.injEq, Bool.false_eq_true, if_false]
        exact run_equalIn_string w D t _ _ hu
      | struct fs =>
        simp only at hk
        split at hk
        · cases hk
        · rename_i hst
          have ha : aggT P t = some true := by simp [aggT, hu]
          rw [asV_agg ha, asV_agg ha, run_equalIn_struct w D t _ _ (by simp [Program.fieldsOf, hu]) (by simpa using hst)]
          have : (P.fieldsOf t).toList = fs.toList := by simp [Program.fieldsOf, hu]
          rw [this]
          exact eqFields_run (fun t ks hk xs ys hx hy => equalIn_kd w d t ks hk D (by omega) xs ys hx hy) fs.toList 0 ks hk _ _ xs ys hx hy (fun i hi => by simp) (fun i hi => by simp)
      | array n e =>
        simp only at hk
        split at hk
        · rename_i l hl
          split at hk
          · rename_i hs
            cases hk
            have ha : aggT P t = some true := by simp [aggT, hu]
            rw [asV_agg ha, asV_agg ha]
            simp only [Op.equalIn, Sem.run_bind, run_underlying hu, Result.andThen_ok, sizT_run hs]
            rw [Std.Legacy.Range.forIn_eq_forIn_range']
            have := eqArr_run (P := P) (w := w) (D := D) (e := e) (l := l) (fun xs ys hx hy => equalIn_kd w d e l hl D (by omega) xs ys hx hy)
              (fun X off xs hx hg => part_as hl hs (fitsAll_length hx) hg w) xs.toArray ys.toArray n 0 xs ys hx hy (fun i hi => by simp) (fun i hi => by simp)
            have hr : List.range' 0 ([:n] : Std.Legacy.Range).size = List.range' 0 n := by simp [Std.Legacy.Range.size]
            simp only [Std.Legacy.Range.size, Nat.sub_zero, Nat.add_sub_cancel, Nat.div_one] 
            rw [this]
            cases eqCells xs ys <;> rfl
          · cases hk
        · cases hk
      | _ => cases hk
end
end Go.Ab
/- The simulation: every operation that calls nothing. -/
set_option linter.unusedVariables false
set_option linter.unusedSimpArgs false
namespace Go.Ab
open Go Go.RowKit

section
variable {P : Program} {w0 : World} {M : Mp} {s : St} {w : World}

theorem LR.fits {l l' : List Value} (h : LR M l l') : ∀ {ks : List Kd}, fitsAll ks l = true → fitsAll ks l' = true ∧ l' = l := by
  induction l generalizing l' with
  | nil => intro ks hk; rw [h.inv_nil]; exact ⟨hk, rfl⟩
  | cons v l ih =>
    intro ks hk
    obtain ⟨v', r, rfl, hv, hl⟩ := h.inv_cons
    cases ks with
    | nil => simp [fitsAll] at hk
    | cons k ks =>
      simp only [fitsAll, Bool.and_eq_true] at hk
      obtain ⟨h1, h2⟩ := ih hl hk.2
      subst h2
      have : v' = v := by
        cases k <;> cases hv <;> simp [Kd.fits] at hk <;> rfl
      subst this
      exact ⟨by simp only [fitsAll, Bool.and_eq_true]; exact ⟨hk.1, h1⟩, rfl⟩

theorem eqI_bool (d : Nat) {t : TypeId} {a b : Bool} (hu : P.underlying t = some .bool) (w : World) : (Op.equalIn (d + 1) t (.bool a) (.bool b)).run P w = .ok (a == b) w := by
  simp [Op.equalIn, run_underlying hu]
theorem eqI_ptr (d : Nat) {t e : TypeId} {b : Option Addr} (hu : P.underlying t = some (.pointer e)) (w : World) : (Op.equalIn (d + 1) t (.pointer none) (.pointer b)).run P w = .ok b.isNone w := by
  simp [Op.equalIn, run_underlying hu]
theorem eqI_ptr2 (d : Nat) {t e : TypeId} {a : Addr} (hu : P.underlying t = some (.pointer e)) (w : World) : (Op.equalIn (d + 1) t (.pointer (some a)) (.pointer none)).run P w = .ok false w := by
  simp [Op.equalIn, run_underlying hu]
theorem eqI_sli (d : Nat) {t e : TypeId} {b : Option Addr} {l c l' c' : Nat} (hu : P.underlying t = some (.slice e)) (w : World) : (Op.equalIn (d + 1) t (.slice none l c) (.slice b l' c')).run P w = .ok b.isNone w := by
  simp [Op.equalIn, run_underlying hu]
theorem eqI_sli2 (d : Nat) {t e : TypeId} {a : Addr} {l c l' c' : Nat} (hu : P.underlying t = some (.slice e)) (w : World) : (Op.equalIn (d + 1) t (.slice (some a) l c) (.slice none l' c')).run P w = .ok false w := by
  simp [Op.equalIn, run_underlying hu]
theorem eqI_fn (d : Nat) {t : TypeId} {a b : Array TypeId} {c : Bool} (hu : P.underlying t = some (.func a b c)) (w : World) : (Op.equalIn (d + 1) t .nilFunc .nilFunc).run P w = .ok true w := by
  simp [Op.equalIn, run_underlying hu]
theorem eqI_fn2 (d : Nat) {t : TypeId} {a b : Array TypeId} {c : Bool} {f : Fn} {x y : Array Value} (hu : P.underlying t = some (.func a b c)) (w : World) : (Op.equalIn (d + 1) t (.func f x y) .nilFunc).run P w = .ok false w := by
  simp [Op.equalIn, run_underlying hu]
theorem guard_other (op : BinOp) (t : TypeId) (p q : Operand) {a b : Value} (w : World) (h1 : ¬ (a = .nilIface ∧ b = .nilIface)) (h2 : ∀ x y, ¬ (a = .agg x ∧ b = .agg y)) : (eqGuard op t p q a b).run P w = .ok () w := by
  have key : ∀ op' : BinOp, (op' = .eql ∨ op' = .neq) → (eqGuard op' t p q a b).run P w = .ok () w := by
    intro op' ho
    rcases ho with rfl | rfl <;> (cases a <;> first | rfl | (cases b <;> first | rfl | exact absurd ⟨rfl, rfl⟩ h1 | exact absurd ⟨rfl, rfl⟩ (h2 _ _)))
  cases op <;> first | exact key _ (.inl rfl) | exact key _ (.inr rfl) | simp [eqGuard]
theorem equal_succ (t : TypeId) (a b : Value) : Op.equal t a b = Op.equalIn (9999 + 1) t a b := rfl
theorem eqV_sim {t : TypeId} {x y x' y' : Value} {b : Bool} (h : eqV P t x y = some b) (hx : VR M x x') (hy : VR M y y') (w : World) :
    (Op.equal t x' y').run P w = .ok b w ∧ ∀ (op : BinOp) (p q : Operand), (eqGuard op t p q x' y').run P w = .ok () w := by
  unfold eqV at h
  split at h
  · -- bools
    rename_i a c
    cases hx; cases hy
    split at h
    · rename_i hu
      cases h
      exact ⟨by rw [equal_succ]; exact eqI_bool _ hu w, fun op p q => guard_other op t p q w (by simp) (by simp)⟩
    · cases h
  · -- structs, arrays
    rename_i cs ds
    split at h
    · rename_i ks hk
      split at h
      · rename_i hc
        obtain ⟨f1, f2, f3, f4⟩ := hc
        cases h
        cases hx with
        | @agg _ cs' s1 r1 o1 =>
          cases hy with
          | @agg _ ds' s2 r2 o2 =>
            obtain ⟨g1, g2⟩ := (LR.ofArr s1 r1).fits f1
            obtain ⟨g3, g4⟩ := (LR.ofArr s2 r2).fits f2
            have e1 : cs' = cs := Array.ext' g2
            have e2 : ds' = ds := Array.ext' g4
            subst e1; subst e2
            refine ⟨?_, fun op p q => run_eqGuard_agg w op t p q _ _ f3⟩
            have := equalIn_kd w 60 t ks hk 10000 (by omega) _ _ f1 f2
            rw [asV_agg f4, asV_agg f4] at this
            rw [equal_succ]; exact this
      · cases h
    · cases h
  · rename_i bo
    split at h
    · rename_i hu
      cases h
      cases hx
      have hb : ∀ y', VR M (.pointer bo) y' → ∃ bo', y' = .pointer bo' ∧ bo'.isNone = bo.isNone := fun y' hy => by cases hy <;> exact ⟨_, rfl, rfl⟩
      obtain ⟨bo', rfl, hn⟩ := hb _ hy
      exact ⟨by rw [equal_succ, eqI_ptr _ hu w, hn], fun op p q => guard_other op t p q w (by simp) (by simp)⟩
    · cases h
  · split at h
    · rename_i hu
      cases h
      cases hx; cases hy
      exact ⟨by rw [equal_succ]; exact eqI_ptr2 _ hu w, fun op p q => guard_other op t p q w (by simp) (by simp)⟩
    · cases h
  · rename_i bo _ _
    split at h
    · rename_i hu
      cases h
      cases hx
      have hb : ∀ l c y', VR M (.slice bo l c) y' → ∃ bo' l' c', y' = .slice bo' l' c' ∧ bo'.isNone = bo.isNone := fun l c y' hy => by cases hy <;> exact ⟨_, _, _, rfl, rfl⟩
      obtain ⟨bo', l', c', rfl, hn⟩ := hb _ _ _ hy
      exact ⟨by rw [equal_succ, eqI_sli _ hu w, hn], fun op p q => guard_other op t p q w (by simp) (by simp)⟩
    · cases h
  · split at h
    · rename_i hu
      cases h
      cases hy
      have hb : ∀ a l c x', VR M (.slice (some a) l c) x' → ∃ a' l' c', x' = .slice (some a') l' c' := fun a l c x' hx => by cases hx <;> exact ⟨_, _, _, rfl⟩
      obtain ⟨a', l', c', rfl⟩ := hb _ _ _ _ hx
      exact ⟨by rw [equal_succ]; exact eqI_sli2 _ hu w, fun op p q => guard_other op t p q w (by simp) (by simp)⟩
    · cases h
  · split at h
    · rename_i hu
      cases h
      cases hx; cases hy
      exact ⟨by rw [equal_succ]; exact eqI_fn _ hu w, fun op p q => guard_other op t p q w (by simp) (by simp)⟩
    · cases h
  · split at h
    · rename_i hu
      cases h
      cases hx; cases hy
      exact ⟨by rw [equal_succ]; exact eqI_fn2 _ hu w, fun op p q => guard_other op t p q w (by simp) (by simp)⟩
    · cases h
  · cases h

theorem guard_int (op : BinOp) (t : TypeId) (p q : Operand) (k k' : IntKind) (a b : Int) (w : World) : (eqGuard op t p q (.int k a) (.int k' b)).run P w = .ok () w := by cases op <;> simp [eqGuard]
theorem guard_str (op : BinOp) (t : TypeId) (p q : Operand) (a b : ByteArray) (w : World) : (eqGuard op t p q (.string a) (.string b)).run P w = .ok () w := by cases op <;> simp [eqGuard]

theorem binV_sim {op : BinOp} {t : TypeId} {x y x' y' v : Value} (h : binV P op t x y = some v) (hx : VR M x x') (hy : VR M y y') (p q : Operand) (w : World) :
    (do eqGuard op t p q x' y'; binOp op t x' y' : Sem Value).run P w = .ok v w ∧ VR M v v := by
  unfold binV at h
  split at h
  · cases hx; cases hy
    obtain ⟨e1, e2⟩ := intV_run (P := P) (M := M) h t w
    exact ⟨by simp only [Sem.run_bind, guard_int, Result.andThen_ok, e1], e2⟩
  · cases hx; cases hy
    obtain ⟨e1, e2⟩ := strV_run (P := P) (M := M) h t w
    exact ⟨by simp only [Sem.run_bind, guard_str, Result.andThen_ok, e1], e2⟩
  · rename_i hni hns
    have nint : ∀ k a k' b, ¬ (x' = .int k a ∧ y' = .int k' b) := fun k a k' b ⟨e1, e2⟩ => by
      subst e1; subst e2
      cases hx; cases hy
      exact hni _ _ _ _ rfl rfl
    have nstr : ∀ a b, ¬ (x' = .string a ∧ y' = .string b) := fun a b ⟨e1, e2⟩ => by
      subst e1; subst e2
      cases hx; cases hy
      exact hns _ _ rfl rfl
    have nfl : ∀ {b}, eqV P t x y = some b → (∀ k a k' b', ¬ (x' = .float k a ∧ y' = .float k' b')) ∧ (∀ k a b k' c d, ¬ (x' = .complex k a b ∧ y' = .complex k' c d)) := fun he => by
      refine ⟨fun k a k' b' ⟨e1, e2⟩ => ?_, fun k a b k' c d ⟨e1, e2⟩ => ?_⟩ <;> subst e1 <;> subst e2 <;> cases hx <;> cases hy <;> simp [eqV] at he
    split at h
    · split at h
      · rename_i b he
        cases h
        obtain ⟨e1, e2⟩ := eqV_sim he hx hy w
        obtain ⟨n1, n2⟩ := nfl he
        refine ⟨?_, .bool _⟩
        simp only [Sem.run_bind, e2, Result.andThen_ok]
        have : binOp .eql t x' y' = (do pure (.bool (← Op.equal t x' y'))) := by
          unfold binOp
          split <;> first | rfl | (rename_i h1 h2; first | exact absurd ⟨rfl, rfl⟩ (nint _ _ _ _) | exact absurd ⟨rfl, rfl⟩ (nstr _ _) | exact absurd ⟨rfl, rfl⟩ (n1 _ _ _ _) | exact absurd ⟨rfl, rfl⟩ (n2 _ _ _ _ _ _) | simp_all) | simp_all
        rw [this]
        simp [e1]
      · cases h
    · split at h
      · rename_i b he
        cases h
        obtain ⟨e1, e2⟩ := eqV_sim he hx hy w
        obtain ⟨n1, n2⟩ := nfl he
        refine ⟨?_, .bool _⟩
        simp only [Sem.run_bind, e2, Result.andThen_ok]
        have : binOp .neq t x' y' = (do pure (.bool (!(← Op.equal t x' y')))) := by
          unfold binOp
          split <;> first | rfl | (rename_i h1 h2; first | exact absurd ⟨rfl, rfl⟩ (nint _ _ _ _) | exact absurd ⟨rfl, rfl⟩ (nstr _ _) | exact absurd ⟨rfl, rfl⟩ (n1 _ _ _ _) | exact absurd ⟨rfl, rfl⟩ (n2 _ _ _ _ _ _) | simp_all) | simp_all
        rw [this]
        simp [e1]
      · cases h
    · cases h
end
end Go.Ab
/- The simulation: every operation that calls nothing: the theorem. -/
set_option linter.unusedVariables false
set_option linter.unusedSimpArgs false
namespace Go.Ab
open Go Go.RowKit

section
variable {P : Program} {w0 : World} {M : Mp} {s : St} {w : World}

theorem copy_sim (h : Sm w0 M s w) {t t2 ty e : TypeId} {z n : Nat} {d x d' x' : Value} (hd : VR M d d') (hx : VR M x x') (he : elemT P t = some e) (hz : sizT P e = some z) (hn : lenV? x = some n) {b : Option Addr} {dl dc : Nat} (hdd : d = .slice b dl dc)
    {news : List Value} (hnew : newsV w0.heap.size s z (Nat.min n dl) x = some news) {s' : St}
    (hst : (∃ a, b = some a ∧ stN w0.heap.size s a news = some s') ∨ (b = none ∧ dl = 0 ∧ s' = s)) :
    ∃ w', (Builtin.copy_ #[t, t2] ty #[d', x']).run P w = .ok (.int .i64 (Nat.min n dl : Nat)) w' ∧ Sm w0 M s' w' ∧ Gr M s w M s' w' := by
  obtain ⟨q1, news', q2, q3, q4, q5⟩ := first_sim (P := P) h hx hnew
  have hl := len_sim (P := P) hx hn w
  subst hdd
  rcases hst with ⟨a, rfl, hst⟩ | ⟨rfl, h0, rfl⟩
  · have main : ∀ a' dc', (news ≠ [] → AR M a a') → d' = .slice (some a') dl dc' → ∃ w', (Builtin.copy_ #[t, t2] ty #[d', x']).run P w = .ok (.int .i64 (Nat.min n dl : Nat)) w' ∧ Sm w0 M s' w' ∧ Gr M s w M s' w' := fun a' dc' ha e => by
      obtain ⟨w', e1, e2, e3⟩ := stN_sim (P := P) h ha q2 q3 hst
      refine ⟨w', ?_, e2, e3⟩
      subst e
      simp [Builtin.copy_, run_underlying (elemT_u he), hl, sizT_run hz, q4, e1, goInt]
    cases hd with
    | sli0 _ a' _ =>
      refine main a' 0 (fun hne => absurd ?_ hne) rfl
      exact List.eq_nil_of_length_eq_zero (by rw [q1]; simp)
    | @sli _ a' _ _ cap' ha hx => exact main a' cap' (fun _ => ha) rfl
  · cases hd
    refine ⟨w, ?_, h, .refl M _ w⟩
    simp [Builtin.copy_, run_underlying (elemT_u he), hl, sizT_run hz, q4, goInt]

theorem foldV_sim {f : Value → Value → Option Value} {g : Value → Value → Sem Value} (hfg : ∀ x y z x' y', VR M x x' → VR M y y' → f x y = some z → (g x' y').run P w = .ok z w ∧ VR M z z) :
    ∀ (l l' : List Value) (x x' v : Value), VR M x x' → LR M l l' → foldV f x l = some v → ∃ v', (l'.foldlM g x').run P w = .ok v' w ∧ VR M v v'
  | [], l', x, x', v, hx, hl, h => by
    rw [hl.inv_nil]
    simp only [foldV, Option.some.injEq] at h
    subst h
    exact ⟨x', rfl, hx⟩
  | y :: r, l', x, x', v, hx, hl, h => by
    obtain ⟨y', r', rfl, hy, hr⟩ := hl.inv_cons
    simp only [foldV] at h
    split at h
    · rename_i z hz
      obtain ⟨e1, e2⟩ := hfg _ _ _ _ _ hx hy hz
      obtain ⟨v', e3, e4⟩ := foldV_sim hfg r r' z z v e2 hr h
      exact ⟨v', by simp only [List.foldlM_cons, Sem.run_bind, e1, Result.andThen_ok]; exact e3, e4⟩
    · cases h
theorem minV_run {x y z x' y' : Value} (hx : VR M x x') (hy : VR M y y') (h : minV x y = some z) : (Builtin.min2 x' y').run P w = .ok z w ∧ VR M z z := by
  cases hx <;> cases hy <;> simp [minV] at h
  subst h; exact ⟨rfl, .int _ _⟩
theorem maxV_run {x y z x' y' : Value} (hx : VR M x x') (hy : VR M y y') (h : maxV x y = some z) : (Builtin.max2 x' y').run P w = .ok z w ∧ VR M z z := by
  cases hx <;> cases hy <;> simp [maxV] at h
  subst h; exact ⟨rfl, .int _ _⟩

theorem ret1_some' {o : Option Value} {v : Value} {s s' : St} (h : ret1 o s = some (v, s')) : o = some v ∧ s' = s := by
  cases o with
  | none => cases h
  | some u => simp only [ret1, Option.some.injEq, Prod.mk.injEq] at h; exact ⟨by rw [h.1], h.2.symm⟩
theorem builtin_sim (h : Sm w0 M s w) {b : Builtin} {ts : Array TypeId} {ty : TypeId} {cs : Array Bool} {as as' : Array Value} (ha : LR M as.toList as'.toList) {v : Value} {s' : St}
    (hv : builtinV P w0.heap.size s b ts.toList as.toList = some (v, s')) :
    ∃ v' w' M', (builtin b ts ty cs as').run P w = .ok (.value v') w' ∧ Sm w0 M' s' w' ∧ Gr M s w M' s' w' ∧ VR M' v v' := by
  obtain ⟨T, rfl⟩ : ∃ T, ts = List.toArray T := ⟨ts.toList, by simp⟩
  obtain ⟨A, rfl⟩ : ∃ A, as = List.toArray A := ⟨as.toList, by simp⟩
  obtain ⟨A', rfl⟩ : ∃ A', as' = List.toArray A' := ⟨as'.toList, by simp⟩
  simp only [List.toList_toArray] at ha hv
  cases b <;> simp only [builtinV, reduceCtorEq] at hv
  case len =>
    have hq := ret1_some' hv; clear hv; obtain ⟨hv, hss⟩ := hq
    unfold lenB at hv
    split at hv
    case h_2 => cases hv
    rename_i t tt x xx
    obtain ⟨x', r', rfl, hx, hxr⟩ := ha.inv_cons
    refine ⟨v, w, M, ?_⟩
    have fin : VR M v v → (Builtin.len_ (t :: tt).toArray ty (x' :: r').toArray).run P w = .ok v w → (builtin .len (t :: tt).toArray ty cs (x' :: r').toArray).run P w = .ok (.value v) w ∧ Sm w0 M s' w ∧ Gr M s w M s' w ∧ VR M v v := fun e2 e3 => by
      subst hss
      exact ⟨by simp only [builtin, Sem.run_bind, e3, Result.andThen_ok, Sem.run_pure], h, .refl M _ w, e2⟩
    split at hv
    · rename_i n e hn
      cases hv
      refine fin (.int _ _) ?_
      simp [Builtin.len_, run_underlying (arrT_u hn), goInt]
    · split at hv
      · rename_i n _
        split at hv
        · rename_i he
          obtain ⟨e, he⟩ := Option.isSome_iff_exists.1 he
          cases hv
          have : ∃ b' c', x' = .slice b' n c' := by cases hx <;> exact ⟨_, _, rfl⟩
          obtain ⟨b', c', rfl⟩ := this
          exact fin (.int _ _) (by simp [Builtin.len_, run_underlying (elemT_u he), goInt])
        · cases hv
      · split at hv
        · rename_i hs
          cases hv
          cases hx
          exact fin (.int _ _) (by simp [Builtin.len_, run_underlying (strT_u hs), goInt])
        · cases hv
      · cases hv
  case cap =>
    have hq := ret1_some' hv; clear hv; obtain ⟨hv, hss⟩ := hq
    unfold capB at hv
    split at hv
    case h_2 => cases hv
    rename_i t tt n c xx
    obtain ⟨x', r', rfl, hx, hxr⟩ := ha.inv_cons
    cases hx
    split at hv
    · rename_i he
      obtain ⟨e, he⟩ := Option.isSome_iff_exists.1 he
      cases hv
      subst hss
      refine ⟨.int .i64 c, w, M, ?_, h, .refl M _ w, .int _ _⟩
      simp [builtin, Builtin.cap_, run_underlying (elemT_u he), goInt]
    · cases hv
  case append =>
    unfold appendB at hv
    split at hv
    case h_2 => cases hv
    rename_i t t' d x
    obtain ⟨d', r1, rfl, hd, hr1⟩ := ha.inv_cons
    obtain ⟨x', r2, rfl, hx, hr2⟩ := hr1.inv_cons
    obtain rfl := hr2.inv_nil
    have fin : ∀ {r' w' M'}, (Builtin.append_ #[t, t'] ty #[d', x']).run P w = .ok r' w' → Sm w0 M' s' w' → Gr M s w M' s' w' → VR M' v r' → ∃ v' w' M', (builtin .append (List.toArray [t, t']) ty cs (List.toArray [d', x'])).run P w = .ok (.value v') w' ∧ Sm w0 M' s' w' ∧ Gr M s w M' s' w' ∧ VR M' v v' := fun e1 e2 e3 e4 =>
      ⟨_, _, _, by simp only [builtin, Sem.run_bind, e1, Result.andThen_ok, Sem.run_pure], e2, e3, e4⟩
    split at hv
    · rename_i hund
      obtain ⟨D, hD⟩ := Option.isSome_iff_exists.1 hund
      split at hv
      · -- noughts
        rename_i k e hk he
        split at hv
        · rename_i k2 l zr hzr
          split at hv
          · rename_i bb hbb
            split at hv
            · rename_i hc
              obtain ⟨c1, c2, c3⟩ := hc
              cases hx
              obtain ⟨i, zv, hi, hzz, hzc, hfree, _⟩ := zerT_info hzr
              obtain ⟨hzLR, hz1⟩ := free_LR h hfree
              have hby : i.bytes = bb := by unfold bytT at hbb; rw [hi] at hbb; simpa using hbb
              have hdsl : ∃ b len cap, d' = .slice b len cap := by
                unfold appendV at hv
                split at hv
                · cases hd <;> exact ⟨_, _, _, rfl⟩
                · cases hv
              obtain ⟨r', w', M', e1, e2, e3, e4⟩ := append_sim h hd (n := l.toNat) (repL_LR hzLR l.toNat) (fun u hu => hz1 u (repL_mem hu)) hv
                (run := (Builtin.append_ #[t, t'] ty #[d', .int k2 l]).run P w)
                (fun e' i' b len cap g1 g2 g3 g4 => by
                  subst g3
                  rw [elemT_u he] at g1; cases g1
                  rw [hi] at g2; cases g2
                  have hzs : 0 < i.size ∧ zv.cells.size = i.size := by
                    unfold appendV at hv
                    split at hv
                    · rename_i e2 _ _ _ he2
                      rw [he] at he2; cases he2
                      split at hv
                      · rename_i z zr2 by2 hz2 hzr2 _
                        split at hv
                        · rename_i hcc
                          obtain ⟨i2, hi2, hi3⟩ := sizT_info hz2
                          rw [hi] at hi2; cases hi2
                          rw [hzr] at hzr2; cases hzr2
                          exact ⟨by omega, by rw [hi3, ← hcc.1, ← hzc]; simp⟩
                        · cases hv
                      · cases hv
                    · cases hv
                  rw [zapp_place (elemT_u he) hi (intT_u hk) hzz hzs.2 hzs.1 c1 c2 (by rw [hby]; exact c3) g4, hzc])
                (fun e' i' z' b len cap olds g1 g2 g3 g4 g5 g6 g7 g8 g9 g10 g11 => by
                  subst g6
                  rw [elemT_u he] at g1; cases g1
                  rw [hi] at g2; cases g2
                  rw [hzz] at g3; cases g3
                  rw [zapp_grow (elemT_u he) hi (intT_u hk) hzz g4 g5 c1 c2 (by rw [hby]; exact c3) g7 g8 (by omega) g10 g11, hzc])
              exact fin e1 e2 e3 e4
            · cases hv
          · cases hv
        · cases hv
      · -- a row, or a text
        rename_i e hk he
        have hDi : ∀ k, D ≠ .int k := fun k e => by subst e; simp [intT, hD] at hk
        split at hv
        · rename_i z n hz hn
          split at hv
          · rename_i news hnew
            obtain ⟨q1, news', q2, q3, q4, q5⟩ := first_sim (P := P) h hx hnew
            have hl := len_sim (P := P) hx hn w
            obtain ⟨i, hi, hiz⟩ := sizT_info hz
            obtain ⟨r', w', M', e1, e2, e3, e4⟩ := append_sim h hd q2 q3 hv (run := (Builtin.append_ #[t, t'] ty #[d', x']).run P w)
              (fun e' i' b len cap g1 g2 g3 g4 => by
                subst g3
                rw [elemT_u he] at g1; cases g1
                rw [hi] at g2; cases g2
                exact app_place (elemT_u he) hi hD hDi hl (by rw [hiz]; exact q4) g4)
              (fun e' i' z' b len cap olds g1 g2 g3 g4 g5 g6 g7 g8 g9 g10 g11 => by
                subst g6
                rw [elemT_u he] at g1; cases g1
                rw [hi] at g2; cases g2
                exact app_grow (elemT_u he) hi hD hDi g3 hl (by rw [hiz]; exact q5) g7 g8 g10 g11)
            exact fin e1 e2 e3 e4
          · cases hv
        · cases hv
      · cases hv
    · cases hv
  case clear =>
    unfold clearB at hv
    split at hv
    case h_2 => cases hv
    rename_i t tr b n c
    obtain ⟨d', r1, rfl, hd, hr1⟩ := ha.inv_cons
    obtain rfl := hr1.inv_nil
    have fin : ∀ {w' M'}, (Builtin.clear_ (t :: tr).toArray ty #[d']).run P w = .ok (.tuple #[]) w' → Sm w0 M' s' w' → Gr M s w M' s' w' → v = .tuple #[] → ∃ v' w' M', (builtin .clear (t :: tr).toArray ty cs (List.toArray [d'])).run P w = .ok (.value v') w' ∧ Sm w0 M' s' w' ∧ Gr M s w M' s' w' ∧ VR M' v v' := fun e1 e2 e3 e4 => by
      subst e4
      exact ⟨.tuple #[], _, _, by simp only [builtin, Sem.run_bind, e1, Result.andThen_ok, Sem.run_pure], e2, e3, .tuple rfl (by simp)⟩
    split at hv
    · rename_i e he
      split at hv
      · rename_i z zr hz hzr
        split at hv
        · rename_i hc
          split at hv
          · rename_i h0
            cases hv
            subst h0
            refine fin ?_ h (.refl M _ w) rfl
            cases hd <;> simp [Builtin.clear_, run_underlying (elemT_u he)]
          · rename_i h0
            split at hv
            · rename_i a
              split at hv
              · rename_i s1 hst
                cases hv
                obtain ⟨i, zv, hi, hzz, hzc, hfree, _⟩ := zerT_info hzr
                obtain ⟨hzLR, hz1⟩ := free_LR h hfree
                cases hd with
                | sli0 => exact absurd rfl h0
                | @sli _ a' _ _ cap' har hx =>
                  obtain ⟨w', e1, e2, e3⟩ := stN_sim (P := P) h (fun _ => har) (repL_LR hzLR n) (fun u hu => hz1 u (repL_mem hu)) hst
                  have hsz : 0 < zv.cells.size := by have := hc.2; rw [← hc.1, ← hzc] at this; simpa using this
                  have hm := made_eq zv.cells hsz n
                  rw [hzc] at hm
                  refine fin ?_ e2 e3 rfl
                  have hn0 : ∃ k, n = k + 1 := ⟨n - 1, by omega⟩
                  obtain ⟨k, rfl⟩ := hn0
                  have hm' : List.map (fun i => zv.cells[i % zv.cells.size]!) (List.range ((k + 1) * zv.cells.size)) = repL zr (k + 1) := by simpa using congrArg Array.toList hm
                  simp [Builtin.clear_, run_underlying (elemT_u he), zeroValue, typeInfo, hi, hzz, Builtin.zeroCells, hm', e1]
              · cases hv
            · cases hv
        · cases hv
      · cases hv
    · cases hv
  case copy =>
    unfold copyB at hv
    split at hv
    case h_2 => cases hv
    rename_i t tr d x
    obtain ⟨d', r1, rfl, hd, hr1⟩ := ha.inv_cons
    obtain ⟨x', r2, rfl, hx, hr2⟩ := hr1.inv_cons
    obtain rfl := hr2.inv_nil
    split at hv
    · rename_i e b dl dc he
      split at hv
      · rename_i z n hz hn
        split at hv
        · rename_i news hnew
          have key : ∀ {s1}, ((∃ a, b = some a ∧ stN w0.heap.size s a news = some s1) ∨ (b = none ∧ dl = 0 ∧ s1 = s)) → v = .int .i64 (Nat.min n dl : Nat) → s' = s1 → ∃ v' w' M', (builtin .copy (List.toArray (t :: tr)) ty cs (List.toArray [d', x'])).run P w = .ok (.value v') w' ∧ Sm w0 M' s' w' ∧ Gr M s w M' s' w' ∧ VR M' v v' := fun h1 h2 h3 => by
            subst h2; subst h3
            have cc : ∀ T' : List TypeId, (Builtin.copy_ (List.toArray (t :: T')) ty #[d', x']).run P w = (Builtin.copy_ #[t, t] ty #[d', x']).run P w := fun T' => by simp [Builtin.copy_]
            obtain ⟨w', e1, e2, e3⟩ := copy_sim (t2 := t) (ty := ty) h hd hx he hz hn rfl hnew h1
            exact ⟨_, w', M, by simp only [builtin, Sem.run_bind, cc, e1, Result.andThen_ok, Sem.run_pure], e2, e3, .int _ _⟩
          split at hv
          · rename_i a
            split at hv
            · rename_i s1 hst
              cases hv
              exact key (.inl ⟨a, rfl, hst⟩) rfl rfl
            · cases hv
          · split at hv
            · rename_i h0
              cases hv
              exact key (.inr ⟨rfl, h0, rfl⟩) rfl rfl
            · cases hv
        · cases hv
      · cases hv
    · cases hv
  case min =>
    have hq := ret1_some' hv; clear hv; obtain ⟨hv, hss⟩ := hq
    subst hss
    unfold minB at hv
    split at hv
    case h_2 => cases hv
    rename_i x r
    obtain ⟨x', r1, rfl, hx, hr1⟩ := ha.inv_cons
    obtain ⟨v', e1, e2⟩ := foldV_sim (P := P) (w := w) (f := minV) (g := Builtin.min2) (fun _ _ _ _ _ => minV_run) r r1 x x' v hx hr1 hv
    exact ⟨v', w, M, by simp only [builtin, Builtin.min_, Sem.run_bind, List.toList_toArray, e1, Result.andThen_ok, Sem.run_pure], h, .refl M _ w, e2⟩
  case max =>
    have hq := ret1_some' hv; clear hv; obtain ⟨hv, hss⟩ := hq
    subst hss
    unfold maxB at hv
    split at hv
    case h_2 => cases hv
    rename_i x r
    obtain ⟨x', r1, rfl, hx, hr1⟩ := ha.inv_cons
    obtain ⟨v', e1, e2⟩ := foldV_sim (P := P) (w := w) (f := maxV) (g := Builtin.max2) (fun _ _ _ _ _ => maxV_run) r r1 x x' v hx hr1 hv
    exact ⟨v', w, M, by simp only [builtin, Builtin.max_, Sem.run_bind, List.toList_toArray, e1, Result.andThen_ok, Sem.run_pure], h, .refl M _ w, e2⟩
end
end Go.Ab
