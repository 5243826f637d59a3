/- The abstract machine: operations, big steps of code, and the predicates by which contracts are stated. -/
import Derived.Test.YtoldihdlpdccnaaAb1
set_option linter.unusedVariables false
namespace Go.Ab
open Go

/-! ### Values that are built, cut and appended -/
def fillL (place : Nat → Option (Nat × Nat)) : List Value → List (Nat × Value) → Option (List Value)
  | c, [] => some c
  | c, (i, v) :: rest =>
    match place i with
    | none => none
    | some (off, size) => if isTup v = false ∧ v.cells.size = size ∧ off + size ≤ c.length then fillL place (setL c off v.cells.toList) rest else none
def placeT (P : Program) (t : TypeId) (i : Nat) : Option (Nat × Nat) :=
  match P.underlying t with
  | some (.struct fs) => (match fs[i]? with
    | some f => (match sizT P f.type with | some n => some (f.offset, n) | none => none)
    | none => none)
  | some (.array _ e) => (match sizT P e with | some n => some (i * n, n) | none => none)
  | _ => none
def repL (z : List Value) (n : Nat) : List Value := (List.replicate n z).flatten
def sizesOk (P : Program) (t : TypeId) : Bool :=
  match P.underlying t with
  | some (.struct fs) => fs.toList.all fun f => (sizT P f.type).isSome
  | some (.array _ e) => (sizT P e).isSome
  | _ => false
def buildV (P : Program) (t : TypeId) (parts : List (Nat × Value)) : Option Value :=
  if aggT P t = some true ∧ sizesOk P t = true then (match zerT P t with
    | some z => (match fillL (placeT P t) z parts with
      | some l => some (.agg l.toArray)
      | none => none)
    | none => none)
  else none
def buildSliceV (P : Program) (s : St) (t : TypeId) (len : Nat) (parts : List (Nat × Value)) : Option (Value × St) :=
  match elemT P t with
  | some e => (match sizT P e, zerT P e with
    | some n, some z => if z.length = n ∧ 0 < n ∧ len * n ≤ 2 ^ 24 then (match fillL (fun i => some (i * n, n)) (repL z len) parts with
      | some l => some (.slice (some ⟨s.next, 0, none⟩) len len, s.alloc (.row l))
      | none => none) else none
    | _, _ => none)
  | none => none
def makeV (P : Program) (s : St) (t : TypeId) (len cap : Value) : Option (Value × St) :=
  match elemT P t, len, cap with
  | some e, .int _ l, .int _ c => (match sizT P e, zerT P e, bytT P e with
    | some n, some z, some b => if z.length = n ∧ 0 < n ∧ 0 ≤ l ∧ l ≤ c ∧ c * b ≤ 2 ^ 44 ∧ c ≤ 2 ^ 44 then
        some (.slice (some ⟨s.next, 0, none⟩) l.toNat c.toNat, s.alloc (.row (repL z c.toNat))) else none
    | _, _, _ => none)
  | _, _, _ => none

def intOf? : Value → Option Int
  | .int _ n => some n
  | _ => none
/-- The bounds of a cut: low, high, max; -1 stands for one that is not there. -/
def cutV (len cap : Nat) (lo hi mx : Option Value) : Option (Nat × Nat × Nat) :=
  match (match mx with | some v => intOf? v | none => some (cap : Int)) with
  | none => none
  | some m => match (match hi with | some v => intOf? v | none => (if mx.isSome = true then none else some (len : Int))) with
    | none => none
    | some h => match (match lo with | some v => intOf? v | none => some 0) with
      | none => none
      | some l => if 0 ≤ l ∧ l ≤ h ∧ h ≤ m ∧ m ≤ cap then some (l.toNat, h.toNat, m.toNat) else none
/-- Is a block's own size of elements this one (or has it none)? -/
def kindB (s : St) (b z : Nat) : Bool :=
  match s.heap b with
  | .row _ => true
  | .grown _ z' => z' == z
  | _ => false
def sliceV (P : Program) (s : St) (t : TypeId) (x : Value) (lo hi mx : Option Value) : Option Value :=
  match x with
  | .slice a len cap => (match elemT P t with
    | some e => (match sizT P e, cutV len cap lo hi mx with
      | some n, some (l, h, m) => (match a with
        | some a => if kindB s a.block n = true then some (.slice (some (a.add (l * n))) (h - l) (m - l)) else none
        | none => some (.slice none (h - l) (m - l)))
      | _, _ => none)
    | none => none)
  | .pointer (some a) => (match arrT P t with
    | some (k, e) => (match sizT P e, cutV k k lo hi mx with
      | some n, some (l, h, m) => some (.slice (some (a.add (l * n))) (h - l) (m - l))
      | _, _ => none)
    | none => none)
  | .string s => if strT P t = true ∧ mx = none then (match cutV s.size s.size lo hi none with
      | some (l, h, _) => some (.string (s.extract l h))
      | none => none) else none
  | _ => none

/-- What is appended is at hand: 'news' are n elements. -/
def appendV (P : Program) (base : Nat) (s : St) (t : TypeId) (v : Value) (n : Nat) (news : List Value) : Option (Value × St) :=
  match elemT P t, v with
  | some e, .slice b len cap => (match sizT P e, zerT P e, bytT P e with
    | some z, some zr, some by_ =>
      if zr.length = z ∧ 0 < z ∧ news.length = n * z ∧ len ≤ cap then
        if n = 0 then some (v, s)
        else if len + n ≤ cap then (match b with
          | some a => (match stN base s (a.add (len * z)) news with
            | some s' => some (.slice b (len + n) cap, s')
            | none => none)
          | none => none)
        else if (len + n) * by_ ≤ 2 ^ 44 ∧ len + n ≤ 2 ^ 44 ∧ by_ ≤ 2 ^ 20 then (match b with
          | none => if len = 0 then some (.slice (some ⟨s.next, 0, none⟩) n n, s.alloc (.grown news z)) else none
          | some a => (match s.heap a.block with
            | .row _ => (match ldN base s a (len * z) with
              | some olds => some (.slice (some ⟨s.next, 0, none⟩) (len + n) (len + n), s.alloc (.grown (olds ++ news) z))
              | none => none)
            | .grown c z' => (match ldN base s a (len * z) with
              | some olds => if z' = z ∧ base ≤ a.block ∧ a.spot = none ∧ a.off + len * z ≤ c.length then some (.slice (some ⟨s.next, 0, none⟩) (len + n) (len + n), (s.upd a.block .gone).alloc (.grown (olds ++ news) z)) else none
              | none => none)
            | _ => none))
        else none
      else none
    | _, _, _ => none)
  | _, _ => none
/-- Elements of what is appended or copied. -/
def newsV (base : Nat) (s : St) (z : Nat) (n : Nat) : Value → Option (List Value)
  | .slice (some a) k _ => if n ≤ k then ldN base s a (n * z) else none
  | .slice none _ _ => if n = 0 then some [] else none
  | .string t => if n ≤ t.size ∧ z = 1 then some ((t.data.toList.take n).map fun b => .int .u8 b.toNat) else none
  | _ => none
def lenV? : Value → Option Nat
  | .slice _ n _ => some n
  | .string s => some s.size
  | _ => none

def maxV (x y : Value) : Option Value :=
  match x, y with
  | .int k a, .int _ b => some (.int k (if b > a then b else a))
  | _, _ => none
def minV (x y : Value) : Option Value :=
  match x, y with
  | .int k a, .int _ b => some (.int k (if b < a then b else a))
  | _, _ => none
def foldV (f : Value → Value → Option Value) : Value → List Value → Option Value
  | x, [] => some x
  | x, y :: r => match f x y with | some z => foldV f z r | none => none

def ret1 (v : Option Value) (s : St) : Option (Value × St) := match v with | some v => some (v, s) | none => none
def ret0 (s : Option St) : Option (Value × St) := match s with | some s => some (undef, s) | none => none

def lenB (P : Program) : List TypeId → List Value → Option Value
  | t :: _, x :: _ => (match arrT P t with
    | some (n, _) => some (.int .i64 n)
    | none => (match x with
      | .slice _ n _ => if (elemT P t).isSome = true then some (.int .i64 n) else none
      | .string x => if strT P t = true then some (.int .i64 x.size) else none
      | _ => none))
  | _, _ => none
def minB : List Value → Option Value
  | x :: r => foldV minV x r
  | [] => none
def maxB : List Value → Option Value
  | x :: r => foldV maxV x r
  | [] => none
def appendB (P : Program) (base : Nat) (s : St) : List TypeId → List Value → Option (Value × St)
  | [t, t'], [v, x] => if (P.underlying t').isSome = true then (match intT P t', elemT P t with
    | some _, some e => (match x, zerT P e with
      | .int _ l, some z => (match bytT P e with
        | some b => if 0 ≤ l ∧ l ≤ 2 ^ 44 ∧ l * b ≤ 2 ^ 44 then appendV P base s t v l.toNat (repL z l.toNat) else none
        | none => none)
      | _, _ => none)
    | none, some e => (match sizT P e, lenV? x with
      | some z, some n => (match newsV base s z n x with
        | some news => appendV P base s t v n news
        | none => none)
      | _, _ => none)
    | _, _ => none) else none
  | _, _ => none
def copyB (P : Program) (base : Nat) (s : St) : List TypeId → List Value → Option (Value × St)
  | t :: _, [d, x] => (match elemT P t, d with
    | some e, .slice b dl _ => (match sizT P e, lenV? x with
      | some z, some n => (match newsV base s z (Nat.min n dl) x with
        | some news => (match b with
          | some a => (match stN base s a news with
            | some s' => some (.int .i64 (Nat.min n dl : Nat), s')
            | none => none)
          | none => if dl = 0 then some (.int .i64 (Nat.min n dl : Nat), s) else none)
        | none => none)
      | _, _ => none)
    | _, _ => none)
  | _, _ => none
def builtinV (P : Program) (base : Nat) (s : St) (b : Builtin) (ts : List TypeId) (as : List Value) : Option (Value × St) :=
  match b with
  | .len => ret1 (lenB P ts as) s
  | .min => ret1 (minB as) s
  | .max => ret1 (maxB as) s
  | .append => appendB P base s ts as
  | .copy => copyB P base s ts as
  | _ => none

def nilB : Value → Option Bool
  | .pointer none | .nilIface | .nilFunc | .slice none _ _ | .map none => some true
  | .pointer (some _) | .iface _ _ | .func _ _ _ | .slice (some _) _ _ | .map (some _) => some false
  | _ => none
/-- '==' of what are no two numbers, nor two strings. -/
def eqV (P : Program) (t : TypeId) (x y : Value) : Option Bool :=
  match x, y with
  | .bool a, .bool b => (match P.underlying t with | some .bool => some (a == b) | _ => none)
  | .agg cs, .agg ds => (match kdT P 60 t with
    | some ks => if fitsAll ks cs.toList = true ∧ fitsAll ks ds.toList = true ∧ P.eqGuardType P.depth t = false ∧ aggT P t = some true then some (eqCells cs.toList ds.toList) else none
    | none => none)
  | .pointer none, .pointer b => (match P.underlying t with | some (.pointer _) => some b.isNone | _ => none)
  | .pointer (some _), .pointer none => (match P.underlying t with | some (.pointer _) => some false | _ => none)
  | .slice none _ _, .slice b _ _ => (match P.underlying t with | some (.slice _) => some b.isNone | _ => none)
  | .slice (some _) _ _, .slice none _ _ => (match P.underlying t with | some (.slice _) => some false | _ => none)
  | .nilFunc, .nilFunc => (match P.underlying t with | some (.func _ _ _) => some true | _ => none)
  | .func _ _ _, .nilFunc => (match P.underlying t with | some (.func _ _ _) => some false | _ => none)
  | _, _ => none
def binV (P : Program) (op : BinOp) (t : TypeId) (x y : Value) : Option Value :=
  match x, y with
  | .int k a, .int k' b => intV op k a k' b
  | .string a, .string b => strV op a b
  | x, y => match op with
    | .eql => (match eqV P t x y with | some b => some (.bool b) | none => none)
    | .neq => (match eqV P t x y with | some b => some (.bool (!b)) | none => none)
    | _ => none
def unV (op : UnOp) (x : Value) : Option Value :=
  match op, x with
  | .neg, .int k n => some (.int k (k.wrap (0 - n)))
  | .xor, .int k n => (bitV .xor k (if k.signed then -1 else k.max) n).map (.int k)
  | .not, .bool b => some (.bool (!b))
  | _, _ => none
def convV (P : Program) (base : Nat) (s : St) (src dst : TypeId) (x : Value) : Option (Value × St) :=
  match x with
  | .int _ n => if (P.underlying src).isSome = true then (match intT P dst with | some k => some (.int k (k.wrap n), s) | none => none) else none
  | .string b => if strT P dst = true ∧ (P.underlying src).isSome = true then some (.string b, s) else none
  | _ => none

def ptrV : Value → Option Addr
  | .pointer (some a) => some a
  | _ => none

def pickV (c a b : Value) : Option Value := match c with | .bool t => some (if t = true then a else b) | _ => none
def loadV (P : Program) (base : Nat) (s : St) (t : TypeId) (a : Value) : Option Value := match ptrV a with | some a => ldVar P base s t a | none => none
def fieldAddrV (P : Program) (t : TypeId) (x : Value) (f : Nat) : Option Value :=
  match ptrV x, fldT P t f with
  | some a, some (off, u) => (match sizT P u with
    | some n => if 0 < n then some (.pointer (some (a.add off))) else none
    | none => none)
  | _, _ => none
def fieldV (P : Program) (t : TypeId) (x : Value) (f : Nat) : Option Value :=
  match x, fldT P t f with
  | .agg cs, some (off, u) => partV P u cs off
  | _, _ => none
def indexAddrV (P : Program) (t : TypeId) (x i : Value) : Option Value :=
  match intOf? i with
  | some i => (match x with
    | .slice (some a) len _ => (match elemT P t with
      | some e => (match sizT P e with
        | some n => if 0 ≤ i ∧ i < len then some (.pointer (some (a.add (i.toNat * n)))) else none
        | none => none)
      | none => none)
    | .pointer (some a) => (match arrT P t with
      | some (k, e) => (match sizT P e with
        | some n => if 0 ≤ i ∧ i < k then some (.pointer (some (a.add (i.toNat * n)))) else none
        | none => none)
      | none => none)
    | _ => none)
  | none => none
def indexV (P : Program) (t : TypeId) (x i : Value) : Option Value :=
  match intOf? i with
  | some i => (match x with
    | .agg cs => (match arrT P t with
      | some (k, e) => (match sizT P e with
        | some n => if 0 ≤ i ∧ i < k then partV P e cs (i.toNat * n) else none
        | none => none)
      | none => none)
    | .string b => if strT P t = true ∧ 0 ≤ i ∧ i < b.size then some (.int .u8 (b.data.toList.getD i.toNat 0).toNat) else none
    | _ => none)
  | none => none
def extractV (x : Value) (i : Nat) : Option Value := match x with | .tuple vs => vs[i]? | _ => none
def nilCheckV (x : Value) : Option Value :=
  match x with
  | .pointer (some a) => some (.pointer (some a))
  | .func (.func f) fi ca => some (.func (.func f) fi ca)
  | .func (.yield l) fi ca => some (.func (.yield l) fi ca)
  | _ => none
def mkFuncV (fn : Fn) (fi ca : Array Value) : Option Value := match fn with | .yield _ => none | fn => some (.func fn fi ca)
def ifaceV (P : Program) (t : TypeId) (x : Value) : Option Value := if ifaceT P t = false ∧ (P.underlying t).isSome = true ∧ isTup x = false then some (.iface t x) else none

/-! ### Operations -/
def Callee.isB : Callee → Bool
  | .builtin _ => true
  | _ => false
def isCall : Op → Bool
  | .call c => !Callee.isB c.callee
  | _ => false

def pop (P : Program) (base : Nat) (ρ : Operand → Value) (s : St) : Op → Option (Value × St)
  | .move x => some (ρ x, s)
  | .assign x => some (ρ x, s)
  | .pick c a b => ret1 (pickV (ρ c) (ρ a) (ρ b)) s
  | .alloc t => (match zerT P t with | some z => some (.pointer (some ⟨s.next, 0, none⟩), s.alloc (.row z)) | none => none)
  | .box _ x => if isTup (ρ x) = false then some (.pointer (some ⟨s.next, 0, none⟩), s.alloc (.row (ρ x).cells.toList)) else none
  | .build t parts => ret1 (buildV P t (parts.toList.map fun p => (p.1, ρ p.2))) s
  | .buildSlice t len parts => buildSliceV P s t len (parts.toList.map fun p => (p.1, ρ p.2))
  | .load t a => ret1 (loadV P base s t (ρ a)) s
  | .store t a x => (match ptrV (ρ a) with | some a => ret0 (stVar P base s t a (ρ x)) | none => none)
  | .nilCheck x => ret1 (nilCheckV (ρ x)) s
  | .binOp op t x y _ => ret1 (binV P op t (ρ x) (ρ y)) s
  | .unOp op _ x => ret1 (unV op (ρ x)) s
  | .convert a b x => convV P base s a b (ρ x)
  | .makeInterface t x => ret1 (ifaceV P t (ρ x)) s
  | .makeFunc fn fi ca => ret1 (mkFuncV fn (fi.map ρ) (ca.map ρ)) s
  | .makeSlice t l c => makeV P s t (ρ l) (ρ c)
  | .slice t x lo hi mx => ret1 (sliceV P s t (ρ x) (lo.map ρ) (hi.map ρ) (mx.map ρ)) s
  | .fieldAddr t x f => ret1 (fieldAddrV P t (ρ x) f) s
  | .field t x f => ret1 (fieldV P t (ρ x) f) s
  | .indexAddr t x i => ret1 (indexAddrV P t (ρ x) (ρ i)) s
  | .index t x i => ret1 (indexV P t (ρ x) (ρ i)) s
  | .extract x i => ret1 (extractV (ρ x) i) s
  | .call c => (match c.callee with
    | .builtin b => builtinV P base s b c.argTypes.toList (c.args.toList.map ρ)
    | _ => none)
  | _ => none

/-! ### Big steps -/
structure Drw where
  eff : Nat → Bool
  lite : Nat → Bool
  kp : Nat → Bool
  n0 : Nat

inductive Jdg where
  | code (c : Code) (e : Env) (s : St) (x : Exit) (e' : Env) (s' : St)
  | ops (all : Array Oper) (D : Option Drw) (k : Nat) (l : List Oper) (e : Env) (s : St) (e' : Env) (s' : St)
  | call (f : FuncId) (args : List Value) (s : St) (v : Value) (s' : St)
  | func (fn : Fn) (args : List Value) (s : St) (v : Value) (s' : St)

def guardV (all : Array Oper) (e : Env) (j : Nat) : Option (Option Bool) :=
  match (all[j]?).bind (·.dst) with
  | some t => (match e t with | .bool b => some (some b) | _ => some none)
  | none => none
/-- What holds of the operations of a region whose order is drawn: 'eff': which ones may change old blocks; 'lite': which loads may come before or behind these; 'kp': blocks that none of them changes; 'n0': the blocks that there were. -/
def isLoad : Op → Bool
  | .load _ _ => true
  | _ => false
def Dok (D : Option Drw) (k : Nat) (s s' : St) : Prop :=
  match D with
  | none => True
  | some d => Mild s s' ∨ (d.eff k = true ∧ s.next ≤ s'.next ∧ ∀ b, d.kp b = true → b < d.n0 → s'.heap b = s.heap b)
def Lok (D : Option Drw) (k : Nat) (ρ : Operand → Value) : Op → Prop
  | .load _ a => (match D with
    | none => True
    | some d => d.lite k = true → (match ρ a with | .pointer (some ad) => d.kp ad.block = true ∧ ad.block < d.n0 | _ => False))
  | _ => True

def resV (P : Program) (base : Nat) (e : Env) (s : St) : ResultVar → Option Value
  | .tmp t => some (e t)
  | .cell a t => (match ptrV (e a) with | some a => ldVar P base s t a | none => none)
def allV (P : Program) (base : Nat) (e : Env) (s : St) : List ResultVar → Option (List Value)
  | [] => some []
  | r :: rs => match resV P base e s r, allV P base e s rs with
    | some v, some vs => some (v :: vs)
    | _, _ => none
def resultsV (P : Program) (base : Nat) (fn : Func) (e : Env) (s : St) : Option Value :=
  match allV P base e s fn.results.toList with
  | some [v] => some v
  | some vs => some (.tuple vs.toArray)
  | none => none

def putAll (e : Env) : List (Tmp × Value) → Env
  | [] => e
  | (t, v) :: r => putAll (put e (some t) v) r

/-- The callee's value, and the arguments. -/
def calleeV (ρ : Operand → Value) (c : Call) : Option (Fn × List Value) :=
  match c.callee with
  | .value f => (match ρ f with
    | .func fn fi ca => some (fn, fi.toList ++ (c.args.toList.map ρ) ++ (match fn with | .func _ => ca.toList | _ => []))
    | _ => none)
  | _ => none

/-- A frame of which nothing was drawn within a region: the check of its text is made by 'drawOk' (the simulation). -/
def reachB (ops : Array Oper) : Nat → Nat → Nat → Bool
  | 0, _, _ => false
  | n + 1, j, i => ((ops[j]?).map fun o => o.after.toList.any fun e => Region.binds .any e && (e.on == i || reachB ops n e.on i)).getD false
def loudO (o : Oper) : Bool :=
  match o.op with
  | .load .. | .store .. | .alloc _ | .box .. | .buildSlice .. | .makeSlice .. | .convert .. | .slice .. => true
  | .call c => (match c.callee with | .builtin .len => false | .builtin .min => false | .builtin .max => false | _ => true)
  | _ => false
def drawOk (ops : Array Oper) (eff lite : Nat → Bool) : Bool :=
  (List.range ops.size).all fun j => (List.range j).all fun i =>
    (match ops[i]?, ops[j]? with
     | some a, some b => (a.apart ops b || reachB ops (ops.size + 1) j i) &&
        (!(loudO a && loudO b && ((eff i && !(lite j && isLoad b.op)) || (eff j && !(lite i && isLoad a.op)))) || reachB ops (ops.size + 1) j i)
     | _, _ => true) 
def edgesOk (ops : Array Oper) : Bool :=
  (List.range ops.size).all fun j => ((ops[j]?).map fun o => o.after.toList.all fun e => !Region.binds .any e || decide (e.on < j)).getD true

/-! ### Code's own bounds -/
def constOk : Value → Bool
  | .agg cs => cs.toList.all (oldOk 0)
  | .tuple cs => cs.toList.all (oldOk 0)
  | .func (.func _) fi ca => fi.isEmpty && ca.isEmpty
  | v => oldOk 0 v
def opdOk (G N : Nat) : Operand → Bool
  | .tmp t => decide (t < N)
  | .const v => constOk v
  | .global g => decide (g < G)
  | .func _ => true
def operOk (G N : Nat) (o : Oper) : Bool := (match o.dst with | some t => decide (t < N) | none => true) && o.op.operands.toList.all (opdOk G N)
def noRF : Code → Bool
  | .seq a b => noRF a && noRF b
  | .cond _ a b => noRF a && noRF b
  | .block _ a => noRF a
  | .loop a => noRF a
  | .scope a => noRF a
  | .rangeFunc .. => false
  | _ => true
def codeOk (G N : Nat) : Code → Bool
  | .region _ ops _ => ops.toList.all (operOk G N)
  | .seq a b => codeOk G N a && codeOk G N b
  | .cond c a b => opdOk G N c && codeOk G N a && codeOk G N b
  | .block _ a => codeOk G N a
  | .loop a => codeOk G N a
  | .rangeFunc f ps a b => opdOk G N f && ps.toList.all (fun t => decide (t < N)) && codeOk G N a && codeOk G N b && noRF a && noRF b
  | .scope a => codeOk G N a
  | _ => true
def funcOk (G : Nat) (fn : Func) : Bool :=
  match fn.body with
  | some c => codeOk G fn.ntmps c && fn.results.toList.all (fun | .tmp t => decide (t < fn.ntmps) | .cell a _ => decide (a < fn.ntmps)) && fn.name != "runtime.NumGoroutine"
  | none => true
def progOk (G : Nat) (P : Program) : Bool := P.funcs.toList.all (funcOk G)

/-- A value that leads nowhere. -/
def bareV1 : Value → Bool
  | .agg c => c.toList.all (oldOk 0)
  | v => oldOk 0 v
def bareV : Value → Bool
  | .tuple c => c.toList.all bareV1
  | v => bareV1 v
def St.none : St := ⟨fun _ => .gone, 0⟩

inductive Ev (P : Program) : Nat → Jdg → Prop
  | skip {base e s} : Ev P base (.code .skip e s .normal e s)
  | label {base l e s} : Ev P base (.code (.label l) e s .normal e s)
  | exit {base i e s} : Ev P base (.code (.exit i) e s (.exit i) e s)
  | ret {base e s} : Ev P base (.code .ret e s .ret e s)
  | seq {base a b e s e1 s1 x e2 s2} (h1 : Ev P base (.code a e s .normal e1 s1)) (h2 : Ev P base (.code b e1 s1 x e2 s2)) : Ev P base (.code (.seq a b) e s x e2 s2)
  | seq_out {base a b e s x e1 s1} (h1 : Ev P base (.code a e s x e1 s1)) (hx : x ≠ .normal) : Ev P base (.code (.seq a b) e s x e1 s1)
  | cond {base c a b e s x e1 s1} (t : Bool) (hc : ev e c = .bool t) (h : Ev P base (.code (if t = true then a else b) e s x e1 s1)) : Ev P base (.code (.cond c a b) e s x e1 s1)
  | block {base i a e s x e1 s1} (h : Ev P base (.code a e s x e1 s1)) (hx : x ≠ .exit i) : Ev P base (.code (.block i a) e s x e1 s1)
  | block_out {base i a e s e1 s1} (h : Ev P base (.code a e s (.exit i) e1 s1)) : Ev P base (.code (.block i a) e s .normal e1 s1)
  | loop {base a e s e1 s1 x e2 s2} (h1 : Ev P base (.code a e s .normal e1 s1)) (h2 : Ev P base (.code (.loop a) e1 s1 x e2 s2)) : Ev P base (.code (.loop a) e s x e2 s2)
  | loop_out {base a e s x e1 s1} (h1 : Ev P base (.code a e s x e1 s1)) (hx : x ≠ .normal) : Ev P base (.code (.loop a) e s x e1 s1)
  | scope {base a e s x e1 s1} (h : Ev P base (.code a e s x e1 s1)) (hx : x = .normal ∨ x = .ret ∨ ∃ i, x = .exit i) : Ev P base (.code (.scope a) e s x e1 s1)
  | region {base i ops e s e1 s1} (h : Ev P base (.ops ops none 0 ops.toList e s e1 s1)) : Ev P base (.code (.region i ops false) e s .normal e1 s1)
  | region_draw {base i ops e s e1 s1} (eff lite kp : Nat → Bool) (hd : drawOk ops eff lite = true) (he : edgesOk ops = true) (h : Ev P base (.ops ops (some ⟨eff, lite, kp, s.next⟩) 0 ops.toList e s e1 s1)) : Ev P base (.code (.region i ops true) e s .normal e1 s1)
  | rangeFunc {base f ps as body e s fn args v s1 r st} (hf : ev e f = .func (.func fn) #[] args)
      (h : Ev P base (.call fn (.func (.yield s.next) #[] #[] :: args.toList) (s.alloc (.loop ⟨e, ps, as, body, .ready, none⟩)) v s1))
      (hl : s1.heap s.next = .loop r) (hs : r.state = st) (hst : st ≠ .busy) (hp : r.pending = none) :
      Ev P base (.code (.rangeFunc f ps as body) e s .normal e (s1.upd s.next .gone))
  | rangeFunc_out {base f ps as body e s fn args v s1 r c x e2 s2} (hf : ev e f = .func (.func fn) #[] args)
      (h : Ev P base (.call fn (.func (.yield s.next) #[] #[] :: args.toList) (s.alloc (.loop ⟨e, ps, as, body, .ready, none⟩)) v s1))
      (hl : s1.heap s.next = .loop r) (hst : r.state ≠ .busy) (hp : r.pending = some c) (hc : c = .ret ∨ ∃ i, c = .exit i)
      (h2 : Ev P base (.code c e (s1.upd s.next .gone) x e2 s2)) :
      Ev P base (.code (.rangeFunc f ps as body) e s x e2 s2)
  | ops_nil {base all D k e s} : Ev P base (.ops all D k [] e s e s)
  | ops_not {base all D k o l e s j w b e1 s1} (hg : o.guard = some (j, w)) (hb : guardV all e j = some b) (hw : b ≠ some w)
      (h : Ev P base (.ops all D (k + 1) l (put e o.dst undef) s e1 s1)) : Ev P base (.ops all D k (o :: l) e s e1 s1)
  | ops_plain {base all D k o l e s v s1 e2 s2} (hg : ∀ j w, o.guard = some (j, w) → guardV all e j = some (some w)) (hc : isCall o.op = false)
      (hv : pop P base (ev e) s o.op = some (v, s1)) (hD : Dok D k s s1) (hL : Lok D k (ev e) o.op)
      (h : Ev P base (.ops all D (k + 1) l (put e o.dst v) s1 e2 s2)) : Ev P base (.ops all D k (o :: l) e s e2 s2)
  | ops_call {base all D k o l e s c fn args v s1 e2 s2} (hg : ∀ j w, o.guard = some (j, w) → guardV all e j = some (some w)) (ho : o.op = .call c) (hb : Callee.isB c.callee = false)
      (hcal : calleeV (ev e) c = some (fn, args)) (hc : Ev P base (.func fn args s v s1)) (hD : Dok D k s s1)
      (h : Ev P base (.ops all D (k + 1) l (put e o.dst v) s1 e2 s2)) : Ev P base (.ops all D k (o :: l) e s e2 s2)
  | func {base f args s v s1} (h : Ev P base (.call f args s v s1)) : Ev P base (.func (.func f) args s v s1)
  | yield {base l args s r e1 s1 x e2 s2} (hl : s.heap l = .loop r) (hn : r.params.size = args.length) (hst : r.state = .ready) (hold : base ≤ l)
      (h1 : Ev P base (.code r.assign (putAll r.env (r.params.toList.zip args)) s .normal e1 s1))
      (hl1 : s1.heap l = .loop r)
      (h2 : Ev P base (.code r.body e1 (s1.upd l (.loop { r with state := .busy })) x e2 s2))
      (hl2 : s2.heap l = .loop { r with state := .busy })
      (j : Option Code) (hx : (x = .normal ∧ j = none) ∨ (x = .ret ∧ j = some .ret) ∨ (∃ i, x = .exit i ∧ j = some (.exit i))) :
      Ev P base (.func (.yield l) args s (.bool j.isNone) (s2.upd l (.loop { r with state := (if j.isNone = true then .ready else .done), pending := j })))
  | call {base f args s fn c x e1 s1 v} (hf : P.funcs[f]? = some fn) (hb : fn.body = some c)
      (h : Ev P base (.code c (env0 args) s x e1 s1)) (hx : x = .normal ∨ x = .ret) (hr : resultsV P base fn e1 s1 = some v) :
      Ev P base (.call f args s v s1)
  | closed {base f args s v s1 g t} (hg : g ≤ base) (hP : progOk g P = true) (ha : args.all bareV = true) (hv : bareV v = true) (htn : t.next = g) (hth : ∀ b, b < g → t.heap b = s.heap b) (h : Ev P g (.call f args t v s1)) :
      Ev P base (.call f args s v s)

/-! ### The predicates -/
def W (P : Program) (base : Nat) (c : Code) (e : Env) (s : St) (Q : Exit → Env → St → Prop) (_ : Tag (c, Q) := .mk) : Prop := ∃ x e' s', Ev P base (.code c e s x e' s') ∧ Q x e' s'
def WO (P : Program) (base : Nat) (all : Array Oper) (D : Option Drw) (k : Nat) (l : List Oper) (e : Env) (s : St) (K : Env → St → Prop) (_ : Tag (all, l, K) := .mk) : Prop := ∃ e' s', Ev P base (.ops all D k l e s e' s') ∧ K e' s'
def WC (P : Program) (base : Nat) (f : FuncId) (args : List Value) (s : St) (R : Value → St → Prop) (_ : Tag R := .mk) : Prop := ∃ v s', Ev P base (.call f args s v s') ∧ R v s'
def WF (P : Program) (base : Nat) (fn : Fn) (args : List Value) (s : St) (R : Value → St → Prop) (_ : Tag R := .mk) : Prop := ∃ v s', Ev P base (.func fn args s v s') ∧ R v s'
end Go.Ab
