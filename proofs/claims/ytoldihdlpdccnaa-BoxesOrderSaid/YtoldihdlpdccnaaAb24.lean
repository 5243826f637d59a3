/- An evaluator of the abstract machine, and that it is right: closed calls are run by the kernel. -/
import Derived.Test.YtoldihdlpdccnaaAb23
set_option linter.unusedVariables false
set_option linter.unusedSimpArgs false
namespace Go.Ab
open Go Go.RowKit

/-- What was there stays, but for these blocks. -/
structure Unch (s s' : St) (low : List Nat) : Prop where
  next : s.next ≤ s'.next
  heap : ∀ b, b < s.next → b ∉ low → s'.heap b = s.heap b
theorem Unch.refl (s : St) (n : List Nat) : Unch s s n := ⟨Nat.le_refl _, fun _ _ _ => rfl⟩
theorem Unch.trans {s s1 s2 : St} {n m : List Nat} (h : Unch s s1 n) (k : Unch s1 s2 m) : Unch s s2 (n ++ m) :=
  ⟨Nat.le_trans h.next k.next, fun b hb hl => (k.heap b (Nat.lt_of_lt_of_le hb h.next) (fun e => hl (List.mem_append.2 (.inr e)))).trans (h.heap b hb (fun e => hl (List.mem_append.2 (.inl e))))⟩
theorem Unch.le {s s' : St} {n m : List Nat} (h : Unch s s' n) (hm : ∀ b ∈ n, b < s.next → b ∈ m) : Unch s s' m := ⟨h.next, fun b hb hl => h.heap b hb fun e => hl (hm b e hb)⟩
theorem Unch.mild {s s' : St} {n : List Nat} (h : Unch s s' n) (hn : ∀ b ∈ n, s.next ≤ b) : Mild s s' := ⟨h.next, fun b hb => h.heap b hb fun e => by have := hn b e; omega⟩
theorem Unch.of_mild {s s' : St} (h : Mild s s') (n : List Nat) : Unch s s' n := ⟨h.next, fun b hb _ => h.heap b hb⟩
theorem Unch.upd (s : St) (b : Nat) (o : AObj) : Unch s (s.upd b o) [b] := ⟨Nat.le_refl _, fun k _ hk => heap_upd_ne _ _ (by simpa using hk)⟩
theorem Unch.cut {s s' : St} {n : List Nat} (h : Unch s s' n) : Unch s s' (n.filter fun b => decide (b < s.next)) := h.le fun b hb hlt => List.mem_filter.2 ⟨hb, by simpa using hlt⟩

def blkOf : Value → Nat
  | .pointer (some a) => a.block
  | .slice (some a) _ _ => a.block
  | _ => 0
def lowV : Value → List Nat
  | .slice (some a) _ _ => [a.block]
  | _ => []
def opLow (ρ : Operand → Value) : Op → List Nat
  | .store _ a _ => [blkOf (ρ a)]
  | .call c => (match c.callee with
    | .builtin .append => (match c.args.toList.map ρ with | v :: _ => lowV v | [] => [])
    | .builtin .copy => (match c.args.toList.map ρ with | v :: _ => lowV v | [] => [])
    | _ => [])
  | _ => []

theorem stN_unch {base : Nat} {s s1 : St} {a : Addr} {vs : List Value} (h : stN base s a vs = some s1) : Unch s s1 [a.block] := by
  unfold stN at h
  split at h
  · cases h; exact .refl _ _
  · split at h
    · split at h
      · cases h; exact .upd _ _ _
      · cases h
    · cases h
theorem appendV_unch {P : Program} {base : Nat} {s s1 : St} {t : TypeId} {v r : Value} {n : Nat} {news : List Value} (h : appendV P base s t v n news = some (r, s1)) :
    Unch s s1 (lowV v) := by
  have two : ∀ (b : Nat) (o o' : AObj), Unch s ((s.upd b o).alloc o') [b] := fun b o o' =>
    ⟨Nat.le_succ _, fun k hk hl => by rw [heap_alloc_ne _ _ (by rw [next_upd]; omega), heap_upd_ne _ _ (by simpa using hl)]⟩
  unfold appendV at h
  split at h
  · rename_i e b len cap he
    split at h
    · split at h
      · split at h
        · cases h; exact .refl _ _
        · split at h
          · split at h
            · rename_i a
              split at h
              · rename_i s' hs
                cases h
                have := stN_unch hs
                rw [add_block] at this
                exact this
              · cases h
            · cases h
          · split at h
            · split at h
              · split at h
                · cases h; exact .of_mild (.alloc _ _) _
                · cases h
              · rename_i a
                repeat' (split at h)
                all_goals first | (cases h; done) | (cases h; exact .of_mild (.alloc _ _) _) | (cases h; exact two _ _ _)
            · cases h
      · cases h
    · cases h
  · cases h
theorem ret1_eq {o : Option Value} {s s1 : St} {v : Value} (h : ret1 o s = some (v, s1)) : s1 = s := (ret1_some h).2
theorem pop_unch {P : Program} {base : Nat} {ρ : Operand → Value} {s s1 : St} {v : Value} {op : Op} (h : pop P base ρ s op = some (v, s1)) : Unch s s1 (opLow ρ op) := by
  have r1 : ∀ {x : Option Value} {n : List Nat}, ret1 x s = some (v, s1) → Unch s s1 n := fun hx => by rw [ret1_eq hx]; exact .refl _ _
  cases op with
  | move x => simp only [pop, Option.some.injEq, Prod.mk.injEq] at h; rw [← h.2]; exact .refl _ _
  | assign x => simp only [pop, Option.some.injEq, Prod.mk.injEq] at h; rw [← h.2]; exact .refl _ _
  | alloc t =>
    simp only [pop] at h
    split at h
    · cases h; exact .of_mild (.alloc _ _) _
    · cases h
  | box t x =>
    simp only [pop] at h
    split at h
    · cases h; exact .of_mild (.alloc _ _) _
    · cases h
  | buildSlice t n ps => exact .of_mild (buildSliceV_mild h) _
  | makeSlice t l c =>
    simp only [pop, makeV] at h
    repeat' (split at h)
    all_goals first | (cases h; done) | (cases h; exact .of_mild (.alloc _ _) _)
  | store t a x =>
    simp only [pop] at h
    split at h
    · rename_i ad had
      have hb : blkOf (ρ a) = ad.block := by
        unfold ptrV at had
        split at had
        · rename_i hx; cases had; rw [hx]; rfl
        · cases had
      simp only [opLow, hb]
      unfold ret0 at h
      split at h
      · rename_i s' hs
        cases h
        unfold stVar at hs
        split at hs
        · exact stN_unch hs
        · cases hs
      · cases h
    · cases h
  | convert a b x =>
    simp only [pop, convV] at h
    repeat' (split at h)
    all_goals first | (cases h; done) | (cases h; exact .refl _ _)
  | call c =>
    obtain ⟨callee, args, ats⟩ := c
    cases callee with
    | builtin b =>
      simp only [pop] at h
      cases b with
      | len => exact r1 h
      | min => exact r1 h
      | max => exact r1 h
      | append =>
        simp only [builtinV, appendB] at h
        split at h
        · rename_i t t' v0 x hts has
          simp only [opLow, has]
          repeat' (split at h)
          all_goals first | (cases h; done) | exact appendV_unch h
        · cases h
      | copy =>
        simp only [builtinV, copyB] at h
        split at h
        · rename_i t r d x hts has
          simp only [opLow, has]
          split at h
          · rename_i e b dl _ he
            split at h
            · split at h
              · split at h
                · rename_i a
                  split at h
                  · rename_i s' hs
                    cases h
                    exact stN_unch hs
                  · cases h
                · split at h
                  · cases h; exact .refl _ _
                  · cases h
              · cases h
            · cases h
          · cases h
        · cases h
      | _ => simp only [builtinV] at h; cases h
    | _ => simp only [pop] at h; cases h
  | _ => first | exact r1 h | (cases h; done)

/-! ### The evaluator -/
/-- A state, and the blocks that were changed. -/
structure SL where
  s : St
  low : List Nat

def guardB (all : Array Oper) (e : Env) (o : Oper) : Option Bool :=
  match o.guard with
  | none => some true
  | some (j, w) => (guardV all e j).map fun b => b == some w

/-- One operation: its value, the state, and whether it changed what was there. -/
def evOp (P : Program) (base : Nat) (callF : Fn → List Value → St → Option (Value × SL)) (e : Env) (s : St) (o : Oper) : Option (Value × SL) :=
  match o.op with
  | .call c => if Callee.isB c.callee = true then (pop P base (ev e) s o.op).map fun x => (x.1, ⟨x.2, opLow (ev e) o.op⟩)
    else (match calleeV (ev e) c with | some (fn, args) => callF fn args s | none => none)
  | _ => (pop P base (ev e) s o.op).map fun x => (x.1, ⟨x.2, opLow (ev e) o.op⟩)
def evOps (P : Program) (base : Nat) (callF : Fn → List Value → St → Option (Value × SL)) (all : Array Oper) : List Oper → Env → St → Option (Env × SL × List Bool)
  | [], e, s => some (e, ⟨s, []⟩, [])
  | o :: l, e, s =>
    match guardB all e o with
    | some true => (match evOp P base callF e s o with
      | some (v, t) => (match evOps P base callF all l (put e o.dst v) t.s with
        | some (e', u, fl) => some (e', ⟨u.s, t.low.filter (fun b => decide (b < s.next)) ++ u.low⟩, t.low.any (fun b => decide (b < s.next)) :: fl)
        | none => none)
      | none => none)
    | some false => (match evOps P base callF all l (put e o.dst undef) s with
      | some (e', u, fl) => some (e', u, false :: fl)
      | none => none)
    | none => none

def evCode (P : Program) (base : Nat) (callF : Fn → List Value → St → Option (Value × SL)) : Nat → Code → Env → St → Option (Exit × Env × SL)
  | 0, _, _, _ => none
  | n + 1, c, e, s =>
    match c with
    | .skip => some (.normal, e, ⟨s, []⟩)
    | .label _ => some (.normal, e, ⟨s, []⟩)
    | .exit i => some (.exit i, e, ⟨s, []⟩)
    | .ret => some (.ret, e, ⟨s, []⟩)
    | .seq a b => (match evCode P base callF n a e s with
      | some (.normal, e1, t) => (match evCode P base callF n b e1 t.s with
        | some (x, e2, u) => some (x, e2, ⟨u.s, t.low ++ u.low⟩)
        | none => none)
      | r => r)
    | .cond c a b => (match ev e c with
      | .bool true => evCode P base callF n a e s
      | .bool false => evCode P base callF n b e s
      | _ => none)
    | .block i a => (match evCode P base callF n a e s with
      | some (.exit j, e1, t) => if j = i then some (.normal, e1, t) else some (.exit j, e1, t)
      | r => r)
    | .loop a => (match evCode P base callF n a e s with
      | some (.normal, e1, t) => (match evCode P base callF n (.loop a) e1 t.s with
        | some (x, e2, u) => some (x, e2, ⟨u.s, t.low ++ u.low⟩)
        | none => none)
      | r => r)
    | .scope a => (match evCode P base callF n a e s with
      | some (.normal, e1, t) => some (.normal, e1, t)
      | some (.ret, e1, t) => some (.ret, e1, t)
      | some (.exit j, e1, t) => some (.exit j, e1, t)
      | _ => none)
    | .region _ ops d => (match evOps P base callF ops ops.toList e s with
      | some (e1, t, fl) => if d = true then (if drawOk ops (fun i => fl.getD i true) (fun _ => false) = true ∧ edgesOk ops = true then some (.normal, e1, t) else none) else some (.normal, e1, t)
      | none => none)
    | .rangeFunc f ps as body => (match ev e f with
      | .func (.func fn) fi args => if fi.size = 0 then (match callF (.func fn) (.func (.yield s.next) #[] #[] :: args.toList) (s.alloc (.loop ⟨e, ps, as, body, .ready, none⟩)) with
        | some (_, t) => (match t.s.heap s.next with
          | .loop r => if r.state ≠ .busy then (match r.pending with
            | none => some (.normal, e, ⟨t.s.upd s.next .gone, t.low.filter fun b => decide (b < s.next)⟩)
            | some .ret => some (.ret, e, ⟨t.s.upd s.next .gone, t.low.filter fun b => decide (b < s.next)⟩)
            | some (.exit i) => some (.exit i, e, ⟨t.s.upd s.next .gone, t.low.filter fun b => decide (b < s.next)⟩)
            | _ => none) else none
          | _ => none)
        | none => none) else none
      | _ => none)
    | _ => none

def evFn (P : Program) (base m : Nat) : Nat → Fn → List Value → St → Option (Value × SL)
  | 0, _, _, _ => none
  | n + 1, .func f, args, s =>
    (match P.funcs[f]? with
    | some fn => (match fn.body with
      | some c => (match evCode P base (evFn P base m n) m c (env0 args) s with
        | some (x, e1, t) => (match x with
          | .normal => (resultsV P base fn e1 t.s).map fun v => (v, t)
          | .ret => (resultsV P base fn e1 t.s).map fun v => (v, t)
          | _ => none)
        | none => none)
      | none => none)
    | none => none)
  | n + 1, .yield l, args, s =>
    (match s.heap l with
    | .loop r => if r.params.size = args.length ∧ r.state = .ready ∧ base ≤ l ∧ l < s.next then
        (match evCode P base (evFn P base m n) m r.assign (putAll r.env (r.params.toList.zip args)) s with
        | some (.normal, e1, t1) => if l ∉ t1.low then
            (match evCode P base (evFn P base m n) m r.body e1 (t1.s.upd l (.loop { r with state := .busy })) with
            | some (x, _, t2) => if l ∉ t2.low then (match x with
              | .normal => some (.bool true, ⟨t2.s.upd l (.loop { r with state := .ready, pending := none }), t1.low ++ [l] ++ t2.low⟩)
              | .ret => some (.bool false, ⟨t2.s.upd l (.loop { r with state := .done, pending := some .ret }), t1.low ++ [l] ++ t2.low⟩)
              | .exit i => some (.bool false, ⟨t2.s.upd l (.loop { r with state := .done, pending := some (.exit i) }), t1.low ++ [l] ++ t2.low⟩)
              | _ => none) else none
            | none => none) else none
        | _ => none) else none
    | _ => none)
  | _ + 1, _, _, _ => none
def evCall (P : Program) (base m n : Nat) (f : FuncId) (args : List Value) (s : St) : Option (Value × SL) := evFn P base m n (.func f) args s

/-! ### It is right -/
def CallOk (P : Program) (base : Nat) (callF : Fn → List Value → St → Option (Value × SL)) : Prop :=
  ∀ fn args s v t, callF fn args s = some (v, t) → Ev P base (.func fn args s v t.s) ∧ Unch s t.s t.low

theorem evOp_ok {P : Program} {base : Nat} {callF : Fn → List Value → St → Option (Value × SL)} (hc : CallOk P base callF) {e : Env} {s : St} {o : Oper} {v : Value} {t : SL} (h : evOp P base callF e s o = some (v, t)) :
    Unch s t.s t.low ∧ ((isCall o.op = false ∧ pop P base (ev e) s o.op = some (v, t.s)) ∨ (∃ c fn args, o.op = .call c ∧ Callee.isB c.callee = false ∧ calleeV (ev e) c = some (fn, args) ∧ Ev P base (.func fn args s v t.s))) := by
  have plain : (pop P base (ev e) s o.op).map (fun x => (x.1, (⟨x.2, opLow (ev e) o.op⟩ : SL))) = some (v, t) → Unch s t.s t.low ∧ pop P base (ev e) s o.op = some (v, t.s) := fun h => by
    obtain ⟨⟨v', s'⟩, h1, h2⟩ := Option.map_eq_some_iff.1 h
    cases h2
    exact ⟨pop_unch h1, h1⟩
  unfold evOp at h
  split at h
  · rename_i c hop
    split at h
    · rename_i hb
      obtain ⟨a, b⟩ := plain h
      exact ⟨a, .inl ⟨by rw [hop]; simp [isCall, hb], b⟩⟩
    · rename_i hb
      split at h
      · rename_i fn args hcal
        obtain ⟨a, b⟩ := hc _ _ _ _ _ h
        exact ⟨b, .inr ⟨c, fn, args, hop, by simpa using hb, hcal, a⟩⟩
      · cases h
  · rename_i hne
    obtain ⟨a, b⟩ := plain h
    refine ⟨a, .inl ⟨?_, b⟩⟩
    cases hop : o.op <;> first | rfl | exact absurd hop (hne _)

theorem guardB_ok {all : Array Oper} {e : Env} {o : Oper} {b : Bool} (h : guardB all e o = some b) : (b = true ∧ ∀ j w, o.guard = some (j, w) → guardV all e j = some (some w)) ∨ (b = false ∧ ∃ j w c, o.guard = some (j, w) ∧ guardV all e j = some c ∧ c ≠ some w) := by
  unfold guardB at h
  split at h
  · rename_i hg
    cases h
    exact .inl ⟨rfl, fun j w h => by rw [hg] at h; cases h⟩
  · rename_i j w hg
    obtain ⟨c, h1, h2⟩ := Option.map_eq_some_iff.1 h
    by_cases hcw : c = some w
    · subst hcw
      simp at h2; subst h2
      exact .inl ⟨rfl, fun j' w' h => by rw [hg] at h; cases h; exact h1⟩
    · have : b = false := by rw [← h2]; simpa using hcw
      exact .inr ⟨this, j, w, c, hg, h1, hcw⟩

theorem evOps_ok {P : Program} {base : Nat} {callF : Fn → List Value → St → Option (Value × SL)} (hc : CallOk P base callF) {all : Array Oper} : ∀ (l : List Oper) (k : Nat) (e : Env) (s : St) (e' : Env) (u : SL) (fl : List Bool),
    evOps P base callF all l e s = some (e', u, fl) → Unch s u.s u.low ∧ ∀ D : Option Drw, (D = none ∨ ∃ f n, D = some ⟨f, fun _ => false, fun _ => false, n⟩ ∧ ∀ i, i < l.length → fl[i]? = some false ∨ f (k + i) = true) → Ev P base (.ops all D k l e s e' u.s) := by
  intro l
  induction l with
  | nil =>
    intro k e s e' u fl h
    simp only [evOps, Option.some.injEq, Prod.mk.injEq] at h
    obtain ⟨rfl, rfl, rfl⟩ := h
    exact ⟨.refl _ _, fun D _ => .ops_nil⟩
  | cons o l ih =>
    intro k e s e' u fl h
    simp only [evOps] at h
    split at h
    · rename_i hg
      rcases guardB_ok hg with ⟨_, hg⟩ | ⟨h, _⟩
      · split at h
        · rename_i v t hv
          split at h
          · rename_i e2 u2 fl2 h2
            simp only [Option.some.injEq, Prod.mk.injEq] at h
            obtain ⟨rfl, rfl, rfl⟩ := h
            obtain ⟨hu, hop⟩ := evOp_ok hc hv
            obtain ⟨hu2, hev⟩ := ih (k + 1) _ _ _ _ _ h2
            refine ⟨hu.cut.trans hu2, fun D hD => ?_⟩
            have hD' : D = none ∨ ∃ f n, D = some ⟨f, fun _ => false, fun _ => false, n⟩ ∧ ∀ i, i < l.length → fl2[i]? = some false ∨ f (k + 1 + i) = true := hD.imp_right fun ⟨f, n, h1, h2⟩ => ⟨f, n, h1, fun i hi => by
              have := h2 (i + 1) (by simp; omega)
              simp only [List.getElem?_cons_succ] at this
              rw [show k + 1 + i = k + (i + 1) by omega]; exact this⟩
            have hDk : Dok D k s t.s := by
              rcases hD with rfl | ⟨f, n, rfl, hf⟩
              · trivial
              · rcases hf 0 (by simp) with h | h
                · simp at h
                  exact .inl (hu.mild fun b hb => by
                    have := h b hb; omega)
                · exact .inr ⟨h, hu.next, fun b hb => by cases hb⟩
            have hLk : ∀ op, Lok D k (ev e) op := fun op => by
              cases op <;> try trivial
              rcases hD with rfl | ⟨f, n, rfl, _⟩
              · trivial
              · intro h; cases h
            rcases hop with ⟨h1, h2⟩ | ⟨c, fn, args, h1, h2, h3, h4⟩
            · exact .ops_plain hg h1 h2 hDk (hLk _) (hev D hD')
            · exact .ops_call hg h1 h2 h3 h4 hDk (hev D hD')
          · cases h
        · cases h
      · cases h
    · rename_i hg
      rcases guardB_ok hg with ⟨h, _⟩ | ⟨_, j, w, c, h1, h2, h3⟩
      · cases h
      · split at h
        · rename_i e2 u2 fl2 h4
          simp only [Option.some.injEq, Prod.mk.injEq] at h
          obtain ⟨rfl, rfl, rfl⟩ := h
          obtain ⟨hu2, hev⟩ := ih (k + 1) _ _ _ _ _ h4
          refine ⟨hu2, fun D hD => .ops_not h1 h2 h3 (hev D (hD.imp_right fun ⟨f, n, h1, h2⟩ => ⟨f, n, h1, fun i hi => ?_⟩))⟩
          have := h2 (i + 1) (by simp; omega)
          simp only [List.getElem?_cons_succ] at this
          rw [show k + 1 + i = k + (i + 1) by omega]; exact this
        · cases h
    · cases h

theorem evOps_len {P : Program} {base : Nat} {callF : Fn → List Value → St → Option (Value × SL)} {all : Array Oper} : ∀ (l : List Oper) (e : Env) (s : St) (e' : Env) (u : SL) (fl : List Bool), evOps P base callF all l e s = some (e', u, fl) → fl.length = l.length := by
  intro l
  induction l with
  | nil => intro e s e' u fl h; simp only [evOps, Option.some.injEq, Prod.mk.injEq] at h; rw [← h.2.2]; rfl
  | cons o l ih =>
    intro e s e' u fl h
    simp only [evOps] at h
    repeat' (split at h)
    all_goals first | (cases h; done) | (rename_i h2; simp only [Option.some.injEq, Prod.mk.injEq] at h; rw [← h.2.2]; simp [ih _ _ _ _ _ h2])

theorem evCode_ok {P : Program} {base : Nat} {callF : Fn → List Value → St → Option (Value × SL)} (hc : CallOk P base callF) : ∀ (n : Nat) (c : Code) (e : Env) (s : St) (x : Exit) (e' : Env) (u : SL),
    evCode P base callF n c e s = some (x, e', u) → Ev P base (.code c e s x e' u.s) ∧ Unch s u.s u.low := by
  intro n
  induction n with
  | zero => intro c e s x e' u h; cases h
  | succ n ih =>
    intro c e s x e' u h
    cases c with
    | skip => simp only [evCode, Option.some.injEq, Prod.mk.injEq] at h; obtain ⟨rfl, rfl, rfl⟩ := h; exact ⟨.skip, .refl _ _⟩
    | label l => simp only [evCode, Option.some.injEq, Prod.mk.injEq] at h; obtain ⟨rfl, rfl, rfl⟩ := h; exact ⟨.label, .refl _ _⟩
    | exit l => simp only [evCode, Option.some.injEq, Prod.mk.injEq] at h; obtain ⟨rfl, rfl, rfl⟩ := h; exact ⟨.exit, .refl _ _⟩
    | ret => simp only [evCode, Option.some.injEq, Prod.mk.injEq] at h; obtain ⟨rfl, rfl, rfl⟩ := h; exact ⟨.ret, .refl _ _⟩
    | seq a b =>
      simp only [evCode] at h
      split at h
      · rename_i e1 t h1
        obtain ⟨g1, g2⟩ := ih _ _ _ _ _ _ h1
        split at h
        · rename_i x2 e2 u2 h2
          simp only [Option.some.injEq, Prod.mk.injEq] at h; obtain ⟨rfl, rfl, rfl⟩ := h
          obtain ⟨k1, k2⟩ := ih _ _ _ _ _ _ h2
          exact ⟨.seq g1 k1, g2.trans k2⟩
        · cases h
      · rename_i hne
        obtain ⟨g1, g2⟩ := ih _ _ _ _ _ _ h
        exact ⟨.seq_out g1 fun hx => hne e' u (by rw [h, hx]), g2⟩
    | cond c a b =>
      simp only [evCode] at h
      split at h
      · rename_i hv
        obtain ⟨g1, g2⟩ := ih _ _ _ _ _ _ h
        exact ⟨.cond true hv g1, g2⟩
      · rename_i hv
        obtain ⟨g1, g2⟩ := ih _ _ _ _ _ _ h
        exact ⟨.cond false hv g1, g2⟩
      · cases h
    | block i a =>
      simp only [evCode] at h
      split at h
      · rename_i j e1 t h1
        obtain ⟨g1, g2⟩ := ih _ _ _ _ _ _ h1
        split at h
        · rename_i hji
          simp only [Option.some.injEq, Prod.mk.injEq] at h; obtain ⟨rfl, rfl, rfl⟩ := h
          subst hji
          exact ⟨.block_out g1, g2⟩
        · rename_i hji
          simp only [Option.some.injEq, Prod.mk.injEq] at h; obtain ⟨rfl, rfl, rfl⟩ := h
          exact ⟨.block g1 (fun e => hji (by cases e; rfl)), g2⟩
      · rename_i hne
        obtain ⟨g1, g2⟩ := ih _ _ _ _ _ _ h
        exact ⟨.block g1 fun hx => hne i e' u (by rw [h, hx]), g2⟩
    | loop a =>
      simp only [evCode] at h
      split at h
      · rename_i e1 t h1
        obtain ⟨g1, g2⟩ := ih _ _ _ _ _ _ h1
        split at h
        · rename_i x2 e2 u2 h2
          simp only [Option.some.injEq, Prod.mk.injEq] at h; obtain ⟨rfl, rfl, rfl⟩ := h
          obtain ⟨k1, k2⟩ := ih _ _ _ _ _ _ h2
          exact ⟨.loop g1 k1, g2.trans k2⟩
        · cases h
      · rename_i hne
        obtain ⟨g1, g2⟩ := ih _ _ _ _ _ _ h
        exact ⟨.loop_out g1 fun hx => hne e' u (by rw [h, hx]), g2⟩
    | scope a =>
      simp only [evCode] at h
      split at h
      · rename_i h1
        simp only [Option.some.injEq, Prod.mk.injEq] at h; obtain ⟨rfl, rfl, rfl⟩ := h
        obtain ⟨g1, g2⟩ := ih _ _ _ _ _ _ h1
        exact ⟨.scope g1 (.inl rfl), g2⟩
      · rename_i h1
        simp only [Option.some.injEq, Prod.mk.injEq] at h; obtain ⟨rfl, rfl, rfl⟩ := h
        obtain ⟨g1, g2⟩ := ih _ _ _ _ _ _ h1
        exact ⟨.scope g1 (.inr (.inl rfl)), g2⟩
      · rename_i h1
        simp only [Option.some.injEq, Prod.mk.injEq] at h; obtain ⟨rfl, rfl, rfl⟩ := h
        obtain ⟨g1, g2⟩ := ih _ _ _ _ _ _ h1
        exact ⟨.scope g1 (.inr (.inr ⟨_, rfl⟩)), g2⟩
      · cases h
    | region i ops d =>
      simp only [evCode] at h
      split at h
      · rename_i e1 t fl h1
        obtain ⟨g1, g2⟩ := evOps_ok hc _ 0 _ _ _ _ _ h1
        have hlen := evOps_len _ _ _ _ _ _ h1
        split at h
        · rename_i hd
          split at h
          · rename_i hk
            simp only [Option.some.injEq, Prod.mk.injEq] at h; obtain ⟨rfl, rfl, rfl⟩ := h
            subst hd
            refine ⟨.region_draw _ _ (fun _ => false) hk.1 hk.2 (g2 _ (.inr ⟨_, _, rfl, fun i hi => ?_⟩)), g1⟩
            rw [Nat.zero_add, List.getD_eq_getElem?_getD, List.getElem?_eq_getElem (by omega)]
            cases fl[i] <;> simp
          · cases h
        · rename_i hd
          simp only [Option.some.injEq, Prod.mk.injEq] at h; obtain ⟨rfl, rfl, rfl⟩ := h
          have : d = false := by simpa using hd
          subst this
          exact ⟨.region (g2 none (.inl rfl)), g1⟩
      · cases h
    | rangeFunc f ps as body =>
      simp only [evCode] at h
      split at h
      · rename_i fn fi args hf
        split at h
        · rename_i hfi
          obtain rfl : fi = #[] := Array.eq_empty_of_size_eq_zero hfi
          split at h
          · rename_i v t hcall
            obtain ⟨g1, g2⟩ := hc _ _ _ _ _ hcall
            cases g1 with
            | func g1 =>
              split at h
              · rename_i r hl
                split at h
                · rename_i hst
                  have hun : Unch s (t.s.upd s.next .gone) (t.low.filter fun b => decide (b < s.next)) := by
                    refine ⟨by rw [next_upd]; exact Nat.le_of_succ_le g2.next, fun b hb hn => ?_⟩
                    rw [heap_upd_ne _ _ (by omega), g2.heap b (by rw [next_alloc]; omega) (fun e => hn (List.mem_filter.2 ⟨e, by simpa using hb⟩)), heap_alloc_ne _ _ (by omega)]
                  split at h
                  · rename_i hp
                    simp only [Option.some.injEq, Prod.mk.injEq] at h; obtain ⟨rfl, rfl, rfl⟩ := h
                    exact ⟨.rangeFunc hf g1 hl rfl hst hp, hun⟩
                  · rename_i hp
                    simp only [Option.some.injEq, Prod.mk.injEq] at h; obtain ⟨rfl, rfl, rfl⟩ := h
                    exact ⟨.rangeFunc_out hf g1 hl hst hp (.inl rfl) .ret, hun⟩
                  · rename_i i hp
                    simp only [Option.some.injEq, Prod.mk.injEq] at h; obtain ⟨rfl, rfl, rfl⟩ := h
                    exact ⟨.rangeFunc_out hf g1 hl hst hp (.inr ⟨i, rfl⟩) .exit, hun⟩
                  · cases h
                · cases h
              · cases h
          · cases h
        · cases h
      · cases h
    | _ => cases h

theorem evFn_ok {P : Program} {base m : Nat} : ∀ (n : Nat), CallOk P base (evFn P base m n) := by
  intro n
  induction n with
  | zero => intro fn args s v t h; cases h
  | succ n ih =>
    intro fn args s v t h
    cases fn with
    | func f =>
      simp only [evFn] at h
      split at h
      · rename_i fn hf
        split at h
        · rename_i c hb
          split at h
          · rename_i x e1 u h1
            obtain ⟨g1, g2⟩ := evCode_ok ih m _ _ _ _ _ _ h1
            split at h
            · obtain ⟨v', h2, h3⟩ := Option.map_eq_some_iff.1 h
              cases h3
              exact ⟨.func (.call hf hb g1 (.inl rfl) h2), g2⟩
            · obtain ⟨v', h2, h3⟩ := Option.map_eq_some_iff.1 h
              cases h3
              exact ⟨.func (.call hf hb g1 (.inr rfl) h2), g2⟩
            · cases h
          · cases h
        · cases h
      · cases h
    | yield l =>
      simp only [evFn] at h
      split at h
      · rename_i r hl
        split at h
        · rename_i hk
          obtain ⟨k1, k2, k3, k4⟩ := hk
          split at h
          · rename_i e1 t1 h1
            obtain ⟨g1, g2⟩ := evCode_ok ih m _ _ _ _ _ _ h1
            split at h
            · rename_i hn1
              have hl1 : t1.s.heap l = .loop r := by rw [g2.heap l k4 hn1]; exact hl
              split at h
              · rename_i x e2 t2 h2
                obtain ⟨q1, q2⟩ := evCode_ok ih m _ _ _ _ _ _ h2
                split at h
                · rename_i hn2
                  have hl2 : t2.s.heap l = .loop { r with state := .busy } := by
                    rw [q2.heap l (by rw [next_upd]; exact Nat.lt_of_lt_of_le k4 g2.next) hn2, heap_upd_same]
                  have hun : ∀ o, Unch s (t2.s.upd l o) (t1.low ++ [l] ++ t2.low) := fun o => by
                    refine ⟨by rw [next_upd]; exact Nat.le_trans g2.next q2.next, fun b hb hnb => ?_⟩
                    simp only [List.mem_append, List.mem_singleton, not_or] at hnb
                    rw [heap_upd_ne _ _ hnb.1.2, q2.heap b (by rw [next_upd]; exact Nat.lt_of_lt_of_le hb g2.next) hnb.2, heap_upd_ne _ _ hnb.1.2, g2.heap b hb hnb.1.1]
                  split at h
                  · simp only [Option.some.injEq, Prod.mk.injEq] at h; obtain ⟨rfl, rfl⟩ := h
                    exact ⟨.yield hl k1 k2 k3 g1 hl1 q1 hl2 none (.inl ⟨rfl, rfl⟩), hun _⟩
                  · simp only [Option.some.injEq, Prod.mk.injEq] at h; obtain ⟨rfl, rfl⟩ := h
                    exact ⟨.yield hl k1 k2 k3 g1 hl1 q1 hl2 (some .ret) (.inr (.inl ⟨rfl, rfl⟩)), hun _⟩
                  · rename_i i
                    simp only [Option.some.injEq, Prod.mk.injEq] at h; obtain ⟨rfl, rfl⟩ := h
                    exact ⟨.yield hl k1 k2 k3 g1 hl1 q1 hl2 (some (.exit i)) (.inr (.inr ⟨i, rfl, rfl⟩)), hun _⟩
                  · cases h
                · cases h
              · cases h
            · cases h
          · cases h
        · cases h
      · cases h
    | _ => cases h
theorem evCall_ok {P : Program} {base m n : Nat} {f : FuncId} {args : List Value} {s : St} {v : Value} {t : SL} (h : evCall P base m n f args s = some (v, t)) : Ev P base (.call f args s v t.s) := by
  obtain ⟨g1, -⟩ := evFn_ok n _ _ _ _ _ h
  cases g1 with
  | func g => exact g

/-- The kernel has run it: what a closed call hands back, where nothing but these rows is. -/
def closedAt (P : Program) (g : Nat) (t : St) (m n : Nat) (f : FuncId) (args : List Value) (v : Value → Bool) : Bool :=
  match evCall P g m n f args t with
  | some (r, _) => v r
  | none => false
def closedRun (P : Program) (m n : Nat) (f : FuncId) (args : List Value) (v : Value → Bool) : Bool := closedAt P 0 St.none m n f args v
theorem WC_closedAt {P : Program} {g : Nat} {t : St} {m n : Nat} {f : FuncId} {args : List Value} (v : Value) (dec : Value → Bool) (hdec : ∀ r, dec r = true → r = v) (hP : progOk g P = true) (ha : args.all bareV = true) (hv : bareV v = true) (htn : t.next = g) (h : closedAt P g t m n f args dec = true)
    {base : Nat} {s : St} {R : Value → St → Prop} (hg : g ≤ base) (hth : ∀ b, b < g → t.heap b = s.heap b) (hR : R v s) : WC P base f args s R := by
  unfold closedAt at h
  split at h
  · rename_i r t' hr
    have := hdec r h
    subst this
    exact ⟨r, s, .closed hg hP ha hv htn hth (evCall_ok hr), hR⟩
  · cases h
theorem WC_closed {P : Program} {m n : Nat} {f : FuncId} {args : List Value} (v : Value) (dec : Value → Bool) (hdec : ∀ r, dec r = true → r = v) (hP : progOk 0 P = true) (ha : args.all bareV = true) (hv : bareV v = true) (h : closedRun P m n f args dec = true) {base : Nat} {s : St} {R : Value → St → Prop} (hR : R v s) : WC P base f args s R :=
  WC_closedAt v dec hdec hP ha hv rfl h (Nat.zero_le _) (fun b hb => absurd hb (Nat.not_lt_zero _)) hR
def isTrueV : Value → Bool
  | .bool b => b
  | _ => false
theorem WC_live {P : Program} {m n : Nat} {f : FuncId} (hP : progOk 0 P = true) (h : closedRun P m n f [] isTrueV = true) {base : Nat} {s : St} {R : Value → St → Prop} (hR : R (.bool true) s) : WC P base f [] s R :=
  WC_closed (.bool true) isTrueV (fun r hr => by cases r <;> first | (simp [isTrueV] at hr; done) | (simp [isTrueV] at hr; rw [hr])) hP rfl rfl h hR
theorem WC_liveAt {P : Program} {g : Nat} {t : St} {m n : Nat} {f : FuncId} (hP : progOk g P = true) (htn : t.next = g) (h : closedAt P g t m n f [] isTrueV = true) {base : Nat} {s : St} {R : Value → St → Prop} (hg : g ≤ base) (hth : ∀ b, b < g → t.heap b = s.heap b) (hR : R (.bool true) s) : WC P base f [] s R :=
  WC_closedAt (.bool true) isTrueV (fun r hr => by cases r <;> first | (simp [isTrueV] at hr; done) | (simp [isTrueV] at hr; rw [hr])) hP rfl rfl htn h hg hth hR
end Go.Ab
