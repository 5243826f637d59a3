/- An evaluator of the abstract machine, and that it is right: closed calls are run by the kernel. -/
import Derived.Test.YtobajpopkmmkjaaAb23
set_option linter.unusedVariables false
set_option linter.unusedSimpArgs false
namespace Go.Ab
open Go Go.RowKit

/-- What was there stays, but for blocks from 'low' on. -/
structure Unch (s s' : St) (low : Nat) : Prop where
  next : s.next ≤ s'.next
  heap : ∀ b, b < s.next → b < low → s'.heap b = s.heap b
theorem Unch.refl (s : St) (n : Nat) : Unch s s n := ⟨Nat.le_refl _, fun _ _ _ => rfl⟩
theorem Unch.trans {s s1 s2 : St} {n m : Nat} (h : Unch s s1 n) (k : Unch s1 s2 m) : Unch s s2 (min n m) :=
  ⟨Nat.le_trans h.next k.next, fun b hb hl => (k.heap b (Nat.lt_of_lt_of_le hb h.next) (by omega)).trans (h.heap b hb (by omega))⟩
theorem Unch.le {s s' : St} {n m : Nat} (h : Unch s s' n) (hm : m ≤ n) : Unch s s' m := ⟨h.next, fun b hb hl => h.heap b hb (by omega)⟩
theorem Unch.mild {s s' : St} {n : Nat} (h : Unch s s' n) (hn : s.next ≤ n) : Mild s s' := ⟨h.next, fun b hb => h.heap b hb (by omega)⟩
theorem Unch.of_mild {s s' : St} (h : Mild s s') (n : Nat) : Unch s s' n := ⟨h.next, fun b hb _ => h.heap b hb⟩
theorem Unch.upd (s : St) (b : Nat) (o : AObj) : Unch s (s.upd b o) b := ⟨Nat.le_refl _, fun k _ hk => heap_upd_ne _ _ (by omega)⟩

def blkOf : Value → Nat
  | .pointer (some a) => a.block
  | .slice (some a) _ _ => a.block
  | _ => 0
def lowV (n : Nat) : Value → Nat
  | .slice (some a) _ _ => a.block
  | _ => n
def opLow (ρ : Operand → Value) (s : St) : Op → Nat
  | .store _ a _ => blkOf (ρ a)
  | .call c => (match c.callee with
    | .builtin .append => (match c.args.toList.map ρ with | v :: _ => lowV s.next v | [] => 0)
    | .builtin .copy => (match c.args.toList.map ρ with | v :: _ => lowV s.next v | [] => 0)
    | .builtin .len => s.next
    | .builtin .min => s.next
    | .builtin .max => s.next
    | _ => 0)
  | _ => s.next

theorem stN_unch {base : Nat} {s s1 : St} {a : Addr} {vs : List Value} (h : stN base s a vs = some s1) : Unch s s1 a.block := by
  unfold stN at h
  split at h
  · cases h; exact .refl _ _
  · split at h
    · split at h
      · cases h; exact .upd _ _ _
      · cases h
    · cases h
theorem appendV_unch {P : Program} {base : Nat} {s s1 : St} {t : TypeId} {v r : Value} {n : Nat} {news : List Value} (h : appendV P base s t v n news = some (r, s1)) :
    Unch s s1 (lowV s.next v) := by
  have two : ∀ (b : Nat) (o o' : AObj), Unch s ((s.upd b o).alloc o') b := fun b o o' =>
    ⟨Nat.le_succ _, fun k hk hl => by rw [heap_alloc_ne _ _ (by rw [next_upd]; omega), heap_upd_ne _ _ (by omega)]⟩
  unfold appendV at h
  split at h
  · rename_i e b len cap he
    split at h
    · split at h
      · split at h
        · cases h; exact .refl _ _
        · split at h
          · split at h
            · rename_i a
              split at h
              · rename_i s' hs
                cases h
                have := stN_unch hs
                rw [add_block] at this
                exact this
              · cases h
            · cases h
          · split at h
            · split at h
              · split at h
                · cases h; exact .of_mild (.alloc _ _) _
                · cases h
              · rename_i a
                repeat' (split at h)
                all_goals first | (cases h; done) | (cases h; exact .of_mild (.alloc _ _) _) | (cases h; exact two _ _ _)
            · cases h
      · cases h
    · cases h
  · cases h
theorem ret1_eq {o : Option Value} {s s1 : St} {v : Value} (h : ret1 o s = some (v, s1)) : s1 = s := (ret1_some h).2
theorem pop_unch {P : Program} {base : Nat} {ρ : Operand → Value} {s s1 : St} {v : Value} {op : Op} (h : pop P base ρ s op = some (v, s1)) : Unch s s1 (opLow ρ s op) := by
  have r1 : ∀ {x : Option Value} {n : Nat}, ret1 x s = some (v, s1) → Unch s s1 n := fun hx => by rw [ret1_eq hx]; exact .refl _ _
  cases op with
  | move x => simp only [pop, Option.some.injEq, Prod.mk.injEq] at h; rw [← h.2]; exact .refl _ _
  | assign x => simp only [pop, Option.some.injEq, Prod.mk.injEq] at h; rw [← h.2]; exact .refl _ _
  | alloc t =>
    simp only [pop] at h
    split at h
    · cases h; exact .of_mild (.alloc _ _) _
    · cases h
  | box t x =>
    simp only [pop] at h
    split at h
    · cases h; exact .of_mild (.alloc _ _) _
    · cases h
  | buildSlice t n ps => exact .of_mild (buildSliceV_mild h) _
  | makeSlice t l c =>
    simp only [pop, makeV] at h
    repeat' (split at h)
    all_goals first | (cases h; done) | (cases h; exact .of_mild (.alloc _ _) _)
  | store t a x =>
    simp only [pop] at h
    split at h
    · rename_i ad had
      have hb : blkOf (ρ a) = ad.block := by
        unfold ptrV at had
        split at had
        · rename_i hx; cases had; rw [hx]; rfl
        · cases had
      simp only [opLow, hb]
      unfold ret0 at h
      split at h
      · rename_i s' hs
        cases h
        unfold stVar at hs
        split at hs
        · exact stN_unch hs
        · cases hs
      · cases h
    · cases h
  | convert a b x =>
    simp only [pop, convV] at h
    repeat' (split at h)
    all_goals first | (cases h; done) | (cases h; exact .refl _ _)
  | call c =>
    obtain ⟨callee, args, ats⟩ := c
    cases callee with
    | builtin b =>
      simp only [pop] at h
      cases b with
      | len => exact r1 h
      | min => exact r1 h
      | max => exact r1 h
      | append =>
        simp only [builtinV, appendB] at h
        split at h
        · rename_i t t' v0 x hts has
          simp only [opLow, has]
          repeat' (split at h)
          all_goals first | (cases h; done) | exact appendV_unch h
        · cases h
      | copy =>
        simp only [builtinV, copyB] at h
        split at h
        · rename_i t r d x hts has
          simp only [opLow, has]
          split at h
          · rename_i e b dl _ he
            split at h
            · split at h
              · split at h
                · rename_i a
                  split at h
                  · rename_i s' hs
                    cases h
                    exact stN_unch hs
                  · cases h
                · split at h
                  · cases h; exact .refl _ _
                  · cases h
              · cases h
            · cases h
          · cases h
        · cases h
      | _ => simp only [builtinV] at h; cases h
    | _ => simp only [pop] at h; cases h
  | _ => first | exact r1 h | (cases h; done)

/-! ### The evaluator -/
/-- A state, and the lowest block that was changed. -/
structure SL where
  s : St
  low : Nat

def guardB (all : Array Oper) (e : Env) (o : Oper) : Option Bool :=
  match o.guard with
  | none => some true
  | some (j, w) => (guardV all e j).map fun b => b == w

/-- One operation: its value, the state, and whether it changed what was there. -/
def evOp (P : Program) (base : Nat) (callF : Fn → List Value → St → Option (Value × SL)) (e : Env) (s : St) (o : Oper) : Option (Value × SL) :=
  match o.op with
  | .call c => if Callee.isB c.callee = true then (pop P base (ev e) s o.op).map fun x => (x.1, ⟨x.2, opLow (ev e) s o.op⟩)
    else (match calleeV (ev e) c with | some (fn, args) => callF fn args s | none => none)
  | _ => (pop P base (ev e) s o.op).map fun x => (x.1, ⟨x.2, opLow (ev e) s o.op⟩)
def evOps (P : Program) (base : Nat) (callF : Fn → List Value → St → Option (Value × SL)) (all : Array Oper) : List Oper → Env → St → Option (Env × SL × List Bool)
  | [], e, s => some (e, ⟨s, s.next⟩, [])
  | o :: l, e, s =>
    match guardB all e o with
    | some true => (match evOp P base callF e s o with
      | some (v, t) => (match evOps P base callF all l (put e o.dst v) t.s with
        | some (e', u, fl) => some (e', ⟨u.s, min t.low u.low⟩, decide (t.low < s.next) :: fl)
        | none => none)
      | none => none)
    | some false => (match evOps P base callF all l (put e o.dst undef) s with
      | some (e', u, fl) => some (e', u, false :: fl)
      | none => none)
    | none => none

def evCode (P : Program) (base : Nat) (callF : Fn → List Value → St → Option (Value × SL)) : Nat → Code → Env → St → Option (Exit × Env × SL)
  | 0, _, _, _ => none
  | n + 1, c, e, s =>
    match c with
    | .skip => some (.normal, e, ⟨s, s.next⟩)
    | .label _ => some (.normal, e, ⟨s, s.next⟩)
    | .exit i => some (.exit i, e, ⟨s, s.next⟩)
    | .ret => some (.ret, e, ⟨s, s.next⟩)
    | .seq a b => (match evCode P base callF n a e s with
      | some (.normal, e1, t) => (match evCode P base callF n b e1 t.s with
        | some (x, e2, u) => some (x, e2, ⟨u.s, min t.low u.low⟩)
        | none => none)
      | r => r)
    | .cond c a b => (match ev e c with
      | .bool true => evCode P base callF n a e s
      | .bool false => evCode P base callF n b e s
      | _ => none)
    | .block i a => (match evCode P base callF n a e s with
      | some (.exit j, e1, t) => if j = i then some (.normal, e1, t) else some (.exit j, e1, t)
      | r => r)
    | .loop a => (match evCode P base callF n a e s with
      | some (.normal, e1, t) => (match evCode P base callF n (.loop a) e1 t.s with
        | some (x, e2, u) => some (x, e2, ⟨u.s, min t.low u.low⟩)
        | none => none)
      | r => r)
    | .region _ ops d => (match evOps P base callF ops ops.toList e s with
      | some (e1, t, fl) => if d = true then (if drawOk ops (fun i => fl.getD i true) (fun _ => false) = true ∧ edgesOk ops = true then some (.normal, e1, t) else none) else some (.normal, e1, t)
      | none => none)
    | _ => none

def evCall (P : Program) (base m : Nat) : Nat → FuncId → List Value → St → Option (Value × SL)
  | 0, _, _, _ => none
  | n + 1, f, args, s =>
    match P.funcs[f]? with
    | some fn => (match fn.body with
      | some c => (match evCode P base (fun fn' as s' => match fn' with | .func f' => evCall P base m n f' as s' | _ => none) m c (env0 args) s with
        | some (x, e1, t) => (match x with
          | .normal => (resultsV P base fn e1 t.s).map fun v => (v, t)
          | .ret => (resultsV P base fn e1 t.s).map fun v => (v, t)
          | _ => none)
        | none => none)
      | none => none)
    | none => none

/-! ### It is right -/
def CallOk (P : Program) (base : Nat) (callF : Fn → List Value → St → Option (Value × SL)) : Prop :=
  ∀ fn args s v t, callF fn args s = some (v, t) → Ev P base (.func fn args s v t.s) ∧ Unch s t.s t.low

theorem evOp_ok {P : Program} {base : Nat} {callF : Fn → List Value → St → Option (Value × SL)} (hc : CallOk P base callF) {e : Env} {s : St} {o : Oper} {v : Value} {t : SL} (h : evOp P base callF e s o = some (v, t)) :
    Unch s t.s t.low ∧ ((isCall o.op = false ∧ pop P base (ev e) s o.op = some (v, t.s)) ∨ (∃ c fn args, o.op = .call c ∧ Callee.isB c.callee = false ∧ calleeV (ev e) c = some (fn, args) ∧ Ev P base (.func fn args s v t.s))) := by
  have plain : (pop P base (ev e) s o.op).map (fun x => (x.1, (⟨x.2, opLow (ev e) s o.op⟩ : SL))) = some (v, t) → Unch s t.s t.low ∧ pop P base (ev e) s o.op = some (v, t.s) := fun h => by
    obtain ⟨⟨v', s'⟩, h1, h2⟩ := Option.map_eq_some_iff.1 h
    cases h2
    exact ⟨pop_unch h1, h1⟩
  unfold evOp at h
  split at h
  · rename_i c hop
    split at h
    · rename_i hb
      obtain ⟨a, b⟩ := plain h
      exact ⟨a, .inl ⟨by rw [hop]; simp [isCall, hb], b⟩⟩
    · rename_i hb
      split at h
      · rename_i fn args hcal
        obtain ⟨a, b⟩ := hc _ _ _ _ _ h
        exact ⟨b, .inr ⟨c, fn, args, hop, by simpa using hb, hcal, a⟩⟩
      · cases h
  · rename_i hne
    obtain ⟨a, b⟩ := plain h
    refine ⟨a, .inl ⟨?_, b⟩⟩
    cases hop : o.op <;> first | rfl | exact absurd hop (hne _)

theorem guardB_ok {all : Array Oper} {e : Env} {o : Oper} {b : Bool} (h : guardB all e o = some b) : (b = true ∧ ∀ j w, o.guard = some (j, w) → guardV all e j = some w) ∨ (b = false ∧ ∃ j w c, o.guard = some (j, w) ∧ guardV all e j = some c ∧ c ≠ w) := by
  unfold guardB at h
  split at h
  · rename_i hg
    cases h
    exact .inl ⟨rfl, fun j w h => by rw [hg] at h; cases h⟩
  · rename_i j w hg
    obtain ⟨c, h1, h2⟩ := Option.map_eq_some_iff.1 h
    by_cases hcw : c = w
    · subst hcw
      simp at h2; subst h2
      exact .inl ⟨rfl, fun j' w' h => by rw [hg] at h; cases h; exact h1⟩
    · have : b = false := by rw [← h2]; simpa using hcw
      exact .inr ⟨this, j, w, c, hg, h1, hcw⟩

theorem evOps_ok {P : Program} {base : Nat} {callF : Fn → List Value → St → Option (Value × SL)} (hc : CallOk P base callF) {all : Array Oper} : ∀ (l : List Oper) (k : Nat) (e : Env) (s : St) (e' : Env) (u : SL) (fl : List Bool),
    evOps P base callF all l e s = some (e', u, fl) → Unch s u.s u.low ∧ ∀ D : Option Drw, (D = none ∨ ∃ f n, D = some ⟨f, fun _ => false, fun _ => false, n⟩ ∧ ∀ i, i < l.length → fl[i]? = some false ∨ f (k + i) = true) → Ev P base (.ops all D k l e s e' u.s) := by
  intro l
  induction l with
  | nil =>
    intro k e s e' u fl h
    simp only [evOps, Option.some.injEq, Prod.mk.injEq] at h
    obtain ⟨rfl, rfl, rfl⟩ := h
    exact ⟨.refl _ _, fun D _ => .ops_nil⟩
  | cons o l ih =>
    intro k e s e' u fl h
    simp only [evOps] at h
    split at h
    · rename_i hg
      rcases guardB_ok hg with ⟨_, hg⟩ | ⟨h, _⟩
      · split at h
        · rename_i v t hv
          split at h
          · rename_i e2 u2 fl2 h2
            simp only [Option.some.injEq, Prod.mk.injEq] at h
            obtain ⟨rfl, rfl, rfl⟩ := h
            obtain ⟨hu, hop⟩ := evOp_ok hc hv
            obtain ⟨hu2, hev⟩ := ih (k + 1) _ _ _ _ _ h2
            refine ⟨hu.trans hu2, fun D hD => ?_⟩
            have hD' : D = none ∨ ∃ f n, D = some ⟨f, fun _ => false, fun _ => false, n⟩ ∧ ∀ i, i < l.length → fl2[i]? = some false ∨ f (k + 1 + i) = true := hD.imp_right fun ⟨f, n, h1, h2⟩ => ⟨f, n, h1, fun i hi => by
              have := h2 (i + 1) (by simp; omega)
              simp only [List.getElem?_cons_succ] at this
              rw [show k + 1 + i = k + (i + 1) by omega]; exact this⟩
            have hDk : Dok D k s t.s := by
              rcases hD with rfl | ⟨f, n, rfl, hf⟩
              · trivial
              · rcases hf 0 (by simp) with h | h
                · simp at h
                  exact .inl (hu.mild h)
                · exact .inr ⟨h, hu.next, fun b hb => by cases hb⟩
            have hLk : ∀ op, Lok D k (ev e) op := fun op => by
              cases op <;> try trivial
              rcases hD with rfl | ⟨f, n, rfl, _⟩
              · trivial
              · intro h; cases h
            rcases hop with ⟨h1, h2⟩ | ⟨c, fn, args, h1, h2, h3, h4⟩
            · exact .ops_plain hg h1 h2 hDk (hLk _) (hev D hD')
            · exact .ops_call hg h1 h2 h3 h4 hDk (hev D hD')
          · cases h
        · cases h
      · cases h
    · rename_i hg
      rcases guardB_ok hg with ⟨h, _⟩ | ⟨_, j, w, c, h1, h2, h3⟩
      · cases h
      · split at h
        · rename_i e2 u2 fl2 h4
          simp only [Option.some.injEq, Prod.mk.injEq] at h
          obtain ⟨rfl, rfl, rfl⟩ := h
          obtain ⟨hu2, hev⟩ := ih (k + 1) _ _ _ _ _ h4
          refine ⟨hu2, fun D hD => .ops_not h1 h2 h3 (hev D (hD.imp_right fun ⟨f, n, h1, h2⟩ => ⟨f, n, h1, fun i hi => ?_⟩))⟩
          have := h2 (i + 1) (by simp; omega)
          simp only [List.getElem?_cons_succ] at this
          rw [show k + 1 + i = k + (i + 1) by omega]; exact this
        · cases h
    · cases h

theorem evOps_len {P : Program} {base : Nat} {callF : Fn → List Value → St → Option (Value × SL)} {all : Array Oper} : ∀ (l : List Oper) (e : Env) (s : St) (e' : Env) (u : SL) (fl : List Bool), evOps P base callF all l e s = some (e', u, fl) → fl.length = l.length := by
  intro l
  induction l with
  | nil => intro e s e' u fl h; simp only [evOps, Option.some.injEq, Prod.mk.injEq] at h; rw [← h.2.2]; rfl
  | cons o l ih =>
    intro e s e' u fl h
    simp only [evOps] at h
    repeat' (split at h)
    all_goals first | (cases h; done) | (rename_i h2; simp only [Option.some.injEq, Prod.mk.injEq] at h; rw [← h.2.2]; simp [ih _ _ _ _ _ h2])

theorem evCode_ok {P : Program} {base : Nat} {callF : Fn → List Value → St → Option (Value × SL)} (hc : CallOk P base callF) : ∀ (n : Nat) (c : Code) (e : Env) (s : St) (x : Exit) (e' : Env) (u : SL),
    evCode P base callF n c e s = some (x, e', u) → Ev P base (.code c e s x e' u.s) ∧ Unch s u.s u.low := by
  intro n
  induction n with
  | zero => intro c e s x e' u h; cases h
  | succ n ih =>
    intro c e s x e' u h
    cases c with
    | skip => simp only [evCode, Option.some.injEq, Prod.mk.injEq] at h; obtain ⟨rfl, rfl, rfl⟩ := h; exact ⟨.skip, .refl _ _⟩
    | label l => simp only [evCode, Option.some.injEq, Prod.mk.injEq] at h; obtain ⟨rfl, rfl, rfl⟩ := h; exact ⟨.label, .refl _ _⟩
    | exit l => simp only [evCode, Option.some.injEq, Prod.mk.injEq] at h; obtain ⟨rfl, rfl, rfl⟩ := h; exact ⟨.exit, .refl _ _⟩
    | ret => simp only [evCode, Option.some.injEq, Prod.mk.injEq] at h; obtain ⟨rfl, rfl, rfl⟩ := h; exact ⟨.ret, .refl _ _⟩
    | seq a b =>
      simp only [evCode] at h
      split at h
      · rename_i e1 t h1
        obtain ⟨g1, g2⟩ := ih _ _ _ _ _ _ h1
        split at h
        · rename_i x2 e2 u2 h2
          simp only [Option.some.injEq, Prod.mk.injEq] at h; obtain ⟨rfl, rfl, rfl⟩ := h
          obtain ⟨k1, k2⟩ := ih _ _ _ _ _ _ h2
          exact ⟨.seq g1 k1, g2.trans k2⟩
        · cases h
      · rename_i hne
        obtain ⟨g1, g2⟩ := ih _ _ _ _ _ _ h
        exact ⟨.seq_out g1 fun hx => hne e' u (by rw [h, hx]), g2⟩
    | cond c a b =>
      simp only [evCode] at h
      split at h
      · rename_i hv
        obtain ⟨g1, g2⟩ := ih _ _ _ _ _ _ h
        exact ⟨.cond true hv g1, g2⟩
      · rename_i hv
        obtain ⟨g1, g2⟩ := ih _ _ _ _ _ _ h
        exact ⟨.cond false hv g1, g2⟩
      · cases h
    | block i a =>
      simp only [evCode] at h
      split at h
      · rename_i j e1 t h1
        obtain ⟨g1, g2⟩ := ih _ _ _ _ _ _ h1
        split at h
        · rename_i hji
          simp only [Option.some.injEq, Prod.mk.injEq] at h; obtain ⟨rfl, rfl, rfl⟩ := h
          subst hji
          exact ⟨.block_out g1, g2⟩
        · rename_i hji
          simp only [Option.some.injEq, Prod.mk.injEq] at h; obtain ⟨rfl, rfl, rfl⟩ := h
          exact ⟨.block g1 (fun e => hji (by cases e; rfl)), g2⟩
      · rename_i hne
        obtain ⟨g1, g2⟩ := ih _ _ _ _ _ _ h
        exact ⟨.block g1 fun hx => hne i e' u (by rw [h, hx]), g2⟩
    | loop a =>
      simp only [evCode] at h
      split at h
      · rename_i e1 t h1
        obtain ⟨g1, g2⟩ := ih _ _ _ _ _ _ h1
        split at h
        · rename_i x2 e2 u2 h2
          simp only [Option.some.injEq, Prod.mk.injEq] at h; obtain ⟨rfl, rfl, rfl⟩ := h
          obtain ⟨k1, k2⟩ := ih _ _ _ _ _ _ h2
          exact ⟨.loop g1 k1, g2.trans k2⟩
        · cases h
      · rename_i hne
        obtain ⟨g1, g2⟩ := ih _ _ _ _ _ _ h
        exact ⟨.loop_out g1 fun hx => hne e' u (by rw [h, hx]), g2⟩
    | region i ops d =>
      simp only [evCode] at h
      split at h
      · rename_i e1 t fl h1
        obtain ⟨g1, g2⟩ := evOps_ok hc _ 0 _ _ _ _ _ h1
        have hlen := evOps_len _ _ _ _ _ _ h1
        split at h
        · rename_i hd
          split at h
          · rename_i hk
            simp only [Option.some.injEq, Prod.mk.injEq] at h; obtain ⟨rfl, rfl, rfl⟩ := h
            subst hd
            refine ⟨.region_draw _ _ (fun _ => false) hk.1 hk.2 (g2 _ (.inr ⟨_, _, rfl, fun i hi => ?_⟩)), g1⟩
            rw [Nat.zero_add, List.getD_eq_getElem?_getD, List.getElem?_eq_getElem (by omega)]
            cases fl[i] <;> simp
          · cases h
        · rename_i hd
          simp only [Option.some.injEq, Prod.mk.injEq] at h; obtain ⟨rfl, rfl, rfl⟩ := h
          have : d = false := by simpa using hd
          subst this
          exact ⟨.region (g2 none (.inl rfl)), g1⟩
      · cases h
    | _ => cases h

theorem evCall_ok {P : Program} {base m : Nat} : ∀ (n : Nat) (f : FuncId) (args : List Value) (s : St) (v : Value) (t : SL), evCall P base m n f args s = some (v, t) → Ev P base (.call f args s v t.s) ∧ Unch s t.s t.low := by
  intro n
  induction n with
  | zero => intro f args s v t h; cases h
  | succ n ih =>
    intro f args s v t h
    simp only [evCall] at h
    split at h
    · rename_i fn hf
      split at h
      · rename_i c hb
        split at h
        · rename_i x e1 u h1
          have hc : CallOk P base (fun fn' as s' => match fn' with | .func f' => evCall P base m n f' as s' | _ => none) := by
            intro fn' as s' v' t' h'
            cases fn' with
            | func f' =>
              obtain ⟨a, b⟩ := ih _ _ _ _ _ h'
              exact ⟨.func a, b⟩
            | _ => cases h'
          obtain ⟨g1, g2⟩ := evCode_ok hc m _ _ _ _ _ _ h1
          split at h
          · obtain ⟨v', h2, h3⟩ := Option.map_eq_some_iff.1 h
            cases h3
            exact ⟨.call hf hb g1 (.inl rfl) h2, g2⟩
          · obtain ⟨v', h2, h3⟩ := Option.map_eq_some_iff.1 h
            cases h3
            exact ⟨.call hf hb g1 (.inr rfl) h2, g2⟩
          · cases h
        · cases h
      · cases h
    · cases h

/-- The kernel has run it: what a closed call hands back. -/
def closedRun (P : Program) (m n : Nat) (f : FuncId) (args : List Value) (v : Value → Bool) : Bool :=
  match evCall P 0 m n f args St.none with
  | some (r, _) => v r
  | none => false
theorem WC_closed {P : Program} {m n : Nat} {f : FuncId} {args : List Value} (v : Value) (dec : Value → Bool) (hdec : ∀ r, dec r = true → r = v) (hP : progOk 0 P = true) (ha : args.all bareV = true) (hv : bareV v = true) (h : closedRun P m n f args dec = true) {base : Nat} {s : St} {R : Value → St → Prop} (hR : R v s) : WC P base f args s R := by
  unfold closedRun at h
  split at h
  · rename_i r t hr
    have := hdec r h
    subst this
    exact ⟨r, s, .closed hP ha hv (evCall_ok n _ _ _ _ _ hr).1, hR⟩
  · cases h
def isTrueV : Value → Bool
  | .bool b => b
  | _ => false
theorem WC_live {P : Program} {m n : Nat} {f : FuncId} (hP : progOk 0 P = true) (h : closedRun P m n f [] isTrueV = true) {base : Nat} {s : St} {R : Value → St → Prop} (hR : R (.bool true) s) : WC P base f [] s R :=
  WC_closed (.bool true) isTrueV (fun r hr => by cases r <;> first | (simp [isTrueV] at hr; done) | (simp [isTrueV] at hr; rw [hr])) hP rfl rfl h hR
end Go.Ab
