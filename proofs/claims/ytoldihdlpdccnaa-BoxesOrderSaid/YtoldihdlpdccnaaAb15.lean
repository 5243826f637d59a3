/- The simulation: frames, operations with calls, regions in order. -/
import Derived.Test.YtoldihdlpdccnaaAb14
set_option linter.unusedVariables false
set_option linter.unusedSimpArgs false
namespace Go.Ab
open Go Go.RowKit

def Fwide (F : Fence) : Prop := (∀ f, F.fn f) ∧ F.depth = none

section
variable {P : Program} {w0 : World} {M : Mp} {s : St} {w : World} {G : Nat}

/-! ### Frames -/
theorem ER.put {e : Env} {tmps : Array Value} (h : ER M e tmps) {v v' : Value} (hv : VR M v v') (d : Option Tmp) : ER M (put e d v) (match d with | some t => tmps.setIfInBounds t v' | none => tmps) := by
  cases d with
  | none => exact h
  | some t =>
    intro k hk
    simp only [Array.size_setIfInBounds] at hk
    simp only [Ab.put]
    by_cases hkt : k = t
    · subst hkt
      rw [if_pos rfl]
      simp [Array.getD, hk]; exact hv
    · rw [if_neg hkt]
      have := h k hk
      have e : (tmps.setIfInBounds t v').getD k undef = tmps.getD k undef := by
        simp only [Array.getD_eq_getD_getElem?, Array.getElem?_setIfInBounds_ne (Ne.symm hkt)]
      rw [e]; exact this
theorem ER.mono {M' : Mp} (hm : Mle M M') {e : Env} {tmps : Array Value} (h : ER M e tmps) : ER M' e tmps := fun t ht => (h t ht).mono hm
theorem ER.act {e : Env} {a : Act} (h : ER M e a.tmps) {v v' : Value} (hv : VR M v v') (d : Option Tmp) : ER M (Ab.put e d v) (a.put d v').tmps := by
  have := h.put hv d
  cases d <;> exact this
theorem act_size (a : Act) (d : Option Tmp) (v : Value) : (a.put d v).tmps.size = a.tmps.size := by cases d <;> simp [Act.put]
theorem act_defers (a : Act) (d : Option Tmp) (v : Value) : (a.put d v).defers = a.defers := by cases d <;> rfl

theorem const_VR (h : Sm w0 M s w) {v : Value} (hv : constOk v = true) : VR M v v := by
  have free : ∀ v, oldOk 0 v = true → VR M v v := fun v hv => ((free_LR h (l := [v]) (by simp [hv])).1).head
  cases v with
  | agg cs => obtain ⟨a, b⟩ := free_LR h hv; exact LR.agg a b
  | tuple cs => obtain ⟨a, b⟩ := free_LR h hv; exact LR.tuple a
  | func f fi ca =>
    cases f with
    | func f =>
      simp only [constOk, Bool.and_eq_true, Array.isEmpty_iff] at hv
      obtain ⟨rfl, rfl⟩ := hv
      exact .func (.other (by simp)) rfl (fun i v v' a => by simp at a) rfl (fun i v v' a => by simp at a)
    | _ => exact free _ hv
  | _ => exact free _ hv
theorem ev_VR (h : Sm w0 M s w) (hG : G ≤ w0.heap.size) {e : Env} {a : Act} (he : ER M e a.tmps) {x : Operand} (hx : opdOk G a.tmps.size x = true) : VR M (ev e x) (a.eval x) := by
  cases x with
  | tmp t => exact he t (by simpa [opdOk] using hx)
  | const v => exact const_VR h hx
  | global g =>
    have : g < G := by simpa [opdOk] using hx
    exact .ptr ⟨g, 0, (h.old g (by omega)).1, rfl⟩
  | func f => exact .func (.other (by simp)) rfl (fun i v v' a => by simp at a) rfl (fun i v v' a => by simp at a)
theorem oper_ok {N : Nat} {o : Oper} (h : operOk G N o = true) : (∀ t, o.dst = some t → t < N) ∧ ∀ x ∈ o.op.operands, opdOk G N x = true := by
  simp only [operOk, Bool.and_eq_true, List.all_eq_true] at h
  refine ⟨fun t ht => ?_, fun x hx => h.2 x (by simpa using hx)⟩
  have := h.1; rw [ht] at this; simpa using this

theorem guard_sim {all : Array Oper} {e : Env} {a : Act} (he : ER M e a.tmps) {j : Nat} {b : Option Bool} (hok : ∀ o ∈ all.toList, operOk G a.tmps.size o = true) (h : guardV all e j = some b) : yielded all a.tmps j = b := by
  unfold guardV at h
  unfold yielded
  cases hj : (all[j]?).bind (·.dst) with
  | none => rw [hj] at h; cases h
  | some t =>
    rw [hj] at h
    simp only at h
    have ht : t < a.tmps.size := by
      obtain ⟨o, ho, hd⟩ := Option.bind_eq_some_iff.1 hj
      exact (oper_ok (hok o (by have := Array.mem_of_getElem? ho; simpa using this))).1 t hd
    have hr := he t ht
    have hget : a.tmps[t]? = some (a.tmps.getD t undef) := by simp [ht]
    simp only [Option.bind_some, hget]
    cases hv : e t with
    | bool c =>
      rw [hv] at h hr
      cases h
      cases hx : a.tmps.getD t undef <;> rw [hx] at hr <;> cases hr
      rfl
    | _ => rw [hv] at h hr; cases h; cases hx : a.tmps.getD t undef <;> rw [hx] at hr <;> first | rfl | cases hr

/-! ### Marks among the deferred calls -/
def Marks (lb : Nat) (M : Mp) (w : World) : List Deferred → Prop
  | [] => True
  | d :: ds => (∃ D, d = { target := .collected D, args := #[] } ∧ lb ≤ D ∧ w.heap[D]? = some (.deferred (some [])) ∧ (∀ b x, M.blk b = some x → x.1 ≠ D) ∧
      (∀ D', ({ target := .collected D', args := #[] } : Deferred) ∈ ds → D' ≠ D)) ∧ Marks lb M w ds
theorem Marks.grow {lb : Nat} {M' : Mp} {s' : St} {w' : World} (hg : Gr M s w M' s' w') : ∀ {ds : List Deferred}, Marks lb M w ds → Marks lb M' w' ds
  | [], _ => trivial
  | d :: ds, ⟨⟨D, h1, h2, h3, h4, h5⟩, hr⟩ => by
    refine ⟨⟨D, h1, h2, ?_, fun b x hx => ?_, h5⟩, Marks.grow hg hr⟩
    · rw [hg.fr D (Array.getElem?_eq_some_iff.1 h3).1 fun b x hb _ => h4 b x hb]; exact h3
    · rcases hg.img b x hx with ⟨b', x', q1, q2⟩ | q
      · exact q2 ▸ h4 b' x' q1
      · have := (Array.getElem?_eq_some_iff.1 h3).1; omega

/-! ### What is proved of each judgement -/
def OpGood (P : Program) (w0 : World) (o : Oper) (e : Env) (s : St) (v : Value) (s' : St) : Prop :=
  ∀ (M : Mp) (w : World) (a : Act) (F : Fence) (n : Nat), Fwide F → Sm w0 M s w → (∀ x ∈ o.op.operands, VR M (ev e x) (a.eval x)) → ∀ (next : Act → World → Prop) (Q : Exit → Act → World → Prop),
    (∀ v' w' M', Gr M s w M' s' w' → Sm w0 M' s' w' → VR M' v v' → next (a.put o.dst v') w') → o.wpIn F n P a w next Q

/-- A load that may come ahead of what changes other blocks, or behind. -/
def LiteOk (P : Program) (w0 : World) (D : Option Drw) (k : Nat) (o : Oper) (e : Env) (s : St) (v : Value) (s1 : St) : Prop :=
  match D with
  | none => True
  | some d => d.lite k = true → isLoad o.op = true → s1 = s ∧ ∃ b, d.kp b = true ∧ b < d.n0 ∧ ∀ s2, s2.heap b = s.heap b → OpGood P w0 o e s2 v s2
/-- Operations, one by one. -/
def Tr (P : Program) (w0 : World) (all : Array Oper) (D : Option Drw) : Nat → List Oper → Env → St → Env → St → Prop
  | _, [], e, s, e', s' => e' = e ∧ s' = s
  | k, o :: l, e, s, e', s' =>
    (∃ j g b, o.guard = some (j, g) ∧ guardV all e j = some b ∧ b ≠ some g ∧ Tr P w0 all D (k + 1) l (Ab.put e o.dst undef) s e' s') ∨
    (∃ v s1, (∀ j g, o.guard = some (j, g) → guardV all e j = some (some g)) ∧ OpGood P w0 o e s v s1 ∧ Dok D k s s1 ∧ (loudO o = false → s1 = s ∧ ∀ s2, OpGood P w0 o e s2 v s2) ∧ LiteOk P w0 D k o e s v s1 ∧ Tr P w0 all D (k + 1) l (Ab.put e o.dst v) s1 e' s')

def PostC (w0 : World) (M : Mp) (s : St) (w : World) (N lb : Nat) (x : Exit) (e' : Env) (s' : St) : Exit → Act → World → Prop := fun X a' w' =>
  X = x ∧ ∃ M', Gr M s w M' s' w' ∧ Sm w0 M' s' w' ∧ ER M' e' a'.tmps ∧ a'.tmps.size = N ∧ Marks lb M' w' a'.defers

def CodeAt (w0 : World) (G : Nat) (c : Code) (e : Env) (s : St) (M : Mp) (w : World) (a : Act) (F : Fence) (lb : Nat) : Prop :=
  Fwide F ∧ Sm w0 M s w ∧ ER M e a.tmps ∧ codeOk G a.tmps.size c = true ∧ (F.round = none ∨ noRF c = true) ∧ Marks lb M w a.defers ∧ lb ≤ w.heap.size ∧ G ≤ w0.heap.size
def CodeGood (P : Program) (w0 : World) (G : Nat) (c : Code) (e : Env) (s : St) (x : Exit) (e' : Env) (s' : St) : Prop :=
  ∀ M w a F n lb, CodeAt w0 G c e s M w a F lb → c.wpIn F n P (PostC w0 M s w a.tmps.size lb x e' s') a w
def LoopGood (P : Program) (w0 : World) (G : Nat) (b : Code) (e : Env) (s : St) (x : Exit) (e' : Env) (s' : St) : Prop :=
  ∃ m, ∀ M w a F n lb, CodeAt w0 G b e s M w a F lb → Code.roundsIn F n P b (PostC w0 M s w a.tmps.size lb x e' s') m a w
def CallGood (P : Program) (w0 : World) (f : FuncId) (args : List Value) (s : St) (v : Value) (s' : St) : Prop :=
  ∀ M w (args' : Array Value) (F : Fence) n, Fwide F → Sm w0 M s w → LR M args args'.toList →
    (∃ fn c, P.funcs[f]? = some fn ∧ fn.body = some c ∧ fn.name ≠ "runtime.NumGoroutine") ∧ CallsIn F n P f args' w (fun e w' => ∃ v' M', e = .returned v' ∧ Gr M s w M' s' w' ∧ Sm w0 M' s' w' ∧ VR M' v v')
def FnGood (P : Program) (w0 : World) (fn : Fn) (args : List Value) (s : St) (v : Value) (s' : St) : Prop :=
  match fn with
  | .func f => CallGood P w0 f args s v s'
  | .yield l => ∀ M w l' (args' : Array Value) (F : Fence) n, Fwide F → Sm w0 M s w → M.blk l = some (l', 0) → LR M args args'.toList →
      ∃ f tmps as_ body, (Instr.yield l' args').run P w = .ok (.round l' f tmps as_ body) w ∧ RoundIn F n P l' f tmps as_ body w (fun e w' => ∃ v' M', e = .returned v' ∧ Gr M s w M' s' w' ∧ Sm w0 M' s' w' ∧ VR M' v v')
  | _ => False

/-! ### Operations -/
theorem op_plain_good (o : Oper) (hc : isCall o.op = false) {e : Env} {v : Value} {s' : St} (hp : pop P w0.heap.size (ev e) s o.op = some (v, s')) : OpGood P w0 o e s v s' := by
  intro M w a F n hF hS hx next Q hn
  have hd : ∀ c, o.op ≠ .defer c := fun c e => by rw [e] at hp; cases hp
  refine ⟨fun f _ => hF.1 f, ?_⟩
  rw [Oper.semAt_eq _ _ _ hd]
  obtain ⟨r, v', w', M', e1, e2, e3, e4, e5⟩ := pop_sim (P := P) (o := o) hS hx hp
  rw [e1]
  rcases e2 with rfl | ⟨rfl, rfl⟩
  · exact hn v' w' M' e4 e3 e5
  · exact hn undef w' M' e4 e3 e5

theorem op_call_good (o : Oper) {c : Call} (ho : o.op = .call c) {e : Env} {fn : Fn} {args : List Value} (hcal : calleeV (ev e) c = some (fn, args)) {v : Value} {s' : St} (hg : FnGood P w0 fn args s v s') : OpGood P w0 o e s v s' := by
  intro M w a F n hF hS hx next Q hn
  have hd : ∀ c, o.op ≠ .defer c := fun c' e => by rw [e] at ho; cases ho
  refine ⟨fun f _ => hF.1 f, ?_⟩
  rw [Oper.semAt_eq _ _ _ hd]
  rw [ho] at hx
  obtain ⟨callee, cargs, cts⟩ := c
  unfold calleeV at hcal
  cases callee with
  | builtin b => cases hcal
  | invoke r m => cases hcal
  | value f =>
    simp only at hcal
    have hf := hx f (by simp [Op.operands, Call.operands])
    have hargs : LR M (cargs.toList.map (ev e)) (cargs.map a.eval).toList := by
      rw [Array.toList_map]
      exact LR.map fun x hxm => hx x (by simp only [Op.operands, Call.operands]; simp; right; simpa using hxm)
    split at hcal
    · rename_i fn0 fi ca hfe
      rw [hfe] at hf
      simp only [Option.some.injEq, Prod.mk.injEq] at hcal
      obtain ⟨rfl, rfl⟩ := hcal
      obtain ⟨fn', fi', ca', hfe', hfn, s1, h1, s2, h2⟩ : ∃ fn' fi' ca', a.eval f = .func fn' fi' ca' ∧ FR M fn0 fn' ∧ fi.size = fi'.size ∧ (∀ (i : Nat) v v', fi[i]? = some v → fi'[i]? = some v' → VR M v v') ∧ ca.size = ca'.size ∧ (∀ (i : Nat) v v', ca[i]? = some v → ca'[i]? = some v' → VR M v v') := by
        cases hfx : a.eval f <;> rw [hfx] at hf <;> cases hf
        exact ⟨_, _, _, rfl, by assumption, by assumption, by assumption, by assumption, by assumption⟩
      have hfi := LR.ofArr s1 h1
      have hca := LR.ofArr s2 h2
      have hres : (resolve a.eval ⟨.value f, cargs, cts⟩ o.type).run P w = .ok { target := .fn fn' ca', args := fi' ++ cargs.map a.eval } w := by
        simp only [resolve, hfe', Deferred.ofValue, Sem.run_pure]
      unfold Oper.uponIn
      cases hfn with
      | yield hl =>
        rename_i l l'
        simp only [FnGood, List.append_nil] at hg
        obtain ⟨f0, tmps, as_, body, e1, e2⟩ := hg M w l' (fi' ++ cargs.map a.eval) F (n - 1) hF hS hl (by simpa using hfi.append hargs)
        have hrun : (execOp a.eval o).run P w = .ok (.round l' f0 tmps as_ body) w := by
          simp only [execOp, ho, Sem.run_bind, hres, Result.andThen_ok, invoke, e1]
        rw [hrun]
        refine ⟨fun h => (by rw [hF.2] at h; cases h), e2.mono ?_⟩
        rintro e' w' ⟨v', M', rfl, q1, q2, q3⟩
        exact hn v' w' M' q1 q2 q3
      | other hny =>
        cases fn0 with
        | func g =>
          simp only [FnGood] at hg
          obtain ⟨⟨fd, cd, hfd, hcd, hnm⟩, e2⟩ := hg M w (fi' ++ cargs.map a.eval ++ ca') F (n - 1) hF hS (by simpa using (hfi.append hargs).append hca)
          have hrun : (execOp a.eval o).run P w = .ok (.enter g (fi' ++ cargs.map a.eval ++ ca')) w := by
            simp only [execOp, ho, Sem.run_bind, hres, Result.andThen_ok, invoke, callFunc, run_program, hfd, beq_iff_eq, hnm, if_false, hcd, Option.isNone_some, Bool.false_eq_true, Sem.run_pure, Sem.run_ite]
          rw [hrun]
          refine ⟨fun h => (by rw [hF.2] at h; cases h), e2.mono ?_⟩
          rintro e' w' ⟨v', M', rfl, q1, q2, q3⟩
          exact hn v' w' M' q1 q2 q3
        | yield l => exact absurd rfl (hny l)
        | method m => exact hg.elim
        | methodOf t m => exact hg.elim
        | via t p f b => exact hg.elim
    · cases hcal

theorem load_pop {e : Env} {s : St} {o : Oper} {D : Option Drw} {k : Nat} {v : Value} {s1 : St} (hp : pop P w0.heap.size (ev e) s o.op = some (v, s1)) (hL : Lok D k (ev e) o.op) : LiteOk P w0 D k o e s v s1 := by
  unfold LiteOk
  cases D with
  | none => trivial
  | some d =>
    intro hl hil
    cases hop : o.op with
    | load t a =>
      rw [hop] at hp hL
      simp only [Lok] at hL
      have hL := hL hl
      simp only [pop] at hp
      obtain ⟨hld, hs⟩ := ret1_some hp
      cases hx : ev e a with
      | pointer x =>
        rw [hx] at hL hld
        cases x with
        | none => exact hL.elim
        | some ad =>
          refine ⟨hs, ad.block, hL.1, hL.2, fun s2 h2 => op_plain_good o (by rw [hop]; rfl) ?_⟩
          rw [hop]
          simp only [pop, hx]
          have : loadV P w0.heap.size s2 t (.pointer (some ad)) = some v := by
            rw [← hld]
            simp only [loadV, ptrV, ldVar, ld1, ldN, h2]
          rw [this]; rfl
      | _ => rw [hx] at hL; exact hL.elim
    | _ => rw [hop] at hil; cases hil
theorem quiet_pop {base : Nat} {ρ : Operand → Value} {s : St} {o : Oper} (hl : loudO o = false) (hc : isCall o.op = false) {v : Value} {s1 : St} (hp : pop P base ρ s o.op = some (v, s1)) : s1 = s ∧ ∀ s2, pop P base ρ s2 o.op = some (v, s2) := by
  obtain ⟨dst, op, type, pos, after, guard⟩ := o
  have r1 : ∀ {x : Option Value}, ret1 x s = some (v, s1) → s1 = s ∧ ∀ s2, ret1 x s2 = some (v, s2) := fun hx => by
    obtain ⟨rfl, rfl⟩ := ret1_some hx; exact ⟨rfl, fun _ => rfl⟩
  cases op with
  | move x => simp only [pop, Option.some.injEq, Prod.mk.injEq] at hp ⊢; exact ⟨hp.2.symm, fun _ => ⟨hp.1, trivial⟩⟩
  | assign x => simp only [pop, Option.some.injEq, Prod.mk.injEq] at hp ⊢; exact ⟨hp.2.symm, fun _ => ⟨hp.1, trivial⟩⟩
  | pick c a b => exact r1 hp
  | build t ps => exact r1 hp
  | nilCheck x => exact r1 hp
  | binOp bo t x y u => exact r1 hp
  | unOp uo t x => exact r1 hp
  | makeInterface t x => exact r1 hp
  | makeFunc fn fi ca => exact r1 hp
  | fieldAddr t x f => exact r1 hp
  | field t x f => exact r1 hp
  | indexAddr t x i => exact r1 hp
  | index t x i => exact r1 hp
  | extract x i => exact r1 hp
  | call c =>
    obtain ⟨callee, args, ats⟩ := c
    cases callee with
    | builtin b =>
      simp only [pop] at hp ⊢
      cases b <;> simp [loudO] at hl <;> exact r1 hp
    | value f => simp [isCall, Callee.isB] at hc
    | invoke r m => simp [isCall, Callee.isB] at hc
  | _ => first | (simp [loudO] at hl; done) | cases hp
end
end Go.Ab
