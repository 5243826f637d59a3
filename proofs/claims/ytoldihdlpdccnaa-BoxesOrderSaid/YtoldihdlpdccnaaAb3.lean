/- The abstract machine: the equations by which code is walked. -/
import Derived.Test.YtoldihdlpdccnaaAb2
set_option linter.unusedVariables false
namespace Go.Ab
open Go

section
variable {P : Program} {base : Nat}

/-! ### Connectives that simp opens at their first argument alone -/
def Qv (o : Option Value) (K : Value → Prop) (_ : Tag K := .mk) : Prop := match o with | some v => K v | none => False
def Q2 (o : Option (Value × St)) (K : Value → St → Prop) (_ : Tag K := .mk) : Prop := match o with | some (v, s) => K v s | none => False
def Wif (v : Value) (A B : Prop) (_ : Tag (A, B) := .mk) : Prop := match v with | .bool true => A | .bool false => B | _ => False
def Gif (o : Option (Option Bool)) (w : Bool) (A B : Prop) (_ : Tag (A, B) := .mk) : Prop := match o with | some b => if b = some w then A else B | none => False
def Qc (o : Option (Fn × List Value)) (K : Fn → List Value → Prop) (_ : Tag K := .mk) : Prop := match o with | some (f, a) => K f a | none => False
theorem Qv_some (v : Value) (K : Value → Prop) : Qv (some v) K = K v := rfl
theorem Q2_some (v : Value) (s : St) (K : Value → St → Prop) : Q2 (some (v, s)) K = K v s := rfl
theorem Qc_some (f : Fn) (a : List Value) (K : Fn → List Value → Prop) : Qc (some (f, a)) K = K f a := rfl
theorem Qv_ite (p : Prop) [Decidable p] (o : Option Value) (K : Value → Prop) : Qv (if p then o else none) K = (p ∧ Qv o K) := by
  by_cases h : p <;> simp [Qv, h]
theorem Q2_ite (p : Prop) [Decidable p] (o : Option (Value × St)) (K : Value → St → Prop) : Q2 (if p then o else none) K = (p ∧ Q2 o K) := by
  by_cases h : p <;> simp [Q2, h]
theorem Q2_ret1 (o : Option Value) (s : St) (K : Value → St → Prop) : Q2 (ret1 o s) K = Qv o (fun v => K v s) := by cases o <;> rfl
theorem Wif_true (A B : Prop) : Wif (.bool true) A B = A := rfl
theorem Wif_false (A B : Prop) : Wif (.bool false) A B = B := rfl
theorem Gif_same (w : Bool) (A B : Prop) : Gif (some (some w)) w A B = A := by simp [Gif]
theorem Gif_un (w : Bool) (A B : Prop) : Gif (some none) w A B = B := by simp [Gif]
theorem Gif_tf (A B : Prop) : Gif (some (some true)) false A B = B := by simp [Gif]
theorem Gif_ft (A B : Prop) : Gif (some (some false)) true A B = B := by simp [Gif]
theorem Wif_dec {p : Prop} [Decidable p] {A B : Prop} (h1 : p → A) (h2 : ¬p → B) : Wif (.bool (decide p)) A B := by
  by_cases h : p <;> simp [Wif, h, h1, h2]
theorem Wif_bool {b : Bool} {A B : Prop} (h1 : b = true → A) (h2 : b = false → B) : Wif (.bool b) A B := by cases b <;> simp_all [Wif]
theorem Gif_dec {p : Prop} [Decidable p] {w : Bool} {A B : Prop} (h1 : decide p = w → A) (h2 : decide p = (!w) → B) : Gif (some (some (decide p))) w A B := by
  by_cases h : p <;> cases w <;> simp_all [Gif]
theorem Gif_bool {b : Bool} {w : Bool} {A B : Prop} (h1 : b = w → A) (h2 : b = (!w) → B) : Gif (some (some b)) w A B := by cases b <;> cases w <;> simp_all [Gif]

/-! ### Frames -/
theorem put_none (e : Env) (v : Value) : put e none v = e := rfl
theorem put_at (e : Env) (t : Tmp) (v : Value) (k : Nat) : put e (some t) v k = if k = t then v else e k := rfl
theorem ev_tmp (e : Env) (t : Tmp) : ev e (.tmp t) = e t := rfl
theorem ev_const (e : Env) (v : Value) : ev e (.const v) = v := rfl
theorem ev_global (e : Env) (g : Nat) : ev e (.global g) = .pointer (some ⟨g, 0, none⟩) := rfl
theorem ev_func (e : Env) (f : FuncId) : ev e (.func f) = .func (.func f) #[] #[] := rfl

/-! ### Code -/
def Th (next : Env → St → Prop) (Q : Exit → Env → St → Prop) : Exit → Env → St → Prop
  | .normal, e, s => next e s
  | x, e, s => Q x e s
def Bk (i : Nat) (Q : Exit → Env → St → Prop) : Exit → Env → St → Prop
  | .exit j, e, s => if j = i then Q .normal e s else Q (.exit j) e s
  | x, e, s => Q x e s
theorem Th_normal (n : Env → St → Prop) (Q : Exit → Env → St → Prop) (e : Env) (s : St) : Th n Q .normal e s = n e s := rfl
theorem Th_ret (n : Env → St → Prop) (Q : Exit → Env → St → Prop) (e : Env) (s : St) : Th n Q .ret e s = Q .ret e s := rfl
theorem Th_exit (n : Env → St → Prop) (Q : Exit → Env → St → Prop) (i : Nat) (e : Env) (s : St) : Th n Q (.exit i) e s = Q (.exit i) e s := rfl
theorem Bk_normal (i : Nat) (Q : Exit → Env → St → Prop) (e : Env) (s : St) : Bk i Q .normal e s = Q .normal e s := rfl
theorem Bk_ret (i : Nat) (Q : Exit → Env → St → Prop) (e : Env) (s : St) : Bk i Q .ret e s = Q .ret e s := rfl
theorem Bk_exit (i j : Nat) (Q : Exit → Env → St → Prop) (e : Env) (s : St) : Bk i Q (.exit j) e s = if j = i then Q .normal e s else Q (.exit j) e s := rfl

theorem W_mono {c : Code} {e : Env} {s : St} {Q Q' : Exit → Env → St → Prop} (h : W P base c e s Q) (hq : ∀ x e s, Q x e s → Q' x e s) : W P base c e s Q' := by
  obtain ⟨x, e', s', h, q⟩ := h; exact ⟨x, e', s', h, hq _ _ _ q⟩
theorem WC_mono {f : FuncId} {a : List Value} {s : St} {R R' : Value → St → Prop} (h : WC P base f a s R) (hr : ∀ v s, R v s → R' v s) : WC P base f a s R' := by
  obtain ⟨v, s', h, q⟩ := h; exact ⟨v, s', h, hr _ _ q⟩
theorem WF_mono {f : Fn} {a : List Value} {s : St} {R R' : Value → St → Prop} (h : WF P base f a s R) (hr : ∀ v s, R v s → R' v s) : WF P base f a s R' := by
  obtain ⟨v, s', h, q⟩ := h; exact ⟨v, s', h, hr _ _ q⟩
theorem WO_mono {all : Array Oper} {D : Option Drw} {k : Nat} {l : List Oper} {e : Env} {s : St} {K K' : Env → St → Prop} (h : WO P base all D k l e s K) (hk : ∀ e s, K e s → K' e s) : WO P base all D k l e s K' := by
  obtain ⟨e', s', h, q⟩ := h; exact ⟨e', s', h, hk _ _ q⟩

variable {e : Env} {s : St} {Q : Exit → Env → St → Prop}

theorem W_skip : W P base .skip e s Q ↔ Q .normal e s := by
  constructor
  · rintro ⟨x, e', s', h, q⟩; cases h; exact q
  · exact fun h => ⟨_, _, _, .skip, h⟩
theorem W_label {l : Nat} : W P base (.label l) e s Q ↔ Q .normal e s := by
  constructor
  · rintro ⟨x, e', s', h, q⟩; cases h; exact q
  · exact fun h => ⟨_, _, _, .label, h⟩
theorem W_exit {i : Nat} : W P base (.exit i) e s Q ↔ Q (.exit i) e s := by
  constructor
  · rintro ⟨x, e', s', h, q⟩; cases h; exact q
  · exact fun h => ⟨_, _, _, .exit, h⟩
theorem W_ret : W P base .ret e s Q ↔ Q .ret e s := by
  constructor
  · rintro ⟨x, e', s', h, q⟩; cases h; exact q
  · exact fun h => ⟨_, _, _, .ret, h⟩
theorem Th_ne {n : Env → St → Prop} {x : Exit} (h : x ≠ .normal) : Th n Q x e s = Q x e s := by cases x <;> first | rfl | exact absurd rfl h
theorem W_seq {a b : Code} : W P base (.seq a b) e s Q ↔ W P base a e s (Th (fun e s => W P base b e s Q) Q) := by
  constructor
  · rintro ⟨x, e', s', h, q⟩
    cases h with
    | seq h1 h2 => exact ⟨_, _, _, h1, _, _, _, h2, q⟩
    | seq_out h1 hx => exact ⟨_, _, _, h1, by rw [Th_ne hx]; exact q⟩
  · rintro ⟨x, e', s', h, q⟩
    cases x with
    | normal => obtain ⟨x2, e2, s2, h2, q2⟩ := q; exact ⟨_, _, _, .seq h h2, q2⟩
    | exit i => exact ⟨_, _, _, .seq_out h (by simp), q⟩
    | goto i => exact ⟨_, _, _, .seq_out h (by simp), q⟩
    | ret => exact ⟨_, _, _, .seq_out h (by simp), q⟩
    | panic c => exact ⟨_, _, _, .seq_out h (by simp), q⟩
    | outgrown => exact ⟨_, _, _, .seq_out h (by simp), q⟩
theorem W_loop {a : Code} : W P base (.loop a) e s Q ↔ W P base a e s (Th (fun e s => W P base (.loop a) e s Q) Q) := by
  constructor
  · rintro ⟨x, e', s', h, q⟩
    cases h with
    | loop h1 h2 => exact ⟨_, _, _, h1, _, _, _, h2, q⟩
    | loop_out h1 hx => exact ⟨_, _, _, h1, by rw [Th_ne hx]; exact q⟩
  · rintro ⟨x, e', s', h, q⟩
    cases x with
    | normal => obtain ⟨x2, e2, s2, h2, q2⟩ := q; exact ⟨_, _, _, .loop h h2, q2⟩
    | exit i => exact ⟨_, _, _, .loop_out h (by simp), q⟩
    | goto i => exact ⟨_, _, _, .loop_out h (by simp), q⟩
    | ret => exact ⟨_, _, _, .loop_out h (by simp), q⟩
    | panic c => exact ⟨_, _, _, .loop_out h (by simp), q⟩
    | outgrown => exact ⟨_, _, _, .loop_out h (by simp), q⟩
theorem W_block {i : Nat} {a : Code} : W P base (.block i a) e s Q ↔ W P base a e s (Bk i Q) := by
  constructor
  · rintro ⟨x, e', s', h, q⟩
    cases h with
    | block h hx => exact ⟨_, _, _, h, by cases x <;> first | exact q | (rename_i j; have : j ≠ i := fun hj => hx (by rw [hj]); simp only [Bk, if_neg this]; exact q)⟩
    | block_out h => exact ⟨_, _, _, h, by simp only [Bk, if_true]; exact q⟩
  · rintro ⟨x, e', s', h, q⟩
    cases x with
    | exit j =>
      by_cases hj : j = i
      · subst hj; simp only [Bk, if_true] at q; exact ⟨_, _, _, .block_out h, q⟩
      · simp only [Bk, if_neg hj] at q; exact ⟨_, _, _, .block h (by simp [hj]), q⟩
    | normal => exact ⟨_, _, _, .block h (by simp), q⟩
    | goto i => exact ⟨_, _, _, .block h (by simp), q⟩
    | ret => exact ⟨_, _, _, .block h (by simp), q⟩
    | panic c => exact ⟨_, _, _, .block h (by simp), q⟩
    | outgrown => exact ⟨_, _, _, .block h (by simp), q⟩
def Sc (Q : Exit → Env → St → Prop) : Exit → Env → St → Prop
  | .normal, e, s => Q .normal e s
  | .ret, e, s => Q .ret e s
  | .exit i, e, s => Q (.exit i) e s
  | _, _, _ => False
theorem Sc_normal (Q : Exit → Env → St → Prop) (e : Env) (s : St) : Sc Q .normal e s = Q .normal e s := rfl
theorem Sc_ret (Q : Exit → Env → St → Prop) (e : Env) (s : St) : Sc Q .ret e s = Q .ret e s := rfl
theorem Sc_exit (Q : Exit → Env → St → Prop) (i : Nat) (e : Env) (s : St) : Sc Q (.exit i) e s = Q (.exit i) e s := rfl
theorem W_scope {a : Code} : W P base (.scope a) e s Q ↔ W P base a e s (Sc Q) := by
  constructor
  · rintro ⟨x, e', s', h, q⟩
    cases h with
    | scope h hx => exact ⟨_, _, _, h, by rcases hx with rfl | rfl | ⟨i, rfl⟩ <;> exact q⟩
  · rintro ⟨x, e', s', h, q⟩
    cases x with
    | normal => exact ⟨_, _, _, .scope h (.inl rfl), q⟩
    | ret => exact ⟨_, _, _, .scope h (.inr (.inl rfl)), q⟩
    | exit i => exact ⟨_, _, _, .scope h (.inr (.inr ⟨i, rfl⟩)), q⟩
    | _ => exact q.elim
theorem W_cond {c : Operand} {a b : Code} : W P base (.cond c a b) e s Q ↔ Wif (ev e c) (W P base a e s Q) (W P base b e s Q) := by
  constructor
  · rintro ⟨x, e', s', h, q⟩
    cases h with
    | cond t hc h => rw [hc]; cases t <;> exact ⟨_, _, _, h, q⟩
  · intro h
    cases hv : ev e c with
    | bool t =>
      rw [hv] at h
      cases t
      · obtain ⟨x, e', s', h, q⟩ := (show W P base b e s Q from h); exact ⟨_, _, _, .cond false hv (by simpa using h), q⟩
      · obtain ⟨x, e', s', h, q⟩ := (show W P base a e s Q from h); exact ⟨_, _, _, .cond true hv (by simpa using h), q⟩
    | _ => rw [hv] at h; exact h.elim
theorem W_region {i : Nat} {ops : Array Oper} : W P base (.region i ops false) e s Q ↔ WO P base ops none 0 ops.toList e s (fun e s => Q .normal e s) := by
  constructor
  · rintro ⟨x, e', s', h, q⟩
    cases h with
    | region h => exact ⟨_, _, h, q⟩
  · rintro ⟨e', s', h, q⟩; exact ⟨_, _, _, .region h, q⟩
theorem W_draw {i : Nat} {ops : Array Oper} (eff lite kp : Nat → Bool) (hd : drawOk ops eff lite = true) (he : edgesOk ops = true)
    (h : WO P base ops (some ⟨eff, lite, kp, s.next⟩) 0 ops.toList e s (fun e s => Q .normal e s)) : W P base (.region i ops true) e s Q := by
  obtain ⟨e', s', h, q⟩ := h; exact ⟨_, _, _, .region_draw eff lite kp hd he h, q⟩

/-! ### Calls -/
def Rt (P : Program) (base : Nat) (fn : Func) (R : Value → St → Prop) : Exit → Env → St → Prop
  | .normal, e, s | .ret, e, s => Qv (resultsV P base fn e s) (fun v => R v s)
  | _, _, _ => False
theorem Rt_normal (fn : Func) (R : Value → St → Prop) (e : Env) (s : St) : Rt P base fn R .normal e s = Qv (resultsV P base fn e s) (fun v => R v s) := rfl
theorem Rt_ret (fn : Func) (R : Value → St → Prop) (e : Env) (s : St) : Rt P base fn R .ret e s = Qv (resultsV P base fn e s) (fun v => R v s) := rfl
theorem WC_open {f : FuncId} {fn : Func} {c : Code} {a : List Value} {R : Value → St → Prop} (hf : P.funcs[f]? = some fn) (hb : fn.body = some c)
    (h : W P base c (env0 a) s (Rt P base fn R)) : WC P base f a s R := by
  obtain ⟨x, e', s', h, q⟩ := h
  have key : x = .normal ∨ x = .ret → Qv (resultsV P base fn e' s') (fun v => R v s') → WC P base f a s R := fun hx hq => by
    cases hr : resultsV P base fn e' s' with
    | none => rw [hr] at hq; exact hq.elim
    | some v => rw [hr] at hq; exact ⟨v, s', .call hf hb h hx hr, hq⟩
  cases x with
  | normal => exact key (.inl rfl) q
  | ret => exact key (.inr rfl) q
  | _ => exact q.elim
theorem WF_func {f : FuncId} {a : List Value} {R : Value → St → Prop} : WF P base (.func f) a s R ↔ WC P base f a s R := by
  constructor
  · rintro ⟨v, s', h, q⟩; cases h with | func h => exact ⟨v, s', h, q⟩
  · rintro ⟨v, s', h, q⟩; exact ⟨v, s', .func h, q⟩

/-! ### Operations -/
variable {all : Array Oper} {D : Option Drw} {k : Nat} {l : List Oper} {K : Env → St → Prop} {dst : Option Tmp} {ty : TypeId} {pos : String} {af : Array Edge}

theorem WO_nil : WO P base all D k [] e s K ↔ K e s := by
  constructor
  · rintro ⟨e', s', h, q⟩; cases h; exact q
  · exact fun h => ⟨_, _, .ops_nil, h⟩
theorem WO_guard {o : Op} {j : Nat} {w : Bool} : WO P base all D k (⟨dst, o, ty, pos, af, some (j, w)⟩ :: l) e s K ↔
    Gif (guardV all e j) w (WO P base all D k (⟨dst, o, ty, pos, af, none⟩ :: l) e s K) (WO P base all D (k + 1) l (put e dst undef) s K) := by
  constructor
  · rintro ⟨e', s', h, q⟩
    cases h with
    | ops_not hg hb hw h => simp only [Option.some.injEq, Prod.mk.injEq] at hg; obtain ⟨rfl, rfl⟩ := hg; rw [hb]; simp only [Gif, if_neg hw]; exact ⟨_, _, h, q⟩
    | ops_plain hg hc hv hD hL h => rw [hg j w rfl]; simp only [Gif, if_true]; exact ⟨_, _, .ops_plain (fun _ _ h => by cases h) hc hv hD hL h, q⟩
    | ops_call hg ho hb hcal hc hD h => rw [hg j w rfl]; simp only [Gif, if_true]; exact ⟨_, _, .ops_call (fun _ _ h => by cases h) ho hb hcal hc hD h, q⟩
  · intro h
    cases hb : guardV all e j with
    | none => rw [hb] at h; exact h.elim
    | some b =>
      rw [hb] at h
      by_cases hw : b = some w
      · subst hw
        simp only [Gif, if_true] at h
        obtain ⟨e', s', h, q⟩ := h
        have hg' : ∀ j' w', some (j, w) = some (j', w') → guardV all e j' = some (some w') := fun j' w' h => by
          simp only [Option.some.injEq, Prod.mk.injEq] at h; obtain ⟨rfl, rfl⟩ := h; exact hb
        cases h with
        | ops_not hg => cases hg
        | ops_plain hg hc hv hD hL h => exact ⟨_, _, .ops_plain hg' hc hv hD hL h, q⟩
        | ops_call hg ho hbb hcal hc hD h => exact ⟨_, _, .ops_call hg' ho hbb hcal hc hD h, q⟩
      · simp only [Gif, if_neg hw] at h
        obtain ⟨e', s', h, q⟩ := h
        exact ⟨_, _, .ops_not rfl hb hw h, q⟩
theorem WO_plainL {o : Op} (hc : isCall o = false) : WO P base all D k (⟨dst, o, ty, pos, af, none⟩ :: l) e s K ↔
    Q2 (pop P base (ev e) s o) (fun v s1 => (Dok D k s s1 ∧ Lok D k (ev e) o) ∧ WO P base all D (k + 1) l (put e dst v) s1 K) := by
  constructor
  · rintro ⟨e', s', h, q⟩
    cases h with
    | ops_not hg => cases hg
    | ops_plain hg hc hv hD hL h => rw [hv]; exact ⟨⟨hD, hL⟩, _, _, h, q⟩
    | ops_call hg ho hb => simp only at ho; subst ho; simp [isCall, hb] at hc
  · intro h
    cases hv : pop P base (ev e) s o with
    | none => rw [hv] at h; exact h.elim
    | some vs =>
      obtain ⟨v, s1⟩ := vs
      rw [hv] at h
      obtain ⟨⟨hD, hL⟩, e', s', h, q⟩ := h
      exact ⟨_, _, .ops_plain (fun _ _ h => by cases h) hc hv hD hL h, q⟩
theorem Lok_not {D : Option Drw} {k : Nat} {ρ : Operand → Value} {o : Op} (h : isLoad o = false) : Lok D k ρ o := by cases o <;> first | trivial | cases h
theorem Lok_none {k : Nat} {ρ : Operand → Value} {o : Op} : Lok none k ρ o = True := by cases o <;> rfl
theorem WO_plain {o : Op} (hc : isCall o = false) (hl : isLoad o = false) : WO P base all D k (⟨dst, o, ty, pos, af, none⟩ :: l) e s K ↔
    Q2 (pop P base (ev e) s o) (fun v s1 => Dok D k s s1 ∧ WO P base all D (k + 1) l (put e dst v) s1 K) := by
  rw [WO_plainL hc]
  cases pop P base (ev e) s o with
  | none => exact Iff.rfl
  | some vs => exact ⟨fun h => ⟨h.1.1, h.2⟩, fun h => ⟨⟨h.1, Lok_not hl⟩, h.2⟩⟩
theorem WO_call {c : Call} (hb : Callee.isB c.callee = false) : WO P base all D k (⟨dst, .call c, ty, pos, af, none⟩ :: l) e s K ↔
    Qc (calleeV (ev e) c) (fun fn args => WF P base fn args s (fun v s1 => Dok D k s s1 ∧ WO P base all D (k + 1) l (put e dst v) s1 K)) := by
  constructor
  · rintro ⟨e', s', h, q⟩
    cases h with
    | ops_not hg => cases hg
    | ops_plain hg hc hv hD hL h => simp [isCall, hb] at hc
    | ops_call hg ho hbb hcal hc hD h => simp only [Op.call.injEq] at ho; subst ho; rw [hcal]; exact ⟨_, _, hc, hD, _, _, h, q⟩
  · intro h
    cases hv : calleeV (ev e) c with
    | none => rw [hv] at h; exact h.elim
    | some vs =>
      obtain ⟨fn, args⟩ := vs
      rw [hv] at h
      obtain ⟨v, s1, hc, hD, e', s', h, q⟩ := h
      exact ⟨_, _, .ops_call (fun _ _ h => by cases h) rfl hb hv hc hD h, q⟩

theorem Mild.refl (s : St) : Mild s s := ⟨Nat.le_refl _, fun _ _ => rfl⟩
theorem Mild.trans {s s1 s2 : St} (h : Mild s s1) (h' : Mild s1 s2) : Mild s s2 := ⟨Nat.le_trans h.next h'.next, fun b hb => (h'.heap b (Nat.lt_of_lt_of_le hb h.next)).trans (h.heap b hb)⟩
theorem Mild.alloc (s : St) (o : AObj) : Mild s (s.alloc o) := ⟨Nat.le_succ _, fun b hb => by simp only [St.alloc]; rw [if_neg (by omega)]⟩
theorem Dok_none (k : Nat) (s s' : St) : Dok none k s s' = True := rfl
theorem Dok_same (D : Option Drw) (k : Nat) (s : St) : Dok D k s s = True := by cases D <;> simp [Dok, Mild.refl]
theorem Dok_alloc (D : Option Drw) (k : Nat) (s : St) (o : AObj) : Dok D k s (s.alloc o) = True := by cases D <;> simp [Dok, Mild.alloc]
theorem Dok_mild {D : Option Drw} {k : Nat} {s s' : St} (h : Mild s s') : Dok D k s s' := by cases D <;> simp [Dok, h]

theorem WO_move {x : Operand} : WO P base all D k (⟨dst, .move x, ty, pos, af, none⟩ :: l) e s K ↔ WO P base all D (k + 1) l (put e dst (ev e x)) s K := by
  rw [WO_plain rfl rfl]; simp only [pop, Q2, Dok_same, true_and]
theorem WO_assign {x : Operand} : WO P base all D k (⟨dst, .assign x, ty, pos, af, none⟩ :: l) e s K ↔ WO P base all D (k + 1) l (put e dst (ev e x)) s K := by
  rw [WO_plain rfl rfl]; simp only [pop, Q2, Dok_same, true_and]
theorem WO_ret1 {o : Op} {v : Option Value} (hc : isCall o = false) (hl : isLoad o = false) (hp : pop P base (ev e) s o = ret1 v s) :
    WO P base all D k (⟨dst, o, ty, pos, af, none⟩ :: l) e s K ↔ Qv v (fun v => WO P base all D (k + 1) l (put e dst v) s K) := by
  rw [WO_plain hc hl, hp]; cases v <;> simp only [ret1, Q2, Qv, Dok_same, true_and]
theorem WO_pick {c a b : Operand} : WO P base all D k (⟨dst, .pick c a b, ty, pos, af, none⟩ :: l) e s K ↔ Qv (pickV (ev e c) (ev e a) (ev e b)) (fun v => WO P base all D (k + 1) l (put e dst v) s K) :=
  WO_ret1 rfl rfl rfl
theorem WO_build {t : TypeId} {ps : Array (Nat × Operand)} : WO P base all D k (⟨dst, .build t ps, ty, pos, af, none⟩ :: l) e s K ↔
    Qv (buildV P t (ps.toList.map fun p => (p.1, ev e p.2))) (fun v => WO P base all D (k + 1) l (put e dst v) s K) := WO_ret1 rfl rfl rfl
theorem WO_load {t : TypeId} {a : Operand} : WO P base all D k (⟨dst, .load t a, ty, pos, af, none⟩ :: l) e s K ↔
    Qv (loadV P base s t (ev e a)) (fun v => Lok D k (ev e) (.load t a) ∧ WO P base all D (k + 1) l (put e dst v) s K) := by
  rw [WO_plainL rfl]
  simp only [pop]
  cases loadV P base s t (ev e a) <;> simp only [ret1, Q2, Qv, Dok_same, true_and]
theorem WO_binOp {op : BinOp} {t u : TypeId} {x y : Operand} : WO P base all D k (⟨dst, .binOp op t x y u, ty, pos, af, none⟩ :: l) e s K ↔
    Qv (binV P op t (ev e x) (ev e y)) (fun v => WO P base all D (k + 1) l (put e dst v) s K) := WO_ret1 rfl rfl rfl
theorem WO_unOp {op : UnOp} {t : TypeId} {x : Operand} : WO P base all D k (⟨dst, .unOp op t x, ty, pos, af, none⟩ :: l) e s K ↔
    Qv (unV op (ev e x)) (fun v => WO P base all D (k + 1) l (put e dst v) s K) := WO_ret1 rfl rfl rfl
theorem WO_slice {t : TypeId} {x : Operand} {lo hi mx : Option Operand} : WO P base all D k (⟨dst, .slice t x lo hi mx, ty, pos, af, none⟩ :: l) e s K ↔
    Qv (sliceV P s t (ev e x) (lo.map (ev e)) (hi.map (ev e)) (mx.map (ev e))) (fun v => WO P base all D (k + 1) l (put e dst v) s K) := WO_ret1 rfl rfl rfl
theorem WO_fieldAddr {t : TypeId} {x : Operand} {f : Nat} : WO P base all D k (⟨dst, .fieldAddr t x f, ty, pos, af, none⟩ :: l) e s K ↔
    Qv (fieldAddrV P t (ev e x) f) (fun v => WO P base all D (k + 1) l (put e dst v) s K) :=
  WO_ret1 rfl rfl rfl
theorem WO_field {t : TypeId} {x : Operand} {f : Nat} : WO P base all D k (⟨dst, .field t x f, ty, pos, af, none⟩ :: l) e s K ↔
    Qv (fieldV P t (ev e x) f) (fun v => WO P base all D (k + 1) l (put e dst v) s K) :=
  WO_ret1 rfl rfl rfl
theorem WO_indexAddr {t : TypeId} {x i : Operand} : WO P base all D k (⟨dst, .indexAddr t x i, ty, pos, af, none⟩ :: l) e s K ↔
    Qv (indexAddrV P t (ev e x) (ev e i)) (fun v => WO P base all D (k + 1) l (put e dst v) s K) :=
  WO_ret1 rfl rfl rfl
theorem WO_index {t : TypeId} {x i : Operand} : WO P base all D k (⟨dst, .index t x i, ty, pos, af, none⟩ :: l) e s K ↔
    Qv (indexV P t (ev e x) (ev e i)) (fun v => WO P base all D (k + 1) l (put e dst v) s K) :=
  WO_ret1 rfl rfl rfl
theorem WO_extract {x : Operand} {i : Nat} : WO P base all D k (⟨dst, .extract x i, ty, pos, af, none⟩ :: l) e s K ↔
    Qv (extractV (ev e x) i) (fun v => WO P base all D (k + 1) l (put e dst v) s K) :=
  WO_ret1 rfl rfl rfl
theorem WO_nilCheck {x : Operand} : WO P base all D k (⟨dst, .nilCheck x, ty, pos, af, none⟩ :: l) e s K ↔
    Qv (nilCheckV (ev e x)) (fun v => WO P base all D (k + 1) l (put e dst v) s K) :=
  WO_ret1 rfl rfl rfl
theorem WO_makeFunc {fn : Fn} {fi ca : Array Operand} : WO P base all D k (⟨dst, .makeFunc fn fi ca, ty, pos, af, none⟩ :: l) e s K ↔
    Qv (mkFuncV fn (fi.map (ev e)) (ca.map (ev e))) (fun v => WO P base all D (k + 1) l (put e dst v) s K) := WO_ret1 rfl rfl rfl
theorem WO_makeInterface {t : TypeId} {x : Operand} : WO P base all D k (⟨dst, .makeInterface t x, ty, pos, af, none⟩ :: l) e s K ↔
    Qv (ifaceV P t (ev e x)) (fun v => WO P base all D (k + 1) l (put e dst v) s K) :=
  WO_ret1 rfl rfl rfl
theorem WO_alloc {t : TypeId} : WO P base all D k (⟨dst, .alloc t, ty, pos, af, none⟩ :: l) e s K ↔
    Q2 (match zerT P t with | some z => some (.pointer (some ⟨s.next, 0, none⟩), s.alloc (.row z)) | none => none) (fun v s1 => WO P base all D (k + 1) l (put e dst v) s1 K) := by
  rw [WO_plain rfl rfl]; simp only [pop]; cases zerT P t <;> simp only [Q2, Dok_alloc, true_and]
theorem WO_box {t : TypeId} {x : Operand} : WO P base all D k (⟨dst, .box t x, ty, pos, af, none⟩ :: l) e s K ↔
    (isTup (ev e x) = false ∧ WO P base all D (k + 1) l (put e dst (.pointer (some ⟨s.next, 0, none⟩))) (s.alloc (.row (ev e x).cells.toList)) K) := by
  rw [WO_plain rfl rfl]; simp only [pop, Q2_ite, Q2_some, Dok_alloc, true_and]
theorem buildSliceV_mild {t : TypeId} {n : Nat} {ps : List (Nat × Value)} {v : Value} {s1 : St} (h : buildSliceV P s t n ps = some (v, s1)) : Mild s s1 := by
  simp only [buildSliceV] at h
  repeat' (split at h <;> try cases h)
  exact Mild.alloc _ _
theorem makeV_mild {t : TypeId} {x y v : Value} {s1 : St} (h : makeV P s t x y = some (v, s1)) : Mild s s1 := by
  simp only [makeV] at h
  repeat' (split at h <;> try cases h)
  exact Mild.alloc _ _
theorem WO_mild {o : Op} {p : Option (Value × St)} (hc : isCall o = false) (hl : isLoad o = false) (hp : pop P base (ev e) s o = p) (hm : ∀ v s1, p = some (v, s1) → Mild s s1) :
    WO P base all D k (⟨dst, o, ty, pos, af, none⟩ :: l) e s K ↔ Q2 p (fun v s1 => WO P base all D (k + 1) l (put e dst v) s1 K) := by
  rw [WO_plain hc hl, hp]
  cases hp2 : p with
  | none => simp only [Q2]
  | some vs => obtain ⟨v, s1⟩ := vs; simp only [Q2]; exact ⟨fun h => h.2, fun h => ⟨Dok_mild (hm v s1 hp2), h⟩⟩
theorem WO_buildSlice {t : TypeId} {n : Nat} {ps : Array (Nat × Operand)} : WO P base all D k (⟨dst, .buildSlice t n ps, ty, pos, af, none⟩ :: l) e s K ↔
    Q2 (buildSliceV P s t n (ps.toList.map fun p => (p.1, ev e p.2))) (fun v s1 => WO P base all D (k + 1) l (put e dst v) s1 K) :=
  WO_mild rfl rfl rfl fun _ _ h => buildSliceV_mild h
theorem WO_makeSlice {t : TypeId} {x y : Operand} : WO P base all D k (⟨dst, .makeSlice t x y, ty, pos, af, none⟩ :: l) e s K ↔
    Q2 (makeV P s t (ev e x) (ev e y)) (fun v s1 => WO P base all D (k + 1) l (put e dst v) s1 K) :=
  WO_mild rfl rfl rfl fun _ _ h => makeV_mild h
theorem convV_mild {t u : TypeId} {x v : Value} {s1 : St} (h : convV P base s t u x = some (v, s1)) : Mild s s1 := by
  simp only [convV] at h
  repeat' (split at h <;> try cases h)
  all_goals exact Mild.refl _
theorem WO_convert {t u : TypeId} {x : Operand} : WO P base all D k (⟨dst, .convert t u x, ty, pos, af, none⟩ :: l) e s K ↔
    Q2 (convV P base s t u (ev e x)) (fun v s1 => WO P base all D (k + 1) l (put e dst v) s1 K) :=
  WO_mild rfl rfl rfl fun _ _ h => convV_mild h
theorem WO_store {t : TypeId} {a x : Operand} : WO P base all D k (⟨dst, .store t a x, ty, pos, af, none⟩ :: l) e s K ↔
    Q2 (match ptrV (ev e a) with | some a => ret0 (stVar P base s t a (ev e x)) | none => none) (fun v s1 => Dok D k s s1 ∧ WO P base all D (k + 1) l (put e dst v) s1 K) := WO_plain rfl rfl
theorem WO_builtin {b : Builtin} {as : Array Operand} {ts : Array TypeId} : WO P base all D k (⟨dst, .call ⟨.builtin b, as, ts⟩, ty, pos, af, none⟩ :: l) e s K ↔
    Q2 (builtinV P base s b ts.toList (as.toList.map (ev e))) (fun v s1 => Dok D k s s1 ∧ WO P base all D (k + 1) l (put e dst v) s1 K) := WO_plain rfl rfl
theorem WO_callv {f : Operand} {as : Array Operand} {ts : Array TypeId} : WO P base all D k (⟨dst, .call ⟨.value f, as, ts⟩, ty, pos, af, none⟩ :: l) e s K ↔
    Qc (calleeV (ev e) ⟨.value f, as, ts⟩) (fun fn args => WF P base fn args s (fun v s1 => Dok D k s s1 ∧ WO P base all D (k + 1) l (put e dst v) s1 K)) := WO_call rfl
end
end Go.Ab
namespace Go.Ab
open Go
/-- The loops of a text, in order. -/
def loopsOf : Code → List Code
  | .seq a b => loopsOf a ++ loopsOf b
  | .cond _ a b => loopsOf a ++ loopsOf b
  | .block _ a => loopsOf a
  | .loop a => .loop a :: loopsOf a
  | .rangeFunc _ _ a b => loopsOf a ++ loopsOf b
  | .scope a => loopsOf a
  | _ => []
def loopN (f : Func) (k : Nat) : Code := (loopsOf (f.body.getD .skip)).getD k .skip
theorem W_loopN {P : Program} {base : Nat} {f : Func} {k : Nat} {a : Code} {e : Env} {s : St} {Q : Exit → Env → St → Prop} (h : loopN f k = .loop a) :
    W P base (loopN f k) e s Q ↔ W P base a e s (Th (fun e s => W P base (loopN f k) e s Q) Q) := by
  rw [h]; exact W_loop

def boolV? : Value → Option (Option Bool)
  | .bool b => some (some b)
  | _ => some none
theorem boolV_bool (b : Bool) : boolV? (.bool b) = some (some b) := rfl
theorem boolV_undef : boolV? undef = some none := rfl
theorem WO_guardL {P : Program} {base : Nat} {e : Env} {s : St} {l0 : List Oper} {D : Option Drw} {k : Nat} {l : List Oper} {K : Env → St → Prop} {dst : Option Tmp} {ty : TypeId} {pos : String} {af : Array Edge} {o : Op} {j : Nat} {w : Bool} :
    WO P base l0.toArray D k (⟨dst, o, ty, pos, af, some (j, w)⟩ :: l) e s K ↔
    Gif (match l0[j]? with | some o => (match o.dst with | some t => boolV? (e t) | none => none) | none => none) w
      (WO P base l0.toArray D k (⟨dst, o, ty, pos, af, none⟩ :: l) e s K) (WO P base l0.toArray D (k + 1) l (put e dst undef) s K) := by
  rw [WO_guard]
  have : guardV l0.toArray e j = (match l0[j]? with | some o => (match o.dst with | some t => boolV? (e t) | none => none) | none => none) := by
    simp only [guardV, List.getElem?_toArray]
    cases l0[j]? with
    | none => rfl
    | some o => simp only [Option.bind_some]; rfl
  rw [this]

/-! ### The heap, read -/
theorem heap_alloc_ne (s : St) (o : AObj) {b : Nat} (h : b ≠ s.next) : (s.alloc o).heap b = s.heap b := by simp only [St.alloc]; rw [if_neg h]
theorem heap_alloc_new (s : St) (o : AObj) : (s.alloc o).heap s.next = o := by simp [St.alloc]
theorem heap_alloc_lt (s : St) (o : AObj) {b : Nat} (h : b < s.next) : (s.alloc o).heap b = s.heap b := heap_alloc_ne s o (by omega)
theorem next_alloc (s : St) (o : AObj) : (s.alloc o).next = s.next + 1 := rfl
theorem heap_upd_same (s : St) (b : Nat) (o : AObj) : (s.upd b o).heap b = o := by simp [St.upd]
theorem heap_upd_ne (s : St) {b b' : Nat} (o : AObj) (h : b' ≠ b) : (s.upd b o).heap b' = s.heap b' := by simp only [St.upd]; rw [if_neg h]
theorem next_upd (s : St) (b : Nat) (o : AObj) : (s.upd b o).next = s.next := rfl
theorem add_lit (b o n : Nat) : (⟨b, o, none⟩ : Addr).add n = ⟨b, o + n, none⟩ := by
  unfold Addr.add; split
  · rename_i h; subst h; rfl
  · rfl

theorem ld1_row {base : Nat} {s : St} {b o : Nat} {c : List Value} {v : Value} (h : s.heap b = .row c) (hv : c[o]? = some v) (hb : base ≤ b ∨ oldOk base v = true) : ld1 base s ⟨b, o, none⟩ = some v := by
  simp only [ld1, h, AObj.cells?, if_true, hv]; rw [if_pos hb]
theorem ld1_grown {base : Nat} {s : St} {b o z : Nat} {c : List Value} {v : Value} (h : s.heap b = .grown c z) (hv : c[o]? = some v) (hb : base ≤ b ∨ oldOk base v = true) : ld1 base s ⟨b, o, none⟩ = some v := by
  simp only [ld1, h, AObj.cells?, if_true, hv]; rw [if_pos hb]
theorem st1_row {base : Nat} {s : St} {b o : Nat} {c : List Value} {v : Value} (h : s.heap b = .row c) (ho : o < c.length) (hb : base ≤ b) : stN base s ⟨b, o, none⟩ [v] = some (s.upd b (.row (c.set o v))) := by
  simp [stN, h, AObj.cells?, AObj.withCells, setL, hb]; omega
theorem st1_grown {base : Nat} {s : St} {b o z : Nat} {c : List Value} {v : Value} (h : s.heap b = .grown c z) (ho : o < c.length) (hb : base ≤ b) : stN base s ⟨b, o, none⟩ [v] = some (s.upd b (.grown (c.set o v) z)) := by
  simp [stN, h, AObj.cells?, AObj.withCells, setL, hb]; omega
def nums (k : IntKind) (l : List Int) : List Value := l.map (.int k)
end Go.Ab
