/- Loops over functions that yield, which may be left. -/
import Derived.Test.YthjpfllmecpliaaDoorAbC
set_option linter.all false
namespace Go.Ab
open Go Go.RowKit
/-- How a loop's body ends: the code that is to come, and whether it goes on. -/
def endOf : Exit → Option (Option Code)
  | .normal => some none
  | .ret => some (some .ret)
  | .exit i => some (some (.exit i))
  | _ => none
theorem W_rangeFuncG {P : Program} {base : Nat} {e : Env} {s : St} {Q : Exit → Env → St → Prop} {f : Operand} {fn : FuncId} {args : Array Value} {ps : Array Tmp} {asg body : Code} (hf : ev e f = .func (.func fn) #[] args)
    (h : WC P base fn (.func (.yield s.next) #[] #[] :: args.toList) (s.alloc (.loop ⟨e, ps, asg, body, .ready, none⟩)) (fun v s1 => ∃ r x, s1.heap s.next = .loop r ∧ r.state ≠ .busy ∧ endOf x = some r.pending ∧ Q x e (s1.upd s.next .gone))) :
    W P base (.rangeFunc f ps asg body) e s Q := by
  obtain ⟨v, s1, h1, r, x, h2, h3, h4, h5⟩ := h
  cases x with
  | normal => exact ⟨_, _, _, .rangeFunc hf h1 h2 rfl h3 (by simp [endOf] at h4; exact h4.symm), h5⟩
  | ret => exact ⟨_, _, _, .rangeFunc_out hf h1 h2 h3 (by simp [endOf] at h4; exact h4.symm) (.inl rfl) .ret, h5⟩
  | exit i => exact ⟨_, _, _, .rangeFunc_out hf h1 h2 h3 (by simp [endOf] at h4; exact h4.symm) (.inr ⟨i, rfl⟩) .exit, h5⟩
  | _ => simp [endOf] at h4
/-- The record of a loop when its body has ended so. -/
def recOf (e : Env) (ps : Array Tmp) (asg body : Code) (j : Option Code) : AObj := .loop ⟨e, ps, asg, body, if j.isNone then .ready else .done, j⟩
theorem WF_yieldG {P : Program} {base l : Nat} {s : St} {R : Value → St → Prop} {args : List Value} {e : Env} {ps : Array Tmp} {asg body : Code} (hl : s.heap l = .loop ⟨e, ps, asg, body, .ready, none⟩) (hn : ps.size = args.length) (hb : base ≤ l)
    (h : W P base asg (putAll e (ps.toList.zip args)) s (fun x e1 s1 => x = .normal ∧ s1.heap l = .loop ⟨e, ps, asg, body, .ready, none⟩ ∧
      W P base body e1 (s1.upd l (.loop ⟨e, ps, asg, body, .busy, none⟩)) (fun x e2 s2 => s2.heap l = .loop ⟨e, ps, asg, body, .busy, none⟩ ∧ ∃ j, endOf x = some j ∧ R (.bool j.isNone) (s2.upd l (recOf e ps asg body j))))) :
    WF P base (.yield l) args s R := by
  obtain ⟨x, e1, s1, h1, rfl, h2, x2, e2, s2, h3, h4, j, h5, h6⟩ := h
  have hx : (x2 = .normal ∧ j = none) ∨ (x2 = .ret ∧ j = some .ret) ∨ ∃ i, x2 = .exit i ∧ j = some (.exit i) := by
    cases x2 <;> simp [endOf] at h5
    · exact .inl ⟨rfl, h5.symm⟩
    · exact .inr (.inr ⟨_, rfl, h5.symm⟩)
    · exact .inr (.inl ⟨rfl, h5.symm⟩)
  exact ⟨_, _, .yield hl hn rfl hb h1 h2 h3 h4 j hx, h6⟩
end Go.Ab
