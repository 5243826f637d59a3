/- Loops over functions that yield. -/
import Derived.Test.YtoldihdlpdccnaaAb30
set_option linter.unusedVariables false
set_option linter.unusedSimpArgs false
namespace Go.Ab
open Go Go.RowKit
theorem W_rangeFunc {P : Program} {base : Nat} {e : Env} {s : St} {Q : Exit → Env → St → Prop} {f : Operand} {fn : FuncId} {args : Array Value} {ps : Array Tmp} {asg body : Code} (hf : ev e f = .func (.func fn) #[] args)
    (h : WC P base fn (.func (.yield s.next) #[] #[] :: args.toList) (s.alloc (.loop ⟨e, ps, asg, body, .ready, none⟩)) (fun v s1 => ∃ r, s1.heap s.next = .loop r ∧ r.state ≠ .busy ∧ r.pending = none ∧ Q .normal e (s1.upd s.next .gone))) :
    W P base (.rangeFunc f ps asg body) e s Q := by
  obtain ⟨v, s1, h1, r, h2, h3, h4, h5⟩ := h
  exact ⟨_, _, _, .rangeFunc hf h1 h2 rfl h3 h4, h5⟩
theorem WF_yield {P : Program} {base l : Nat} {s : St} {R : Value → St → Prop} {args : List Value} {e : Env} {ps : Array Tmp} {asg body : Code} (hl : s.heap l = .loop ⟨e, ps, asg, body, .ready, none⟩) (hn : ps.size = args.length) (hb : base ≤ l)
    (h : W P base asg (putAll e (ps.toList.zip args)) s (fun x e1 s1 => x = .normal ∧ s1.heap l = .loop ⟨e, ps, asg, body, .ready, none⟩ ∧
      W P base body e1 (s1.upd l (.loop ⟨e, ps, asg, body, .busy, none⟩)) (fun x e2 s2 => x = .normal ∧ s2.heap l = .loop ⟨e, ps, asg, body, .busy, none⟩ ∧ R (.bool true) (s2.upd l (.loop ⟨e, ps, asg, body, .ready, none⟩))))) :
    WF P base (.yield l) args s R := by
  obtain ⟨x, e1, s1, h1, rfl, h2, x2, e2, s2, h3, rfl, h4, h5⟩ := h
  exact ⟨_, _, .yield hl hn rfl hb h1 h2 h3 h4 none (.inl ⟨rfl, rfl⟩), h5⟩
end Go.Ab
