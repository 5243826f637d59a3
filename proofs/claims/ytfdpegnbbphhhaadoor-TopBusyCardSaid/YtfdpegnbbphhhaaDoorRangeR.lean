/- Loops over functions that yield: the record of a loop as a variable. -/
import Derived.Test.YtfdpegnbbphhhaaDoorRange
set_option linter.all false
namespace Go.Ab
open Go Go.RowKit
theorem W_rangeFuncR {P : Program} {base : Nat} {e : Env} {s : St} {Q : Exit → Env → St → Prop} {f : Operand} {fn : FuncId} {args : Array Value} {ps : Array Tmp} {asg body : Code} (hf : ev e f = .func (.func fn) #[] args)
    (h : ∀ rc : LoopRec, rc.env = e → rc.params = ps → rc.assign = asg → rc.body = body → rc.state = .ready → rc.pending = none →
      WC P base fn (.func (.yield s.next) #[] #[] :: args.toList) (s.alloc (.loop rc)) (fun v s1 => ∃ r x, s1.heap s.next = .loop r ∧ r.state ≠ .busy ∧ endOf x = some r.pending ∧ Q x e (s1.upd s.next .gone))) :
    W P base (.rangeFunc f ps asg body) e s Q := W_rangeFuncG hf (h _ rfl rfl rfl rfl rfl rfl)
/-- The record while the body runs. -/
def LoopRec.on (rc : LoopRec) : LoopRec := { rc with state := .busy }
/-- A body that ends normally: the record is as it was. -/
theorem WF_yieldN {P : Program} {base l : Nat} {s : St} {R : Value → St → Prop} {args : List Value} {rc : LoopRec} (hl : s.heap l = .loop rc) (h1 : rc.state = .ready) (h2 : rc.pending = none) (hn : rc.params.size = args.length) (hb : base ≤ l)
    (h : W P base rc.assign (putAll rc.env (rc.params.toList.zip args)) s (fun x e1 s1 => x = .normal ∧ s1.heap l = .loop rc ∧
      W P base rc.body e1 (s1.upd l (.loop rc.on)) (fun x e2 s2 => s2.heap l = .loop rc.on ∧ x = .normal ∧ R (.bool true) (s2.upd l (.loop rc))))) :
    WF P base (.yield l) args s R := by
  obtain ⟨e, ps, asg, body, st, pe⟩ := rc
  simp only at h1 h2 hn
  subst h1; subst h2
  refine WF_yieldG hl hn hb (W_mono h ?_)
  rintro x e1 s1 ⟨rfl, q1, q2⟩
  refine ⟨rfl, q1, W_mono q2 ?_⟩
  rintro x e2 s2 ⟨q3, rfl, q4⟩
  exact ⟨q3, none, rfl, q4⟩
end Go.Ab
