/- What runs in the abstract machine, from a world's own old rows, runs in the model. -/
import Derived.Test.YtoldihdlpdccnaaAb20
set_option linter.unusedVariables false
set_option linter.unusedSimpArgs false
namespace Go.Ab
open Go Go.RowKit

def St0 (w0 : World) : St := ⟨oldObj w0, w0.heap.size⟩
def Mp0 (w0 : World) : Mp := ⟨fun b => if b < w0.heap.size then some (b, 0) else none, fun _ => none, fun _ => 0⟩
theorem Sm0 (w0 : World) : Sm w0 (Mp0 w0) (St0 w0) w0 := by
  refine ⟨Below.refl _ _, Nat.le_refl _, fun b hb => ⟨by simp [Mp0, hb], rfl⟩, fun b hb => rfl, fun b x hb hge => ?_, fun b b' x x' h1 h2 h3 => ?_⟩
  · simp only [Mp0] at hb; rw [if_neg (by omega)] at hb; cases hb
  · simp only [Mp0] at h3; rw [if_neg (by omega)] at h3; cases h3

theorem old_args {w0 : World} : ∀ {args : List Value}, args.all (oldOk w0.heap.size) = true → LR (Mp0 w0) args args := by
  intro args
  induction args with
  | nil => intro _; exact .nil _
  | cons v l ih =>
    intro h
    simp only [List.all_cons, Bool.and_eq_true] at h
    exact .cons (oldVR (Sm0 w0) h.1).1 (ih h.2)
theorem old_agg {w0 : World} {c : Array Value} (h : c.toList.all (oldOk w0.heap.size) = true) : VR (Mp0 w0) (.agg c) (.agg c) :=
  LR.agg (old_args h) fun v hv => (oldVR (Sm0 w0) (List.all_eq_true.1 h v hv)).2
/-- An argument that leads to old rows alone. -/
def argOk (base : Nat) : Value → Bool
  | .agg c => c.toList.all (oldOk base)
  | v => oldOk base v
theorem arg_VR {w0 : World} {v : Value} (h : argOk w0.heap.size v = true) : VR (Mp0 w0) v v := by
  cases v with
  | agg c => exact old_agg h
  | _ => simp only [argOk] at h; exact (oldVR (Sm0 w0) h).1
theorem args_LR {w0 : World} : ∀ {args : List Value}, args.all (argOk w0.heap.size) = true → LR (Mp0 w0) args args := by
  intro args
  induction args with
  | nil => intro _; exact .nil _
  | cons v l ih =>
    intro h
    simp only [List.all_cons, Bool.and_eq_true] at h
    exact .cons (arg_VR h.1) (ih h.2)

theorem calls_of_WC {P : Program} (hm : P.follows .mixedOrders = true) {G : Nat} (hP : progOk G P = true) {w0 : World} (hG : G ≤ w0.heap.size) {f : FuncId} {args : Array Value} (ha : args.toList.all (argOk w0.heap.size) = true)
    (h : WC P w0.heap.size f args.toList (St0 w0) (fun v _ => v = .bool true)) : Calls P f args w0 (fun e w' => e = .returned (.bool true) ∧ Below w0.heap.size w0 w') := by
  obtain ⟨v, s', hE, rfl⟩ := h
  obtain ⟨_, hC⟩ := good hm hE w0 G rfl hP hG (Mp0 w0) w0 args Fence.wide 0 ⟨fun _ => trivial, rfl⟩ (Sm0 w0) (args_LR ha)
  refine (hC.calls fun k d hd => by cases hd).mono fun e w' ⟨v', M', h1, h2, h3, h4⟩ => ⟨?_, h3.below⟩
  cases h4
  exact h1
end Go.Ab
