/- Loops by an invariant, and what is told of several things at once. -/
import Derived.Test.YtoldihdlpdccnaaAb26
set_option linter.unusedVariables false
set_option linter.unusedSimpArgs false
namespace Go.Ab
open Go Go.RowKit

theorem W_loop_ind {P : Program} {base : Nat} {a : Code} {Q : Exit → Env → St → Prop} (n : Nat) (I : Nat → Env → St → Prop)
    (step : ∀ i e s, i ≤ n → I i e s → W P base a e s (Th (fun e s => i < n ∧ I (i + 1) e s) Q)) {e : Env} {s : St} (h : I 0 e s) : W P base (.loop a) e s Q := by
  have : ∀ d i, i + d = n → ∀ e s, I i e s → W P base (.loop a) e s Q := by
    intro d
    induction d with
    | zero =>
      intro i hi e s h
      rw [W_loop]
      refine W_mono (step i e s (by omega) h) fun x e s hq => ?_
      cases x with
      | normal => have := hq.1; omega
      | _ => exact hq
    | succ d ih =>
      intro i hi e s h
      rw [W_loop]
      refine W_mono (step i e s (by omega) h) fun x e s hq => ?_
      cases x with
      | normal => exact ih (i + 1) (by omega) e s hq.2
      | _ => exact hq
  exact this n 0 (by omega) e s h
/-- The same; what holds where it is left is said once (J). -/
theorem W_loop_inv {P : Program} {base : Nat} {a : Code} {Q : Exit → Env → St → Prop} (n : Nat) (I : Nat → Env → St → Prop) (J : Exit → Env → St → Prop)
    (step : ∀ i e s, i ≤ n → I i e s → W P base a e s (Th (fun e s => i < n ∧ I (i + 1) e s) J)) {e : Env} {s : St} (h : I 0 e s) (post : ∀ x e s, J x e s → Q x e s) : W P base (.loop a) e s Q :=
  W_mono (W_loop_ind n I step h) post
/-- The same, with what is left as a measure: the invariant says how much. -/
theorem W_loop_dec {P : Program} {base : Nat} {a : Code} {Q : Exit → Env → St → Prop} (I : Nat → Env → St → Prop)
    (step : ∀ d e s, I d e s → W P base a e s (Th (fun e s => ∃ d', d' < d ∧ I d' e s) Q)) {d : Nat} {e : Env} {s : St} (h : I d e s) : W P base (.loop a) e s Q := by
  induction d using Nat.strongRecOn generalizing e s with
  | ind d ih =>
    rw [W_loop]
    refine W_mono (step d e s h) fun x e s hq => ?_
    cases x with
    | normal => obtain ⟨d', h1, h2⟩ := hq; exact ih d' h1 h2
    | _ => exact hq
theorem WC_imp {P : Program} {base : Nat} {f : FuncId} {a : List Value} {s : St} {R R' : Value → St → Prop} (h : WC P base f a s R) (hr : ∀ v s, R v s → R' v s) : WC P base f a s R' := WC_mono h hr
theorem Wif_neg {p : Prop} [Decidable p] {A B : Prop} (h1 : ¬p → A) (h2 : p → B) : Wif (.bool (!decide p)) A B := by
  by_cases h : p <;> simp [Wif, h, h1, h2]
end Go.Ab
