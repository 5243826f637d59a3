import Derived.Test.YtghigcdpinogaaaTypes
import Derived.Test.YtghigcdpinogaaaRow0
import Derived.Test.YtghigcdpinogaaaAbC
import Derived.Test.YtghigcdpinogaaaBits
/- The package strand: Of and Number, as contracts. -/
set_option linter.all false
set_option maxRecDepth 20000
namespace Go.Proofs.Ytghigcdpinogaaa
open Go Go.Ab
variable {base : Nat} {s : St} {R : Value → St → Prop}
/-- The cells of a list of bytes. -/
def bC (xs : List Nat) : List Value := xs.map fun (b : Nat) => .int .u8 (b : Int)
theorem bC_len (xs : List Nat) : (bC xs).length = xs.length := by simp [bC]
theorem bC_flat (xs : List Nat) : bC xs = (bL xs).flatten := by
  induction xs with
  | nil => rfl
  | cons x xs ih => simp only [bC, bL, List.map_cons, List.flatten_cons] at *; rw [ih]; rfl
theorem sl_in {b o n c : Nat} {xs : List Nat} {cs : List Value} (h : s.heap b = .row cs) (hn : n = xs.length) (hc : n ≤ c) (hx : (cs.drop o).take n = bC xs) (ho : o + n ≤ cs.length) (hb : base ≤ b) (hlt : b < s.next) : Sl base s 1 (.slice (some ⟨b, o, none⟩) n c) (bL xs) := by
  refine .mk (by rw [bL_len]; exact hn.symm) hc (by simp [bL]) (fun _ => ⟨rfl, hlt, .inl hb, cs, by rw [h]; rfl, ?_⟩) (by unfold kindB; rw [h]) hlt
  rw [← bC_flat, bC_len, ← hn, ← hx]
  unfold getL
  rw [if_pos ho]
end Go.Proofs.Ytghigcdpinogaaa
