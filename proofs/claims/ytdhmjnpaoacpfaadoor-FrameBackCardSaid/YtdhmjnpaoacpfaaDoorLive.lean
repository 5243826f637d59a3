/- live(), run by the kernel. -/
import Derived.Test.YtdhmjnpaoacpfaaDoorTypes
import Derived.Test.YtdhmjnpaoacpfaaDoorRow0
import Derived.Test.YtdhmjnpaoacpfaaDoorAbC
import Derived.Test.YtdhmjnpaoacpfaaDoorPure
import Derived.Test.YtdhmjnpaoacpfaaDoorExtByte
import Derived.Test.YtdhmjnpaoacpfaaDoorAbD
set_option linter.all false
set_option maxRecDepth 20000
namespace Go.Proofs.YtdhmjnpaoacpfaaDoor
open Go Go.Ab
def orc (g : FuncId) (args : List Value) (s : St) : Option Value :=
  cond (Nat.beq g 74) (match args with
    | [.string b, .int .u8 c] => some (.int .i64 (ixB b c))
    | _ => none) none
theorem orc_ok : OrcOk Tryd.prog 2 orc := by
  intro g args s v h
  unfold orc at h
  cases hg : Nat.beq g 74 with
  | false => rw [hg] at h; cases h
  | true =>
    rw [hg, cond_true] at h
    obtain rfl := Nat.eq_of_beq_eq_true hg
    split at h
    · cases h; exact ixb_ev _ _
    · cases h
def H0 (m : Int) : Tq AObj := .node (.node .leaf (.row [.int .i64 m]) .leaf) (.row divC) .leaf
theorem WC_liveF {f : FuncId} (h : ∀ m, fastAt Tryd.prog (H0 m) 2 1000 30 orc f [] isTrueV = true) {base : Nat} [hB : Bok base] {s : St} {R : Value → St → Prop} (hg : s.heap 0 = .row divC) (hg1 : ∃ m, s.heap 1 = .row [.int .i64 m]) (hR : R (.bool true) s) : WC Tryd.prog base f [] s R := by
  obtain ⟨m, hm⟩ := hg1
  have hth : ∀ b, b < 2 → (H0 m).get .gone b = s.heap b := by
    intro b hb
    have h0 : b = 0 ∨ b = 1 := by omega
    rcases h0 with rfl | rfl
    · rw [hg]; rfl
    · rw [hm]; rfl
  exact WC_fastAt orc_ok (.bool true) isTrueV (fun r hr => by cases r <;> first | (simp [isTrueV] at hr; done) | (simp [isTrueV] at hr; rw [hr])) okProg1 rfl rfl (h m) hB.le2 hth hR
theorem live_run : ∀ m, fastAt Tryd.prog (H0 m) 2 1000 30 orc 8 [] isTrueV = true := fun m => by
  set_option maxRecDepth 1000000 in kernel_rfl
theorem live_p {base : Nat} [Bok base] {s : St} {R : Value → St → Prop} (hg : s.heap 0 = .row divC) (hg1 : ∃ m, s.heap 1 = .row [.int .i64 m]) (hR : R (.bool true) s) : WC Tryd.prog base 8 [] s R := WC_liveF live_run hg hg1 hR
end Go.Proofs.YtdhmjnpaoacpfaaDoor
