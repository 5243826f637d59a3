/- The statement StrandWire, as it is given, out of its law as a run of the abstract machine. -/
import Derived.Test.YtdllcipkdbhhlaaRow0
import Derived.Test.YtdllcipkdbhhlaaLawWire
namespace Go.Proofs.Ytdllcipkdbhhlaa
open Go.ChangeShapes Go.WideShapes Go.ChangeAt Go.RowKit Go.Ab
set_option maxRecDepth 100000 in
theorem strandWire_lifted (os : Os) (started : os.Started) (H : Type) (enc : TypeId × Value → H) :
    ReturnsInHanded {} Try.checked os 4 .any (Rows.strandWireSpec.pre6 enc Try.prog Try.f4 Rows.strandWireRow.domain false) (Rows.strandWireSpec.post enc Try.prog Try.f4 false true false false) :=
  row_lift (C := Try.checked) (G := 0) own started (by kernel_rfl) Try.func4
    (ChangeSpec.witness6 (enc := enc) (C := Try.checked) false ⟨#[], #[.slice none 0 0], []⟩ 8 (by kernel_rfl) (by kernel_rfl) (by kernel_rfl) (by kernel_rfl)) rfl
    (fun ds h => by match ds, h with | [a], _ => rfl) (by kernel_rfl) boolT laidOut (by kernel_rfl) (by kernel_rfl) mixed okProg (fun _ _ => Nat.zero_le _) strandWire_law
theorem StrandWire_holds : Rows.StrandWireSaid :=
  OpenClaim.holds_of_wide 4 Try.f4 rfl rfl rfl rfl rfl rfl rfl ⟨rfl, rfl, rfl, rfl, rfl⟩ rfl rfl rfl rfl rfl (by kernel_rfl) Try.func4 (by kernel_rfl)
    (of_decide_eq_true (by kernel_rfl)) (by unfold Func.isWrapper; first | (rw [if_pos (by decide +kernel)]; kernel_rfl) | (rw [if_neg (by decide +kernel)]; exact ⟨rfl, rfl⟩))
    (fun os started H enc _ => strandWire_lifted os started H enc)
end Go.Proofs.Ytdllcipkdbhhlaa
