/- The statement StrandCommon, as it is given, out of its law as a run of the abstract machine. -/
import Derived.Test.YtdllcipkdbhhlaaRow0
import Derived.Test.YtdllcipkdbhhlaaLawCommon
namespace Go.Proofs.Ytdllcipkdbhhlaa
open Go.ChangeShapes Go.WideShapes Go.ChangeAt Go.RowKit Go.Ab
set_option maxRecDepth 100000 in
theorem strandCommon_lifted (os : Os) (started : os.Started) (H : Type) (enc : TypeId × Value → H) :
    ReturnsInHanded {} Try.checked os 7 .any (Rows.strandCommonSpec.pre6 enc Try.prog Try.f7 Rows.strandCommonRow.domain false) (Rows.strandCommonSpec.post enc Try.prog Try.f7 false true false false) :=
  row_lift (C := Try.checked) (G := 0) own started (by kernel_rfl) Try.func7
    (ChangeSpec.witness6 (enc := enc) (C := Try.checked) false ⟨#[], #[.slice none 0 0, .slice none 0 0, .slice none 0 0], []⟩ 8 (by kernel_rfl) (by kernel_rfl) (by kernel_rfl) (by kernel_rfl)) rfl
    (fun ds h => by match ds, h with | [a, b, c], _ => rfl) (by kernel_rfl) boolT laidOut (by kernel_rfl) (by kernel_rfl) mixed okProg (fun _ _ => Nat.zero_le _) strandCommon_law
theorem StrandCommon_holds : Rows.StrandCommonSaid :=
  OpenClaim.holds_of_wide 7 Try.f7 rfl rfl rfl rfl rfl rfl rfl ⟨rfl, rfl, rfl, rfl, rfl⟩ rfl rfl rfl rfl rfl (by kernel_rfl) Try.func7 (by kernel_rfl)
    (of_decide_eq_true (by kernel_rfl)) (by unfold Func.isWrapper; first | (rw [if_pos (by decide +kernel)]; kernel_rfl) | (rw [if_neg (by decide +kernel)]; exact ⟨rfl, rfl⟩))
    (fun os started H enc _ => strandCommon_lifted os started H enc)
end Go.Proofs.Ytdllcipkdbhhlaa
