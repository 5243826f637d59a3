/- The statement TopStamps, as it is given, out of its law as a run of the abstract machine. -/
import Derived.Test.YtgmocacalgiaiaaRow0
import Derived.Test.YtgmocacalgiaiaaTopStamps
namespace Go.Proofs.Ytgmocacalgiaiaa
open Go.ChangeShapes Go.WideShapes Go.ChangeAt Go.RowKit Go.Ab
set_option maxRecDepth 100000 in
theorem topStamps_lifted (os : Os) (started : os.Started) (H : Type) (enc : TypeId × Value → H) :
    ReturnsInHanded {} Try.checked os 3 .any (Rows.topStampsSpec.pre6 enc Try.prog Try.f3 Rows.topStampsRow.domain false) (Rows.topStampsSpec.post enc Try.prog Try.f3 false true false false) :=
  row_lift (C := Try.checked) (G := 0) own started (by kernel_rfl) Try.func3
    (ChangeSpec.witness6 (enc := enc) (C := Try.checked) false ⟨#[], #[.slice none 0 0, .int .u8 0, .int .u8 0], []⟩ 8 (by kernel_rfl) (by kernel_rfl) (by kernel_rfl) (by kernel_rfl)) rfl
    (fun ds h => by match ds, h with | [a, b, c], _ => rfl) (by kernel_rfl) boolT laidOut (by kernel_rfl) (by kernel_rfl) mixed okProg (fun _ _ => Nat.zero_le _) topStamps_law
theorem TopStamps_holds : Rows.TopStampsSaid :=
  OpenClaim.holds_of_wide 3 Try.f3 rfl rfl rfl rfl rfl rfl rfl ⟨rfl, rfl, rfl, rfl, rfl⟩ rfl rfl rfl rfl rfl (by kernel_rfl) Try.func3 (by kernel_rfl)
    (of_decide_eq_true (by kernel_rfl)) (by unfold Func.isWrapper; first | (rw [if_pos (by decide +kernel)]; kernel_rfl) | (rw [if_neg (by decide +kernel)]; exact ⟨rfl, rfl⟩))
    (fun os started H enc _ => topStamps_lifted os started H enc)
end Go.Proofs.Ytgmocacalgiaiaa
