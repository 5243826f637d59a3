/- The statement StreamFinds, as it is given: the row, and its tied card, out of its law as a run of the abstract machine. -/
import Derived.Test.YtfbkiocijnjmgaaDoorRow0
import Derived.Test.YtfbkiocijnjmgaaDoorTie
import Derived.Test.YtfbkiocijnjmgaaDoorCards
import Derived.SevenTiedAt
import Derived.Test.YtfbkiocijnjmgaaDoorLawFinds
namespace Go.Proofs.YtfbkiocijnjmgaaDoor
open Go Go.ChangeShapes Go.WideShapes Go.ChangeAt Go.RowKit Go.Ab
set_option maxRecDepth 100000 in
theorem streamFinds_lifted (os : Os) (started : os.Started) (H : Type) (enc : TypeId × Value → H) :
    ReturnsInHanded {} Tryd.checked os 6 .any (fun w args => (Rows.streamFindsSpec.pre enc Tryd.prog Tryd.f6 [] false w args ∧ laidMetH Tryd.prog laidVars w) ∧ sizedMet enc Tryd.prog Tryd.f6 (OpenSpec.ofChange Rows.streamFindsSpec) false w args)
      (Rows.streamFindsSpec.post enc Tryd.prog Tryd.f6 false true false false) :=
  row_lift_laid (C := Tryd.checked) (G := 1) own started (by kernel_rfl) Tryd.func6
    (ChangeSpec.witness_shaped (enc := enc) (C := Tryd.checked) (os := os) (X := fun w _ => laidMetH Tryd.prog laidVars w) false (World.doorLaid Tryd.prog 400 os) #[.slice none 0 0] 8 rfl (World.shaped_of_RefB (by kernel_rfl) (by kernel_rfl)) (by kernel_rfl) (by kernel_rfl) (by kernel_rfl) (door_met os _)) rfl
    (fun ds h => by match ds, h with | [a], _ => rfl) (by kernel_rfl) boolT laidOut (by kernel_rfl) (by kernel_rfl) mixed okProg1 (fun W h => (of_laid h).2) streamFinds_law
theorem StreamFinds_row : Rows.StreamFindsSaid :=
  OpenClaim.holds_of_wide 6 Tryd.f6 rfl rfl rfl rfl rfl rfl rfl ⟨rfl, rfl, rfl, rfl, rfl⟩ rfl rfl rfl rfl rfl (by kernel_rfl) Tryd.func6 (by kernel_rfl)
    (of_decide_eq_true (by kernel_rfl)) (by unfold Func.isWrapper; first | (rw [if_pos (by decide +kernel)]; kernel_rfl) | (rw [if_neg (by decide +kernel)]; exact ⟨rfl, rfl⟩))
    (fun os started H enc _ => streamFinds_lifted os started H enc)
theorem StreamFinds_holds : Rows.StreamFindsCardSaid :=
  Claim7.holds_tied_plain_at .later [] [.data] true (true, "0f137d54bfbde4b1834fbd0cc8d82ea0d63dee13eb2c5ffb74cfa4f9174e8c74") false
    StreamFinds_row (fun _ h => by cases h) (by kernel_rfl) (fun _ h => by cases h) streamFinds_row_tie rfl ⟨rfl, rfl⟩ (by kernel_rfl) rfl
    (fun f fn hf hfn => by
      obtain rfl : f = 6 := Option.some.inj ((show Tryd.prog.funcNamed "bellbuoy/bellbuoylaw25.StreamFinds" = some 6 by kernel_rfl).symm.trans hf) |>.symm
      obtain rfl : fn = Tryd.f6 := (Option.some.inj (Tryd.func6.symm.trans hfn)).symm
      refine ⟨by kernel_rfl, fun j t ht => ?_⟩
      rw [Tryd.params6] at ht
      have hall : ∀ t ∈ (#[22] : Array TypeId).toList, Tryd.prog.wantsStandIn t = false := by
        intro t ht
        simp only [List.mem_cons, List.not_mem_nil, or_false] at ht
        subst ht
        all_goals kernel_rfl
      exact hall t (by have := Array.mem_of_getElem? ht; simpa using this))
    (by kernel_rfl)
end Go.Proofs.YtfbkiocijnjmgaaDoor
