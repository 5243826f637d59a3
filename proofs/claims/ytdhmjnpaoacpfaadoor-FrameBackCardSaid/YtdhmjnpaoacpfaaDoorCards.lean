/-
  DERIVED. GIVEN WITH THE SEED: THE CARDS: each row of YtdhmjnpaoacpfaaDoorRows.lean that lists a variable, with what it lists TIED to the program's text (the seventh form; the later family's looks); each row that meets fmt, with fmt's text TOLD by the authors' own Lean function (tested against real Go, not proved from fmt's source: count such statements apart). THE CARD IS WHAT COUNTS. Prove the row's statement (the work); the ties are given (YtdhmjnpaoacpfaaDoorTie.lean); close each card by the builder's one call (the guide's Derived/Test/ToyasCard.lean, 'card_holds'). Laid BY PROGRAM, IN A SANDBOX (cutbox-door.mjs). By AI agents, Wed Nov 11 2026. No macro, syntax, notation, axiom, sorry.
-/
import Derived.Test.YtdhmjnpaoacpfaaDoorRows
import GoSem.ClaimSeven
namespace Go.Proofs.YtdhmjnpaoacpfaaDoor
namespace Rows

/-- THE TIED CARD OF 'bellbuoylaw06.FrameIs'. -/
def frameIsCard : Claim7 := { stood := { row := frameIsRow, standIns := [], harness := (true, "4125b5cba66da7901e5ec1d98ff02cf21018e8f1f853a7e2e0e5640dd6cc693e"), looks := false }, kinds := [], alts := [], laidByText := true, laidKinds := [.data], laidTests := true, laidLooks := .later }
def FrameIsCardSaid : Prop := Claim7.holds Tryd.pinned (.plain (OpenSpec.ofChange frameIsSpec)) frameIsCard

/-- THE TIED CARD OF 'bellbuoylaw06.FrameParses'. -/
def frameParsesCard : Claim7 := { stood := { row := frameParsesRow, standIns := [], harness := (true, "4125b5cba66da7901e5ec1d98ff02cf21018e8f1f853a7e2e0e5640dd6cc693e"), looks := false }, kinds := [], alts := [], laidByText := true, laidKinds := [.data], laidTests := true, laidLooks := .later }
def FrameParsesCardSaid : Prop := Claim7.holds Tryd.pinned (.plain (OpenSpec.ofChange frameParsesSpec)) frameParsesCard

/-- THE TIED CARD OF 'bellbuoylaw06.FrameBack'. -/
def frameBackCard : Claim7 := { stood := { row := frameBackRow, standIns := [], harness := (true, "4125b5cba66da7901e5ec1d98ff02cf21018e8f1f853a7e2e0e5640dd6cc693e"), looks := false }, kinds := [], alts := [], laidByText := true, laidKinds := [.data], laidTests := true, laidLooks := .later }
def FrameBackCardSaid : Prop := Claim7.holds Tryd.pinned (.plain (OpenSpec.ofChange frameBackSpec)) frameBackCard

/-- THE TIED CARD OF 'bellbuoylaw06.FrameSizes'. -/
def frameSizesCard : Claim7 := { stood := { row := frameSizesRow, standIns := [], harness := (true, "4125b5cba66da7901e5ec1d98ff02cf21018e8f1f853a7e2e0e5640dd6cc693e"), looks := false }, kinds := [], alts := [], laidByText := true, laidKinds := [.data], laidTests := true, laidLooks := .later }
def FrameSizesCardSaid : Prop := Claim7.holds Tryd.pinned (.plain (OpenSpec.ofChange frameSizesSpec)) frameSizesCard

/-- THE TIED CARD OF 'bellbuoylaw06.FrameFlips'. -/
def frameFlipsCard : Claim7 := { stood := { row := frameFlipsRow, standIns := [], harness := (true, "4125b5cba66da7901e5ec1d98ff02cf21018e8f1f853a7e2e0e5640dd6cc693e"), looks := false }, kinds := [], alts := [], laidByText := true, laidKinds := [.data], laidTests := true, laidLooks := .later }
def FrameFlipsCardSaid : Prop := Claim7.holds Tryd.pinned (.plain (OpenSpec.ofChange frameFlipsSpec)) frameFlipsCard

/-- THE SECOND FORM's CARD OF 'bellbuoylaw06.FrameIs'. -/
def frameIsUptoCard : Claim7 := { stood := { row := frameIsUptoRow, standIns := [], harness := (true, "4125b5cba66da7901e5ec1d98ff02cf21018e8f1f853a7e2e0e5640dd6cc693e"), looks := false }, kinds := [], alts := [], laidByText := true, laidKinds := [.data], laidTests := true, laidLooks := .later }
def FrameIsUptoCardSaid : Prop := Claim7.holds Tryd.pinned (.plain (OpenSpec.upto frameIsSpec)) frameIsUptoCard

/-- THE SECOND FORM's CARD OF 'bellbuoylaw06.FrameParses'. -/
def frameParsesUptoCard : Claim7 := { stood := { row := frameParsesUptoRow, standIns := [], harness := (true, "4125b5cba66da7901e5ec1d98ff02cf21018e8f1f853a7e2e0e5640dd6cc693e"), looks := false }, kinds := [], alts := [], laidByText := true, laidKinds := [.data], laidTests := true, laidLooks := .later }
def FrameParsesUptoCardSaid : Prop := Claim7.holds Tryd.pinned (.plain (OpenSpec.upto frameParsesSpec)) frameParsesUptoCard

/-- THE SECOND FORM's CARD OF 'bellbuoylaw06.FrameBack'. -/
def frameBackUptoCard : Claim7 := { stood := { row := frameBackUptoRow, standIns := [], harness := (true, "4125b5cba66da7901e5ec1d98ff02cf21018e8f1f853a7e2e0e5640dd6cc693e"), looks := false }, kinds := [], alts := [], laidByText := true, laidKinds := [.data], laidTests := true, laidLooks := .later }
def FrameBackUptoCardSaid : Prop := Claim7.holds Tryd.pinned (.plain (OpenSpec.upto frameBackSpec)) frameBackUptoCard

/-- THE SECOND FORM's CARD OF 'bellbuoylaw06.FrameSizes'. -/
def frameSizesUptoCard : Claim7 := { stood := { row := frameSizesUptoRow, standIns := [], harness := (true, "4125b5cba66da7901e5ec1d98ff02cf21018e8f1f853a7e2e0e5640dd6cc693e"), looks := false }, kinds := [], alts := [], laidByText := true, laidKinds := [.data], laidTests := true, laidLooks := .later }
def FrameSizesUptoCardSaid : Prop := Claim7.holds Tryd.pinned (.plain (OpenSpec.upto frameSizesSpec)) frameSizesUptoCard

/-- THE SECOND FORM's CARD OF 'bellbuoylaw06.FrameFlips'. -/
def frameFlipsUptoCard : Claim7 := { stood := { row := frameFlipsUptoRow, standIns := [], harness := (true, "4125b5cba66da7901e5ec1d98ff02cf21018e8f1f853a7e2e0e5640dd6cc693e"), looks := false }, kinds := [], alts := [], laidByText := true, laidKinds := [.data], laidTests := true, laidLooks := .later }
def FrameFlipsUptoCardSaid : Prop := Claim7.holds Tryd.pinned (.plain (OpenSpec.upto frameFlipsSpec)) frameFlipsUptoCard
end Rows
end Go.Proofs.YtdhmjnpaoacpfaaDoor
