/-
  DERIVED. GIVEN WITH THE SEED: THE CARDS: each row of YtlhoogdikhbemaaDoorRows.lean that lists a variable, with what it lists TIED to the program's text (the seventh form; the later family's looks); each row that meets fmt, with fmt's text TOLD by the authors' own Lean function (tested against real Go, not proved from fmt's source: count such statements apart). THE CARD IS WHAT COUNTS. Prove the row's statement (the work); the ties are given (YtlhoogdikhbemaaDoorTie.lean); close each card by the builder's one call (the guide's Derived/Test/ToyasCard.lean, 'card_holds'). Laid BY PROGRAM, IN A SANDBOX (cutbox-door.mjs). By AI agents, Wed Nov 11 2026. No macro, syntax, notation, axiom, sorry.
-/
import Derived.Test.YtlhoogdikhbemaaDoorRows
import GoSem.ClaimSeven
namespace Go.Proofs.YtlhoogdikhbemaaDoor
namespace Rows

/-- THE TIED CARD OF 'bellbuoylaw35.BusyIs'. -/
def busyIsCard : Claim7 := { stood := { row := busyIsRow, standIns := [], harness := (true, "3d188dd77d82f613040e817b6c2c38fb77a10ef9fe99267ecf6167131c00cf74"), looks := false }, kinds := [], alts := [], laidByText := true, laidKinds := [.data], laidTests := true, laidLooks := .later }
def BusyIsCardSaid : Prop := Claim7.holds Tryd.pinned (.plain (OpenSpec.ofChange busyIsSpec)) busyIsCard

/-- THE TIED CARD OF 'bellbuoylaw35.BusyBounds'. -/
def busyBoundsCard : Claim7 := { stood := { row := busyBoundsRow, standIns := [], harness := (true, "3d188dd77d82f613040e817b6c2c38fb77a10ef9fe99267ecf6167131c00cf74"), looks := false }, kinds := [], alts := [], laidByText := true, laidKinds := [.data], laidTests := true, laidLooks := .later }
def BusyBoundsCardSaid : Prop := Claim7.holds Tryd.pinned (.plain (OpenSpec.ofChange busyBoundsSpec)) busyBoundsCard

/-- THE TIED CARD OF 'bellbuoylaw35.BusySteps'. -/
def busyStepsCard : Claim7 := { stood := { row := busyStepsRow, standIns := [], harness := (true, "3d188dd77d82f613040e817b6c2c38fb77a10ef9fe99267ecf6167131c00cf74"), looks := false }, kinds := [], alts := [], laidByText := true, laidKinds := [.data], laidTests := true, laidLooks := .later }
def BusyStepsCardSaid : Prop := Claim7.holds Tryd.pinned (.plain (OpenSpec.ofChange busyStepsSpec)) busyStepsCard

/-- THE TIED CARD OF 'bellbuoylaw35.BusyMore'. -/
def busyMoreCard : Claim7 := { stood := { row := busyMoreRow, standIns := [], harness := (true, "3d188dd77d82f613040e817b6c2c38fb77a10ef9fe99267ecf6167131c00cf74"), looks := false }, kinds := [], alts := [], laidByText := true, laidKinds := [.data], laidTests := true, laidLooks := .later }
def BusyMoreCardSaid : Prop := Claim7.holds Tryd.pinned (.plain (OpenSpec.ofChange busyMoreSpec)) busyMoreCard

/-- THE SECOND FORM's CARD OF 'bellbuoylaw35.BusyIs'. -/
def busyIsUptoCard : Claim7 := { stood := { row := busyIsUptoRow, standIns := [], harness := (true, "3d188dd77d82f613040e817b6c2c38fb77a10ef9fe99267ecf6167131c00cf74"), looks := false }, kinds := [], alts := [], laidByText := true, laidKinds := [.data], laidTests := true, laidLooks := .later }
def BusyIsUptoCardSaid : Prop := Claim7.holds Tryd.pinned (.plain (OpenSpec.upto busyIsSpec)) busyIsUptoCard

/-- THE SECOND FORM's CARD OF 'bellbuoylaw35.BusyBounds'. -/
def busyBoundsUptoCard : Claim7 := { stood := { row := busyBoundsUptoRow, standIns := [], harness := (true, "3d188dd77d82f613040e817b6c2c38fb77a10ef9fe99267ecf6167131c00cf74"), looks := false }, kinds := [], alts := [], laidByText := true, laidKinds := [.data], laidTests := true, laidLooks := .later }
def BusyBoundsUptoCardSaid : Prop := Claim7.holds Tryd.pinned (.plain (OpenSpec.upto busyBoundsSpec)) busyBoundsUptoCard

/-- THE SECOND FORM's CARD OF 'bellbuoylaw35.BusySteps'. -/
def busyStepsUptoCard : Claim7 := { stood := { row := busyStepsUptoRow, standIns := [], harness := (true, "3d188dd77d82f613040e817b6c2c38fb77a10ef9fe99267ecf6167131c00cf74"), looks := false }, kinds := [], alts := [], laidByText := true, laidKinds := [.data], laidTests := true, laidLooks := .later }
def BusyStepsUptoCardSaid : Prop := Claim7.holds Tryd.pinned (.plain (OpenSpec.upto busyStepsSpec)) busyStepsUptoCard

/-- THE SECOND FORM's CARD OF 'bellbuoylaw35.BusyMore'. -/
def busyMoreUptoCard : Claim7 := { stood := { row := busyMoreUptoRow, standIns := [], harness := (true, "3d188dd77d82f613040e817b6c2c38fb77a10ef9fe99267ecf6167131c00cf74"), looks := false }, kinds := [], alts := [], laidByText := true, laidKinds := [.data], laidTests := true, laidLooks := .later }
def BusyMoreUptoCardSaid : Prop := Claim7.holds Tryd.pinned (.plain (OpenSpec.upto busyMoreSpec)) busyMoreUptoCard
end Rows
end Go.Proofs.YtlhoogdikhbemaaDoor
