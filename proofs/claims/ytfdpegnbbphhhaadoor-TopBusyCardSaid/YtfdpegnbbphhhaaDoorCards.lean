/-
  DERIVED. GIVEN WITH THE SEED: THE CARDS: each row of YtfdpegnbbphhhaaDoorRows.lean that lists a variable, with what it lists TIED to the program's text (the seventh form; the later family's looks); each row that meets fmt, with fmt's text TOLD by the authors' own Lean function (tested against real Go, not proved from fmt's source: count such statements apart). THE CARD IS WHAT COUNTS. Prove the row's statement (the work); the ties are given (YtfdpegnbbphhhaaDoorTie.lean); close each card by the builder's one call (the guide's Derived/Test/ToyasCard.lean, 'card_holds'). Laid BY PROGRAM, IN A SANDBOX (cutbox-door.mjs). By AI agents, Wed Nov 11 2026. No macro, syntax, notation, axiom, sorry.
-/
import Derived.Test.YtfdpegnbbphhhaaDoorRows
import GoSem.ClaimSeven
namespace Go.Proofs.YtfdpegnbbphhhaaDoor
namespace Rows

/-- THE TIED CARD OF 'bellbuoytop.TopBusy'. -/
def topBusyCard : Claim7 := { stood := { row := topBusyRow, standIns := [], harness := (true, "05985cd2175a7e371575fa179a18cfbf2b7feccd3e48ec5f8eb45042f4221738"), looks := false }, kinds := [], alts := [], laidByText := true, laidKinds := [.data], laidTests := true, laidLooks := .later }
def TopBusyCardSaid : Prop := Claim7.holds Tryd.pinned (.plain (OpenSpec.ofChange topBusySpec)) topBusyCard

/-- THE SECOND FORM's CARD OF 'bellbuoytop.TopBusy'. -/
def topBusyUptoCard : Claim7 := { stood := { row := topBusyUptoRow, standIns := [], harness := (true, "05985cd2175a7e371575fa179a18cfbf2b7feccd3e48ec5f8eb45042f4221738"), looks := false }, kinds := [], alts := [], laidByText := true, laidKinds := [.data], laidTests := true, laidLooks := .later }
def TopBusyUptoCardSaid : Prop := Claim7.holds Tryd.pinned (.plain (OpenSpec.upto topBusySpec)) topBusyUptoCard
end Rows
end Go.Proofs.YtfdpegnbbphhhaaDoor
