/-
  DERIVED. GIVEN WITH THE SEED: THE CARDS: each row of YtfbkiocijnjmgaaDoorRows.lean that lists a variable, with what it lists TIED to the program's text (the seventh form; the later family's looks); each row that meets fmt, with fmt's text TOLD by the authors' own Lean function (tested against real Go, not proved from fmt's source: count such statements apart). THE CARD IS WHAT COUNTS. Prove the row's statement (the work); the ties are given (YtfbkiocijnjmgaaDoorTie.lean); close each card by the builder's one call (the guide's Derived/Test/ToyasCard.lean, 'card_holds'). Laid BY PROGRAM, IN A SANDBOX (cutbox-door.mjs). By AI agents, Wed Nov 11 2026. No macro, syntax, notation, axiom, sorry.
-/
import Derived.Test.YtfbkiocijnjmgaaDoorRows
import GoSem.ClaimSeven
namespace Go.Proofs.YtfbkiocijnjmgaaDoor
namespace Rows

/-- THE TIED CARD OF 'bellbuoylaw25.StreamChecks'. -/
def streamChecksCard : Claim7 := { stood := { row := streamChecksRow, standIns := [], harness := (true, "0f137d54bfbde4b1834fbd0cc8d82ea0d63dee13eb2c5ffb74cfa4f9174e8c74"), looks := false }, kinds := [], alts := [], laidByText := true, laidKinds := [.data], laidTests := true, laidLooks := .later }
def StreamChecksCardSaid : Prop := Claim7.holds Tryd.pinned (.plain (OpenSpec.ofChange streamChecksSpec)) streamChecksCard

/-- THE TIED CARD OF 'bellbuoylaw25.StreamJobs'. -/
def streamJobsCard : Claim7 := { stood := { row := streamJobsRow, standIns := [], harness := (true, "0f137d54bfbde4b1834fbd0cc8d82ea0d63dee13eb2c5ffb74cfa4f9174e8c74"), looks := false }, kinds := [], alts := [], laidByText := true, laidKinds := [.data], laidTests := true, laidLooks := .later }
def StreamJobsCardSaid : Prop := Claim7.holds Tryd.pinned (.plain (OpenSpec.ofChange streamJobsSpec)) streamJobsCard

/-- THE TIED CARD OF 'bellbuoylaw25.StreamRanks'. -/
def streamRanksCard : Claim7 := { stood := { row := streamRanksRow, standIns := [], harness := (true, "0f137d54bfbde4b1834fbd0cc8d82ea0d63dee13eb2c5ffb74cfa4f9174e8c74"), looks := false }, kinds := [], alts := [], laidByText := true, laidKinds := [.data], laidTests := true, laidLooks := .later }
def StreamRanksCardSaid : Prop := Claim7.holds Tryd.pinned (.plain (OpenSpec.ofChange streamRanksSpec)) streamRanksCard

/-- THE TIED CARD OF 'bellbuoylaw25.StreamFinds'. -/
def streamFindsCard : Claim7 := { stood := { row := streamFindsRow, standIns := [], harness := (true, "0f137d54bfbde4b1834fbd0cc8d82ea0d63dee13eb2c5ffb74cfa4f9174e8c74"), looks := false }, kinds := [], alts := [], laidByText := true, laidKinds := [.data], laidTests := true, laidLooks := .later }
def StreamFindsCardSaid : Prop := Claim7.holds Tryd.pinned (.plain (OpenSpec.ofChange streamFindsSpec)) streamFindsCard

/-- THE TIED CARD OF 'bellbuoylaw25.StreamLater'. -/
def streamLaterCard : Claim7 := { stood := { row := streamLaterRow, standIns := [], harness := (true, "0f137d54bfbde4b1834fbd0cc8d82ea0d63dee13eb2c5ffb74cfa4f9174e8c74"), looks := false }, kinds := [], alts := [], laidByText := true, laidKinds := [.data], laidTests := true, laidLooks := .later }
def StreamLaterCardSaid : Prop := Claim7.holds Tryd.pinned (.plain (OpenSpec.ofChange streamLaterSpec)) streamLaterCard

/-- THE SECOND FORM's CARD OF 'bellbuoylaw25.StreamChecks'. -/
def streamChecksUptoCard : Claim7 := { stood := { row := streamChecksUptoRow, standIns := [], harness := (true, "0f137d54bfbde4b1834fbd0cc8d82ea0d63dee13eb2c5ffb74cfa4f9174e8c74"), looks := false }, kinds := [], alts := [], laidByText := true, laidKinds := [.data], laidTests := true, laidLooks := .later }
def StreamChecksUptoCardSaid : Prop := Claim7.holds Tryd.pinned (.plain (OpenSpec.upto streamChecksSpec)) streamChecksUptoCard

/-- THE SECOND FORM's CARD OF 'bellbuoylaw25.StreamJobs'. -/
def streamJobsUptoCard : Claim7 := { stood := { row := streamJobsUptoRow, standIns := [], harness := (true, "0f137d54bfbde4b1834fbd0cc8d82ea0d63dee13eb2c5ffb74cfa4f9174e8c74"), looks := false }, kinds := [], alts := [], laidByText := true, laidKinds := [.data], laidTests := true, laidLooks := .later }
def StreamJobsUptoCardSaid : Prop := Claim7.holds Tryd.pinned (.plain (OpenSpec.upto streamJobsSpec)) streamJobsUptoCard

/-- THE SECOND FORM's CARD OF 'bellbuoylaw25.StreamRanks'. -/
def streamRanksUptoCard : Claim7 := { stood := { row := streamRanksUptoRow, standIns := [], harness := (true, "0f137d54bfbde4b1834fbd0cc8d82ea0d63dee13eb2c5ffb74cfa4f9174e8c74"), looks := false }, kinds := [], alts := [], laidByText := true, laidKinds := [.data], laidTests := true, laidLooks := .later }
def StreamRanksUptoCardSaid : Prop := Claim7.holds Tryd.pinned (.plain (OpenSpec.upto streamRanksSpec)) streamRanksUptoCard

/-- THE SECOND FORM's CARD OF 'bellbuoylaw25.StreamFinds'. -/
def streamFindsUptoCard : Claim7 := { stood := { row := streamFindsUptoRow, standIns := [], harness := (true, "0f137d54bfbde4b1834fbd0cc8d82ea0d63dee13eb2c5ffb74cfa4f9174e8c74"), looks := false }, kinds := [], alts := [], laidByText := true, laidKinds := [.data], laidTests := true, laidLooks := .later }
def StreamFindsUptoCardSaid : Prop := Claim7.holds Tryd.pinned (.plain (OpenSpec.upto streamFindsSpec)) streamFindsUptoCard

/-- THE SECOND FORM's CARD OF 'bellbuoylaw25.StreamLater'. -/
def streamLaterUptoCard : Claim7 := { stood := { row := streamLaterUptoRow, standIns := [], harness := (true, "0f137d54bfbde4b1834fbd0cc8d82ea0d63dee13eb2c5ffb74cfa4f9174e8c74"), looks := false }, kinds := [], alts := [], laidByText := true, laidKinds := [.data], laidTests := true, laidLooks := .later }
def StreamLaterUptoCardSaid : Prop := Claim7.holds Tryd.pinned (.plain (OpenSpec.upto streamLaterSpec)) streamLaterUptoCard
end Rows
end Go.Proofs.YtfbkiocijnjmgaaDoor
