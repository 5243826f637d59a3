/-
  NARROWER THAN 'FOR EVERY INPUT', by the rows' own cells (each row's printed sentence says how): StreamChecks: laid · StreamJobs: laid · StreamRanks: laid · StreamFinds: laid · StreamLater: laid.
  DERIVED. THE GIVEN ROWS OF THIS SEAT. 5 by the template 'for every input the law returns true; each argument reads behind the call as it read before'; 0 by the template 'total and deterministic' (their statements: YtfbkiocijnjmgaaDoorTotals.lean).
  GIVEN WITH THE SEED: the statements are not yours to turn. If you find one false, say at which input.
  Laid BY PROGRAM, IN A SANDBOX (cutbox-rows.mjs): the forced cells as the released guide's own fill.sh prints them over the translation 5aa80143c5553ff0… (all of the seat's roots in one cut). By AI agents, Wed Nov 11 2026. No macro, syntax, notation, axiom, sorry.
-/
import Derived.Test.YtfbkiocijnjmgaaDoorChecked
import GoSem.Claim
import GoSem.ClaimJoined
import GoSem.ClaimMapViews
import Derived.JoinedTies
import Derived.KernelRfl
namespace Go.Proofs.YtfbkiocijnjmgaaDoor
/- THE CELL 'sum', in the pinned program and in every row, IS THE sha256 OF THE DUMP (.gsa) THAT YtfbkiocijnjmgaaDoorProg.lean LOADS. Nothing in Lean hashes anything: it is a label: what it is worth is what the hold of that sum in a sandbox is worth. -/
noncomputable def Tryd.pinned : Pinned := { name := "ytfbkiocijnjmgaadoor", sum := "5aa80143c5553ff0c0860a373be8608072fc782f2631f49661263213a99071dd", checked := Tryd.checked }
namespace Rows
def none {H : Type} : Left H := { results := [], args := [] }

/- WHAT THE LISTED PACKAGE-LEVEL VARIABLES READ AS WHEN THE CALL BEGINS. Each datum BY PROGRAM (the guide's laid-datum.mjs) off the statement by which the dump's own 'gosem.cut.vars' lays the variable. In a bare row this is a premise. The card (YtfbkiocijnjmgaaDoorCards.lean) ties it to the program's text. -/
def laid_bellbuoy_crc_divisor {H : Type} : DataW H := .agg [.lit (.int .u8 1), .lit (.int .u8 1), .lit (.int .u8 0), .lit (.int .u8 0), .lit (.int .u8 0), .lit (.int .u8 1), .lit (.int .u8 0), .lit (.int .u8 1), .lit (.int .u8 1), .lit (.int .u8 0), .lit (.int .u8 0), .lit (.int .u8 1), .lit (.int .u8 1), .lit (.int .u8 0), .lit (.int .u8 0), .lit (.int .u8 1)]

/-- 'bellbuoylaw25.StreamChecks': WHATEVER THE INPUT: true; the input reads as it did. -/
def streamChecksSpec : ChangeSpec := { name := "streamChecks", fn := fun _ => fun
  | [d1, d2, d3] => { results := [.lit (.bool true)], args := [d1, d2, d3] }
  | _ => none }
def streamChecksRow : OpenClaim := { program := "ytfbkiocijnjmgaadoor", sum := "5aa80143c5553ff0c0860a373be8608072fc782f2631f49661263213a99071dd", func := "bellbuoy/bellbuoylaw25.StreamChecks", spec := "streamChecks", unfollowed := true, recurses := true, named := ["bellbuoy/crc.divisor"], apart := false, laid := [("bellbuoy/crc.divisor", laid_bellbuoy_crc_divisor)] }
def StreamChecksSaid : Prop := streamChecksRow.holds Tryd.pinned (OpenSpec.ofChange streamChecksSpec)

/-- ITS FALSE NEIGHBOUR: 'it returns false'. Refute it at one input. -/
def streamChecksWrong : ChangeSpec := { name := "streamChecks", fn := fun _ => fun
  | [d1, d2, d3] => { results := [.lit (.bool false)], args := [d1, d2, d3] }
  | _ => none }
def StreamChecksWrongFalsely : Prop := streamChecksRow.holds Tryd.pinned (OpenSpec.ofChange streamChecksWrong)

/-- 'bellbuoylaw25.StreamJobs': WHATEVER THE INPUT: true; the input reads as it did. -/
def streamJobsSpec : ChangeSpec := { name := "streamJobs", fn := fun _ => fun
  | [d1, d2, d3] => { results := [.lit (.bool true)], args := [d1, d2, d3] }
  | _ => none }
def streamJobsRow : OpenClaim := { program := "ytfbkiocijnjmgaadoor", sum := "5aa80143c5553ff0c0860a373be8608072fc782f2631f49661263213a99071dd", func := "bellbuoy/bellbuoylaw25.StreamJobs", spec := "streamJobs", unfollowed := true, recurses := true, named := ["bellbuoy/crc.divisor"], apart := false, laid := [("bellbuoy/crc.divisor", laid_bellbuoy_crc_divisor)] }
def StreamJobsSaid : Prop := streamJobsRow.holds Tryd.pinned (OpenSpec.ofChange streamJobsSpec)

/-- ITS FALSE NEIGHBOUR: 'it returns false'. Refute it at one input. -/
def streamJobsWrong : ChangeSpec := { name := "streamJobs", fn := fun _ => fun
  | [d1, d2, d3] => { results := [.lit (.bool false)], args := [d1, d2, d3] }
  | _ => none }
def StreamJobsWrongFalsely : Prop := streamJobsRow.holds Tryd.pinned (OpenSpec.ofChange streamJobsWrong)

/-- 'bellbuoylaw25.StreamRanks': WHATEVER THE INPUT: true; the input reads as it did. -/
def streamRanksSpec : ChangeSpec := { name := "streamRanks", fn := fun _ => fun
  | [d] => { results := [.lit (.bool true)], args := [d] }
  | _ => none }
def streamRanksRow : OpenClaim := { program := "ytfbkiocijnjmgaadoor", sum := "5aa80143c5553ff0c0860a373be8608072fc782f2631f49661263213a99071dd", func := "bellbuoy/bellbuoylaw25.StreamRanks", spec := "streamRanks", unfollowed := true, recurses := true, named := ["bellbuoy/crc.divisor"], apart := false, laid := [("bellbuoy/crc.divisor", laid_bellbuoy_crc_divisor)] }
def StreamRanksSaid : Prop := streamRanksRow.holds Tryd.pinned (OpenSpec.ofChange streamRanksSpec)

/-- ITS FALSE NEIGHBOUR: 'it returns false'. Refute it at one input. -/
def streamRanksWrong : ChangeSpec := { name := "streamRanks", fn := fun _ => fun
  | [d] => { results := [.lit (.bool false)], args := [d] }
  | _ => none }
def StreamRanksWrongFalsely : Prop := streamRanksRow.holds Tryd.pinned (OpenSpec.ofChange streamRanksWrong)

/-- 'bellbuoylaw25.StreamFinds': WHATEVER THE INPUT: true; the input reads as it did. -/
def streamFindsSpec : ChangeSpec := { name := "streamFinds", fn := fun _ => fun
  | [d] => { results := [.lit (.bool true)], args := [d] }
  | _ => none }
def streamFindsRow : OpenClaim := { program := "ytfbkiocijnjmgaadoor", sum := "5aa80143c5553ff0c0860a373be8608072fc782f2631f49661263213a99071dd", func := "bellbuoy/bellbuoylaw25.StreamFinds", spec := "streamFinds", unfollowed := true, recurses := true, named := ["bellbuoy/crc.divisor"], apart := false, laid := [("bellbuoy/crc.divisor", laid_bellbuoy_crc_divisor)] }
def StreamFindsSaid : Prop := streamFindsRow.holds Tryd.pinned (OpenSpec.ofChange streamFindsSpec)

/-- ITS FALSE NEIGHBOUR: 'it returns false'. Refute it at one input. -/
def streamFindsWrong : ChangeSpec := { name := "streamFinds", fn := fun _ => fun
  | [d] => { results := [.lit (.bool false)], args := [d] }
  | _ => none }
def StreamFindsWrongFalsely : Prop := streamFindsRow.holds Tryd.pinned (OpenSpec.ofChange streamFindsWrong)

/-- 'bellbuoylaw25.StreamLater': WHATEVER THE INPUT: true; the input reads as it did. -/
def streamLaterSpec : ChangeSpec := { name := "streamLater", fn := fun _ => fun
  | [d1, d2, d3] => { results := [.lit (.bool true)], args := [d1, d2, d3] }
  | _ => none }
def streamLaterRow : OpenClaim := { program := "ytfbkiocijnjmgaadoor", sum := "5aa80143c5553ff0c0860a373be8608072fc782f2631f49661263213a99071dd", func := "bellbuoy/bellbuoylaw25.StreamLater", spec := "streamLater", unfollowed := true, recurses := true, named := ["bellbuoy/crc.divisor"], apart := false, laid := [("bellbuoy/crc.divisor", laid_bellbuoy_crc_divisor)] }
def StreamLaterSaid : Prop := streamLaterRow.holds Tryd.pinned (OpenSpec.ofChange streamLaterSpec)

/-- ITS FALSE NEIGHBOUR: 'it returns false'. Refute it at one input. -/
def streamLaterWrong : ChangeSpec := { name := "streamLater", fn := fun _ => fun
  | [d1, d2, d3] => { results := [.lit (.bool false)], args := [d1, d2, d3] }
  | _ => none }
def StreamLaterWrongFalsely : Prop := streamLaterRow.holds Tryd.pinned (OpenSpec.ofChange streamLaterWrong)

/- THE SECOND FORM. 'bulk': how many values and letters a reading holds, each counted each time it is reached (what is shared counts as often as it is met; a slice's spare places count too). A statement '..UptoSaid' is the law's where the arguments, and the package variables that the reading takes, are together of bulk at most 1048576: NARROWER than '..Said'. Prove '..Said' where nothing that the law and all that it calls make is longer than what came in: it says more and counts as full. Else prove '..UptoSaid'. A law counts once. -/
mutual
def uptoBulk {H : Type} : DataW H → Nat
  | .lit (.string bytes) => bytes.length + 1
  | .lit _ => 1
  | .nil => 1
  | .ptr d => uptoBulk d + 1
  | .slice elems spare => uptoBulkAll elems + uptoBulkAll spare + 1
  | .agg parts => uptoBulkAll parts + 1
  | .iface _ d => uptoBulk d + 1
  | .map entries => uptoBulkEntries entries + 1
  | .held _ => 1
def uptoBulkAll {H : Type} : List (DataW H) → Nat
  | [] => 0
  | d :: r => uptoBulk d + uptoBulkAll r
def uptoBulkEntries {H : Type} : List (Lit × DataW H) → Nat
  | [] => 0
  | x :: r => uptoBulkEntry x + uptoBulkEntries r
def uptoBulkEntry {H : Type} : Lit × DataW H → Nat
  | (.string bytes, d) => bytes.length + uptoBulk d + 1
  | (_, d) => uptoBulk d + 1
 end
def uptoSmall : (H : Type) → List (DataW H) → Bool := fun _ ds => decide (uptoBulkAll ds ≤ 1048576)
def OpenSpec.upto (s : _root_.Go.ChangeSpec) : _root_.Go.OpenSpec := { _root_.Go.OpenSpec.ofChange s with cond := some uptoSmall }

/-- 'bellbuoylaw25.StreamChecks', WHERE WHAT IT READS IS OF BULK AT MOST 1048576: true; the input reads as it did. -/
def streamChecksUptoRow : OpenClaim := { program := "ytfbkiocijnjmgaadoor", sum := "5aa80143c5553ff0c0860a373be8608072fc782f2631f49661263213a99071dd", func := "bellbuoy/bellbuoylaw25.StreamChecks", spec := "streamChecks", unfollowed := true, recurses := true, named := ["bellbuoy/crc.divisor"], apart := false, laid := [("bellbuoy/crc.divisor", laid_bellbuoy_crc_divisor)], narrowed := true }
def StreamChecksUptoSaid : Prop := streamChecksUptoRow.holds Tryd.pinned (OpenSpec.upto streamChecksSpec)

/-- 'bellbuoylaw25.StreamJobs', WHERE WHAT IT READS IS OF BULK AT MOST 1048576: true; the input reads as it did. -/
def streamJobsUptoRow : OpenClaim := { program := "ytfbkiocijnjmgaadoor", sum := "5aa80143c5553ff0c0860a373be8608072fc782f2631f49661263213a99071dd", func := "bellbuoy/bellbuoylaw25.StreamJobs", spec := "streamJobs", unfollowed := true, recurses := true, named := ["bellbuoy/crc.divisor"], apart := false, laid := [("bellbuoy/crc.divisor", laid_bellbuoy_crc_divisor)], narrowed := true }
def StreamJobsUptoSaid : Prop := streamJobsUptoRow.holds Tryd.pinned (OpenSpec.upto streamJobsSpec)

/-- 'bellbuoylaw25.StreamRanks', WHERE WHAT IT READS IS OF BULK AT MOST 1048576: true; the input reads as it did. -/
def streamRanksUptoRow : OpenClaim := { program := "ytfbkiocijnjmgaadoor", sum := "5aa80143c5553ff0c0860a373be8608072fc782f2631f49661263213a99071dd", func := "bellbuoy/bellbuoylaw25.StreamRanks", spec := "streamRanks", unfollowed := true, recurses := true, named := ["bellbuoy/crc.divisor"], apart := false, laid := [("bellbuoy/crc.divisor", laid_bellbuoy_crc_divisor)], narrowed := true }
def StreamRanksUptoSaid : Prop := streamRanksUptoRow.holds Tryd.pinned (OpenSpec.upto streamRanksSpec)

/-- 'bellbuoylaw25.StreamFinds', WHERE WHAT IT READS IS OF BULK AT MOST 1048576: true; the input reads as it did. -/
def streamFindsUptoRow : OpenClaim := { program := "ytfbkiocijnjmgaadoor", sum := "5aa80143c5553ff0c0860a373be8608072fc782f2631f49661263213a99071dd", func := "bellbuoy/bellbuoylaw25.StreamFinds", spec := "streamFinds", unfollowed := true, recurses := true, named := ["bellbuoy/crc.divisor"], apart := false, laid := [("bellbuoy/crc.divisor", laid_bellbuoy_crc_divisor)], narrowed := true }
def StreamFindsUptoSaid : Prop := streamFindsUptoRow.holds Tryd.pinned (OpenSpec.upto streamFindsSpec)

/-- 'bellbuoylaw25.StreamLater', WHERE WHAT IT READS IS OF BULK AT MOST 1048576: true; the input reads as it did. -/
def streamLaterUptoRow : OpenClaim := { program := "ytfbkiocijnjmgaadoor", sum := "5aa80143c5553ff0c0860a373be8608072fc782f2631f49661263213a99071dd", func := "bellbuoy/bellbuoylaw25.StreamLater", spec := "streamLater", unfollowed := true, recurses := true, named := ["bellbuoy/crc.divisor"], apart := false, laid := [("bellbuoy/crc.divisor", laid_bellbuoy_crc_divisor)], narrowed := true }
def StreamLaterUptoSaid : Prop := streamLaterUptoRow.holds Tryd.pinned (OpenSpec.upto streamLaterSpec)

end Rows
end Go.Proofs.YtfbkiocijnjmgaaDoor
