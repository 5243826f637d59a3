/-
  No cell of these rows narrows 'for every input' (looked for: loops, veiled, ifaces, maps, wideKeys, modest, calm, conditions, laid).
  DERIVED. THE GIVEN ROWS OF THIS SEAT. 5 by the template 'for every input the law returns true; each argument reads behind the call as it read before'; 0 by the template 'total and deterministic' (their statements: YtdllcipkdbhhlaaTotals.lean).
  GIVEN WITH THE SEED: the statements are not yours to turn. If you find one false, say at which input.
  Laid BY PROGRAM, IN A SANDBOX (cutbox-rows.mjs): the forced cells as the released guide's own fill.sh prints them over the translation 01d1362c2b864719… (all of the seat's roots in one cut). By AI agents, Wed Nov 11 2026. No macro, syntax, notation, axiom, sorry.
-/
import Derived.Test.YtdllcipkdbhhlaaChecked
import GoSem.Claim
import GoSem.ClaimJoined
import GoSem.ClaimMapViews
import Derived.JoinedTies
import Derived.KernelRfl
namespace Go.Proofs.Ytdllcipkdbhhlaa
/- THE CELL 'sum', in the pinned program and in every row, IS THE sha256 OF THE DUMP (.gsa) THAT YtdllcipkdbhhlaaProg.lean LOADS. Nothing in Lean hashes anything: it is a label: what it is worth is what the hold of that sum in a sandbox is worth. -/
noncomputable def Try.pinned : Pinned := { name := "ytdllcipkdbhhlaa", sum := "01d1362c2b8647192d97b995560e3c97f6449cf59e9765ef2005c7d5ca9aa7f2", checked := Try.checked }
namespace Rows
def none {H : Type} : Left H := { results := [], args := [] }

/-- 'bellbuoylaw02.StrandMakes': WHATEVER THE INPUT: true; the input reads as it did. -/
def strandMakesSpec : ChangeSpec := { name := "strandMakes", fn := fun _ => fun
  | [d1, d2, d3] => { results := [.lit (.bool true)], args := [d1, d2, d3] }
  | _ => none }
def strandMakesRow : OpenClaim := { program := "ytdllcipkdbhhlaa", sum := "01d1362c2b8647192d97b995560e3c97f6449cf59e9765ef2005c7d5ca9aa7f2", func := "bellbuoy/bellbuoylaw02.StrandMakes", spec := "strandMakes", unfollowed := true, recurses := true, apart := false }
def StrandMakesSaid : Prop := strandMakesRow.holds Try.pinned (OpenSpec.ofChange strandMakesSpec)

/-- ITS FALSE NEIGHBOUR: 'it returns false'. Refute it at one input. -/
def strandMakesWrong : ChangeSpec := { name := "strandMakes", fn := fun _ => fun
  | [d1, d2, d3] => { results := [.lit (.bool false)], args := [d1, d2, d3] }
  | _ => none }
def StrandMakesWrongFalsely : Prop := strandMakesRow.holds Try.pinned (OpenSpec.ofChange strandMakesWrong)

/-- 'bellbuoylaw02.StrandWire': WHATEVER THE INPUT: true; the input reads as it did. -/
def strandWireSpec : ChangeSpec := { name := "strandWire", fn := fun _ => fun
  | [d] => { results := [.lit (.bool true)], args := [d] }
  | _ => none }
def strandWireRow : OpenClaim := { program := "ytdllcipkdbhhlaa", sum := "01d1362c2b8647192d97b995560e3c97f6449cf59e9765ef2005c7d5ca9aa7f2", func := "bellbuoy/bellbuoylaw02.StrandWire", spec := "strandWire", unfollowed := true, recurses := true, apart := false }
def StrandWireSaid : Prop := strandWireRow.holds Try.pinned (OpenSpec.ofChange strandWireSpec)

/-- ITS FALSE NEIGHBOUR: 'it returns false'. Refute it at one input. -/
def strandWireWrong : ChangeSpec := { name := "strandWire", fn := fun _ => fun
  | [d] => { results := [.lit (.bool false)], args := [d] }
  | _ => none }
def StrandWireWrongFalsely : Prop := strandWireRow.holds Try.pinned (OpenSpec.ofChange strandWireWrong)

/-- 'bellbuoylaw02.StrandAsks': WHATEVER THE INPUT: true; the input reads as it did. -/
def strandAsksSpec : ChangeSpec := { name := "strandAsks", fn := fun _ => fun
  | [d1, d2, d3] => { results := [.lit (.bool true)], args := [d1, d2, d3] }
  | _ => none }
def strandAsksRow : OpenClaim := { program := "ytdllcipkdbhhlaa", sum := "01d1362c2b8647192d97b995560e3c97f6449cf59e9765ef2005c7d5ca9aa7f2", func := "bellbuoy/bellbuoylaw02.StrandAsks", spec := "strandAsks", unfollowed := true, recurses := true, apart := false }
def StrandAsksSaid : Prop := strandAsksRow.holds Try.pinned (OpenSpec.ofChange strandAsksSpec)

/-- ITS FALSE NEIGHBOUR: 'it returns false'. Refute it at one input. -/
def strandAsksWrong : ChangeSpec := { name := "strandAsks", fn := fun _ => fun
  | [d1, d2, d3] => { results := [.lit (.bool false)], args := [d1, d2, d3] }
  | _ => none }
def StrandAsksWrongFalsely : Prop := strandAsksRow.holds Try.pinned (OpenSpec.ofChange strandAsksWrong)

/-- 'bellbuoylaw02.StrandBack': WHATEVER THE INPUT: true; the input reads as it did. -/
def strandBackSpec : ChangeSpec := { name := "strandBack", fn := fun _ => fun
  | [d1, d2, d3] => { results := [.lit (.bool true)], args := [d1, d2, d3] }
  | _ => none }
def strandBackRow : OpenClaim := { program := "ytdllcipkdbhhlaa", sum := "01d1362c2b8647192d97b995560e3c97f6449cf59e9765ef2005c7d5ca9aa7f2", func := "bellbuoy/bellbuoylaw02.StrandBack", spec := "strandBack", unfollowed := true, recurses := true, apart := false }
def StrandBackSaid : Prop := strandBackRow.holds Try.pinned (OpenSpec.ofChange strandBackSpec)

/-- ITS FALSE NEIGHBOUR: 'it returns false'. Refute it at one input. -/
def strandBackWrong : ChangeSpec := { name := "strandBack", fn := fun _ => fun
  | [d1, d2, d3] => { results := [.lit (.bool false)], args := [d1, d2, d3] }
  | _ => none }
def StrandBackWrongFalsely : Prop := strandBackRow.holds Try.pinned (OpenSpec.ofChange strandBackWrong)

/-- 'bellbuoylaw02.StrandCommon': WHATEVER THE INPUT: true; the input reads as it did. -/
def strandCommonSpec : ChangeSpec := { name := "strandCommon", fn := fun _ => fun
  | [d1, d2, d3] => { results := [.lit (.bool true)], args := [d1, d2, d3] }
  | _ => none }
def strandCommonRow : OpenClaim := { program := "ytdllcipkdbhhlaa", sum := "01d1362c2b8647192d97b995560e3c97f6449cf59e9765ef2005c7d5ca9aa7f2", func := "bellbuoy/bellbuoylaw02.StrandCommon", spec := "strandCommon", unfollowed := true, recurses := true, apart := false }
def StrandCommonSaid : Prop := strandCommonRow.holds Try.pinned (OpenSpec.ofChange strandCommonSpec)

/-- ITS FALSE NEIGHBOUR: 'it returns false'. Refute it at one input. -/
def strandCommonWrong : ChangeSpec := { name := "strandCommon", fn := fun _ => fun
  | [d1, d2, d3] => { results := [.lit (.bool false)], args := [d1, d2, d3] }
  | _ => none }
def StrandCommonWrongFalsely : Prop := strandCommonRow.holds Try.pinned (OpenSpec.ofChange strandCommonWrong)

/- THE SECOND FORM. 'bulk': how many values and letters a reading holds, each counted each time it is reached (what is shared counts as often as it is met; a slice's spare places count too). A statement '..UptoSaid' is the law's where the arguments, and the package variables that the reading takes, are together of bulk at most 1048576: NARROWER than '..Said'. Prove '..Said' where nothing that the law and all that it calls make is longer than what came in: it says more and counts as full. Else prove '..UptoSaid'. A law counts once. -/
mutual
def uptoBulk {H : Type} : DataW H → Nat
  | .lit (.string bytes) => bytes.length + 1
  | .lit _ => 1
  | .nil => 1
  | .ptr d => uptoBulk d + 1
  | .slice elems spare => uptoBulkAll elems + uptoBulkAll spare + 1
  | .agg parts => uptoBulkAll parts + 1
  | .iface _ d => uptoBulk d + 1
  | .map entries => uptoBulkEntries entries + 1
  | .held _ => 1
def uptoBulkAll {H : Type} : List (DataW H) → Nat
  | [] => 0
  | d :: r => uptoBulk d + uptoBulkAll r
def uptoBulkEntries {H : Type} : List (Lit × DataW H) → Nat
  | [] => 0
  | x :: r => uptoBulkEntry x + uptoBulkEntries r
def uptoBulkEntry {H : Type} : Lit × DataW H → Nat
  | (.string bytes, d) => bytes.length + uptoBulk d + 1
  | (_, d) => uptoBulk d + 1
 end
def uptoSmall : (H : Type) → List (DataW H) → Bool := fun _ ds => decide (uptoBulkAll ds ≤ 1048576)
def OpenSpec.upto (s : _root_.Go.ChangeSpec) : _root_.Go.OpenSpec := { _root_.Go.OpenSpec.ofChange s with cond := some uptoSmall }

/-- 'bellbuoylaw02.StrandMakes', WHERE WHAT IT READS IS OF BULK AT MOST 1048576: true; the input reads as it did. -/
def strandMakesUptoRow : OpenClaim := { program := "ytdllcipkdbhhlaa", sum := "01d1362c2b8647192d97b995560e3c97f6449cf59e9765ef2005c7d5ca9aa7f2", func := "bellbuoy/bellbuoylaw02.StrandMakes", spec := "strandMakes", unfollowed := true, recurses := true, apart := false, narrowed := true }
def StrandMakesUptoSaid : Prop := strandMakesUptoRow.holds Try.pinned (OpenSpec.upto strandMakesSpec)

/-- 'bellbuoylaw02.StrandWire', WHERE WHAT IT READS IS OF BULK AT MOST 1048576: true; the input reads as it did. -/
def strandWireUptoRow : OpenClaim := { program := "ytdllcipkdbhhlaa", sum := "01d1362c2b8647192d97b995560e3c97f6449cf59e9765ef2005c7d5ca9aa7f2", func := "bellbuoy/bellbuoylaw02.StrandWire", spec := "strandWire", unfollowed := true, recurses := true, apart := false, narrowed := true }
def StrandWireUptoSaid : Prop := strandWireUptoRow.holds Try.pinned (OpenSpec.upto strandWireSpec)

/-- 'bellbuoylaw02.StrandAsks', WHERE WHAT IT READS IS OF BULK AT MOST 1048576: true; the input reads as it did. -/
def strandAsksUptoRow : OpenClaim := { program := "ytdllcipkdbhhlaa", sum := "01d1362c2b8647192d97b995560e3c97f6449cf59e9765ef2005c7d5ca9aa7f2", func := "bellbuoy/bellbuoylaw02.StrandAsks", spec := "strandAsks", unfollowed := true, recurses := true, apart := false, narrowed := true }
def StrandAsksUptoSaid : Prop := strandAsksUptoRow.holds Try.pinned (OpenSpec.upto strandAsksSpec)

/-- 'bellbuoylaw02.StrandBack', WHERE WHAT IT READS IS OF BULK AT MOST 1048576: true; the input reads as it did. -/
def strandBackUptoRow : OpenClaim := { program := "ytdllcipkdbhhlaa", sum := "01d1362c2b8647192d97b995560e3c97f6449cf59e9765ef2005c7d5ca9aa7f2", func := "bellbuoy/bellbuoylaw02.StrandBack", spec := "strandBack", unfollowed := true, recurses := true, apart := false, narrowed := true }
def StrandBackUptoSaid : Prop := strandBackUptoRow.holds Try.pinned (OpenSpec.upto strandBackSpec)

/-- 'bellbuoylaw02.StrandCommon', WHERE WHAT IT READS IS OF BULK AT MOST 1048576: true; the input reads as it did. -/
def strandCommonUptoRow : OpenClaim := { program := "ytdllcipkdbhhlaa", sum := "01d1362c2b8647192d97b995560e3c97f6449cf59e9765ef2005c7d5ca9aa7f2", func := "bellbuoy/bellbuoylaw02.StrandCommon", spec := "strandCommon", unfollowed := true, recurses := true, apart := false, narrowed := true }
def StrandCommonUptoSaid : Prop := strandCommonUptoRow.holds Try.pinned (OpenSpec.upto strandCommonSpec)

end Rows
end Go.Proofs.Ytdllcipkdbhhlaa
