/-
  No cell of these rows narrows 'for every input' (looked for: loops, veiled, ifaces, maps, wideKeys, modest, calm, conditions, laid).
  DERIVED. THE GIVEN ROWS OF THIS SEAT. 5 by the template 'for every input the law returns true; each argument reads behind the call as it read before'; 0 by the template 'total and deterministic' (their statements: YtobajpopkmmkjaaTotals.lean).
  GIVEN WITH THE SEED: the statements are not yours to turn. If you find one false, say at which input.
  Laid BY PROGRAM, IN A SANDBOX (cutbox-rows.mjs): the forced cells as the released guide's own fill.sh prints them over the translation c93ae764e98a71c0… (all of the seat's roots in one cut). By AI agents, Wed Nov 11 2026. No macro, syntax, notation, axiom, sorry.
-/
import Derived.Test.YtobajpopkmmkjaaChecked
import GoSem.Claim
import GoSem.ClaimJoined
import GoSem.ClaimMapViews
import Derived.JoinedTies
import Derived.KernelRfl
namespace Go.Proofs.Ytobajpopkmmkjaa
/- THE CELL 'sum', in the pinned program and in every row, IS THE sha256 OF THE DUMP (.gsa) THAT YtobajpopkmmkjaaProg.lean LOADS. Nothing in Lean hashes anything: it is a label: what it is worth is what the hold of that sum in a sandbox is worth. -/
noncomputable def Try.pinned : Pinned := { name := "ytobajpopkmmkjaa", sum := "c93ae764e98a71c019240c0b1f6a8570000dbc926533ab5738689bf92a1323e3", checked := Try.checked }
namespace Rows
def none {H : Type} : Left H := { results := [], args := [] }

/-- 'bellbuoylaw23.ClassIs': WHATEVER THE INPUT: true; the input reads as it did. -/
def classIsSpec : ChangeSpec := { name := "classIs", fn := fun _ => fun
  | [d1, d2] => { results := [.lit (.bool true)], args := [d1, d2] }
  | _ => none }
def classIsRow : OpenClaim := { program := "ytobajpopkmmkjaa", sum := "c93ae764e98a71c019240c0b1f6a8570000dbc926533ab5738689bf92a1323e3", func := "bellbuoy/bellbuoylaw23.ClassIs", spec := "classIs", unfollowed := true, recurses := true, apart := false }
def ClassIsSaid : Prop := classIsRow.holds Try.pinned (OpenSpec.ofChange classIsSpec)

/-- ITS FALSE NEIGHBOUR: 'it returns false'. Refute it at one input. -/
def classIsWrong : ChangeSpec := { name := "classIs", fn := fun _ => fun
  | [d1, d2] => { results := [.lit (.bool false)], args := [d1, d2] }
  | _ => none }
def ClassIsWrongFalsely : Prop := classIsRow.holds Try.pinned (OpenSpec.ofChange classIsWrong)

/-- 'bellbuoylaw23.ClassOrders': WHATEVER THE INPUT: true; the input reads as it did. -/
def classOrdersSpec : ChangeSpec := { name := "classOrders", fn := fun _ => fun
  | [d1, d2] => { results := [.lit (.bool true)], args := [d1, d2] }
  | _ => none }
def classOrdersRow : OpenClaim := { program := "ytobajpopkmmkjaa", sum := "c93ae764e98a71c019240c0b1f6a8570000dbc926533ab5738689bf92a1323e3", func := "bellbuoy/bellbuoylaw23.ClassOrders", spec := "classOrders", unfollowed := true, recurses := true, apart := false }
def ClassOrdersSaid : Prop := classOrdersRow.holds Try.pinned (OpenSpec.ofChange classOrdersSpec)

/-- ITS FALSE NEIGHBOUR: 'it returns false'. Refute it at one input. -/
def classOrdersWrong : ChangeSpec := { name := "classOrders", fn := fun _ => fun
  | [d1, d2] => { results := [.lit (.bool false)], args := [d1, d2] }
  | _ => none }
def ClassOrdersWrongFalsely : Prop := classOrdersRow.holds Try.pinned (OpenSpec.ofChange classOrdersWrong)

/-- 'bellbuoylaw23.ClassWire': WHATEVER THE INPUT: true; the input reads as it did. -/
def classWireSpec : ChangeSpec := { name := "classWire", fn := fun _ => fun
  | [d1, d2, d3] => { results := [.lit (.bool true)], args := [d1, d2, d3] }
  | _ => none }
def classWireRow : OpenClaim := { program := "ytobajpopkmmkjaa", sum := "c93ae764e98a71c019240c0b1f6a8570000dbc926533ab5738689bf92a1323e3", func := "bellbuoy/bellbuoylaw23.ClassWire", spec := "classWire", unfollowed := true, recurses := true, apart := false }
def ClassWireSaid : Prop := classWireRow.holds Try.pinned (OpenSpec.ofChange classWireSpec)

/-- ITS FALSE NEIGHBOUR: 'it returns false'. Refute it at one input. -/
def classWireWrong : ChangeSpec := { name := "classWire", fn := fun _ => fun
  | [d1, d2, d3] => { results := [.lit (.bool false)], args := [d1, d2, d3] }
  | _ => none }
def ClassWireWrongFalsely : Prop := classWireRow.holds Try.pinned (OpenSpec.ofChange classWireWrong)

/-- 'bellbuoylaw23.ClassBack': WHATEVER THE INPUT: true; the input reads as it did. -/
def classBackSpec : ChangeSpec := { name := "classBack", fn := fun _ => fun
  | [d1, d2] => { results := [.lit (.bool true)], args := [d1, d2] }
  | _ => none }
def classBackRow : OpenClaim := { program := "ytobajpopkmmkjaa", sum := "c93ae764e98a71c019240c0b1f6a8570000dbc926533ab5738689bf92a1323e3", func := "bellbuoy/bellbuoylaw23.ClassBack", spec := "classBack", unfollowed := true, recurses := true, apart := false }
def ClassBackSaid : Prop := classBackRow.holds Try.pinned (OpenSpec.ofChange classBackSpec)

/-- ITS FALSE NEIGHBOUR: 'it returns false'. Refute it at one input. -/
def classBackWrong : ChangeSpec := { name := "classBack", fn := fun _ => fun
  | [d1, d2] => { results := [.lit (.bool false)], args := [d1, d2] }
  | _ => none }
def ClassBackWrongFalsely : Prop := classBackRow.holds Try.pinned (OpenSpec.ofChange classBackWrong)

/-- 'bellbuoylaw23.ClassSlots': WHATEVER THE INPUT: true; the input reads as it did. -/
def classSlotsSpec : ChangeSpec := { name := "classSlots", fn := fun _ => fun
  | [d1, d2] => { results := [.lit (.bool true)], args := [d1, d2] }
  | _ => none }
def classSlotsRow : OpenClaim := { program := "ytobajpopkmmkjaa", sum := "c93ae764e98a71c019240c0b1f6a8570000dbc926533ab5738689bf92a1323e3", func := "bellbuoy/bellbuoylaw23.ClassSlots", spec := "classSlots", unfollowed := true, recurses := true, apart := false }
def ClassSlotsSaid : Prop := classSlotsRow.holds Try.pinned (OpenSpec.ofChange classSlotsSpec)

/-- ITS FALSE NEIGHBOUR: 'it returns false'. Refute it at one input. -/
def classSlotsWrong : ChangeSpec := { name := "classSlots", fn := fun _ => fun
  | [d1, d2] => { results := [.lit (.bool false)], args := [d1, d2] }
  | _ => none }
def ClassSlotsWrongFalsely : Prop := classSlotsRow.holds Try.pinned (OpenSpec.ofChange classSlotsWrong)

/- THE SECOND FORM. 'bulk': how many values and letters a reading holds, each counted each time it is reached (what is shared counts as often as it is met; a slice's spare places count too). A statement '..UptoSaid' is the law's where the arguments, and the package variables that the reading takes, are together of bulk at most 1048576: NARROWER than '..Said'. Prove '..Said' where nothing that the law and all that it calls make is longer than what came in: it says more and counts as full. Else prove '..UptoSaid'. A law counts once. -/
mutual
def uptoBulk {H : Type} : DataW H → Nat
  | .lit (.string bytes) => bytes.length + 1
  | .lit _ => 1
  | .nil => 1
  | .ptr d => uptoBulk d + 1
  | .slice elems spare => uptoBulkAll elems + uptoBulkAll spare + 1
  | .agg parts => uptoBulkAll parts + 1
  | .iface _ d => uptoBulk d + 1
  | .map entries => uptoBulkEntries entries + 1
  | .held _ => 1
def uptoBulkAll {H : Type} : List (DataW H) → Nat
  | [] => 0
  | d :: r => uptoBulk d + uptoBulkAll r
def uptoBulkEntries {H : Type} : List (Lit × DataW H) → Nat
  | [] => 0
  | x :: r => uptoBulkEntry x + uptoBulkEntries r
def uptoBulkEntry {H : Type} : Lit × DataW H → Nat
  | (.string bytes, d) => bytes.length + uptoBulk d + 1
  | (_, d) => uptoBulk d + 1
 end
def uptoSmall : (H : Type) → List (DataW H) → Bool := fun _ ds => decide (uptoBulkAll ds ≤ 1048576)
def OpenSpec.upto (s : _root_.Go.ChangeSpec) : _root_.Go.OpenSpec := { _root_.Go.OpenSpec.ofChange s with cond := some uptoSmall }

/-- 'bellbuoylaw23.ClassIs', WHERE WHAT IT READS IS OF BULK AT MOST 1048576: true; the input reads as it did. -/
def classIsUptoRow : OpenClaim := { program := "ytobajpopkmmkjaa", sum := "c93ae764e98a71c019240c0b1f6a8570000dbc926533ab5738689bf92a1323e3", func := "bellbuoy/bellbuoylaw23.ClassIs", spec := "classIs", unfollowed := true, recurses := true, apart := false, narrowed := true }
def ClassIsUptoSaid : Prop := classIsUptoRow.holds Try.pinned (OpenSpec.upto classIsSpec)

/-- 'bellbuoylaw23.ClassOrders', WHERE WHAT IT READS IS OF BULK AT MOST 1048576: true; the input reads as it did. -/
def classOrdersUptoRow : OpenClaim := { program := "ytobajpopkmmkjaa", sum := "c93ae764e98a71c019240c0b1f6a8570000dbc926533ab5738689bf92a1323e3", func := "bellbuoy/bellbuoylaw23.ClassOrders", spec := "classOrders", unfollowed := true, recurses := true, apart := false, narrowed := true }
def ClassOrdersUptoSaid : Prop := classOrdersUptoRow.holds Try.pinned (OpenSpec.upto classOrdersSpec)

/-- 'bellbuoylaw23.ClassWire', WHERE WHAT IT READS IS OF BULK AT MOST 1048576: true; the input reads as it did. -/
def classWireUptoRow : OpenClaim := { program := "ytobajpopkmmkjaa", sum := "c93ae764e98a71c019240c0b1f6a8570000dbc926533ab5738689bf92a1323e3", func := "bellbuoy/bellbuoylaw23.ClassWire", spec := "classWire", unfollowed := true, recurses := true, apart := false, narrowed := true }
def ClassWireUptoSaid : Prop := classWireUptoRow.holds Try.pinned (OpenSpec.upto classWireSpec)

/-- 'bellbuoylaw23.ClassBack', WHERE WHAT IT READS IS OF BULK AT MOST 1048576: true; the input reads as it did. -/
def classBackUptoRow : OpenClaim := { program := "ytobajpopkmmkjaa", sum := "c93ae764e98a71c019240c0b1f6a8570000dbc926533ab5738689bf92a1323e3", func := "bellbuoy/bellbuoylaw23.ClassBack", spec := "classBack", unfollowed := true, recurses := true, apart := false, narrowed := true }
def ClassBackUptoSaid : Prop := classBackUptoRow.holds Try.pinned (OpenSpec.upto classBackSpec)

/-- 'bellbuoylaw23.ClassSlots', WHERE WHAT IT READS IS OF BULK AT MOST 1048576: true; the input reads as it did. -/
def classSlotsUptoRow : OpenClaim := { program := "ytobajpopkmmkjaa", sum := "c93ae764e98a71c019240c0b1f6a8570000dbc926533ab5738689bf92a1323e3", func := "bellbuoy/bellbuoylaw23.ClassSlots", spec := "classSlots", unfollowed := true, recurses := true, apart := false, narrowed := true }
def ClassSlotsUptoSaid : Prop := classSlotsUptoRow.holds Try.pinned (OpenSpec.upto classSlotsSpec)

end Rows
end Go.Proofs.Ytobajpopkmmkjaa
