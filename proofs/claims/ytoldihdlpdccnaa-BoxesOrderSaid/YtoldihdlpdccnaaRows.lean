/-
  No cell of these rows narrows 'for every input' (looked for: loops, veiled, ifaces, maps, wideKeys, modest, calm, conditions, laid).
  DERIVED. THE GIVEN ROWS OF THIS SEAT. 3 by the template 'for every input the law returns true; each argument reads behind the call as it read before'; 0 by the template 'total and deterministic' (their statements: YtoldihdlpdccnaaTotals.lean).
  GIVEN WITH THE SEED: the statements are not yours to turn. If you find one false, say at which input.
  Laid BY PROGRAM, IN A SANDBOX (cutbox-rows.mjs): the forced cells as the released guide's own fill.sh prints them over the translation 1da101dc43dd613c… (all of the seat's roots in one cut). By AI agents, Wed Nov 11 2026. No macro, syntax, notation, axiom, sorry.
-/
import Derived.Test.YtoldihdlpdccnaaChecked
import GoSem.Claim
import GoSem.ClaimJoined
import GoSem.ClaimMapViews
import Derived.JoinedTies
import Derived.KernelRfl
namespace Go.Proofs.Ytoldihdlpdccnaa
/- THE CELL 'sum', in the pinned program and in every row, IS THE sha256 OF THE DUMP (.gsa) THAT YtoldihdlpdccnaaProg.lean LOADS. Nothing in Lean hashes anything: it is a label: what it is worth is what the hold of that sum in a sandbox is worth. -/
noncomputable def Try.pinned : Pinned := { name := "ytoldihdlpdccnaa", sum := "1da101dc43dd613c326164063ac10edd601086d1ebb1de33a1701e6826f11d90", checked := Try.checked }
namespace Rows
def none {H : Type} : Left H := { results := [], args := [] }

/-- 'bellbuoylaw13.BoxesPlay': WHATEVER THE INPUT: true; the input reads as it did. -/
def boxesPlaySpec : ChangeSpec := { name := "boxesPlay", fn := fun _ => fun
  | [d1, d2] => { results := [.lit (.bool true)], args := [d1, d2] }
  | _ => none }
def boxesPlayRow : OpenClaim := { program := "ytoldihdlpdccnaa", sum := "1da101dc43dd613c326164063ac10edd601086d1ebb1de33a1701e6826f11d90", func := "bellbuoy/bellbuoylaw13.BoxesPlay", spec := "boxesPlay", unfollowed := true, recurses := true, apart := false }
def BoxesPlaySaid : Prop := boxesPlayRow.holds Try.pinned (OpenSpec.ofChange boxesPlaySpec)

/-- ITS FALSE NEIGHBOUR: 'it returns false'. Refute it at one input. -/
def boxesPlayWrong : ChangeSpec := { name := "boxesPlay", fn := fun _ => fun
  | [d1, d2] => { results := [.lit (.bool false)], args := [d1, d2] }
  | _ => none }
def BoxesPlayWrongFalsely : Prop := boxesPlayRow.holds Try.pinned (OpenSpec.ofChange boxesPlayWrong)

/-- 'bellbuoylaw13.BoxesOrder': WHATEVER THE INPUT: true; the input reads as it did. -/
def boxesOrderSpec : ChangeSpec := { name := "boxesOrder", fn := fun _ => fun
  | [d] => { results := [.lit (.bool true)], args := [d] }
  | _ => none }
def boxesOrderRow : OpenClaim := { program := "ytoldihdlpdccnaa", sum := "1da101dc43dd613c326164063ac10edd601086d1ebb1de33a1701e6826f11d90", func := "bellbuoy/bellbuoylaw13.BoxesOrder", spec := "boxesOrder", unfollowed := true, recurses := true, apart := false }
def BoxesOrderSaid : Prop := boxesOrderRow.holds Try.pinned (OpenSpec.ofChange boxesOrderSpec)

/-- ITS FALSE NEIGHBOUR: 'it returns false'. Refute it at one input. -/
def boxesOrderWrong : ChangeSpec := { name := "boxesOrder", fn := fun _ => fun
  | [d] => { results := [.lit (.bool false)], args := [d] }
  | _ => none }
def BoxesOrderWrongFalsely : Prop := boxesOrderRow.holds Try.pinned (OpenSpec.ofChange boxesOrderWrong)

/-- 'bellbuoylaw13.BoxesFull': WHATEVER THE INPUT: true; the input reads as it did. -/
def boxesFullSpec : ChangeSpec := { name := "boxesFull", fn := fun _ => fun
  | [d1, d2] => { results := [.lit (.bool true)], args := [d1, d2] }
  | _ => none }
def boxesFullRow : OpenClaim := { program := "ytoldihdlpdccnaa", sum := "1da101dc43dd613c326164063ac10edd601086d1ebb1de33a1701e6826f11d90", func := "bellbuoy/bellbuoylaw13.BoxesFull", spec := "boxesFull", unfollowed := true, recurses := true, apart := false }
def BoxesFullSaid : Prop := boxesFullRow.holds Try.pinned (OpenSpec.ofChange boxesFullSpec)

/-- ITS FALSE NEIGHBOUR: 'it returns false'. Refute it at one input. -/
def boxesFullWrong : ChangeSpec := { name := "boxesFull", fn := fun _ => fun
  | [d1, d2] => { results := [.lit (.bool false)], args := [d1, d2] }
  | _ => none }
def BoxesFullWrongFalsely : Prop := boxesFullRow.holds Try.pinned (OpenSpec.ofChange boxesFullWrong)

/- THE SECOND FORM. 'bulk': how many values and letters a reading holds, each counted each time it is reached (what is shared counts as often as it is met; a slice's spare places count too). A statement '..UptoSaid' is the law's where the arguments, and the package variables that the reading takes, are together of bulk at most 1048576: NARROWER than '..Said'. Prove '..Said' where nothing that the law and all that it calls make is longer than what came in: it says more and counts as full. Else prove '..UptoSaid'. A law counts once. -/
mutual
def uptoBulk {H : Type} : DataW H → Nat
  | .lit (.string bytes) => bytes.length + 1
  | .lit _ => 1
  | .nil => 1
  | .ptr d => uptoBulk d + 1
  | .slice elems spare => uptoBulkAll elems + uptoBulkAll spare + 1
  | .agg parts => uptoBulkAll parts + 1
  | .iface _ d => uptoBulk d + 1
  | .map entries => uptoBulkEntries entries + 1
  | .held _ => 1
def uptoBulkAll {H : Type} : List (DataW H) → Nat
  | [] => 0
  | d :: r => uptoBulk d + uptoBulkAll r
def uptoBulkEntries {H : Type} : List (Lit × DataW H) → Nat
  | [] => 0
  | x :: r => uptoBulkEntry x + uptoBulkEntries r
def uptoBulkEntry {H : Type} : Lit × DataW H → Nat
  | (.string bytes, d) => bytes.length + uptoBulk d + 1
  | (_, d) => uptoBulk d + 1
 end
def uptoSmall : (H : Type) → List (DataW H) → Bool := fun _ ds => decide (uptoBulkAll ds ≤ 1048576)
def OpenSpec.upto (s : _root_.Go.ChangeSpec) : _root_.Go.OpenSpec := { _root_.Go.OpenSpec.ofChange s with cond := some uptoSmall }

/-- 'bellbuoylaw13.BoxesPlay', WHERE WHAT IT READS IS OF BULK AT MOST 1048576: true; the input reads as it did. -/
def boxesPlayUptoRow : OpenClaim := { program := "ytoldihdlpdccnaa", sum := "1da101dc43dd613c326164063ac10edd601086d1ebb1de33a1701e6826f11d90", func := "bellbuoy/bellbuoylaw13.BoxesPlay", spec := "boxesPlay", unfollowed := true, recurses := true, apart := false, narrowed := true }
def BoxesPlayUptoSaid : Prop := boxesPlayUptoRow.holds Try.pinned (OpenSpec.upto boxesPlaySpec)

/-- 'bellbuoylaw13.BoxesOrder', WHERE WHAT IT READS IS OF BULK AT MOST 1048576: true; the input reads as it did. -/
def boxesOrderUptoRow : OpenClaim := { program := "ytoldihdlpdccnaa", sum := "1da101dc43dd613c326164063ac10edd601086d1ebb1de33a1701e6826f11d90", func := "bellbuoy/bellbuoylaw13.BoxesOrder", spec := "boxesOrder", unfollowed := true, recurses := true, apart := false, narrowed := true }
def BoxesOrderUptoSaid : Prop := boxesOrderUptoRow.holds Try.pinned (OpenSpec.upto boxesOrderSpec)

/-- 'bellbuoylaw13.BoxesFull', WHERE WHAT IT READS IS OF BULK AT MOST 1048576: true; the input reads as it did. -/
def boxesFullUptoRow : OpenClaim := { program := "ytoldihdlpdccnaa", sum := "1da101dc43dd613c326164063ac10edd601086d1ebb1de33a1701e6826f11d90", func := "bellbuoy/bellbuoylaw13.BoxesFull", spec := "boxesFull", unfollowed := true, recurses := true, apart := false, narrowed := true }
def BoxesFullUptoSaid : Prop := boxesFullUptoRow.holds Try.pinned (OpenSpec.upto boxesFullSpec)

end Rows
end Go.Proofs.Ytoldihdlpdccnaa
