/-
  No cell of these rows narrows 'for every input' (looked for: loops, veiled, ifaces, maps, wideKeys, modest, calm, conditions, laid).
  DERIVED. THE GIVEN ROWS OF THIS SEAT. 3 by the template 'for every input the law returns true; each argument reads behind the call as it read before'; 0 by the template 'total and deterministic' (their statements: YtghigcdpinogaaaTotals.lean).
  GIVEN WITH THE SEED: the statements are not yours to turn. If you find one false, say at which input.
  Laid BY PROGRAM, IN A SANDBOX (cutbox-rows.mjs): the forced cells as the released guide's own fill.sh prints them over the translation f692bbdd1aa2b651… (all of the seat's roots in one cut). By AI agents, Wed Nov 11 2026. No macro, syntax, notation, axiom, sorry.
-/
import Derived.Test.YtghigcdpinogaaaChecked
import GoSem.Claim
import GoSem.ClaimJoined
import GoSem.ClaimMapViews
import Derived.JoinedTies
import Derived.KernelRfl
namespace Go.Proofs.Ytghigcdpinogaaa
/- THE CELL 'sum', in the pinned program and in every row, IS THE sha256 OF THE DUMP (.gsa) THAT YtghigcdpinogaaaProg.lean LOADS. Nothing in Lean hashes anything: it is a label: what it is worth is what the hold of that sum in a sandbox is worth. -/
noncomputable def Try.pinned : Pinned := { name := "ytghigcdpinogaaa", sum := "f692bbdd1aa2b651ce819f67dae3854fe353c74222ca7b942702b0bbc5f7d4e6", checked := Try.checked }
namespace Rows
def none {H : Type} : Left H := { results := [], args := [] }

/-- 'bellbuoylaw15.CtrlFates': WHATEVER THE INPUT: true; the input reads as it did. -/
def ctrlFatesSpec : ChangeSpec := { name := "ctrlFates", fn := fun _ => fun
  | [d] => { results := [.lit (.bool true)], args := [d] }
  | _ => none }
def ctrlFatesRow : OpenClaim := { program := "ytghigcdpinogaaa", sum := "f692bbdd1aa2b651ce819f67dae3854fe353c74222ca7b942702b0bbc5f7d4e6", func := "bellbuoy/bellbuoylaw15.CtrlFates", spec := "ctrlFates", unfollowed := true, recurses := true, apart := false }
def CtrlFatesSaid : Prop := ctrlFatesRow.holds Try.pinned (OpenSpec.ofChange ctrlFatesSpec)

/-- ITS FALSE NEIGHBOUR: 'it returns false'. Refute it at one input. -/
def ctrlFatesWrong : ChangeSpec := { name := "ctrlFates", fn := fun _ => fun
  | [d] => { results := [.lit (.bool false)], args := [d] }
  | _ => none }
def CtrlFatesWrongFalsely : Prop := ctrlFatesRow.holds Try.pinned (OpenSpec.ofChange ctrlFatesWrong)

/-- 'bellbuoylaw15.CtrlOnce': WHATEVER THE INPUT: true; the input reads as it did. -/
def ctrlOnceSpec : ChangeSpec := { name := "ctrlOnce", fn := fun _ => fun
  | [d1, d2, d3] => { results := [.lit (.bool true)], args := [d1, d2, d3] }
  | _ => none }
def ctrlOnceRow : OpenClaim := { program := "ytghigcdpinogaaa", sum := "f692bbdd1aa2b651ce819f67dae3854fe353c74222ca7b942702b0bbc5f7d4e6", func := "bellbuoy/bellbuoylaw15.CtrlOnce", spec := "ctrlOnce", unfollowed := true, recurses := true, apart := false }
def CtrlOnceSaid : Prop := ctrlOnceRow.holds Try.pinned (OpenSpec.ofChange ctrlOnceSpec)

/-- ITS FALSE NEIGHBOUR: 'it returns false'. Refute it at one input. -/
def ctrlOnceWrong : ChangeSpec := { name := "ctrlOnce", fn := fun _ => fun
  | [d1, d2, d3] => { results := [.lit (.bool false)], args := [d1, d2, d3] }
  | _ => none }
def CtrlOnceWrongFalsely : Prop := ctrlOnceRow.holds Try.pinned (OpenSpec.ofChange ctrlOnceWrong)

/-- 'bellbuoylaw15.CtrlPlays': WHATEVER THE INPUT: true; the input reads as it did. -/
def ctrlPlaysSpec : ChangeSpec := { name := "ctrlPlays", fn := fun _ => fun
  | [d1, d2, d3] => { results := [.lit (.bool true)], args := [d1, d2, d3] }
  | _ => none }
def ctrlPlaysRow : OpenClaim := { program := "ytghigcdpinogaaa", sum := "f692bbdd1aa2b651ce819f67dae3854fe353c74222ca7b942702b0bbc5f7d4e6", func := "bellbuoy/bellbuoylaw15.CtrlPlays", spec := "ctrlPlays", unfollowed := true, recurses := true, apart := false }
def CtrlPlaysSaid : Prop := ctrlPlaysRow.holds Try.pinned (OpenSpec.ofChange ctrlPlaysSpec)

/-- ITS FALSE NEIGHBOUR: 'it returns false'. Refute it at one input. -/
def ctrlPlaysWrong : ChangeSpec := { name := "ctrlPlays", fn := fun _ => fun
  | [d1, d2, d3] => { results := [.lit (.bool false)], args := [d1, d2, d3] }
  | _ => none }
def CtrlPlaysWrongFalsely : Prop := ctrlPlaysRow.holds Try.pinned (OpenSpec.ofChange ctrlPlaysWrong)

/- THE SECOND FORM. 'bulk': how many values and letters a reading holds, each counted each time it is reached (what is shared counts as often as it is met; a slice's spare places count too). A statement '..UptoSaid' is the law's where the arguments, and the package variables that the reading takes, are together of bulk at most 1048576: NARROWER than '..Said'. Prove '..Said' where nothing that the law and all that it calls make is longer than what came in: it says more and counts as full. Else prove '..UptoSaid'. A law counts once. -/
mutual
def uptoBulk {H : Type} : DataW H → Nat
  | .lit (.string bytes) => bytes.length + 1
  | .lit _ => 1
  | .nil => 1
  | .ptr d => uptoBulk d + 1
  | .slice elems spare => uptoBulkAll elems + uptoBulkAll spare + 1
  | .agg parts => uptoBulkAll parts + 1
  | .iface _ d => uptoBulk d + 1
  | .map entries => uptoBulkEntries entries + 1
  | .held _ => 1
def uptoBulkAll {H : Type} : List (DataW H) → Nat
  | [] => 0
  | d :: r => uptoBulk d + uptoBulkAll r
def uptoBulkEntries {H : Type} : List (Lit × DataW H) → Nat
  | [] => 0
  | x :: r => uptoBulkEntry x + uptoBulkEntries r
def uptoBulkEntry {H : Type} : Lit × DataW H → Nat
  | (.string bytes, d) => bytes.length + uptoBulk d + 1
  | (_, d) => uptoBulk d + 1
 end
def uptoSmall : (H : Type) → List (DataW H) → Bool := fun _ ds => decide (uptoBulkAll ds ≤ 1048576)
def OpenSpec.upto (s : _root_.Go.ChangeSpec) : _root_.Go.OpenSpec := { _root_.Go.OpenSpec.ofChange s with cond := some uptoSmall }

/-- 'bellbuoylaw15.CtrlFates', WHERE WHAT IT READS IS OF BULK AT MOST 1048576: true; the input reads as it did. -/
def ctrlFatesUptoRow : OpenClaim := { program := "ytghigcdpinogaaa", sum := "f692bbdd1aa2b651ce819f67dae3854fe353c74222ca7b942702b0bbc5f7d4e6", func := "bellbuoy/bellbuoylaw15.CtrlFates", spec := "ctrlFates", unfollowed := true, recurses := true, apart := false, narrowed := true }
def CtrlFatesUptoSaid : Prop := ctrlFatesUptoRow.holds Try.pinned (OpenSpec.upto ctrlFatesSpec)

/-- 'bellbuoylaw15.CtrlOnce', WHERE WHAT IT READS IS OF BULK AT MOST 1048576: true; the input reads as it did. -/
def ctrlOnceUptoRow : OpenClaim := { program := "ytghigcdpinogaaa", sum := "f692bbdd1aa2b651ce819f67dae3854fe353c74222ca7b942702b0bbc5f7d4e6", func := "bellbuoy/bellbuoylaw15.CtrlOnce", spec := "ctrlOnce", unfollowed := true, recurses := true, apart := false, narrowed := true }
def CtrlOnceUptoSaid : Prop := ctrlOnceUptoRow.holds Try.pinned (OpenSpec.upto ctrlOnceSpec)

/-- 'bellbuoylaw15.CtrlPlays', WHERE WHAT IT READS IS OF BULK AT MOST 1048576: true; the input reads as it did. -/
def ctrlPlaysUptoRow : OpenClaim := { program := "ytghigcdpinogaaa", sum := "f692bbdd1aa2b651ce819f67dae3854fe353c74222ca7b942702b0bbc5f7d4e6", func := "bellbuoy/bellbuoylaw15.CtrlPlays", spec := "ctrlPlays", unfollowed := true, recurses := true, apart := false, narrowed := true }
def CtrlPlaysUptoSaid : Prop := ctrlPlaysUptoRow.holds Try.pinned (OpenSpec.upto ctrlPlaysSpec)

end Rows
end Go.Proofs.Ytghigcdpinogaaa
