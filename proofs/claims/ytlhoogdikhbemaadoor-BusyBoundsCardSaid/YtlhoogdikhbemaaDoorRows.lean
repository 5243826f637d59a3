/-
  NARROWER THAN 'FOR EVERY INPUT', by the rows' own cells (each row's printed sentence says how): BusyIs: laid · BusyBounds: laid · BusySteps: laid · BusyMore: laid.
  DERIVED. THE GIVEN ROWS OF THIS SEAT. 4 by the template 'for every input the law returns true; each argument reads behind the call as it read before'; 0 by the template 'total and deterministic' (their statements: YtlhoogdikhbemaaDoorTotals.lean).
  GIVEN WITH THE SEED: the statements are not yours to turn. If you find one false, say at which input.
  Laid BY PROGRAM, IN A SANDBOX (cutbox-rows.mjs): the forced cells as the released guide's own fill.sh prints them over the translation bf9e74370d7d244f… (all of the seat's roots in one cut). By AI agents, Wed Nov 11 2026. No macro, syntax, notation, axiom, sorry.
-/
import Derived.Test.YtlhoogdikhbemaaDoorChecked
import GoSem.Claim
import GoSem.ClaimJoined
import GoSem.ClaimMapViews
import Derived.JoinedTies
import Derived.KernelRfl
namespace Go.Proofs.YtlhoogdikhbemaaDoor
/- THE CELL 'sum', in the pinned program and in every row, IS THE sha256 OF THE DUMP (.gsa) THAT YtlhoogdikhbemaaDoorProg.lean LOADS. Nothing in Lean hashes anything: it is a label: what it is worth is what the hold of that sum in a sandbox is worth. -/
noncomputable def Tryd.pinned : Pinned := { name := "ytlhoogdikhbemaadoor", sum := "bf9e74370d7d244fee7cecd92de5915eae8cbfcd61611ec6abf2c7571ec32f10", checked := Tryd.checked }
namespace Rows
def none {H : Type} : Left H := { results := [], args := [] }

/- WHAT THE LISTED PACKAGE-LEVEL VARIABLES READ AS WHEN THE CALL BEGINS. Each datum BY PROGRAM (the guide's laid-datum.mjs) off the statement by which the dump's own 'gosem.cut.vars' lays the variable. In a bare row this is a premise. The card (YtlhoogdikhbemaaDoorCards.lean) ties it to the program's text. -/
def laid_bellbuoy_crc_divisor {H : Type} : DataW H := .agg [.lit (.int .u8 1), .lit (.int .u8 1), .lit (.int .u8 0), .lit (.int .u8 0), .lit (.int .u8 0), .lit (.int .u8 1), .lit (.int .u8 0), .lit (.int .u8 1), .lit (.int .u8 1), .lit (.int .u8 0), .lit (.int .u8 0), .lit (.int .u8 1), .lit (.int .u8 1), .lit (.int .u8 0), .lit (.int .u8 0), .lit (.int .u8 1)]

/-- 'bellbuoylaw35.BusyIs': WHATEVER THE INPUT: true; the input reads as it did. -/
def busyIsSpec : ChangeSpec := { name := "busyIs", fn := fun _ => fun
  | [d1, d2, d3] => { results := [.lit (.bool true)], args := [d1, d2, d3] }
  | _ => none }
def busyIsRow : OpenClaim := { program := "ytlhoogdikhbemaadoor", sum := "bf9e74370d7d244fee7cecd92de5915eae8cbfcd61611ec6abf2c7571ec32f10", func := "bellbuoy/bellbuoylaw35.BusyIs", spec := "busyIs", unfollowed := true, recurses := true, named := ["bellbuoy/crc.divisor"], apart := false, laid := [("bellbuoy/crc.divisor", laid_bellbuoy_crc_divisor)] }
def BusyIsSaid : Prop := busyIsRow.holds Tryd.pinned (OpenSpec.ofChange busyIsSpec)

/-- ITS FALSE NEIGHBOUR: 'it returns false'. Refute it at one input. -/
def busyIsWrong : ChangeSpec := { name := "busyIs", fn := fun _ => fun
  | [d1, d2, d3] => { results := [.lit (.bool false)], args := [d1, d2, d3] }
  | _ => none }
def BusyIsWrongFalsely : Prop := busyIsRow.holds Tryd.pinned (OpenSpec.ofChange busyIsWrong)

/-- 'bellbuoylaw35.BusyBounds': WHATEVER THE INPUT: true; the input reads as it did. -/
def busyBoundsSpec : ChangeSpec := { name := "busyBounds", fn := fun _ => fun
  | [d1, d2, d3] => { results := [.lit (.bool true)], args := [d1, d2, d3] }
  | _ => none }
def busyBoundsRow : OpenClaim := { program := "ytlhoogdikhbemaadoor", sum := "bf9e74370d7d244fee7cecd92de5915eae8cbfcd61611ec6abf2c7571ec32f10", func := "bellbuoy/bellbuoylaw35.BusyBounds", spec := "busyBounds", unfollowed := true, recurses := true, named := ["bellbuoy/crc.divisor"], apart := false, laid := [("bellbuoy/crc.divisor", laid_bellbuoy_crc_divisor)] }
def BusyBoundsSaid : Prop := busyBoundsRow.holds Tryd.pinned (OpenSpec.ofChange busyBoundsSpec)

/-- ITS FALSE NEIGHBOUR: 'it returns false'. Refute it at one input. -/
def busyBoundsWrong : ChangeSpec := { name := "busyBounds", fn := fun _ => fun
  | [d1, d2, d3] => { results := [.lit (.bool false)], args := [d1, d2, d3] }
  | _ => none }
def BusyBoundsWrongFalsely : Prop := busyBoundsRow.holds Tryd.pinned (OpenSpec.ofChange busyBoundsWrong)

/-- 'bellbuoylaw35.BusySteps': WHATEVER THE INPUT: true; the input reads as it did. -/
def busyStepsSpec : ChangeSpec := { name := "busySteps", fn := fun _ => fun
  | [d] => { results := [.lit (.bool true)], args := [d] }
  | _ => none }
def busyStepsRow : OpenClaim := { program := "ytlhoogdikhbemaadoor", sum := "bf9e74370d7d244fee7cecd92de5915eae8cbfcd61611ec6abf2c7571ec32f10", func := "bellbuoy/bellbuoylaw35.BusySteps", spec := "busySteps", unfollowed := true, recurses := true, named := ["bellbuoy/crc.divisor"], apart := false, laid := [("bellbuoy/crc.divisor", laid_bellbuoy_crc_divisor)] }
def BusyStepsSaid : Prop := busyStepsRow.holds Tryd.pinned (OpenSpec.ofChange busyStepsSpec)

/-- ITS FALSE NEIGHBOUR: 'it returns false'. Refute it at one input. -/
def busyStepsWrong : ChangeSpec := { name := "busySteps", fn := fun _ => fun
  | [d] => { results := [.lit (.bool false)], args := [d] }
  | _ => none }
def BusyStepsWrongFalsely : Prop := busyStepsRow.holds Tryd.pinned (OpenSpec.ofChange busyStepsWrong)

/-- 'bellbuoylaw35.BusyMore': WHATEVER THE INPUT: true; the input reads as it did. -/
def busyMoreSpec : ChangeSpec := { name := "busyMore", fn := fun _ => fun
  | [d] => { results := [.lit (.bool true)], args := [d] }
  | _ => none }
def busyMoreRow : OpenClaim := { program := "ytlhoogdikhbemaadoor", sum := "bf9e74370d7d244fee7cecd92de5915eae8cbfcd61611ec6abf2c7571ec32f10", func := "bellbuoy/bellbuoylaw35.BusyMore", spec := "busyMore", unfollowed := true, recurses := true, named := ["bellbuoy/crc.divisor"], apart := false, laid := [("bellbuoy/crc.divisor", laid_bellbuoy_crc_divisor)] }
def BusyMoreSaid : Prop := busyMoreRow.holds Tryd.pinned (OpenSpec.ofChange busyMoreSpec)

/-- ITS FALSE NEIGHBOUR: 'it returns false'. Refute it at one input. -/
def busyMoreWrong : ChangeSpec := { name := "busyMore", fn := fun _ => fun
  | [d] => { results := [.lit (.bool false)], args := [d] }
  | _ => none }
def BusyMoreWrongFalsely : Prop := busyMoreRow.holds Tryd.pinned (OpenSpec.ofChange busyMoreWrong)

/- THE SECOND FORM. 'bulk': how many values and letters a reading holds, each counted each time it is reached (what is shared counts as often as it is met; a slice's spare places count too). A statement '..UptoSaid' is the law's where the arguments, and the package variables that the reading takes, are together of bulk at most 1048576: NARROWER than '..Said'. Prove '..Said' where nothing that the law and all that it calls make is longer than what came in: it says more and counts as full. Else prove '..UptoSaid'. A law counts once. -/
mutual
def uptoBulk {H : Type} : DataW H → Nat
  | .lit (.string bytes) => bytes.length + 1
  | .lit _ => 1
  | .nil => 1
  | .ptr d => uptoBulk d + 1
  | .slice elems spare => uptoBulkAll elems + uptoBulkAll spare + 1
  | .agg parts => uptoBulkAll parts + 1
  | .iface _ d => uptoBulk d + 1
  | .map entries => uptoBulkEntries entries + 1
  | .held _ => 1
def uptoBulkAll {H : Type} : List (DataW H) → Nat
  | [] => 0
  | d :: r => uptoBulk d + uptoBulkAll r
def uptoBulkEntries {H : Type} : List (Lit × DataW H) → Nat
  | [] => 0
  | x :: r => uptoBulkEntry x + uptoBulkEntries r
def uptoBulkEntry {H : Type} : Lit × DataW H → Nat
  | (.string bytes, d) => bytes.length + uptoBulk d + 1
  | (_, d) => uptoBulk d + 1
 end
def uptoSmall : (H : Type) → List (DataW H) → Bool := fun _ ds => decide (uptoBulkAll ds ≤ 1048576)
def OpenSpec.upto (s : _root_.Go.ChangeSpec) : _root_.Go.OpenSpec := { _root_.Go.OpenSpec.ofChange s with cond := some uptoSmall }

/-- 'bellbuoylaw35.BusyIs', WHERE WHAT IT READS IS OF BULK AT MOST 1048576: true; the input reads as it did. -/
def busyIsUptoRow : OpenClaim := { program := "ytlhoogdikhbemaadoor", sum := "bf9e74370d7d244fee7cecd92de5915eae8cbfcd61611ec6abf2c7571ec32f10", func := "bellbuoy/bellbuoylaw35.BusyIs", spec := "busyIs", unfollowed := true, recurses := true, named := ["bellbuoy/crc.divisor"], apart := false, laid := [("bellbuoy/crc.divisor", laid_bellbuoy_crc_divisor)], narrowed := true }
def BusyIsUptoSaid : Prop := busyIsUptoRow.holds Tryd.pinned (OpenSpec.upto busyIsSpec)

/-- 'bellbuoylaw35.BusyBounds', WHERE WHAT IT READS IS OF BULK AT MOST 1048576: true; the input reads as it did. -/
def busyBoundsUptoRow : OpenClaim := { program := "ytlhoogdikhbemaadoor", sum := "bf9e74370d7d244fee7cecd92de5915eae8cbfcd61611ec6abf2c7571ec32f10", func := "bellbuoy/bellbuoylaw35.BusyBounds", spec := "busyBounds", unfollowed := true, recurses := true, named := ["bellbuoy/crc.divisor"], apart := false, laid := [("bellbuoy/crc.divisor", laid_bellbuoy_crc_divisor)], narrowed := true }
def BusyBoundsUptoSaid : Prop := busyBoundsUptoRow.holds Tryd.pinned (OpenSpec.upto busyBoundsSpec)

/-- 'bellbuoylaw35.BusySteps', WHERE WHAT IT READS IS OF BULK AT MOST 1048576: true; the input reads as it did. -/
def busyStepsUptoRow : OpenClaim := { program := "ytlhoogdikhbemaadoor", sum := "bf9e74370d7d244fee7cecd92de5915eae8cbfcd61611ec6abf2c7571ec32f10", func := "bellbuoy/bellbuoylaw35.BusySteps", spec := "busySteps", unfollowed := true, recurses := true, named := ["bellbuoy/crc.divisor"], apart := false, laid := [("bellbuoy/crc.divisor", laid_bellbuoy_crc_divisor)], narrowed := true }
def BusyStepsUptoSaid : Prop := busyStepsUptoRow.holds Tryd.pinned (OpenSpec.upto busyStepsSpec)

/-- 'bellbuoylaw35.BusyMore', WHERE WHAT IT READS IS OF BULK AT MOST 1048576: true; the input reads as it did. -/
def busyMoreUptoRow : OpenClaim := { program := "ytlhoogdikhbemaadoor", sum := "bf9e74370d7d244fee7cecd92de5915eae8cbfcd61611ec6abf2c7571ec32f10", func := "bellbuoy/bellbuoylaw35.BusyMore", spec := "busyMore", unfollowed := true, recurses := true, named := ["bellbuoy/crc.divisor"], apart := false, laid := [("bellbuoy/crc.divisor", laid_bellbuoy_crc_divisor)], narrowed := true }
def BusyMoreUptoSaid : Prop := busyMoreUptoRow.holds Tryd.pinned (OpenSpec.upto busyMoreSpec)

end Rows
end Go.Proofs.YtlhoogdikhbemaaDoor
