/-
  NARROWER THAN 'FOR EVERY INPUT', by the rows' own cells (each row's printed sentence says how): CrcSums: laid · CrcSeals: laid · CrcLinear: laid · CrcBursts: laid · CrcOdd: laid.
  DERIVED. THE GIVEN ROWS OF THIS SEAT. 5 by the template 'for every input the law returns true; each argument reads behind the call as it read before'; 0 by the template 'total and deterministic' (their statements: YtfbjkccangembaaDoorTotals.lean).
  GIVEN WITH THE SEED: the statements are not yours to turn. If you find one false, say at which input.
  Laid BY PROGRAM, IN A SANDBOX (cutbox-rows.mjs): the forced cells as the released guide's own fill.sh prints them over the translation dd67362a84106e72… (all of the seat's roots in one cut). By AI agents, Wed Nov 11 2026. No macro, syntax, notation, axiom, sorry.
-/
import Derived.Test.YtfbjkccangembaaDoorChecked
import GoSem.Claim
import GoSem.ClaimJoined
import GoSem.ClaimMapViews
import Derived.JoinedTies
import Derived.KernelRfl
namespace Go.Proofs.YtfbjkccangembaaDoor
/- THE CELL 'sum', in the pinned program and in every row, IS THE sha256 OF THE DUMP (.gsa) THAT YtfbjkccangembaaDoorProg.lean LOADS. Nothing in Lean hashes anything: it is a label: what it is worth is what the hold of that sum in a sandbox is worth. -/
noncomputable def Tryd.pinned : Pinned := { name := "ytfbjkccangembaadoor", sum := "dd67362a84106e727669390febb0fe7285b556eb4e907300513fe32771215784", checked := Tryd.checked }
namespace Rows
def none {H : Type} : Left H := { results := [], args := [] }

/- WHAT THE LISTED PACKAGE-LEVEL VARIABLES READ AS WHEN THE CALL BEGINS. Each datum BY PROGRAM (the guide's laid-datum.mjs) off the statement by which the dump's own 'gosem.cut.vars' lays the variable. In a bare row this is a premise. The card (YtfbjkccangembaaDoorCards.lean) ties it to the program's text. -/
def laid_bellbuoy_crc_divisor {H : Type} : DataW H := .agg [.lit (.int .u8 1), .lit (.int .u8 1), .lit (.int .u8 0), .lit (.int .u8 0), .lit (.int .u8 0), .lit (.int .u8 1), .lit (.int .u8 0), .lit (.int .u8 1), .lit (.int .u8 1), .lit (.int .u8 0), .lit (.int .u8 0), .lit (.int .u8 1), .lit (.int .u8 1), .lit (.int .u8 0), .lit (.int .u8 0), .lit (.int .u8 1)]

/-- 'bellbuoylaw03.CrcSums': WHATEVER THE INPUT: true; the input reads as it did. -/
def crcSumsSpec : ChangeSpec := { name := "crcSums", fn := fun _ => fun
  | [d1, d2, d3] => { results := [.lit (.bool true)], args := [d1, d2, d3] }
  | _ => none }
def crcSumsRow : OpenClaim := { program := "ytfbjkccangembaadoor", sum := "dd67362a84106e727669390febb0fe7285b556eb4e907300513fe32771215784", func := "bellbuoy/bellbuoylaw03.CrcSums", spec := "crcSums", unfollowed := true, recurses := true, named := ["bellbuoy/crc.divisor"], apart := false, laid := [("bellbuoy/crc.divisor", laid_bellbuoy_crc_divisor)] }
def CrcSumsSaid : Prop := crcSumsRow.holds Tryd.pinned (OpenSpec.ofChange crcSumsSpec)

/-- ITS FALSE NEIGHBOUR: 'it returns false'. Refute it at one input. -/
def crcSumsWrong : ChangeSpec := { name := "crcSums", fn := fun _ => fun
  | [d1, d2, d3] => { results := [.lit (.bool false)], args := [d1, d2, d3] }
  | _ => none }
def CrcSumsWrongFalsely : Prop := crcSumsRow.holds Tryd.pinned (OpenSpec.ofChange crcSumsWrong)

/-- 'bellbuoylaw03.CrcSeals': WHATEVER THE INPUT: true; the input reads as it did. -/
def crcSealsSpec : ChangeSpec := { name := "crcSeals", fn := fun _ => fun
  | [d] => { results := [.lit (.bool true)], args := [d] }
  | _ => none }
def crcSealsRow : OpenClaim := { program := "ytfbjkccangembaadoor", sum := "dd67362a84106e727669390febb0fe7285b556eb4e907300513fe32771215784", func := "bellbuoy/bellbuoylaw03.CrcSeals", spec := "crcSeals", unfollowed := true, recurses := true, named := ["bellbuoy/crc.divisor"], apart := false, laid := [("bellbuoy/crc.divisor", laid_bellbuoy_crc_divisor)] }
def CrcSealsSaid : Prop := crcSealsRow.holds Tryd.pinned (OpenSpec.ofChange crcSealsSpec)

/-- ITS FALSE NEIGHBOUR: 'it returns false'. Refute it at one input. -/
def crcSealsWrong : ChangeSpec := { name := "crcSeals", fn := fun _ => fun
  | [d] => { results := [.lit (.bool false)], args := [d] }
  | _ => none }
def CrcSealsWrongFalsely : Prop := crcSealsRow.holds Tryd.pinned (OpenSpec.ofChange crcSealsWrong)

/-- 'bellbuoylaw03.CrcLinear': WHATEVER THE INPUT: true; the input reads as it did. -/
def crcLinearSpec : ChangeSpec := { name := "crcLinear", fn := fun _ => fun
  | [d1, d2] => { results := [.lit (.bool true)], args := [d1, d2] }
  | _ => none }
def crcLinearRow : OpenClaim := { program := "ytfbjkccangembaadoor", sum := "dd67362a84106e727669390febb0fe7285b556eb4e907300513fe32771215784", func := "bellbuoy/bellbuoylaw03.CrcLinear", spec := "crcLinear", unfollowed := true, recurses := true, named := ["bellbuoy/crc.divisor"], apart := false, laid := [("bellbuoy/crc.divisor", laid_bellbuoy_crc_divisor)] }
def CrcLinearSaid : Prop := crcLinearRow.holds Tryd.pinned (OpenSpec.ofChange crcLinearSpec)

/-- ITS FALSE NEIGHBOUR: 'it returns false'. Refute it at one input. -/
def crcLinearWrong : ChangeSpec := { name := "crcLinear", fn := fun _ => fun
  | [d1, d2] => { results := [.lit (.bool false)], args := [d1, d2] }
  | _ => none }
def CrcLinearWrongFalsely : Prop := crcLinearRow.holds Tryd.pinned (OpenSpec.ofChange crcLinearWrong)

/-- 'bellbuoylaw03.CrcBursts': WHATEVER THE INPUT: true; the input reads as it did. -/
def crcBurstsSpec : ChangeSpec := { name := "crcBursts", fn := fun _ => fun
  | [d1, d2, d3] => { results := [.lit (.bool true)], args := [d1, d2, d3] }
  | _ => none }
def crcBurstsRow : OpenClaim := { program := "ytfbjkccangembaadoor", sum := "dd67362a84106e727669390febb0fe7285b556eb4e907300513fe32771215784", func := "bellbuoy/bellbuoylaw03.CrcBursts", spec := "crcBursts", unfollowed := true, recurses := true, named := ["bellbuoy/crc.divisor"], apart := false, laid := [("bellbuoy/crc.divisor", laid_bellbuoy_crc_divisor)] }
def CrcBurstsSaid : Prop := crcBurstsRow.holds Tryd.pinned (OpenSpec.ofChange crcBurstsSpec)

/-- ITS FALSE NEIGHBOUR: 'it returns false'. Refute it at one input. -/
def crcBurstsWrong : ChangeSpec := { name := "crcBursts", fn := fun _ => fun
  | [d1, d2, d3] => { results := [.lit (.bool false)], args := [d1, d2, d3] }
  | _ => none }
def CrcBurstsWrongFalsely : Prop := crcBurstsRow.holds Tryd.pinned (OpenSpec.ofChange crcBurstsWrong)

/-- 'bellbuoylaw03.CrcOdd': WHATEVER THE INPUT: true; the input reads as it did. -/
def crcOddSpec : ChangeSpec := { name := "crcOdd", fn := fun _ => fun
  | [d1, d2] => { results := [.lit (.bool true)], args := [d1, d2] }
  | _ => none }
def crcOddRow : OpenClaim := { program := "ytfbjkccangembaadoor", sum := "dd67362a84106e727669390febb0fe7285b556eb4e907300513fe32771215784", func := "bellbuoy/bellbuoylaw03.CrcOdd", spec := "crcOdd", unfollowed := true, recurses := true, named := ["bellbuoy/crc.divisor"], apart := false, laid := [("bellbuoy/crc.divisor", laid_bellbuoy_crc_divisor)] }
def CrcOddSaid : Prop := crcOddRow.holds Tryd.pinned (OpenSpec.ofChange crcOddSpec)

/-- ITS FALSE NEIGHBOUR: 'it returns false'. Refute it at one input. -/
def crcOddWrong : ChangeSpec := { name := "crcOdd", fn := fun _ => fun
  | [d1, d2] => { results := [.lit (.bool false)], args := [d1, d2] }
  | _ => none }
def CrcOddWrongFalsely : Prop := crcOddRow.holds Tryd.pinned (OpenSpec.ofChange crcOddWrong)

/- THE SECOND FORM. 'bulk': how many values and letters a reading holds, each counted each time it is reached (what is shared counts as often as it is met; a slice's spare places count too). A statement '..UptoSaid' is the law's where the arguments, and the package variables that the reading takes, are together of bulk at most 1048576: NARROWER than '..Said'. Prove '..Said' where nothing that the law and all that it calls make is longer than what came in: it says more and counts as full. Else prove '..UptoSaid'. A law counts once. -/
mutual
def uptoBulk {H : Type} : DataW H → Nat
  | .lit (.string bytes) => bytes.length + 1
  | .lit _ => 1
  | .nil => 1
  | .ptr d => uptoBulk d + 1
  | .slice elems spare => uptoBulkAll elems + uptoBulkAll spare + 1
  | .agg parts => uptoBulkAll parts + 1
  | .iface _ d => uptoBulk d + 1
  | .map entries => uptoBulkEntries entries + 1
  | .held _ => 1
def uptoBulkAll {H : Type} : List (DataW H) → Nat
  | [] => 0
  | d :: r => uptoBulk d + uptoBulkAll r
def uptoBulkEntries {H : Type} : List (Lit × DataW H) → Nat
  | [] => 0
  | x :: r => uptoBulkEntry x + uptoBulkEntries r
def uptoBulkEntry {H : Type} : Lit × DataW H → Nat
  | (.string bytes, d) => bytes.length + uptoBulk d + 1
  | (_, d) => uptoBulk d + 1
 end
def uptoSmall : (H : Type) → List (DataW H) → Bool := fun _ ds => decide (uptoBulkAll ds ≤ 1048576)
def OpenSpec.upto (s : _root_.Go.ChangeSpec) : _root_.Go.OpenSpec := { _root_.Go.OpenSpec.ofChange s with cond := some uptoSmall }

/-- 'bellbuoylaw03.CrcSums', WHERE WHAT IT READS IS OF BULK AT MOST 1048576: true; the input reads as it did. -/
def crcSumsUptoRow : OpenClaim := { program := "ytfbjkccangembaadoor", sum := "dd67362a84106e727669390febb0fe7285b556eb4e907300513fe32771215784", func := "bellbuoy/bellbuoylaw03.CrcSums", spec := "crcSums", unfollowed := true, recurses := true, named := ["bellbuoy/crc.divisor"], apart := false, laid := [("bellbuoy/crc.divisor", laid_bellbuoy_crc_divisor)], narrowed := true }
def CrcSumsUptoSaid : Prop := crcSumsUptoRow.holds Tryd.pinned (OpenSpec.upto crcSumsSpec)

/-- 'bellbuoylaw03.CrcSeals', WHERE WHAT IT READS IS OF BULK AT MOST 1048576: true; the input reads as it did. -/
def crcSealsUptoRow : OpenClaim := { program := "ytfbjkccangembaadoor", sum := "dd67362a84106e727669390febb0fe7285b556eb4e907300513fe32771215784", func := "bellbuoy/bellbuoylaw03.CrcSeals", spec := "crcSeals", unfollowed := true, recurses := true, named := ["bellbuoy/crc.divisor"], apart := false, laid := [("bellbuoy/crc.divisor", laid_bellbuoy_crc_divisor)], narrowed := true }
def CrcSealsUptoSaid : Prop := crcSealsUptoRow.holds Tryd.pinned (OpenSpec.upto crcSealsSpec)

/-- 'bellbuoylaw03.CrcLinear', WHERE WHAT IT READS IS OF BULK AT MOST 1048576: true; the input reads as it did. -/
def crcLinearUptoRow : OpenClaim := { program := "ytfbjkccangembaadoor", sum := "dd67362a84106e727669390febb0fe7285b556eb4e907300513fe32771215784", func := "bellbuoy/bellbuoylaw03.CrcLinear", spec := "crcLinear", unfollowed := true, recurses := true, named := ["bellbuoy/crc.divisor"], apart := false, laid := [("bellbuoy/crc.divisor", laid_bellbuoy_crc_divisor)], narrowed := true }
def CrcLinearUptoSaid : Prop := crcLinearUptoRow.holds Tryd.pinned (OpenSpec.upto crcLinearSpec)

/-- 'bellbuoylaw03.CrcBursts', WHERE WHAT IT READS IS OF BULK AT MOST 1048576: true; the input reads as it did. -/
def crcBurstsUptoRow : OpenClaim := { program := "ytfbjkccangembaadoor", sum := "dd67362a84106e727669390febb0fe7285b556eb4e907300513fe32771215784", func := "bellbuoy/bellbuoylaw03.CrcBursts", spec := "crcBursts", unfollowed := true, recurses := true, named := ["bellbuoy/crc.divisor"], apart := false, laid := [("bellbuoy/crc.divisor", laid_bellbuoy_crc_divisor)], narrowed := true }
def CrcBurstsUptoSaid : Prop := crcBurstsUptoRow.holds Tryd.pinned (OpenSpec.upto crcBurstsSpec)

/-- 'bellbuoylaw03.CrcOdd', WHERE WHAT IT READS IS OF BULK AT MOST 1048576: true; the input reads as it did. -/
def crcOddUptoRow : OpenClaim := { program := "ytfbjkccangembaadoor", sum := "dd67362a84106e727669390febb0fe7285b556eb4e907300513fe32771215784", func := "bellbuoy/bellbuoylaw03.CrcOdd", spec := "crcOdd", unfollowed := true, recurses := true, named := ["bellbuoy/crc.divisor"], apart := false, laid := [("bellbuoy/crc.divisor", laid_bellbuoy_crc_divisor)], narrowed := true }
def CrcOddUptoSaid : Prop := crcOddUptoRow.holds Tryd.pinned (OpenSpec.upto crcOddSpec)

end Rows
end Go.Proofs.YtfbjkccangembaaDoor
