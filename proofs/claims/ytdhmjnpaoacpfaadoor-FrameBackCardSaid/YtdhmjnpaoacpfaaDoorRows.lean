/-
  NARROWER THAN 'FOR EVERY INPUT', by the rows' own cells (each row's printed sentence says how): FrameIs: laid · FrameParses: laid · FrameBack: laid · FrameSizes: laid · FrameFlips: laid.
  DERIVED. THE GIVEN ROWS OF THIS SEAT. 5 by the template 'for every input the law returns true; each argument reads behind the call as it read before'; 0 by the template 'total and deterministic' (their statements: YtdhmjnpaoacpfaaDoorTotals.lean).
  GIVEN WITH THE SEED: the statements are not yours to turn. If you find one false, say at which input.
  Laid BY PROGRAM, IN A SANDBOX (cutbox-rows.mjs): the forced cells as the released guide's own fill.sh prints them over the translation e73efc6ea70462f6… (all of the seat's roots in one cut). By AI agents, Wed Nov 11 2026. No macro, syntax, notation, axiom, sorry.
-/
import Derived.Test.YtdhmjnpaoacpfaaDoorChecked
import GoSem.Claim
import GoSem.ClaimJoined
import GoSem.ClaimMapViews
import Derived.JoinedTies
import Derived.KernelRfl
namespace Go.Proofs.YtdhmjnpaoacpfaaDoor
/- THE CELL 'sum', in the pinned program and in every row, IS THE sha256 OF THE DUMP (.gsa) THAT YtdhmjnpaoacpfaaDoorProg.lean LOADS. Nothing in Lean hashes anything: it is a label: what it is worth is what the hold of that sum in a sandbox is worth. -/
noncomputable def Tryd.pinned : Pinned := { name := "ytdhmjnpaoacpfaadoor", sum := "e73efc6ea70462f6f469f5fabfb3672c70f80f1f318950ddcaad2d71b062e5f0", checked := Tryd.checked }
namespace Rows
def none {H : Type} : Left H := { results := [], args := [] }

/- WHAT THE LISTED PACKAGE-LEVEL VARIABLES READ AS WHEN THE CALL BEGINS. Each datum BY PROGRAM (the guide's laid-datum.mjs) off the statement by which the dump's own 'gosem.cut.vars' lays the variable. In a bare row this is a premise. The card (YtdhmjnpaoacpfaaDoorCards.lean) ties it to the program's text. -/
def laid_bellbuoy_crc_divisor {H : Type} : DataW H := .agg [.lit (.int .u8 1), .lit (.int .u8 1), .lit (.int .u8 0), .lit (.int .u8 0), .lit (.int .u8 0), .lit (.int .u8 1), .lit (.int .u8 0), .lit (.int .u8 1), .lit (.int .u8 1), .lit (.int .u8 0), .lit (.int .u8 0), .lit (.int .u8 1), .lit (.int .u8 1), .lit (.int .u8 0), .lit (.int .u8 0), .lit (.int .u8 1)]

/-- 'bellbuoylaw06.FrameIs': WHATEVER THE INPUT: true; the input reads as it did. -/
def frameIsSpec : ChangeSpec := { name := "frameIs", fn := fun _ => fun
  | [d1, d2] => { results := [.lit (.bool true)], args := [d1, d2] }
  | _ => none }
def frameIsRow : OpenClaim := { program := "ytdhmjnpaoacpfaadoor", sum := "e73efc6ea70462f6f469f5fabfb3672c70f80f1f318950ddcaad2d71b062e5f0", func := "bellbuoy/bellbuoylaw06.FrameIs", spec := "frameIs", inPlace := ["internal/bytealg.IndexByteString", "internal/bytealg.IndexString"], unfollowed := true, recurses := true, named := ["bellbuoy/crc.divisor", "internal/bytealg.MaxLen"], apart := false, laid := [("bellbuoy/crc.divisor", laid_bellbuoy_crc_divisor)] }
def FrameIsSaid : Prop := frameIsRow.holds Tryd.pinned (OpenSpec.ofChange frameIsSpec)

/-- ITS FALSE NEIGHBOUR: 'it returns false'. Refute it at one input. -/
def frameIsWrong : ChangeSpec := { name := "frameIs", fn := fun _ => fun
  | [d1, d2] => { results := [.lit (.bool false)], args := [d1, d2] }
  | _ => none }
def FrameIsWrongFalsely : Prop := frameIsRow.holds Tryd.pinned (OpenSpec.ofChange frameIsWrong)

/-- 'bellbuoylaw06.FrameParses': WHATEVER THE INPUT: true; the input reads as it did. -/
def frameParsesSpec : ChangeSpec := { name := "frameParses", fn := fun _ => fun
  | [d] => { results := [.lit (.bool true)], args := [d] }
  | _ => none }
def frameParsesRow : OpenClaim := { program := "ytdhmjnpaoacpfaadoor", sum := "e73efc6ea70462f6f469f5fabfb3672c70f80f1f318950ddcaad2d71b062e5f0", func := "bellbuoy/bellbuoylaw06.FrameParses", spec := "frameParses", inPlace := ["internal/bytealg.IndexByteString", "internal/bytealg.IndexString"], unfollowed := true, recurses := true, named := ["bellbuoy/crc.divisor", "internal/bytealg.MaxLen"], apart := false, laid := [("bellbuoy/crc.divisor", laid_bellbuoy_crc_divisor)] }
def FrameParsesSaid : Prop := frameParsesRow.holds Tryd.pinned (OpenSpec.ofChange frameParsesSpec)

/-- ITS FALSE NEIGHBOUR: 'it returns false'. Refute it at one input. -/
def frameParsesWrong : ChangeSpec := { name := "frameParses", fn := fun _ => fun
  | [d] => { results := [.lit (.bool false)], args := [d] }
  | _ => none }
def FrameParsesWrongFalsely : Prop := frameParsesRow.holds Tryd.pinned (OpenSpec.ofChange frameParsesWrong)

/-- 'bellbuoylaw06.FrameBack': WHATEVER THE INPUT: true; the input reads as it did. -/
def frameBackSpec : ChangeSpec := { name := "frameBack", fn := fun _ => fun
  | [d1, d2, d3] => { results := [.lit (.bool true)], args := [d1, d2, d3] }
  | _ => none }
def frameBackRow : OpenClaim := { program := "ytdhmjnpaoacpfaadoor", sum := "e73efc6ea70462f6f469f5fabfb3672c70f80f1f318950ddcaad2d71b062e5f0", func := "bellbuoy/bellbuoylaw06.FrameBack", spec := "frameBack", inPlace := ["internal/bytealg.IndexByteString", "internal/bytealg.IndexString"], unfollowed := true, recurses := true, named := ["bellbuoy/crc.divisor", "internal/bytealg.MaxLen"], apart := false, laid := [("bellbuoy/crc.divisor", laid_bellbuoy_crc_divisor)] }
def FrameBackSaid : Prop := frameBackRow.holds Tryd.pinned (OpenSpec.ofChange frameBackSpec)

/-- ITS FALSE NEIGHBOUR: 'it returns false'. Refute it at one input. -/
def frameBackWrong : ChangeSpec := { name := "frameBack", fn := fun _ => fun
  | [d1, d2, d3] => { results := [.lit (.bool false)], args := [d1, d2, d3] }
  | _ => none }
def FrameBackWrongFalsely : Prop := frameBackRow.holds Tryd.pinned (OpenSpec.ofChange frameBackWrong)

/-- 'bellbuoylaw06.FrameSizes': WHATEVER THE INPUT: true; the input reads as it did. -/
def frameSizesSpec : ChangeSpec := { name := "frameSizes", fn := fun _ => fun
  | [d1, d2] => { results := [.lit (.bool true)], args := [d1, d2] }
  | _ => none }
def frameSizesRow : OpenClaim := { program := "ytdhmjnpaoacpfaadoor", sum := "e73efc6ea70462f6f469f5fabfb3672c70f80f1f318950ddcaad2d71b062e5f0", func := "bellbuoy/bellbuoylaw06.FrameSizes", spec := "frameSizes", inPlace := ["internal/bytealg.IndexByteString", "internal/bytealg.IndexString"], unfollowed := true, recurses := true, named := ["bellbuoy/crc.divisor", "internal/bytealg.MaxLen"], apart := false, laid := [("bellbuoy/crc.divisor", laid_bellbuoy_crc_divisor)] }
def FrameSizesSaid : Prop := frameSizesRow.holds Tryd.pinned (OpenSpec.ofChange frameSizesSpec)

/-- ITS FALSE NEIGHBOUR: 'it returns false'. Refute it at one input. -/
def frameSizesWrong : ChangeSpec := { name := "frameSizes", fn := fun _ => fun
  | [d1, d2] => { results := [.lit (.bool false)], args := [d1, d2] }
  | _ => none }
def FrameSizesWrongFalsely : Prop := frameSizesRow.holds Tryd.pinned (OpenSpec.ofChange frameSizesWrong)

/-- 'bellbuoylaw06.FrameFlips': WHATEVER THE INPUT: true; the input reads as it did. -/
def frameFlipsSpec : ChangeSpec := { name := "frameFlips", fn := fun _ => fun
  | [d1, d2] => { results := [.lit (.bool true)], args := [d1, d2] }
  | _ => none }
def frameFlipsRow : OpenClaim := { program := "ytdhmjnpaoacpfaadoor", sum := "e73efc6ea70462f6f469f5fabfb3672c70f80f1f318950ddcaad2d71b062e5f0", func := "bellbuoy/bellbuoylaw06.FrameFlips", spec := "frameFlips", inPlace := ["internal/bytealg.IndexByteString", "internal/bytealg.IndexString"], unfollowed := true, recurses := true, named := ["bellbuoy/crc.divisor", "internal/bytealg.MaxLen"], apart := false, laid := [("bellbuoy/crc.divisor", laid_bellbuoy_crc_divisor)] }
def FrameFlipsSaid : Prop := frameFlipsRow.holds Tryd.pinned (OpenSpec.ofChange frameFlipsSpec)

/-- ITS FALSE NEIGHBOUR: 'it returns false'. Refute it at one input. -/
def frameFlipsWrong : ChangeSpec := { name := "frameFlips", fn := fun _ => fun
  | [d1, d2] => { results := [.lit (.bool false)], args := [d1, d2] }
  | _ => none }
def FrameFlipsWrongFalsely : Prop := frameFlipsRow.holds Tryd.pinned (OpenSpec.ofChange frameFlipsWrong)

/- THE SECOND FORM. 'bulk': how many values and letters a reading holds, each counted each time it is reached (what is shared counts as often as it is met; a slice's spare places count too). A statement '..UptoSaid' is the law's where the arguments, and the package variables that the reading takes, are together of bulk at most 1048576: NARROWER than '..Said'. Prove '..Said' where nothing that the law and all that it calls make is longer than what came in: it says more and counts as full. Else prove '..UptoSaid'. A law counts once. -/
mutual
def uptoBulk {H : Type} : DataW H → Nat
  | .lit (.string bytes) => bytes.length + 1
  | .lit _ => 1
  | .nil => 1
  | .ptr d => uptoBulk d + 1
  | .slice elems spare => uptoBulkAll elems + uptoBulkAll spare + 1
  | .agg parts => uptoBulkAll parts + 1
  | .iface _ d => uptoBulk d + 1
  | .map entries => uptoBulkEntries entries + 1
  | .held _ => 1
def uptoBulkAll {H : Type} : List (DataW H) → Nat
  | [] => 0
  | d :: r => uptoBulk d + uptoBulkAll r
def uptoBulkEntries {H : Type} : List (Lit × DataW H) → Nat
  | [] => 0
  | x :: r => uptoBulkEntry x + uptoBulkEntries r
def uptoBulkEntry {H : Type} : Lit × DataW H → Nat
  | (.string bytes, d) => bytes.length + uptoBulk d + 1
  | (_, d) => uptoBulk d + 1
 end
def uptoSmall : (H : Type) → List (DataW H) → Bool := fun _ ds => decide (uptoBulkAll ds ≤ 1048576)
def OpenSpec.upto (s : _root_.Go.ChangeSpec) : _root_.Go.OpenSpec := { _root_.Go.OpenSpec.ofChange s with cond := some uptoSmall }

/-- 'bellbuoylaw06.FrameIs', WHERE WHAT IT READS IS OF BULK AT MOST 1048576: true; the input reads as it did. -/
def frameIsUptoRow : OpenClaim := { program := "ytdhmjnpaoacpfaadoor", sum := "e73efc6ea70462f6f469f5fabfb3672c70f80f1f318950ddcaad2d71b062e5f0", func := "bellbuoy/bellbuoylaw06.FrameIs", spec := "frameIs", inPlace := ["internal/bytealg.IndexByteString", "internal/bytealg.IndexString"], unfollowed := true, recurses := true, named := ["bellbuoy/crc.divisor", "internal/bytealg.MaxLen"], apart := false, laid := [("bellbuoy/crc.divisor", laid_bellbuoy_crc_divisor)], narrowed := true }
def FrameIsUptoSaid : Prop := frameIsUptoRow.holds Tryd.pinned (OpenSpec.upto frameIsSpec)

/-- 'bellbuoylaw06.FrameParses', WHERE WHAT IT READS IS OF BULK AT MOST 1048576: true; the input reads as it did. -/
def frameParsesUptoRow : OpenClaim := { program := "ytdhmjnpaoacpfaadoor", sum := "e73efc6ea70462f6f469f5fabfb3672c70f80f1f318950ddcaad2d71b062e5f0", func := "bellbuoy/bellbuoylaw06.FrameParses", spec := "frameParses", inPlace := ["internal/bytealg.IndexByteString", "internal/bytealg.IndexString"], unfollowed := true, recurses := true, named := ["bellbuoy/crc.divisor", "internal/bytealg.MaxLen"], apart := false, laid := [("bellbuoy/crc.divisor", laid_bellbuoy_crc_divisor)], narrowed := true }
def FrameParsesUptoSaid : Prop := frameParsesUptoRow.holds Tryd.pinned (OpenSpec.upto frameParsesSpec)

/-- 'bellbuoylaw06.FrameBack', WHERE WHAT IT READS IS OF BULK AT MOST 1048576: true; the input reads as it did. -/
def frameBackUptoRow : OpenClaim := { program := "ytdhmjnpaoacpfaadoor", sum := "e73efc6ea70462f6f469f5fabfb3672c70f80f1f318950ddcaad2d71b062e5f0", func := "bellbuoy/bellbuoylaw06.FrameBack", spec := "frameBack", inPlace := ["internal/bytealg.IndexByteString", "internal/bytealg.IndexString"], unfollowed := true, recurses := true, named := ["bellbuoy/crc.divisor", "internal/bytealg.MaxLen"], apart := false, laid := [("bellbuoy/crc.divisor", laid_bellbuoy_crc_divisor)], narrowed := true }
def FrameBackUptoSaid : Prop := frameBackUptoRow.holds Tryd.pinned (OpenSpec.upto frameBackSpec)

/-- 'bellbuoylaw06.FrameSizes', WHERE WHAT IT READS IS OF BULK AT MOST 1048576: true; the input reads as it did. -/
def frameSizesUptoRow : OpenClaim := { program := "ytdhmjnpaoacpfaadoor", sum := "e73efc6ea70462f6f469f5fabfb3672c70f80f1f318950ddcaad2d71b062e5f0", func := "bellbuoy/bellbuoylaw06.FrameSizes", spec := "frameSizes", inPlace := ["internal/bytealg.IndexByteString", "internal/bytealg.IndexString"], unfollowed := true, recurses := true, named := ["bellbuoy/crc.divisor", "internal/bytealg.MaxLen"], apart := false, laid := [("bellbuoy/crc.divisor", laid_bellbuoy_crc_divisor)], narrowed := true }
def FrameSizesUptoSaid : Prop := frameSizesUptoRow.holds Tryd.pinned (OpenSpec.upto frameSizesSpec)

/-- 'bellbuoylaw06.FrameFlips', WHERE WHAT IT READS IS OF BULK AT MOST 1048576: true; the input reads as it did. -/
def frameFlipsUptoRow : OpenClaim := { program := "ytdhmjnpaoacpfaadoor", sum := "e73efc6ea70462f6f469f5fabfb3672c70f80f1f318950ddcaad2d71b062e5f0", func := "bellbuoy/bellbuoylaw06.FrameFlips", spec := "frameFlips", inPlace := ["internal/bytealg.IndexByteString", "internal/bytealg.IndexString"], unfollowed := true, recurses := true, named := ["bellbuoy/crc.divisor", "internal/bytealg.MaxLen"], apart := false, laid := [("bellbuoy/crc.divisor", laid_bellbuoy_crc_divisor)], narrowed := true }
def FrameFlipsUptoSaid : Prop := frameFlipsUptoRow.holds Tryd.pinned (OpenSpec.upto frameFlipsSpec)

end Rows
end Go.Proofs.YtdhmjnpaoacpfaaDoor
