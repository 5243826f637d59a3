/-
  No cell of these rows narrows 'for every input' (looked for: loops, veiled, ifaces, maps, wideKeys, modest, calm, conditions, laid).
  DERIVED. THE GIVEN ROWS OF THIS SEAT. 4 by the template 'for every input the law returns true; each argument reads behind the call as it read before'; 0 by the template 'total and deterministic' (their statements: YtnhedpdemmbfnaaTotals.lean).
  GIVEN WITH THE SEED: the statements are not yours to turn. If you find one false, say at which input.
  Laid BY PROGRAM, IN A SANDBOX (cutbox-rows.mjs): the forced cells as the released guide's own fill.sh prints them over the translation 182297120b27a539… (all of the seat's roots in one cut). By AI agents, Wed Nov 11 2026. No macro, syntax, notation, axiom, sorry.
-/
import Derived.Test.YtnhedpdemmbfnaaChecked
import GoSem.Claim
import GoSem.ClaimJoined
import GoSem.ClaimMapViews
import Derived.JoinedTies
import Derived.KernelRfl
namespace Go.Proofs.Ytnhedpdemmbfnaa
/- THE CELL 'sum', in the pinned program and in every row, IS THE sha256 OF THE DUMP (.gsa) THAT YtnhedpdemmbfnaaProg.lean LOADS. Nothing in Lean hashes anything: it is a label: what it is worth is what the hold of that sum in a sandbox is worth. -/
noncomputable def Try.pinned : Pinned := { name := "ytnhedpdemmbfnaa", sum := "182297120b27a539ae1de9eedf1eb9a918a4673521384d25f5e40ea0ee7f7495", checked := Try.checked }
namespace Rows
def none {H : Type} : Left H := { results := [], args := [] }

/-- 'bellbuoylaw20.SlaveWords': WHATEVER THE INPUT: true; the input reads as it did. -/
def slaveWordsSpec : ChangeSpec := { name := "slaveWords", fn := fun _ => fun
  | [d1, d2] => { results := [.lit (.bool true)], args := [d1, d2] }
  | _ => none }
def slaveWordsRow : OpenClaim := { program := "ytnhedpdemmbfnaa", sum := "182297120b27a539ae1de9eedf1eb9a918a4673521384d25f5e40ea0ee7f7495", func := "bellbuoy/bellbuoylaw20.SlaveWords", spec := "slaveWords", unfollowed := true, recurses := true, apart := false }
def SlaveWordsSaid : Prop := slaveWordsRow.holds Try.pinned (OpenSpec.ofChange slaveWordsSpec)

/-- ITS FALSE NEIGHBOUR: 'it returns false'. Refute it at one input. -/
def slaveWordsWrong : ChangeSpec := { name := "slaveWords", fn := fun _ => fun
  | [d1, d2] => { results := [.lit (.bool false)], args := [d1, d2] }
  | _ => none }
def SlaveWordsWrongFalsely : Prop := slaveWordsRow.holds Try.pinned (OpenSpec.ofChange slaveWordsWrong)

/-- 'bellbuoylaw20.SlaveBack': WHATEVER THE INPUT: true; the input reads as it did. -/
def slaveBackSpec : ChangeSpec := { name := "slaveBack", fn := fun _ => fun
  | [d1, d2] => { results := [.lit (.bool true)], args := [d1, d2] }
  | _ => none }
def slaveBackRow : OpenClaim := { program := "ytnhedpdemmbfnaa", sum := "182297120b27a539ae1de9eedf1eb9a918a4673521384d25f5e40ea0ee7f7495", func := "bellbuoy/bellbuoylaw20.SlaveBack", spec := "slaveBack", unfollowed := true, recurses := true, apart := false }
def SlaveBackSaid : Prop := slaveBackRow.holds Try.pinned (OpenSpec.ofChange slaveBackSpec)

/-- ITS FALSE NEIGHBOUR: 'it returns false'. Refute it at one input. -/
def slaveBackWrong : ChangeSpec := { name := "slaveBack", fn := fun _ => fun
  | [d1, d2] => { results := [.lit (.bool false)], args := [d1, d2] }
  | _ => none }
def SlaveBackWrongFalsely : Prop := slaveBackRow.holds Try.pinned (OpenSpec.ofChange slaveBackWrong)

/-- 'bellbuoylaw20.SlaveHears': WHATEVER THE INPUT: true; the input reads as it did. -/
def slaveHearsSpec : ChangeSpec := { name := "slaveHears", fn := fun _ => fun
  | [d] => { results := [.lit (.bool true)], args := [d] }
  | _ => none }
def slaveHearsRow : OpenClaim := { program := "ytnhedpdemmbfnaa", sum := "182297120b27a539ae1de9eedf1eb9a918a4673521384d25f5e40ea0ee7f7495", func := "bellbuoy/bellbuoylaw20.SlaveHears", spec := "slaveHears", unfollowed := true, recurses := true, apart := false }
def SlaveHearsSaid : Prop := slaveHearsRow.holds Try.pinned (OpenSpec.ofChange slaveHearsSpec)

/-- ITS FALSE NEIGHBOUR: 'it returns false'. Refute it at one input. -/
def slaveHearsWrong : ChangeSpec := { name := "slaveHears", fn := fun _ => fun
  | [d] => { results := [.lit (.bool false)], args := [d] }
  | _ => none }
def SlaveHearsWrongFalsely : Prop := slaveHearsRow.holds Try.pinned (OpenSpec.ofChange slaveHearsWrong)

/-- 'bellbuoylaw20.SlaveOnce': WHATEVER THE INPUT: true; the input reads as it did. -/
def slaveOnceSpec : ChangeSpec := { name := "slaveOnce", fn := fun _ => fun
  | [d] => { results := [.lit (.bool true)], args := [d] }
  | _ => none }
def slaveOnceRow : OpenClaim := { program := "ytnhedpdemmbfnaa", sum := "182297120b27a539ae1de9eedf1eb9a918a4673521384d25f5e40ea0ee7f7495", func := "bellbuoy/bellbuoylaw20.SlaveOnce", spec := "slaveOnce", unfollowed := true, recurses := true, apart := false }
def SlaveOnceSaid : Prop := slaveOnceRow.holds Try.pinned (OpenSpec.ofChange slaveOnceSpec)

/-- ITS FALSE NEIGHBOUR: 'it returns false'. Refute it at one input. -/
def slaveOnceWrong : ChangeSpec := { name := "slaveOnce", fn := fun _ => fun
  | [d] => { results := [.lit (.bool false)], args := [d] }
  | _ => none }
def SlaveOnceWrongFalsely : Prop := slaveOnceRow.holds Try.pinned (OpenSpec.ofChange slaveOnceWrong)

/- THE SECOND FORM. 'bulk': how many values and letters a reading holds, each counted each time it is reached (what is shared counts as often as it is met; a slice's spare places count too). A statement '..UptoSaid' is the law's where the arguments, and the package variables that the reading takes, are together of bulk at most 1048576: NARROWER than '..Said'. Prove '..Said' where nothing that the law and all that it calls make is longer than what came in: it says more and counts as full. Else prove '..UptoSaid'. A law counts once. -/
mutual
def uptoBulk {H : Type} : DataW H → Nat
  | .lit (.string bytes) => bytes.length + 1
  | .lit _ => 1
  | .nil => 1
  | .ptr d => uptoBulk d + 1
  | .slice elems spare => uptoBulkAll elems + uptoBulkAll spare + 1
  | .agg parts => uptoBulkAll parts + 1
  | .iface _ d => uptoBulk d + 1
  | .map entries => uptoBulkEntries entries + 1
  | .held _ => 1
def uptoBulkAll {H : Type} : List (DataW H) → Nat
  | [] => 0
  | d :: r => uptoBulk d + uptoBulkAll r
def uptoBulkEntries {H : Type} : List (Lit × DataW H) → Nat
  | [] => 0
  | x :: r => uptoBulkEntry x + uptoBulkEntries r
def uptoBulkEntry {H : Type} : Lit × DataW H → Nat
  | (.string bytes, d) => bytes.length + uptoBulk d + 1
  | (_, d) => uptoBulk d + 1
 end
def uptoSmall : (H : Type) → List (DataW H) → Bool := fun _ ds => decide (uptoBulkAll ds ≤ 1048576)
def OpenSpec.upto (s : _root_.Go.ChangeSpec) : _root_.Go.OpenSpec := { _root_.Go.OpenSpec.ofChange s with cond := some uptoSmall }

/-- 'bellbuoylaw20.SlaveWords', WHERE WHAT IT READS IS OF BULK AT MOST 1048576: true; the input reads as it did. -/
def slaveWordsUptoRow : OpenClaim := { program := "ytnhedpdemmbfnaa", sum := "182297120b27a539ae1de9eedf1eb9a918a4673521384d25f5e40ea0ee7f7495", func := "bellbuoy/bellbuoylaw20.SlaveWords", spec := "slaveWords", unfollowed := true, recurses := true, apart := false, narrowed := true }
def SlaveWordsUptoSaid : Prop := slaveWordsUptoRow.holds Try.pinned (OpenSpec.upto slaveWordsSpec)

/-- 'bellbuoylaw20.SlaveBack', WHERE WHAT IT READS IS OF BULK AT MOST 1048576: true; the input reads as it did. -/
def slaveBackUptoRow : OpenClaim := { program := "ytnhedpdemmbfnaa", sum := "182297120b27a539ae1de9eedf1eb9a918a4673521384d25f5e40ea0ee7f7495", func := "bellbuoy/bellbuoylaw20.SlaveBack", spec := "slaveBack", unfollowed := true, recurses := true, apart := false, narrowed := true }
def SlaveBackUptoSaid : Prop := slaveBackUptoRow.holds Try.pinned (OpenSpec.upto slaveBackSpec)

/-- 'bellbuoylaw20.SlaveHears', WHERE WHAT IT READS IS OF BULK AT MOST 1048576: true; the input reads as it did. -/
def slaveHearsUptoRow : OpenClaim := { program := "ytnhedpdemmbfnaa", sum := "182297120b27a539ae1de9eedf1eb9a918a4673521384d25f5e40ea0ee7f7495", func := "bellbuoy/bellbuoylaw20.SlaveHears", spec := "slaveHears", unfollowed := true, recurses := true, apart := false, narrowed := true }
def SlaveHearsUptoSaid : Prop := slaveHearsUptoRow.holds Try.pinned (OpenSpec.upto slaveHearsSpec)

/-- 'bellbuoylaw20.SlaveOnce', WHERE WHAT IT READS IS OF BULK AT MOST 1048576: true; the input reads as it did. -/
def slaveOnceUptoRow : OpenClaim := { program := "ytnhedpdemmbfnaa", sum := "182297120b27a539ae1de9eedf1eb9a918a4673521384d25f5e40ea0ee7f7495", func := "bellbuoy/bellbuoylaw20.SlaveOnce", spec := "slaveOnce", unfollowed := true, recurses := true, apart := false, narrowed := true }
def SlaveOnceUptoSaid : Prop := slaveOnceUptoRow.holds Try.pinned (OpenSpec.upto slaveOnceSpec)

end Rows
end Go.Proofs.Ytnhedpdemmbfnaa
