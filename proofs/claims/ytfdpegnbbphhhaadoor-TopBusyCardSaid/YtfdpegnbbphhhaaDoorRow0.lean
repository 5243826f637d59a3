/- What is asked once of this seat's program, and what is laid there. -/
import Derived.Test.YtfdpegnbbphhhaaDoorRows
import Derived.Test.YtfdpegnbbphhhaaDoorAbC
namespace Go.Proofs.YtfdpegnbbphhhaaDoor
open Go Go.Ab
theorem own : ownKnob Tryd.prog.godebug = none := by kernel_rfl
theorem laidOut : laidOutB Tryd.prog = true := by kernel_rfl
theorem mixed : Tryd.prog.follows .mixedOrders = true := by kernel_rfl
theorem okProg1 : progOk 1 Tryd.prog = true := by kernel_rfl
theorem boolT : Tryd.prog.underlying 4 = some .bool := by kernel_rfl
abbrev laidVars : List (String × DataW Unit) := [("bellbuoy/crc.divisor", Rows.laid_bellbuoy_crc_divisor)]
theorem gDiv : Tryd.prog.globalNamed "bellbuoy/crc.divisor" = some 0 := by kernel_rfl
theorem tDiv : (Tryd.prog.globals[0]?).map (·.type) = some 108 := by kernel_rfl
theorem uDiv : Tryd.prog.underlying 108 = some (.array 16 5) := by kernel_rfl
theorem uByte : Tryd.prog.underlying 5 = some (.int .u8) := by kernel_rfl
theorem door_met (os : Os) (args : Array Value) : laidMetH Tryd.prog laidVars ((World.doorLaid Tryd.prog 400 os).forCall (fun _ _ => 0) ⟨#[], args, []⟩).memory :=
  laidMetH_of_parts3 (fuel := 8) (laidMet_of_run' 8 (by kernel_rfl) (by kernel_rfl)) (by kernel_rfl) (by kernel_rfl)
def divC : List Value := [.int .u8 1, .int .u8 1, .int .u8 0, .int .u8 0, .int .u8 0, .int .u8 1, .int .u8 0, .int .u8 1, .int .u8 1, .int .u8 0, .int .u8 0, .int .u8 1, .int .u8 1, .int .u8 0, .int .u8 0, .int .u8 1]
theorem of_laid {W : World} (h : laidMetH Tryd.prog laidVars W) : (St0 W).heap 0 = .row divC ∧ 1 ≤ W.heap.size := by
  rw [MakeChecks.laidMetH_plain _ _ _ (by kernel_rfl)] at h
  obtain ⟨ps, ⟨g0, t0, cs0, f0, p0, q0, hg0, ht0, hv0, hd0, _, _⟩, _, _⟩ := h
  obtain rfl := Option.some.inj (gDiv.symm.trans hg0)
  obtain rfl := Option.some.inj (tDiv.symm.trans ht0)
  obtain ⟨h1, h2⟩ := var_row hg0 hv0
  have := trod_ints (ns := [1, 1, 0, 0, 0, 1, 0, 1, 1, 0, 0, 1, 1, 0, 0, 1]) uDiv uByte (by kernel_rfl) (by kernel_rfl) rfl hd0 rfl
  exact ⟨by rw [h1, this]; rfl, h2⟩
end Go.Proofs.YtfdpegnbbphhhaaDoor
