/- What is asked once of this seat's program, what is laid there, and what is open (SHAPED). -/
import Derived.Test.YtdhmjnpaoacpfaaDoorRows
import Derived.Test.YtdhmjnpaoacpfaaDoorAbC
import Derived.Shelf.Vars
namespace Go.Proofs.YtdhmjnpaoacpfaaDoor
open Go Go.Ab
theorem own : ownKnob Tryd.prog.godebug = none := by kernel_rfl
theorem laidOut : laidOutB Tryd.prog = true := by kernel_rfl
theorem mixed : Tryd.prog.follows .mixedOrders = true := by kernel_rfl
theorem okProg1 : progOk 2 Tryd.prog = true := by kernel_rfl
theorem boolT : Tryd.prog.underlying 4 = some .bool := by kernel_rfl
abbrev laidVars : List (String × DataW Unit) := [("bellbuoy/crc.divisor", Rows.laid_bellbuoy_crc_divisor)]
theorem gDiv : Tryd.prog.globalNamed "bellbuoy/crc.divisor" = some 0 := by kernel_rfl
theorem tDiv : (Tryd.prog.globals[0]?).map (·.type) = some 89 := by kernel_rfl
theorem uDiv : Tryd.prog.underlying 89 = some (.array 16 5) := by kernel_rfl
theorem uByte : Tryd.prog.underlying 5 = some (.int .u8) := by kernel_rfl
theorem door_met (os : Os) (args : Array Value) : laidMetH Tryd.prog laidVars ((World.doorLaid Tryd.prog 400 os).forCall (fun _ _ => 0) ⟨#[], args, []⟩).memory :=
  laidMetH_of_parts3 (fuel := 8) (laidMet_of_run' 8 (by kernel_rfl) (by kernel_rfl)) (by kernel_rfl) (by kernel_rfl)
def divC : List Value := [.int .u8 1, .int .u8 1, .int .u8 0, .int .u8 0, .int .u8 0, .int .u8 1, .int .u8 0, .int .u8 1, .int .u8 1, .int .u8 0, .int .u8 0, .int .u8 1, .int .u8 1, .int .u8 0, .int .u8 0, .int .u8 1]
theorem of_laid {W : World} (h : laidMetH Tryd.prog laidVars W) : (St0 W).heap 0 = .row divC ∧ 1 ≤ W.heap.size := by
  rw [MakeChecks.laidMetH_plain _ _ _ (by kernel_rfl)] at h
  obtain ⟨ps, ⟨g0, t0, cs0, f0, p0, q0, hg0, ht0, hv0, hd0, _, _⟩, _, _⟩ := h
  obtain rfl := Option.some.inj (gDiv.symm.trans hg0)
  obtain rfl := Option.some.inj (tDiv.symm.trans ht0)
  obtain ⟨h1, h2⟩ := var_row hg0 hv0
  have := trod_ints (ns := [1, 1, 0, 0, 0, 1, 0, 1, 1, 0, 0, 1, 1, 0, 0, 1]) uDiv uByte (by kernel_rfl) (by kernel_rfl) rfl hd0 rfl
  exact ⟨by rw [h1, this]; rfl, h2⟩
/-- The library's own variable holds some number. -/
theorem of_shaped {W : World} (h : W.ShapedOpen Tryd.prog) : 2 ≤ W.heap.size ∧ ∃ m : Int, (St0 W).heap 1 = .row [.int .i64 m] := by
  obtain ⟨cs, hh, hs, hr⟩ := h.1 1 #[.int .i64 0] 3 (of_decide_eq_true (by kernel_rfl)) (by kernel_rfl)
  obtain ⟨m, hm⟩ := cell_of_shapedOpen_int (P := Tryd.prog) (g := 1) (t := 3) (zero := #[.int .i64 0]) (k := .i64) h (of_decide_eq_true (by kernel_rfl)) (by kernel_rfl) rfl (by kernel_rfl) (by kernel_rfl) Tryd.underlying3
  have hlt : 1 < W.heap.size := (Array.getElem?_eq_some_iff.1 hh).1
  refine ⟨hlt, m, ?_⟩
  have h1 : 0 < cs.size := by have : cs.size = 1 := hs; omega
  have hc : cs[0] = .int .i64 m := by
    have : W.cell? ⟨1, 0, none⟩ = some cs[0] := by simp [World.cell?, hh, h1]
    rw [this] at hm
    exact Option.some.inj hm
  rw [old_row hh]
  have : cs = #[.int .i64 m] := by
    have hz : cs.size = 1 := hs
    apply Array.ext
    · simp [hz]
    · intro i hi1 hi2
      have : i = 0 := by omega
      subst this
      simpa using hc
  rw [this]
end Go.Proofs.YtdhmjnpaoacpfaaDoor
