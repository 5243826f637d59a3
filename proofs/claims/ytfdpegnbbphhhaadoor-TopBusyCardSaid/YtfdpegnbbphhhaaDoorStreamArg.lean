/- A stream as an argument. -/
import Derived.Test.YtfdpegnbbphhhaaDoorTypes
import Derived.Test.YtfdpegnbbphhhaaDoorRow0
import Derived.Test.YtfdpegnbbphhhaaDoorAbC
import Derived.Test.YtfdpegnbbphhhaaDoorRight
import Derived.Test.YtfdpegnbbphhhaaDoorStream
set_option linter.all false
set_option maxRecDepth 20000
namespace Go.Proofs.YtfdpegnbbphhhaaDoor
open Go Go.Ab
theorem flatStream : flat Tryd.prog 16 30 = some [.int .i64, .int .i64, .int .i64, .int .i64, .int .i64, .int .i64, .int .i64] := by kernel_rfl
theorem sm_cells {W : World} {c : List Value} (h : okCells W [.int .i64, .int .i64, .int .i64, .int .i64, .int .i64, .int .i64, .int .i64] c) : ∃ x : Sm, c = x.c ∧ (-9223372036854775808 ≤ x.nd ∧ x.nd ≤ 9223372036854775807) ∧ (-9223372036854775808 ≤ x.cl ∧ x.cl ≤ 9223372036854775807) ∧ (-9223372036854775808 ≤ x.pe ∧ x.pe ≤ 9223372036854775807) ∧ (-9223372036854775808 ≤ x.de ∧ x.de ≤ 9223372036854775807) ∧ (-9223372036854775808 ≤ x.sl ∧ x.sl ≤ 9223372036854775807) ∧ (-9223372036854775808 ≤ x.by_ ∧ x.by_ ≤ 9223372036854775807) := by
  simp only [okCells, okCell] at h
  obtain ⟨_, _, rfl, ⟨a, rfl, wa⟩, _, _, rfl, ⟨b, rfl, wb⟩, _, _, rfl, ⟨c, rfl, wc⟩, _, _, rfl, ⟨d, rfl, wd⟩, _, _, rfl, ⟨e, rfl, we⟩, _, _, rfl, ⟨f, rfl, wf⟩, _, _, rfl, ⟨g, rfl, wg⟩, rfl⟩ := h
  exact ⟨⟨a, b, c, d, e, f, g⟩, rfl, i64_of wb, i64_of wc, i64_of wd, i64_of we, i64_of wf, i64_of wg⟩
theorem flatStreams : flat Tryd.prog 16 22 = some [.sl [.int .i64, .int .i64, .int .i64, .int .i64, .int .i64, .int .i64, .int .i64]] := by kernel_rfl
theorem streams_arg {W : World} {v : Value} (h : ArgR Tryd.prog W 22 v) : ∃ xs : List Sm, Sl W.heap.size (St0 W) 7 v (xs.map Sm.c) ∧ xs.length ≤ 2 ^ 63 - 1 ∧ (∀ b, inB v b → b < W.heap.size) ∧ ∀ x ∈ xs, (-9223372036854775808 ≤ x.nd ∧ x.nd ≤ 9223372036854775807) ∧ (-9223372036854775808 ≤ x.cl ∧ x.cl ≤ 9223372036854775807) ∧ (-9223372036854775808 ≤ x.pe ∧ x.pe ≤ 9223372036854775807) ∧ (-9223372036854775808 ≤ x.de ∧ x.de ≤ 9223372036854775807) ∧ (-9223372036854775808 ≤ x.sl ∧ x.sl ≤ 9223372036854775807) ∧ (-9223372036854775808 ≤ x.by_ ∧ x.by_ ≤ 9223372036854775807) := by
  obtain ⟨f1, f2⟩ := arg_one h flatStreams (by kernel_rfl)
  obtain ⟨Ls, hs, hok, hmax, hold⟩ := sl_arg f1 f2 (by simp) (by rfl)
  change Sl W.heap.size (St0 W) 7 v Ls at hs
  have : ∃ xs : List Sm, Ls = xs.map Sm.c ∧ ∀ x ∈ xs, (-9223372036854775808 ≤ x.nd ∧ x.nd ≤ 9223372036854775807) ∧ (-9223372036854775808 ≤ x.cl ∧ x.cl ≤ 9223372036854775807) ∧ (-9223372036854775808 ≤ x.pe ∧ x.pe ≤ 9223372036854775807) ∧ (-9223372036854775808 ≤ x.de ∧ x.de ≤ 9223372036854775807) ∧ (-9223372036854775808 ≤ x.sl ∧ x.sl ≤ 9223372036854775807) ∧ (-9223372036854775808 ≤ x.by_ ∧ x.by_ ≤ 9223372036854775807) := by
    clear hs hmax f1 f2
    induction Ls with
    | nil => exact ⟨[], rfl, by simp⟩
    | cons l Ls ih =>
      obtain ⟨xs, h1, h2⟩ := ih fun m hm => hok m (by simp [hm])
      obtain ⟨x, h3, h4⟩ := sm_cells (hok l (by simp))
      refine ⟨x :: xs, by rw [h1, h3]; rfl, fun y hy => ?_⟩
      rcases List.mem_cons.1 hy with rfl | hy
      · exact h4
      · exact h2 y hy
  obtain ⟨xs, rfl, hx⟩ := this
  exact ⟨xs, hs, by have : (xs.map Sm.c).length ≤ 2 ^ 63 - 1 := hmax
                    simpa using this, hold, hx⟩
end Go.Proofs.YtfdpegnbbphhhaaDoor
