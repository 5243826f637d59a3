import Derived.Test.YtghigcdpinogaaaTypes
import Derived.Test.YtghigcdpinogaaaRow0
import Derived.Test.YtghigcdpinogaaaAbC
import Derived.Test.YtghigcdpinogaaaRight
import Derived.Test.YtghigcdpinogaaaBoxes
import Derived.Test.YtghigcdpinogaaaCtrl
/- Posts, and what a bit brought, as arguments. -/
set_option linter.all false
set_option maxRecDepth 20000
namespace Go.Proofs.Ytghigcdpinogaaa
open Go Go.Ab
theorem flatPost : flat Try.prog 16 34 = some [.bool, .int .u32, .bool, .int .i64, .int .u8, .int .u8, .int .u8, .int .u8, .int .u8, .int .u8, .int .u8, .int .u8, .bool, .int .i64] := by kernel_rfl
theorem flatHappen : flat Try.prog 16 37 = some [.bool, .bool, .bool, .bool, .int .i64, .bool, .int .u32, .bool, .int .i64, .int .u8, .int .u8, .int .u8, .int .u8, .int .u8, .int .u8, .int .u8, .int .u8] := by kernel_rfl
theorem po_cells {W : World} {c : List Value} (h1 : okCells W [.bool, .int .u32, .bool, .int .i64, .int .u8, .int .u8, .int .u8, .int .u8, .int .u8, .int .u8, .int .u8, .int .u8, .bool, .int .i64] c) : ∃ po : Po, c = po.c ∧ po.n < 2 ^ 32 ∧ (∀ x ∈ po.ds, x < 256) ∧ -9223372036854775808 ≤ po.l ∧ po.l ≤ 9223372036854775807 := by
  simp only [okCells, okCell] at h1
  obtain ⟨_, _, rfl, ⟨e, rfl⟩, _, _, rfl, ⟨n, rfl, wn⟩, _, _, rfl, ⟨r, rfl⟩, _, _, rfl, ⟨l, rfl, wl⟩, h1⟩ := h1
  obtain ⟨_, _, rfl, ⟨x0, rfl, w0⟩, _, _, rfl, ⟨x1, rfl, w1⟩, _, _, rfl, ⟨x2, rfl, w2⟩, _, _, rfl, ⟨x3, rfl, w3⟩, _, _, rfl, ⟨x4, rfl, w4⟩, _, _, rfl, ⟨x5, rfl, w5⟩, _, _, rfl, ⟨x6, rfl, w6⟩, _, _, rfl, ⟨x7, rfl, w7⟩, h1⟩ := h1
  obtain ⟨_, _, rfl, ⟨o, rfl⟩, _, _, rfl, ⟨t, rfl, wt⟩, rfl⟩ := h1
  obtain ⟨n, rfl, hn⟩ := u32_of wn
  obtain ⟨y0, rfl, v0⟩ := byte_of w0
  obtain ⟨y1, rfl, v1⟩ := byte_of w1
  obtain ⟨y2, rfl, v2⟩ := byte_of w2
  obtain ⟨y3, rfl, v3⟩ := byte_of w3
  obtain ⟨y4, rfl, v4⟩ := byte_of w4
  obtain ⟨y5, rfl, v5⟩ := byte_of w5
  obtain ⟨y6, rfl, v6⟩ := byte_of w6
  obtain ⟨y7, rfl, v7⟩ := byte_of w7
  refine ⟨⟨e, n, r, l, y0, y1, y2, y3, y4, y5, y6, y7, o, t⟩, rfl, hn, ?_, i64_of wl⟩
  simp only [Po.ds, List.mem_cons, List.not_mem_nil, or_false, forall_eq_or_imp, forall_eq]
  exact ⟨v0, v1, v2, v3, v4, v5, v6, v7⟩
theorem hp_cells {W : World} {c : List Value} (h1 : okCells W [.bool, .bool, .bool, .bool, .int .i64, .bool, .int .u32, .bool, .int .i64, .int .u8, .int .u8, .int .u8, .int .u8, .int .u8, .int .u8, .int .u8, .int .u8] c) : ∃ hp : Hp, c = hp.cells ∧ hp.r.length = 10 := by
  simp only [okCells, okCell] at h1
  obtain ⟨_, _, rfl, ⟨b1, rfl⟩, _, _, rfl, ⟨b2, rfl⟩, _, _, rfl, ⟨b3, rfl⟩, _, _, rfl, ⟨b4, rfl⟩, _, _, rfl, ⟨bd, rfl, -⟩, h1⟩ := h1
  obtain ⟨_, _, rfl, ⟨e, rfl⟩, _, _, rfl, ⟨n, rfl, wn⟩, _, _, rfl, ⟨r, rfl⟩, _, _, rfl, ⟨l, rfl, wl⟩, h1⟩ := h1
  obtain ⟨_, _, rfl, ⟨x0, rfl, w0⟩, _, _, rfl, ⟨x1, rfl, w1⟩, _, _, rfl, ⟨x2, rfl, w2⟩, _, _, rfl, ⟨x3, rfl, w3⟩, _, _, rfl, ⟨x4, rfl, w4⟩, _, _, rfl, ⟨x5, rfl, w5⟩, _, _, rfl, ⟨x6, rfl, w6⟩, _, _, rfl, ⟨x7, rfl, w7⟩, rfl⟩ := h1
  exact ⟨⟨b1, b2, b3, b4, bd, e, n, [.bool r, .int .i64 l, .int .u8 x0, .int .u8 x1, .int .u8 x2, .int .u8 x3, .int .u8 x4, .int .u8 x5, .int .u8 x6, .int .u8 x7]⟩, rfl, rfl⟩
end Go.Proofs.Ytghigcdpinogaaa
