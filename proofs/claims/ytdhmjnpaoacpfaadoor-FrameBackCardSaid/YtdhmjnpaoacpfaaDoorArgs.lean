import Derived.Test.YtdhmjnpaoacpfaaDoorTypes
import Derived.Test.YtdhmjnpaoacpfaaDoorRow0
import Derived.Test.YtdhmjnpaoacpfaaDoorAbC
import Derived.Test.YtdhmjnpaoacpfaaDoorBits
/- What is told of a law's arguments: numbers, and strings of bytes. -/
set_option linter.all false
set_option maxRecDepth 20000
namespace Go.Proofs.YtdhmjnpaoacpfaaDoor
open Go Go.Ab
theorem flatBytes : flat Tryd.prog 16 34 = some [.sl [.int .u8]] := by kernel_rfl
theorem bytes_of2 {W : World} : ∀ {L : List (List Value)}, (∀ l ∈ L, okCells W [.int .u8] l) → ∃ xs : List Nat, L = bL xs ∧ ∀ x ∈ xs, x < 256 := by
  intro L
  induction L with
  | nil => intro _; exact ⟨[], rfl, by simp⟩
  | cons l L ih =>
    intro h
    obtain ⟨xs, rfl, hx⟩ := ih fun x hx => h x (by simp [hx])
    have h1 := h l (by simp)
    simp only [okCells, okCell] at h1
    obtain ⟨_, _, rfl, ⟨n, rfl, hn⟩, rfl⟩ := h1
    have hn := wf_int hn
    simp only [IntKind.min, IntKind.max, IntKind.signed, IntKind.bits] at hn
    have h0 : 0 ≤ n ∧ n ≤ 255 := by simpa using hn
    refine ⟨n.toNat :: xs, by simp [bL, Int.toNat_of_nonneg h0.1], fun x hx2 => ?_⟩
    rcases List.mem_cons.1 hx2 with rfl | h2
    · omega
    · exact hx x h2
theorem bytes_arg2 {W : World} {v : Value} (h : ArgR Tryd.prog W 34 v) : ∃ xs, Sl W.heap.size (St0 W) 1 v (bL xs) ∧ xs.length ≤ 2 ^ 63 - 1 ∧ ∀ x ∈ xs, x < 256 := by
  obtain ⟨f1, f2⟩ := arg_one h flatBytes (by kernel_rfl)
  obtain ⟨L, hs, hok, hmax, -⟩ := sl_arg f1 f2 (by simp) (by rfl)
  obtain ⟨xs, rfl, hx⟩ := bytes_of2 hok
  rw [bL_len] at hmax
  exact ⟨xs, hs, hmax, hx⟩
end Go.Proofs.YtdhmjnpaoacpfaaDoor
