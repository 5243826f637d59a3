import Derived.Test.YtdllcipkdbhhlaaTypes
import Derived.Test.YtdllcipkdbhhlaaRow0
import Derived.Test.YtdllcipkdbhhlaaAbC
import Derived.Test.YtdllcipkdbhhlaaBits
/- What is told of a law's arguments: numbers, and strings of bytes. -/
set_option linter.all false
set_option maxRecDepth 20000
namespace Go.Proofs.Ytdllcipkdbhhlaa
open Go Go.Ab
theorem flatBytes : flat Try.prog 16 23 = some [.sl [.int .u8]] := by kernel_rfl
theorem bytes_of2 {W : World} : ∀ {L : List (List Value)}, (∀ l ∈ L, okCells W [.int .u8] l) → ∃ xs : List Nat, L = bL xs ∧ ∀ x ∈ xs, x < 256 := by
  intro L
  induction L with
  | nil => intro _; exact ⟨[], rfl, by simp⟩
  | cons l L ih =>
    intro h
    obtain ⟨xs, rfl, hx⟩ := ih fun x hx => h x (by simp [hx])
    have h1 := h l (by simp)
    simp only [okCells, okCell] at h1
    obtain ⟨_, _, rfl, ⟨n, rfl, hn⟩, rfl⟩ := h1
    have hn := wf_int hn
    simp only [IntKind.min, IntKind.max, IntKind.signed, IntKind.bits] at hn
    have h0 : 0 ≤ n ∧ n ≤ 255 := by simpa using hn
    refine ⟨n.toNat :: xs, by simp [bL, Int.toNat_of_nonneg h0.1], fun x hx2 => ?_⟩
    rcases List.mem_cons.1 hx2 with rfl | h2
    · omega
    · exact hx x h2
theorem bytes_arg2 {W : World} {v : Value} (h : ArgR Try.prog W 23 v) : ∃ xs, Sl W.heap.size (St0 W) 1 v (bL xs) ∧ xs.length ≤ 2 ^ 63 - 1 ∧ ∀ x ∈ xs, x < 256 := by
  obtain ⟨f1, f2⟩ := arg_one h flatBytes (by kernel_rfl)
  obtain ⟨L, hs, hok, hmax, -⟩ := sl_arg f1 f2 (by simp) (by rfl)
  obtain ⟨xs, rfl, hx⟩ := bytes_of2 hok
  rw [bL_len] at hmax
  exact ⟨xs, hs, hmax, hx⟩
theorem int_arg {W : World} {v : Value} {t : TypeId} {k : IntKind} (h : ArgR Try.prog W t v) (hf : flat Try.prog 16 t = some [.int k]) (ha : isAggT Try.prog t = false) : ∃ n : Int, v = .int k n ∧ k.min ≤ n ∧ n ≤ k.max := by
  obtain ⟨r1, -⟩ := arg_one h hf ha
  obtain ⟨r, rfl, hr⟩ := (by simpa only [okCell] using r1 : ∃ n, v = .int k n ∧ _)
  exact ⟨r, rfl, wf_int hr⟩
theorem u_arg {W : World} {v : Value} {t : TypeId} {k : IntKind} (h : ArgR Try.prog W t v) (hf : flat Try.prog 16 t = some [.int k]) (ha : isAggT Try.prog t = false) (hk : k.min = 0) {m : Nat} (hm : k.max = (m : Int)) : ∃ n : Nat, v = .int k (n : Int) ∧ n ≤ m := by
  obtain ⟨r, rfl, h1, h2⟩ := int_arg h hf ha
  rw [hk] at h1
  exact ⟨r.toNat, by rw [Int.toNat_of_nonneg h1], by omega⟩
end Go.Proofs.Ytdllcipkdbhhlaa
