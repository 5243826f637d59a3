/- A network, and acts, as arguments. -/
import Derived.Test.YthjpfllmecpliaaDoorTypes
import Derived.Test.YthjpfllmecpliaaDoorRow0
import Derived.Test.YthjpfllmecpliaaDoorAbC
import Derived.Test.YthjpfllmecpliaaDoorScrPrint
set_option linter.all false
set_option maxRecDepth 20000
namespace Go.Proofs.YthjpfllmecpliaaDoor
open Go Go.Ab
theorem flatPlant : flat Tryd.prog 16 26 = some [.int .i64, .sl [.int .i64, .int .i64, .int .i64, .int .i64, .int .i64, .int .i64, .int .i64], .int .i64, .int .i64, .int .i64, .int .i64, .int .i64, .int .i64, .int .i64, .int .i64] := by kernel_rfl
theorem flatActs : flat Tryd.prog 16 27 = some [.sl [.int .i64, .int .i64, .int .i64, .int .u8, .int .u8, .int .u8, .int .u8, .int .u8, .int .u8, .int .u8, .int .u8]] := by kernel_rfl
theorem sm38_list {W : World} : ∀ {Ls : List (List Value)}, (∀ l ∈ Ls, okCells W [.int .i64, .int .i64, .int .i64, .int .i64, .int .i64, .int .i64, .int .i64] l) → ∃ xs : List Sm, Ls = smL xs := by
  intro Ls
  induction Ls with
  | nil => intro _; exact ⟨[], rfl⟩
  | cons l Ls ih =>
    intro hok
    obtain ⟨xs, h1⟩ := ih fun m hm => hok m (by simp [hm])
    have h := hok l (by simp)
    simp only [okCells, okCell] at h
    obtain ⟨_, _, rfl, ⟨a, rfl, wa⟩, _, _, rfl, ⟨b, rfl, wb⟩, _, _, rfl, ⟨c, rfl, wc⟩, _, _, rfl, ⟨d, rfl, wd⟩, _, _, rfl, ⟨e, rfl, we⟩, _, _, rfl, ⟨f, rfl, wf⟩, _, _, rfl, ⟨g, rfl, wg⟩, rfl⟩ := h
    exact ⟨⟨a, b, c, d, e, f, g⟩ :: xs, by rw [h1]; rfl⟩
theorem u8_nat {n : Int} (h : (Lit.int .u8 n).wf = true) : ∃ m : Nat, n = m ∧ m < 256 := by
  have := wf_int h
  have h1 : IntKind.u8.min = 0 := rfl
  have h2 : IntKind.u8.max = 255 := rfl
  rw [h1, h2] at this
  exact ⟨n.toNat, by omega, by omega⟩
theorem ac38_list {W : World} : ∀ {Ls : List (List Value)}, (∀ l ∈ Ls, okCells W [.int .i64, .int .i64, .int .i64, .int .u8, .int .u8, .int .u8, .int .u8, .int .u8, .int .u8, .int .u8, .int .u8] l) → ∃ xs : List Ac, Ls = acL xs ∧ ∀ a ∈ xs, a.good := by
  intro Ls
  induction Ls with
  | nil => intro _; exact ⟨[], rfl, by simp⟩
  | cons l Ls ih =>
    intro hok
    obtain ⟨xs, h1, h2⟩ := ih fun m hm => hok m (by simp [hm])
    have h := hok l (by simp)
    simp only [okCells, okCell] at h
    obtain ⟨_, _, rfl, ⟨a, rfl, wa⟩, _, _, rfl, ⟨b, rfl, wb⟩, _, _, rfl, ⟨c, rfl, wc⟩, _, _, rfl, ⟨d0, rfl, w0⟩, _, _, rfl, ⟨d1, rfl, w1⟩, _, _, rfl, ⟨d2, rfl, w2⟩, _, _, rfl, ⟨d3, rfl, w3⟩, _, _, rfl, ⟨d4, rfl, w4⟩, _, _, rfl, ⟨d5, rfl, w5⟩, _, _, rfl, ⟨d6, rfl, w6⟩, _, _, rfl, ⟨d7, rfl, w7⟩, rfl⟩ := h
    obtain ⟨d0, rfl, w0⟩ := u8_nat w0
    obtain ⟨d1, rfl, w1⟩ := u8_nat w1
    obtain ⟨d2, rfl, w2⟩ := u8_nat w2
    obtain ⟨d3, rfl, w3⟩ := u8_nat w3
    obtain ⟨d4, rfl, w4⟩ := u8_nat w4
    obtain ⟨d5, rfl, w5⟩ := u8_nat w5
    obtain ⟨d6, rfl, w6⟩ := u8_nat w6
    obtain ⟨d7, rfl, w7⟩ := u8_nat w7
    refine ⟨⟨a, b, c, [d0, d1, d2, d3, d4, d5, d6, d7]⟩ :: xs, by rw [h1]; rfl, fun y hy => ?_⟩
    rcases List.mem_cons.1 hy with rfl | hy
    · exact ⟨rfl, by simp; omega⟩
    · exact h2 y hy
theorem plant_arg {W : World} {v : Value} (h : ArgR Tryd.prog W 26 v) : ∃ (p : Pl) (u : Value), v = .agg (p.c u).toArray ∧ Sl W.heap.size (St0 W) 7 u (smL p.xs) ∧ p.xs.length ≤ 2 ^ 63 - 1 ∧ -9223372036854775808 ≤ p.nm := by
  obtain ⟨l, rfl, h1, h2⟩ := arg_agg h flatPlant (by kernel_rfl)
  simp only [okCells] at h1
  obtain ⟨_, _, rfl, ha, x, _, rfl, hx, h1⟩ := h1
  simp only [okCell] at ha h1
  obtain ⟨a, rfl, wa⟩ := ha
  obtain ⟨_, _, rfl, ⟨b, rfl, wb⟩, _, _, rfl, ⟨c, rfl, wc⟩, _, _, rfl, ⟨d, rfl, wd⟩, _, _, rfl, ⟨e, rfl, we⟩, _, _, rfl, ⟨f, rfl, wf⟩, _, _, rfl, ⟨g, rfl, wg⟩, _, _, rfl, ⟨i, rfl, wi⟩, _, _, rfl, ⟨j, rfl, wj⟩, rfl⟩ := h1
  obtain ⟨Ls, hs, hok, hmax, -⟩ := sl_arg hx (h2 x (by simp)) (by simp) (by rfl)
  obtain ⟨xs, rfl⟩ := sm38_list hok
  refine ⟨⟨a, b, c, d, e, f, g, i, j, xs⟩, x, rfl, hs, by rw [smL_len] at hmax; exact hmax, (wf_int wd).1⟩
theorem acts_arg {W : World} {v : Value} (h : ArgR Tryd.prog W 27 v) : ∃ l : List Ac, Sl W.heap.size (St0 W) 11 v (acL l) ∧ l.length ≤ 2 ^ 63 - 1 ∧ ∀ a ∈ l, a.good := by
  obtain ⟨f1, f2⟩ := arg_one h flatActs (by kernel_rfl)
  obtain ⟨Ls, hs, hok, hmax, hold⟩ := sl_arg f1 f2 (by simp) (by rfl)
  obtain ⟨l, rfl, hg⟩ := ac38_list hok
  exact ⟨l, hs, by rw [acL_len] at hmax; exact hmax, hg⟩
end Go.Proofs.YthjpfllmecpliaaDoor
