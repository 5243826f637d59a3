/- One byte of a slice of our own is written. -/
import Derived.Test.YtfbjkccangembaaDoorCleanTwo
set_option linter.unusedSimpArgs false
set_option linter.unusedVariables false
namespace Go.Proofs.YtfbjkccangembaaDoor
open Go Go.Ab
variable {base : Nat} {s : St} {R : Value → St → Prop}
/-- One byte of a slice of our own is written. -/
theorem set_byte {b o n c : Nat} {xs : List Nat} {i y : Nat} (h : Sl base s 1 (.slice (some ⟨b, o, none⟩) n c) (bL xs)) (hb : base ≤ b) (hi : i < xs.length) :
    ∃ s', stN base s ⟨b, o + i * 1, none⟩ [.int .u8 (y : Int)] = some s' ∧ Sl base s' 1 (.slice (some ⟨b, o, none⟩) n c) (bL (xs.set i y)) ∧ Ch s s' (fun k => k = b) := by
  cases h with
  | @mk _ _ _ _ h1 h2 h3 h4 h5 h6 =>
    obtain ⟨m1, m2, m3, cs, m4, m5⟩ := h4 (.inr hb)
    simp only at m4 m5
    rw [← bC_flat] at m5
    have hfl : (bC xs).length = xs.length := bC_len xs
    unfold getL at m5
    split at m5
    · rename_i hle
      simp only [Option.some.injEq] at m5
      rw [hfl] at hle m5
      have hset : (cs.set (o + i) (.int .u8 (y : Int))).drop o = (cs.drop o).set i (.int .u8 (y : Int)) := by rw [List.drop_set]; rw [if_neg (by omega)]; congr 1; omega
      have hget : getL (cs.set (o + i) (.int .u8 (y : Int))) o (bC (xs.set i y)).length = some (bC (xs.set i y)) := by
        unfold getL
        rw [bC_len, List.length_set, List.length_set, if_pos hle, hset, ← bC_set, ← m5, List.take_set]
      refine ⟨s.upd b ((s.heap b).withCells (cs.set (o + i) (.int .u8 (y : Int)))), ?_, ?_, Ch.upd' (.refl _ _) fun _ => rfl⟩
      · simp only [stN, reduceCtorEq, if_false, m4, Nat.mul_one, List.length_cons, List.length_nil, Nat.zero_add, true_and]
        rw [if_pos ⟨hb, by omega⟩]; rfl
      · have hw : ((s.heap b).withCells (cs.set (o + i) (.int .u8 (y : Int)))).cells? = some (cs.set (o + i) (.int .u8 (y : Int))) := by
          cases hh : s.heap b <;> rw [hh] at m4 <;> first | rfl | cases m4
        refine .mk (by rw [bL_len, List.length_set, ← bL_len xs]; exact h1) h2 (fun l hl => by obtain ⟨x, _, rfl⟩ := List.mem_map.1 hl; rfl) (fun _ => ⟨rfl, by rw [next_upd]; exact m2, .inl hb, _, by simp only; rw [Ab.heap_upd_same]; exact hw, ?_⟩) ?_ (by rw [next_upd]; exact h6)
        · rw [← bC_flat]; exact hget
        · unfold kindB at h5 ⊢
          simp only [Ab.heap_upd_same]
          simp only at h5
          cases hh : s.heap b <;> rw [hh] at h5 m4 <;> first | exact h5 | rfl | (cases m4; done)
    · cases m5
end Go.Proofs.YtfbjkccangembaaDoor
