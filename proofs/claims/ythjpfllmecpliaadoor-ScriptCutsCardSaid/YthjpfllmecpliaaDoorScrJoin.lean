/- strings.Join, by the kit's contract; and rows of words (the package script, and its document). -/
import Derived.Test.YthjpfllmecpliaaDoorTypes
import Derived.Test.YthjpfllmecpliaaDoorRow0
import Derived.Test.YthjpfllmecpliaaDoorAbC
import Derived.Test.YthjpfllmecpliaaDoorScrRight
import Derived.Test.YthjpfllmecpliaaDoorGiven
import Derived.Test.YthjpfllmecpliaaDoorShelf
import Derived.Lib.Join
set_option linter.all false
set_option maxRecDepth 20000
namespace Go.Proofs.YthjpfllmecpliaaDoor
open Go Go.Ab
variable {base : Nat} {s : St} {R : Value → St → Prop}
def strL (xs : List (List UInt8)) : List (List Value) := xs.map fun x => [.string (strB x)]
theorem strL_len (xs : List (List UInt8)) : (strL xs).length = xs.length := by simp [strL]
theorem strL_app (xs ys : List (List UInt8)) : strL (xs ++ ys) = strL xs ++ strL ys := by simp [strL]
theorem strL_at {xs : List (List UInt8)} {i : Nat} (h : i < xs.length) : (strL xs)[i]? = some [.string (strB xs[i])] := by simp [strL, h]
theorem strL_flat (xs : List (List UInt8)) : (strL xs).flatten = (xs.map strB).map fun x => Value.string x := by
  induction xs with
  | nil => rfl
  | cons x xs ih => simp only [strL, List.map_cons, List.flatten_cons] at *; rw [ih]; rfl
theorem VR_slice {M : Mp} {a : Addr} {n cap : Nat} {v' : Value} (h : VR M (.slice (some a) n cap) v') (hn : 1 ≤ n) : ∃ a' cap', v' = .slice (some a') n cap' ∧ AR M a a' ∧ cap ≤ cap' := by
  have key : ∀ v0, VR M v0 v' → v0 = .slice (some a) n cap → ∃ a' cap', v' = .slice (some a') n cap' ∧ AR M a a' ∧ cap ≤ cap' := by
    intro v0 h0 e
    cases h0 with
    | sli0 => simp only [Value.slice.injEq, Option.some.injEq] at e; omega
    | sli h2 hx =>
      simp only [Value.slice.injEq, Option.some.injEq] at e
      obtain ⟨rfl, rfl, rfl⟩ := e
      refine ⟨_, _, rfl, h2, ?_⟩
      rcases hx with hx | ⟨z, -, hx, -⟩
      · omega
      · exact hx
    | _ => cases e
  exact key _ h rfl
theorem body_join : ∃ fn c, Tryd.prog.funcs[20]? = some fn ∧ fn.body = some c ∧ fn.name ≠ "runtime.NumGoroutine" := by
  refine ⟨_, _, Tryd.func20, rfl, ?_⟩
  decide
theorem join_p {v : Value} {xs : List (List UInt8)} {sep : List UInt8} (hs : Sl base s 1 v (strL xs)) (hn : 1 ≤ xs.length) (hN : xs.length ≤ 1000000) (hlen : (Lib.join xs sep).length ≤ 1000000) (hR : R (.string (strB (Lib.join xs sep))) s) :
    WC Tryd.prog base 20 [v, .string (strB sep)] s R := by
  have hne : strL xs ≠ [] := fun e => by
    have := congrArg List.length e
    rw [strL_len, List.length_nil] at this; omega
  have hll := strL_len xs
  have hfl := strL_flat xs
  generalize strL xs = L at hs hne hll hfl
  cases hs with
  | nil => exact absurd rfl hne
  | @mk a n cap _ h1 h2 h3 h4 h5 h6 =>
    rw [hll] at h1
    subst h1
    have hm := h4 (.inl hne)
    rw [hfl] at hm
    refine ⟨_, _, given_new body_join rfl (fun w0 M w args' hw0 hS hL => ?_), hR⟩
    obtain ⟨l⟩ := args'
    obtain ⟨a1, l1, e1, v1, hL1⟩ := hL.inv_cons
    obtain ⟨a2, l2, e2, v2, hL2⟩ := hL1.inv_cons
    obtain rfl := hL2.inv_nil
    cases v2
    simp only at e1
    subst e2
    subst e1
    subst hw0
    have hex := VR_slice v1 hn
    obtain ⟨a', cap', rfl, hA, hcc⟩ := hex
    obtain ⟨q1, q2⟩ := strs_cells hS hA hm
    obtain ⟨B, o, sp⟩ := a'
    simp only at q1 q2
    subst q1
    have hB : B < w.heap.size := by
      rcases Nat.lt_or_ge B w.heap.size with h | h
      · exact h
      · have := q2 0 (strB xs[0]) (by simp [show 0 < xs.length by omega])
        simp [World.cell?, Array.getElem?_eq_none h] at this
    have hmap : (xs.map strB).map (·.data.toList) = xs := by
      rw [List.map_map]; exact (List.map_congr_left fun x _ => rfl).trans (List.map_id _)
    have := Tryd.strings_Join B o cap' (xs.map strB) (strB sep) w q2 hB (by rw [List.length_map]; omega) (by rw [List.length_map]; omega) (by rw [hmap]; exact Nat.le_trans hlen (by omega))
    rw [hmap, List.length_map] at this
    exact this
end Go.Proofs.YthjpfllmecpliaaDoor
