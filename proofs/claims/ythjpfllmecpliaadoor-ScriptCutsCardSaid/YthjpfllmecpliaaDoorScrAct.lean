/- An act's line, read (the package script): as a contract. -/
import Derived.Test.YthjpfllmecpliaaDoorTypes
import Derived.Test.YthjpfllmecpliaaDoorRow0
import Derived.Test.YthjpfllmecpliaaDoorAbC
import Derived.Test.YthjpfllmecpliaaDoorOwnOf
import Derived.Test.YthjpfllmecpliaaDoorPure
import Derived.Test.YthjpfllmecpliaaDoorScrStream
import Derived.Test.YthjpfllmecpliaaDoorScrPrint
set_option linter.all false
set_option maxRecDepth 20000
namespace Go.Proofs.YthjpfllmecpliaaDoor
open Go Go.Ab
variable {base : Nat} [Bok base] {s : St} {R : Value → St → Prop}
theorem body_cut : ∃ fn c, Tryd.prog.funcs[22]? = some fn ∧ fn.body = some c ∧ fn.name ≠ "runtime.NumGoroutine" := by
  refine ⟨_, _, Tryd.func22, rfl, ?_⟩
  decide
theorem cut38_p {a b : List UInt8} {m : Int} (ha : a.length < 4294967281) (hm : s.heap 2 = .row [.int .i64 m]) (hR : R (.tuple #[.string (strB (Lib.cut a b).1), .string (strB (Lib.cut a b).2.1), .bool (Lib.cut a b).2.2]) s) :
    WC Tryd.prog base 22 [.string (strB a), .string (strB b)] s R := by
  have h5 := Bok.le5 (base := base)
  refine ⟨_, _, given_ev body_cut rfl rfl (fun w hw => ?_), hR⟩
  have := Tryd.strings_Cut (strB a) (strB b) m w (by rw [str_size]; exact ha) (hw _ _ (by omega) hm (fun a h => by cases h))
  exact this
theorem cut_in {c : UInt8} {x : List UInt8} (h : 0 < x.count c) : ∃ l r, Lib.cut x [c] = (l, r, true) ∧ x = l ++ c :: r ∧ l.count c = 0 ∧ partW c x = l :: partW c r := by
  obtain ⟨m, k1, k2, k3, k4, k5, k6⟩ := cut_at c x h
  refine ⟨x.take m, x.drop (m + 1), ?_, k6, k5, k3⟩
  unfold Lib.cut
  rw [Lib.index_one, k1, if_pos (by omega)]
  simp
theorem cut_out {c : UInt8} {x : List UInt8} (h : x.count c = 0) : Lib.cut x [c] = (x, [], false) := by
  unfold Lib.cut
  rw [Lib.index_one, if_neg]
  intro h0
  obtain ⟨m, hm⟩ : ∃ m : Nat, Lib.indexByte x c = m := ⟨(Lib.indexByte x c).toNat, by omega⟩
  have := (Lib.indexByte_some hm).1
  exact absurd (List.mem_of_getElem? this) (List.count_eq_zero.1 h)
theorem cut_fst (c : UInt8) (x : List UInt8) : (Lib.cut x [c]).1 = (partW c x).headD [] := by
  by_cases h : x.count c = 0
  · rw [cut_out h, partW_none h]; rfl
  · obtain ⟨l, r, h1, h2, h3, h4⟩ := cut_in (c := c) (x := x) (by omega)
    rw [h1, h4]; rfl
/-- Eight bytes of sixteen digits. -/
def hv (c : UInt8) : Nat := (max (Lib.indexByte hxD c) 0).toNat
theorem hv_lt (c : UInt8) : hv c < 16 ∧ max (Lib.indexByte hxD c) 0 = (hv c : Int) := by
  have : ∀ k : Fin 256, hv k.val.toUInt8 < 16 := by decide +kernel
  have h := this ⟨c.toNat, c.toNat_lt⟩
  simp only [Nat.toUInt8_eq, UInt8.ofNat_toNat] at h
  exact ⟨h, by unfold hv; omega⟩
def hvA (w : List UInt8) (i : Nat) : Nat := hv (w.getD i 0)
def decA (w : List UInt8) (i : Nat) : List Nat := (List.range 8).map fun j => if 2 * j + 1 < i then hvA w (2 * j) * 16 + hvA w (2 * j + 1) else if 2 * j < i then hvA w (2 * j) else 0
theorem decA_len (w : List UInt8) (i : Nat) : (decA w i).length = 8 := by simp [decA]
theorem decA_zero (w : List UInt8) : decA w 0 = [0, 0, 0, 0, 0, 0, 0, 0] := by simp [decA]; decide
theorem decA_at (w : List UInt8) (i j : Nat) (h : j < 8) : (decA w i).getD j 0 = if 2 * j + 1 < i then hvA w (2 * j) * 16 + hvA w (2 * j + 1) else if 2 * j < i then hvA w (2 * j) else 0 := by
  unfold decA
  rw [List.getD_eq_getElem?_getD, List.getElem?_map, List.getElem?_range h]; rfl
theorem decA_lt (w : List UInt8) (i : Nat) : ∀ y ∈ decA w i, y < 256 := by
  intro y hy
  obtain ⟨j, -, rfl⟩ := List.mem_map.1 hy
  have h1 := (hv_lt (w.getD (2 * j) 0)).1
  have h2 := (hv_lt (w.getD (2 * j + 1) 0)).1
  simp only [hvA]
  split
  · omega
  · split <;> omega
theorem decA_step {w : List UInt8} {i : Nat} (hi : i < 16) : (decA w i).getD (i / 2) 0 < 16 ∧ (decA w i).set (i / 2) ((decA w i).getD (i / 2) 0 * 16 + hvA w i) = decA w (i + 1) := by
  have h0 := decA_at w i (i / 2) (by omega)
  have hlt : (decA w i).getD (i / 2) 0 < 16 := by
    rw [h0, if_neg (by omega)]
    have := (hv_lt (w.getD (2 * (i / 2)) 0)).1
    unfold hvA
    split <;> omega
  refine ⟨hlt, ?_⟩
  refine List.ext_getElem (by simp [decA_len]) fun j h1 h2 => ?_
  rw [decA_len] at h2
  have e2 : (decA w (i + 1))[j]'(by rw [decA_len]; exact h2) = (decA w (i + 1)).getD j 0 := by rw [List.getD_eq_getElem?_getD, List.getElem?_eq_getElem (by rw [decA_len]; exact h2)]; rfl
  have e1 : (decA w i)[j]'(by rw [decA_len]; exact h2) = (decA w i).getD j 0 := by rw [List.getD_eq_getElem?_getD, List.getElem?_eq_getElem (by rw [decA_len]; exact h2)]; rfl
  rw [e2, List.getElem_set, e1, decA_at w i j h2, decA_at w (i + 1) j h2, h0]
  split
  · subst_vars
    by_cases hp : i % 2 = 0
    · rw [if_neg (by omega), if_neg (by omega), if_neg (by omega), if_pos (by omega)]
      rw [show 2 * (i / 2) = i by omega]; omega
    · rw [if_neg (by omega), if_pos (by omega), if_pos (by omega)]
      rw [show 2 * (i / 2) + 1 = i by omega]
  · by_cases h3 : 2 * j + 1 < i
    · rw [if_pos h3, if_pos (by omega)]
    · rw [if_neg h3, if_neg (by omega : ¬ 2 * j < i), if_neg (by omega), if_neg (by omega)]
theorem nibA {x d : Nat} (hx : x < 16) (hd : d < 16) : orI .u8 ((x : Int) * 16) (d : Int) = ((x * 16 + d : Nat) : Int) := by
  have : ∀ (x d : Fin 16), orI .u8 ((x.val : Int) * 16) (d.val : Int) = ((x.val * 16 + d.val : Nat) : Int) := by decide +kernel
  exact this ⟨x, hx⟩ ⟨d, hd⟩
def actK (x : List UInt8) : Nat := placeN wordsL ((partW 32 x).headD [])
def actT (k : Nat) (t : List (List UInt8)) : List (List UInt8) := if 1 < k then t.drop 1 else t
def actU (k : Nat) (t : List (List UInt8)) : List (List UInt8) := if 0 ≤ boundA k then (actT k t).drop 1 else actT k t
def actW (w : List UInt8) : List Nat := decA w (min w.length 16)
def actF (x : List UInt8) : Bool :=
  !((if 1 < actK x then !okW (partW 32 x).tail 1 else false) || (if 0 ≤ boundA (actK x) then !okW (actT (actK x) (partW 32 x).tail) 1 else false) || (if actK x = 3 then (actU (actK x) (partW 32 x).tail).isEmpty || decide (¬ (actU (actK x) (partW 32 x).tail).headD [] = hxT (actW ((actU (actK x) (partW 32 x).tail).headD []))) else false)) && (if actK x = 3 then (actU (actK x) (partW 32 x).tail).tail else actU (actK x) (partW 32 x).tail).isEmpty
def actA (x : List UInt8) : Ac := ⟨actK x, if 1 < actK x then valL ((partW 32 x).tail.getD 0 []) else 0, if 0 ≤ boundA (actK x) then valL ((actT (actK x) (partW 32 x).tail).getD 0 []) else 0, if actK x = 3 then actW ((actU (actK x) (partW 32 x).tail).headD []) else [0, 0, 0, 0, 0, 0, 0, 0]⟩
def actB (x : List UInt8) : Bool := actF x && (actA x).right
theorem one_ns {ns : List Nat} (h : ns.length = 1) : ∃ a, ns = [a] := by
  match ns, h with
  | [a], _ => exact ⟨a, rfl⟩
theorem one_val {ws : List (List UInt8)} {a : Nat} (hk : okW ws 1 = true) (h : [a] = (ws.take 1).map valL) : a = valL (ws.getD 0 []) := by
  unfold okW at hk
  simp only [Bool.and_eq_true, decide_eq_true_eq] at hk
  match ws, hk.1 with
  | x :: r, _ => simpa using h
theorem actK_lt (x : List UInt8) : actK x < 8 := placeN_le wordsL _ (by simp [wordsL])
theorem act_at {k K N : Int} {ds : List Nat} {j : Nat} (h : j < ds.length) : (actC k K N ds)[3 + j * 1]? = some (.int .u8 ((ds.getD j 0 : Nat) : Int)) := by
  rw [Nat.mul_one, Nat.add_comm, actC, List.getElem?_cons_succ, List.getElem?_cons_succ, List.getElem?_cons_succ, bC_at h]
theorem act_put {k K N : Int} {ds : List Nat} {j y : Nat} (h : j < ds.length) : putAt (.row (actC k K N ds)) (3 + j * 1) [.int .u8 (y : Int)] = some (.row (actC k K N (ds.set j y))) := by
  rw [put1 (by simp [actC, bC_len]; omega), Nat.mul_one, Nat.add_comm 3 j]
  simp only [actC, List.set_cons_succ, bC_set]
end Go.Proofs.YthjpfllmecpliaaDoor
