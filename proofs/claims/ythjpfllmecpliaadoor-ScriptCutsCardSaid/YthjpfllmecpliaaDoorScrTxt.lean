/- Numbers, bytes and acts as texts (the package script, and its document): as contracts. -/
import Derived.Test.YthjpfllmecpliaaDoorTypes
import Derived.Test.YthjpfllmecpliaaDoorRow0
import Derived.Test.YthjpfllmecpliaaDoorAbC
import Derived.Test.YthjpfllmecpliaaDoorOwnOf
import Derived.Test.YthjpfllmecpliaaDoorPure
import Derived.Test.YthjpfllmecpliaaDoorBoxes
import Derived.Test.YthjpfllmecpliaaDoorStr
set_option linter.all false
set_option maxRecDepth 20000
namespace Go.Proofs.YthjpfllmecpliaaDoor
open Go Go.Ab
def nxBScrTxt := And.intro @Ab.next_alloc (And.intro @Ab.next_upd (And.intro @List.length_cons.{0} (And.intro @List.length_nil.{0} (And.intro @ne_eq.{1} (And.intro not_true_eq_false not_false_eq_true)))))
def tyB0ScrTxt := And.intro @Ty.t9 (And.intro @Tryd.underlying9 (And.intro @Ty.t5 (And.intro @Tryd.underlying5 (And.intro @Ty.t104 (And.intro @Tryd.underlying104 (And.intro @Ty.t2 (And.intro @Tryd.underlying2 (And.intro @Ty.t3 (And.intro @Tryd.underlying3 (And.intro @Ty.t4 (And.intro @Tryd.underlying4 (And.intro @Ty.t45 (And.intro @Tryd.underlying45 (And.intro @Ty.t42 (And.intro @Tryd.underlying42 (And.intro @Ty.t43 @Tryd.underlying43))))))))))))))))
def stBScrTxt := And.intro @List.size_toArray.{0} (And.intro @List.length_cons.{0} (And.intro @List.length_nil.{0} (And.intro @List.set_cons_zero.{0} (And.intro @List.set_cons_succ.{0} (And.intro @List.getD_cons_zero.{0} (And.intro @List.getD_cons_succ.{0} (And.intro @List.getElem?_cons_succ.{0} (And.intro @List.getElem?_cons_zero.{0} (And.intro @List.map_cons.{0,0} (And.intro @List.map_nil.{0,0} (And.intro @Option.isNone_none.{0} (And.intro @Option.isNone_some.{0} (And.intro @Option.map_some.{0,0} (And.intro @Option.map_none.{0,0} (And.intro @List.cons_append.{0} (And.intro @List.nil_append.{0} (And.intro @List.append_nil.{0} (And.intro @Array.toList_append.{0} (And.intro @List.toList_toArray.{0} (And.intro @Int.cast_ofNat_Int (And.intro @Option.isSome_some.{0} (And.intro @List.getElem?_toArray.{0} (And.intro @List.map_toArray.{0,0} (@Nat.min_eq_left))))))))))))))))))))))))
def glBScrTxt := And.intro @List.drop_zero.{0} (And.intro @List.drop_succ_cons.{0} (And.intro @List.take_succ_cons.{0} (And.intro @List.take_zero.{0} (@List.take_nil.{0}))))
variable {base : Nat} [Bok base] {s : St} {R : Value → St → Prop}
def hxD : List UInt8 := [48, 49, 50, 51, 52, 53, 54, 55, 56, 57, 97, 98, 99, 100, 101, 102]
def hxAt (d : Nat) : UInt8 := hxD.getD d 0
theorem slc_hx {s : St} {d : Nat} {k k' : IntKind} (hd : d < 16) : sliceV Tryd.prog s 9 (.string ⟨#[48, 49, 50, 51, 52, 53, 54, 55, 56, 57, 97, 98, 99, 100, 101, 102]⟩) (some (.int k (d : Int))) (some (.int k' ((d : Int) + 1))) none = some (.string (strB [hxAt d])) := by
  refine (slcStr (l := hxD) Ty.str9 (by omega) (by omega) (by simp [hxD]; omega)).trans ?_
  have : ∀ i : Fin 16, (hxD.take (((i.val : Int) + 1).toNat)).drop ((i.val : Int).toNat) = [hxAt i.val] := by decide
  rw [this ⟨d, hd⟩]
/-- A number's digits. -/
def digF : Nat → Nat → List UInt8
  | 0, _ => []
  | f + 1, n => if n < 10 then [hxAt n] else digF f (n / 10) ++ [hxAt (n % 10)]
theorem digF_more : ∀ (f g n : Nat), n < f → n < g → digF f n = digF g n := by
  intro f
  induction f with
  | zero => intro g n h; omega
  | succ f ih =>
    intro g n h1 h2
    cases g with
    | zero => omega
    | succ g =>
      unfold digF
      split
      · rfl
      · rw [ih g (n / 10) (by omega) (by omega)]
def digL (n : Nat) : List UInt8 := digF (n + 1) n
theorem digL_small {n : Nat} (h : n < 10) : digL n = [hxAt n] := by unfold digL digF; rw [if_pos h]
theorem digL_big {n : Nat} (h : ¬ n < 10) : digL n = digL (n / 10) ++ [hxAt (n % 10)] := by
  have : digL n = digF n (n / 10) ++ [hxAt (n % 10)] := by rw [digL, digF, if_neg h]
  rw [this, digF_more n (n / 10 + 1) (n / 10) (by omega) (by omega)]
  rfl
theorem digL_len : ∀ (k n : Nat), n < 10 ^ k → (digL n).length ≤ k + 1 := by
  intro k
  induction k with
  | zero => intro n h; rw [digL_small (by omega)]; simp
  | succ k ih =>
    intro n h
    by_cases h1 : n < 10
    · rw [digL_small h1]; simp
    · rw [digL_big h1, List.length_append]
      have := ih (n / 10) (by rw [Nat.pow_succ] at h; omega)
      simp; omega
theorem digits_ok {n : Nat} (hn : n < 2 ^ 63) (hR : R (.string (strB (digL n))) s) : WC Tryd.prog base 40 [.int .i64 (n : Int)] s R := by
  refine WC_open Tryd.func40 rfl ?_
  simp (disch := first | omega | ((simp only [nxBScrTxt]) <;> omega) | decide) only [↓stepPre, stepPost, ↓W_cond, ↓W_block, ↓reduceIte, Nat.reduceEqDiff, Nat.reduceLT, Nat.reduceLeDiff, ret0, stVar, isTup, Value.cells, Nat.le_refl, Nat.reduceAdd, Nat.reduceMul, Nat.reduceSub, env0, binV, intV, reduceCtorEq, pickV, nilCheckV, ptrV, unV, true_and, and_true, Nat.add_zero, Nat.zero_add, Rt, resultsV, allV, resV, Bool.not_true, Bool.not_false, calleeV, builtinV, eqV, fieldAddrV, ldVar, stN_own, stN_ownL, Int.fdiv_eq_ediv_of_nonneg, Int.reduceToNat, Int.reducePow, IntKind.bits, convV, ne_eq, not_false_eq_true, not_true_eq_false, Int.reduceNeg, Int.reduceAdd, Int.reduceSub, Int.reduceLT, Int.reduceLE, extractV, decide_true, decide_false, Int.reduceEq, mkFuncV, stBScrTxt, beq_self_eq_true, tyB0ScrTxt, getL_take, glBScrTxt]
  have h19 : n < 10 ^ 19 := by omega
  refine W_loop_dec (fun d e s1 => s1 = s ∧ e 0 = .int .i64 (d : Int) ∧ d < 2 ^ 63 ∧ ∃ out, e 3 = .string (strB out) ∧ digL n = digL d ++ out) ?_ (d := n) ⟨rfl, rfl, hn, [], rfl, by simp⟩
  rintro d e s1 ⟨rfl, h0, hd, out, h3, hq⟩
  have hl := digL_len 19 n h19
  rw [hq, List.length_append] at hl
  have m10 : (d : Int).tmod 10 = ((d % 10 : Nat) : Int) := by rw [Int.tmod_eq_emod_of_nonneg (by omega)]; omega
  have q10 : (d : Int).tdiv 10 = ((d / 10 : Nat) : Int) := by rw [Int.tdiv_eq_ediv_of_nonneg (by omega)]; omega
  have h10 := slc_hx (s := s1) (d := d % 10) (k := .i64) (k' := .i64) (by omega)
  have a1 := addStrV (l := [hxAt (d % 10)]) (m := out) (by simp; omega)
  by_cases hz : d / 10 = 0
  · have g1 : ((d / 10 : Nat) : Int) = 0 := by omega
    simp (disch := first | omega | ((simp only [nxBScrTxt]) <;> omega) | decide) only [↓stepPre, stepPost, ↓W_cond, ↓W_block, ↓reduceIte, Nat.reduceEqDiff, Nat.reduceLT, Nat.reduceLeDiff, ret0, stVar, isTup, Value.cells, Nat.le_refl, Nat.reduceAdd, Nat.reduceMul, Nat.reduceSub, env0, binV, intV, reduceCtorEq, pickV, nilCheckV, ptrV, unV, true_and, and_true, Nat.add_zero, Nat.zero_add, Rt, resultsV, allV, resV, Bool.not_true, Bool.not_false, calleeV, builtinV, eqV, fieldAddrV, ldVar, stN_own, stN_ownL, Int.fdiv_eq_ediv_of_nonneg, Int.reduceToNat, Int.reducePow, IntKind.bits, convV, ne_eq, not_false_eq_true, not_true_eq_false, Int.reduceNeg, Int.reduceAdd, Int.reduceSub, Int.reduceLT, Int.reduceLE, extractV, decide_true, decide_false, Int.reduceEq, mkFuncV, stBScrTxt, beq_self_eq_true, tyB0ScrTxt, getL_take, glBScrTxt, h0, h3, m10, q10, h10, a1, g1, Tryd.results40]
    rw [hq, digL_small (by omega)] at hR
    rw [show d % 10 = d by omega]
    exact hR
  · have g1 : ¬ ((d / 10 : Nat) : Int) = 0 := by omega
    simp (disch := first | omega | ((simp only [nxBScrTxt]) <;> omega) | decide) only [↓stepPre, stepPost, ↓W_cond, ↓W_block, ↓reduceIte, Nat.reduceEqDiff, Nat.reduceLT, Nat.reduceLeDiff, ret0, stVar, isTup, Value.cells, Nat.le_refl, Nat.reduceAdd, Nat.reduceMul, Nat.reduceSub, env0, binV, intV, reduceCtorEq, pickV, nilCheckV, ptrV, unV, true_and, and_true, Nat.add_zero, Nat.zero_add, Rt, resultsV, allV, resV, Bool.not_true, Bool.not_false, calleeV, builtinV, eqV, fieldAddrV, ldVar, stN_own, stN_ownL, Int.fdiv_eq_ediv_of_nonneg, Int.reduceToNat, Int.reducePow, IntKind.bits, convV, ne_eq, not_false_eq_true, not_true_eq_false, Int.reduceNeg, Int.reduceAdd, Int.reduceSub, Int.reduceLT, Int.reduceLE, extractV, decide_true, decide_false, Int.reduceEq, mkFuncV, stBScrTxt, beq_self_eq_true, tyB0ScrTxt, getL_take, glBScrTxt, h0, h3, m10, q10, h10, a1, g1]
    refine ⟨d / 10, by omega, rfl, by omega, hxAt (d % 10) :: out, rfl, ?_⟩
    rw [hq, digL_big (show ¬ d < 10 by omega), List.append_assoc]; rfl
/-! ### Eight bytes -/
def hxT (ds : List Nat) : List UInt8 := ds.flatMap fun x => [hxAt (x / 16 % 16), hxAt (x % 16)]
theorem hxT_snoc (ds : List Nat) (x : Nat) : hxT (ds ++ [x]) = hxT ds ++ [hxAt (x / 16 % 16), hxAt (x % 16)] := by simp [hxT]
theorem hxT_len (ds : List Nat) : (hxT ds).length = 2 * ds.length := by
  induction ds with
  | nil => rfl
  | cons x ds ih => simp only [hxT, List.flatMap_cons, List.length_append, List.length_cons, List.length_nil] at *; omega
theorem take_snocN {ds : List Nat} {i : Nat} (h : i < ds.length) : ds.take (i + 1) = ds.take i ++ [ds.getD i 0] := by
  rw [List.take_succ_eq_append_getElem h]; simp [List.getD_eq_getElem?_getD, h]
theorem getD_lt {ds : List Nat} {i : Nat} (hy : ∀ y ∈ ds, y < 256) (h : i < ds.length) : ds.getD i 0 < 256 := by
  rw [List.getD_eq_getElem?_getD, List.getElem?_eq_getElem h]; exact hy _ (List.getElem_mem _)
theorem and15 {x : Nat} (h : x < 256) : andI .u8 (x : Int) 15 = ((x % 16 : Nat) : Int) := by
  have : ∀ i : Fin 256, andI .u8 (i.val : Int) 15 = ((i.val % 16 : Nat) : Int) := by decide
  exact this ⟨x, h⟩
abbrev d8V (ds : List Nat) : Value := .agg (bC ds).toArray
theorem getL_d8 {ds : List Nat} (h : ds.length = 8) : getL (bC ds) 0 8 = some (bC ds) := by
  unfold getL
  rw [if_pos (by simp [bC_len, h])]
  rw [List.drop_zero, List.take_of_length_le (by simp [bC_len, h])]
theorem bC_at {ds : List Nat} {i : Nat} (h : i < ds.length) : (bC ds)[i]? = some (.int .u8 ((ds.getD i 0 : Nat) : Int)) := by
  simp [bC, List.getD_eq_getElem?_getD, h]
theorem d8_at {ds : List Nat} {i : Nat} (hd : ds.length = 8) (h : i < 8) : indexV Tryd.prog 43 (d8V ds) (.int .i64 (i : Int)) = some (.int .u8 ((ds.getD i 0 : Nat) : Int)) := by
  simp only [indexV, intOf?, Ty.arr43, Ty.siz5]
  rw [if_pos ⟨by omega, by omega⟩]
  have := bC_at (ds := ds) (i := i) (by omega)
  simp [partV, Ty.agg5, this]
theorem bytes38_ok {ds : List Nat} (hd : ds.length = 8) (hy : ∀ y ∈ ds, y < 256) (hbn : base ≤ s.next) (hR : ∀ s', Mild s s' → R (.string (strB (hxT ds))) s') : WC Tryd.prog base 31 [d8V ds] s R := by
  refine WC_open Tryd.func31 rfl ?_
  have hm0 := Mild.alloc s (.row (bC ds))
  have key := hR _ hm0
  simp (disch := first | omega | ((simp only [nxBScrTxt]) <;> omega) | decide) only [↓stepPre, stepPost, ↓W_cond, ↓W_block, ↓reduceIte, Nat.reduceEqDiff, Nat.reduceLT, Nat.reduceLeDiff, ret0, stVar, isTup, Value.cells, Nat.le_refl, Nat.reduceAdd, Nat.reduceMul, Nat.reduceSub, env0, binV, intV, reduceCtorEq, pickV, nilCheckV, ptrV, unV, true_and, and_true, Nat.add_zero, Nat.zero_add, Rt, resultsV, allV, resV, Bool.not_true, Bool.not_false, calleeV, builtinV, eqV, fieldAddrV, ldVar, stN_own, stN_ownL, Int.fdiv_eq_ediv_of_nonneg, Int.reduceToNat, Int.reducePow, IntKind.bits, convV, ne_eq, not_false_eq_true, not_true_eq_false, Int.reduceNeg, Int.reduceAdd, Int.reduceSub, Int.reduceLT, Int.reduceLE, extractV, decide_true, decide_false, Int.reduceEq, mkFuncV, stBScrTxt, beq_self_eq_true, tyB0ScrTxt, getL_take, glBScrTxt, getL_d8 hd]
  refine W_loop_inv 8 (fun i e1 s2 => s2 = s.alloc (.row (bC ds)) ∧ e1 3 = .string (strB (hxT (ds.take i))) ∧ e1 6 = d8V ds ∧ e1 7 = .int .i64 (i : Int)) (fun x e1 s2 => x = .exit 0 ∧ s2 = s.alloc (.row (bC ds)) ∧ e1 3 = .string (strB (hxT ds))) ?_ ⟨rfl, rfl, rfl, rfl⟩ ?_
  · rintro i e1 s2 hi ⟨rfl, h3, h6, h7⟩
    by_cases hil : i < 8
    rotate_left
    · have g1 : ¬ (i : Int) < 8 := by omega
      rw [List.take_of_length_le (by omega)] at h3
      simp (disch := first | omega | ((simp only [nxBScrTxt]) <;> omega) | decide) only [↓stepPre, stepPost, ↓W_cond, ↓W_block, ↓reduceIte, Nat.reduceEqDiff, Nat.reduceLT, Nat.reduceLeDiff, ret0, stVar, isTup, Value.cells, Nat.le_refl, Nat.reduceAdd, Nat.reduceMul, Nat.reduceSub, env0, binV, intV, reduceCtorEq, pickV, nilCheckV, ptrV, unV, true_and, and_true, Nat.add_zero, Nat.zero_add, Rt, resultsV, allV, resV, Bool.not_true, Bool.not_false, calleeV, builtinV, eqV, fieldAddrV, ldVar, stN_own, stN_ownL, Int.fdiv_eq_ediv_of_nonneg, Int.reduceToNat, Int.reducePow, IntKind.bits, convV, ne_eq, not_false_eq_true, not_true_eq_false, Int.reduceNeg, Int.reduceAdd, Int.reduceSub, Int.reduceLT, Int.reduceLE, extractV, decide_true, decide_false, Int.reduceEq, mkFuncV, stBScrTxt, beq_self_eq_true, tyB0ScrTxt, getL_take, glBScrTxt, h3, h6, h7, g1]
    have g1 : (i : Int) < 8 := by omega
    have hix := d8_at (ds := ds) (i := i) hd hil
    have hxy := getD_lt (i := i) hy (by omega)
    have hsn := take_snocN (ds := ds) (i := i) (by omega)
    generalize ds.getD i 0 = x at hix hxy hsn
    simp (disch := first | omega | ((simp only [nxBScrTxt]) <;> omega) | decide) only [↓stepPre, stepPost, ↓W_cond, ↓W_block, ↓reduceIte, Nat.reduceEqDiff, Nat.reduceLT, Nat.reduceLeDiff, ret0, stVar, isTup, Value.cells, Nat.le_refl, Nat.reduceAdd, Nat.reduceMul, Nat.reduceSub, env0, binV, intV, reduceCtorEq, pickV, nilCheckV, ptrV, unV, true_and, and_true, Nat.add_zero, Nat.zero_add, Rt, resultsV, allV, resV, Bool.not_true, Bool.not_false, calleeV, builtinV, eqV, fieldAddrV, ldVar, stN_own, stN_ownL, Int.fdiv_eq_ediv_of_nonneg, Int.reduceToNat, Int.reducePow, IntKind.bits, convV, ne_eq, not_false_eq_true, not_true_eq_false, Int.reduceNeg, Int.reduceAdd, Int.reduceSub, Int.reduceLT, Int.reduceLE, extractV, decide_true, decide_false, Int.reduceEq, mkFuncV, stBScrTxt, beq_self_eq_true, tyB0ScrTxt, getL_take, glBScrTxt, h3, h6, h7, g1, hix]
    refine W_draw (fun _ => false) (fun _ => false) (fun _ => false) (by kernel_rfl) (by kernel_rfl) ?_
    have e16 : (x : Int) / 16 = ((x / 16 % 16 : Nat) : Int) := by omega
    have s1h := fun s => slc_hx (s := s) (d := x / 16 % 16) (k := .u8) (k' := .u8) (Nat.mod_lt _ (by omega))
    have s2h := fun s => slc_hx (s := s) (d := x % 16) (k := .u8) (k' := .u8) (Nat.mod_lt _ (by omega))
    have w1 : IntKind.u8.wrap (((x % 16 : Nat) : Int) + 1) = ((x % 16 : Nat) : Int) + 1 := IntWalk.u8_in _ (by omega)
    have a2 := addStrV (l := [hxAt (x / 16 % 16)]) (m := [hxAt (x % 16)]) (by simp)
    have a3 := addStrV (l := hxT (ds.take i)) (m := [hxAt (x / 16 % 16), hxAt (x % 16)]) (by simp [hxT_len]; omega)
    simp (disch := first | omega | ((simp only [nxBScrTxt]) <;> omega) | decide) only [↓stepPre, stepPost, ↓W_cond, ↓W_block, ↓reduceIte, Nat.reduceEqDiff, Nat.reduceLT, Nat.reduceLeDiff, ret0, stVar, isTup, Value.cells, Nat.le_refl, Nat.reduceAdd, Nat.reduceMul, Nat.reduceSub, env0, binV, intV, reduceCtorEq, pickV, nilCheckV, ptrV, unV, true_and, and_true, Nat.add_zero, Nat.zero_add, Rt, resultsV, allV, resV, Bool.not_true, Bool.not_false, calleeV, builtinV, eqV, fieldAddrV, ldVar, stN_own, stN_ownL, Int.fdiv_eq_ediv_of_nonneg, Int.reduceToNat, Int.reducePow, IntKind.bits, convV, ne_eq, not_false_eq_true, not_true_eq_false, Int.reduceNeg, Int.reduceAdd, Int.reduceSub, Int.reduceLT, Int.reduceLE, extractV, decide_true, decide_false, Int.reduceEq, mkFuncV, stBScrTxt, beq_self_eq_true, tyB0ScrTxt, getL_take, glBScrTxt, h3, h6, h7, e16, and15 hxy, s1h, s2h, w1, a2, a3]
    exact ⟨hil, by rw [hsn, hxT_snoc], by simp⟩
  · rintro x e1 s2 ⟨rfl, rfl, h3⟩
    simp (disch := first | omega | ((simp only [nxBScrTxt]) <;> omega) | decide) only [↓stepPre, stepPost, ↓W_cond, ↓W_block, ↓reduceIte, Nat.reduceEqDiff, Nat.reduceLT, Nat.reduceLeDiff, ret0, stVar, isTup, Value.cells, Nat.le_refl, Nat.reduceAdd, Nat.reduceMul, Nat.reduceSub, env0, binV, intV, reduceCtorEq, pickV, nilCheckV, ptrV, unV, true_and, and_true, Nat.add_zero, Nat.zero_add, Rt, resultsV, allV, resV, Bool.not_true, Bool.not_false, calleeV, builtinV, eqV, fieldAddrV, ldVar, stN_own, stN_ownL, Int.fdiv_eq_ediv_of_nonneg, Int.reduceToNat, Int.reducePow, IntKind.bits, convV, ne_eq, not_false_eq_true, not_true_eq_false, Int.reduceNeg, Int.reduceAdd, Int.reduceSub, Int.reduceLT, Int.reduceLE, extractV, decide_true, decide_false, Int.reduceEq, mkFuncV, stBScrTxt, beq_self_eq_true, tyB0ScrTxt, getL_take, glBScrTxt, h3, Tryd.results31]
    exact key
/-! ### Acts that can be, and their words -/
def boundA (k : Int) : Int := if k = 1 then 10000 else if k = 3 then 2047 else if k = 4 then 2147483647 else if k = 7 then 1048576 else -1
def rightA (k K N : Int) (ds : List Nat) : Bool :=
  if k < 1 ∨ 7 < k then false else if k ≠ 3 ∧ ds ≠ [0, 0, 0, 0, 0, 0, 0, 0] then false
  else if k = 1 then decide (K = 0 ∧ 1 ≤ N ∧ N ≤ 10000) else decide (0 ≤ K ∧ K ≤ 31 ∧ 0 ≤ N ∧ N ≤ max (boundA k) 0)
def wordL (k : Int) : List UInt8 :=
  if k = 1 then [114, 117, 110] else if k = 2 then [102, 108, 105, 112] else if k = 3 then [114, 101, 108, 101, 97, 115, 101] else if k = 4 then [99, 97, 110, 99, 101, 108]
  else if k = 5 then [99, 114, 97, 115, 104] else if k = 6 then [114, 101, 115, 116, 97, 114, 116] else if k = 7 then [115, 112, 101, 101, 100] else []
theorem within38_p {n lo hi : Int} (hR : R (.bool (decide (lo ≤ n ∧ n ≤ hi))) s) : WC Tryd.prog base 32 [.int .i64 n, .int .i64 lo, .int .i64 hi] s R := by
  refine WC_open Tryd.func32 rfl ?_
  by_cases h1 : lo ≤ n
  · have h1' : n ≥ lo := h1
    by_cases h2 : n ≤ hi
    · rw [decide_eq_true ⟨h1, h2⟩] at hR
      simp (disch := first | omega | ((simp only [nxBScrTxt]) <;> omega) | decide) only [↓stepPre, stepPost, ↓W_cond, ↓W_block, ↓reduceIte, Nat.reduceEqDiff, Nat.reduceLT, Nat.reduceLeDiff, ret0, stVar, isTup, Value.cells, Nat.le_refl, Nat.reduceAdd, Nat.reduceMul, Nat.reduceSub, env0, binV, intV, reduceCtorEq, pickV, nilCheckV, ptrV, unV, true_and, and_true, Nat.add_zero, Nat.zero_add, Rt, resultsV, allV, resV, Bool.not_true, Bool.not_false, calleeV, builtinV, eqV, fieldAddrV, ldVar, stN_own, stN_ownL, Int.fdiv_eq_ediv_of_nonneg, Int.reduceToNat, Int.reducePow, IntKind.bits, convV, ne_eq, not_false_eq_true, not_true_eq_false, Int.reduceNeg, Int.reduceAdd, Int.reduceSub, Int.reduceLT, Int.reduceLE, extractV, decide_true, decide_false, Int.reduceEq, mkFuncV, stBScrTxt, beq_self_eq_true, tyB0ScrTxt, h1, h1', h2, Tryd.results32]
      exact hR
    · rw [decide_eq_false (fun h => h2 h.2)] at hR
      simp (disch := first | omega | ((simp only [nxBScrTxt]) <;> omega) | decide) only [↓stepPre, stepPost, ↓W_cond, ↓W_block, ↓reduceIte, Nat.reduceEqDiff, Nat.reduceLT, Nat.reduceLeDiff, ret0, stVar, isTup, Value.cells, Nat.le_refl, Nat.reduceAdd, Nat.reduceMul, Nat.reduceSub, env0, binV, intV, reduceCtorEq, pickV, nilCheckV, ptrV, unV, true_and, and_true, Nat.add_zero, Nat.zero_add, Rt, resultsV, allV, resV, Bool.not_true, Bool.not_false, calleeV, builtinV, eqV, fieldAddrV, ldVar, stN_own, stN_ownL, Int.fdiv_eq_ediv_of_nonneg, Int.reduceToNat, Int.reducePow, IntKind.bits, convV, ne_eq, not_false_eq_true, not_true_eq_false, Int.reduceNeg, Int.reduceAdd, Int.reduceSub, Int.reduceLT, Int.reduceLE, extractV, decide_true, decide_false, Int.reduceEq, mkFuncV, stBScrTxt, beq_self_eq_true, tyB0ScrTxt, h1, h1', h2, Tryd.results32]
      exact hR
  · have h1' : ¬ n ≥ lo := h1
    rw [decide_eq_false (fun h => h1 h.1)] at hR
    simp (disch := first | omega | ((simp only [nxBScrTxt]) <;> omega) | decide) only [↓stepPre, stepPost, ↓W_cond, ↓W_block, ↓reduceIte, Nat.reduceEqDiff, Nat.reduceLT, Nat.reduceLeDiff, ret0, stVar, isTup, Value.cells, Nat.le_refl, Nat.reduceAdd, Nat.reduceMul, Nat.reduceSub, env0, binV, intV, reduceCtorEq, pickV, nilCheckV, ptrV, unV, true_and, and_true, Nat.add_zero, Nat.zero_add, Rt, resultsV, allV, resV, Bool.not_true, Bool.not_false, calleeV, builtinV, eqV, fieldAddrV, ldVar, stN_own, stN_ownL, Int.fdiv_eq_ediv_of_nonneg, Int.reduceToNat, Int.reducePow, IntKind.bits, convV, ne_eq, not_false_eq_true, not_true_eq_false, Int.reduceNeg, Int.reduceAdd, Int.reduceSub, Int.reduceLT, Int.reduceLE, extractV, decide_true, decide_false, Int.reduceEq, mkFuncV, stBScrTxt, beq_self_eq_true, tyB0ScrTxt, h1, h1', Tryd.results32]
    exact hR
theorem bound38_p {k : Int} (hR : R (.int .i64 (boundA k)) s) : WC Tryd.prog base 29 [.int .i64 k] s R := by
  refine WC_open Tryd.func29 rfl ?_
  unfold boundA at hR
  by_cases h1 : k = 1
  · subst h1; simp (disch := first | omega | ((simp only [nxBScrTxt]) <;> omega) | decide) only [↓stepPre, stepPost, ↓W_cond, ↓W_block, ↓reduceIte, Nat.reduceEqDiff, Nat.reduceLT, Nat.reduceLeDiff, ret0, stVar, isTup, Value.cells, Nat.le_refl, Nat.reduceAdd, Nat.reduceMul, Nat.reduceSub, env0, binV, intV, reduceCtorEq, pickV, nilCheckV, ptrV, unV, true_and, and_true, Nat.add_zero, Nat.zero_add, Rt, resultsV, allV, resV, Bool.not_true, Bool.not_false, calleeV, builtinV, eqV, fieldAddrV, ldVar, stN_own, stN_ownL, Int.fdiv_eq_ediv_of_nonneg, Int.reduceToNat, Int.reducePow, IntKind.bits, convV, ne_eq, not_false_eq_true, not_true_eq_false, Int.reduceNeg, Int.reduceAdd, Int.reduceSub, Int.reduceLT, Int.reduceLE, extractV, decide_true, decide_false, Int.reduceEq, mkFuncV, stBScrTxt, beq_self_eq_true, tyB0ScrTxt, eq_self, Tryd.results29]; exact hR
  by_cases h3 : k = 3
  · subst h3; simp (disch := first | omega | ((simp only [nxBScrTxt]) <;> omega) | decide) only [↓stepPre, stepPost, ↓W_cond, ↓W_block, ↓reduceIte, Nat.reduceEqDiff, Nat.reduceLT, Nat.reduceLeDiff, ret0, stVar, isTup, Value.cells, Nat.le_refl, Nat.reduceAdd, Nat.reduceMul, Nat.reduceSub, env0, binV, intV, reduceCtorEq, pickV, nilCheckV, ptrV, unV, true_and, and_true, Nat.add_zero, Nat.zero_add, Rt, resultsV, allV, resV, Bool.not_true, Bool.not_false, calleeV, builtinV, eqV, fieldAddrV, ldVar, stN_own, stN_ownL, Int.fdiv_eq_ediv_of_nonneg, Int.reduceToNat, Int.reducePow, IntKind.bits, convV, ne_eq, not_false_eq_true, not_true_eq_false, Int.reduceNeg, Int.reduceAdd, Int.reduceSub, Int.reduceLT, Int.reduceLE, extractV, decide_true, decide_false, Int.reduceEq, mkFuncV, stBScrTxt, beq_self_eq_true, tyB0ScrTxt, eq_self, Tryd.results29]; exact hR
  by_cases h4 : k = 4
  · subst h4; simp (disch := first | omega | ((simp only [nxBScrTxt]) <;> omega) | decide) only [↓stepPre, stepPost, ↓W_cond, ↓W_block, ↓reduceIte, Nat.reduceEqDiff, Nat.reduceLT, Nat.reduceLeDiff, ret0, stVar, isTup, Value.cells, Nat.le_refl, Nat.reduceAdd, Nat.reduceMul, Nat.reduceSub, env0, binV, intV, reduceCtorEq, pickV, nilCheckV, ptrV, unV, true_and, and_true, Nat.add_zero, Nat.zero_add, Rt, resultsV, allV, resV, Bool.not_true, Bool.not_false, calleeV, builtinV, eqV, fieldAddrV, ldVar, stN_own, stN_ownL, Int.fdiv_eq_ediv_of_nonneg, Int.reduceToNat, Int.reducePow, IntKind.bits, convV, ne_eq, not_false_eq_true, not_true_eq_false, Int.reduceNeg, Int.reduceAdd, Int.reduceSub, Int.reduceLT, Int.reduceLE, extractV, decide_true, decide_false, Int.reduceEq, mkFuncV, stBScrTxt, beq_self_eq_true, tyB0ScrTxt, eq_self, Tryd.results29]; exact hR
  by_cases h7 : k = 7
  · subst h7; simp (disch := first | omega | ((simp only [nxBScrTxt]) <;> omega) | decide) only [↓stepPre, stepPost, ↓W_cond, ↓W_block, ↓reduceIte, Nat.reduceEqDiff, Nat.reduceLT, Nat.reduceLeDiff, ret0, stVar, isTup, Value.cells, Nat.le_refl, Nat.reduceAdd, Nat.reduceMul, Nat.reduceSub, env0, binV, intV, reduceCtorEq, pickV, nilCheckV, ptrV, unV, true_and, and_true, Nat.add_zero, Nat.zero_add, Rt, resultsV, allV, resV, Bool.not_true, Bool.not_false, calleeV, builtinV, eqV, fieldAddrV, ldVar, stN_own, stN_ownL, Int.fdiv_eq_ediv_of_nonneg, Int.reduceToNat, Int.reducePow, IntKind.bits, convV, ne_eq, not_false_eq_true, not_true_eq_false, Int.reduceNeg, Int.reduceAdd, Int.reduceSub, Int.reduceLT, Int.reduceLE, extractV, decide_true, decide_false, Int.reduceEq, mkFuncV, stBScrTxt, beq_self_eq_true, tyB0ScrTxt, eq_self, Tryd.results29]; exact hR
  rw [if_neg h1, if_neg h3, if_neg h4, if_neg h7] at hR
  simp (disch := first | omega | ((simp only [nxBScrTxt]) <;> omega) | decide) only [↓stepPre, stepPost, ↓W_cond, ↓W_block, ↓reduceIte, Nat.reduceEqDiff, Nat.reduceLT, Nat.reduceLeDiff, ret0, stVar, isTup, Value.cells, Nat.le_refl, Nat.reduceAdd, Nat.reduceMul, Nat.reduceSub, env0, binV, intV, reduceCtorEq, pickV, nilCheckV, ptrV, unV, true_and, and_true, Nat.add_zero, Nat.zero_add, Rt, resultsV, allV, resV, Bool.not_true, Bool.not_false, calleeV, builtinV, eqV, fieldAddrV, ldVar, stN_own, stN_ownL, Int.fdiv_eq_ediv_of_nonneg, Int.reduceToNat, Int.reducePow, IntKind.bits, convV, ne_eq, not_false_eq_true, not_true_eq_false, Int.reduceNeg, Int.reduceAdd, Int.reduceSub, Int.reduceLT, Int.reduceLE, extractV, decide_true, decide_false, Int.reduceEq, mkFuncV, stBScrTxt, beq_self_eq_true, tyB0ScrTxt, h1, h3, h4, h7, Tryd.results29]
  exact hR
theorem word38_p {k : Int} (hR : R (.string (strB (wordL k))) s) : WC Tryd.prog base 28 [.int .i64 k] s R := by
  refine WC_open Tryd.func28 rfl ?_
  unfold wordL at hR
  by_cases h1 : k = 1
  · subst h1; simp (disch := first | omega | ((simp only [nxBScrTxt]) <;> omega) | decide) only [↓stepPre, stepPost, ↓W_cond, ↓W_block, ↓reduceIte, Nat.reduceEqDiff, Nat.reduceLT, Nat.reduceLeDiff, ret0, stVar, isTup, Value.cells, Nat.le_refl, Nat.reduceAdd, Nat.reduceMul, Nat.reduceSub, env0, binV, intV, reduceCtorEq, pickV, nilCheckV, ptrV, unV, true_and, and_true, Nat.add_zero, Nat.zero_add, Rt, resultsV, allV, resV, Bool.not_true, Bool.not_false, calleeV, builtinV, eqV, fieldAddrV, ldVar, stN_own, stN_ownL, Int.fdiv_eq_ediv_of_nonneg, Int.reduceToNat, Int.reducePow, IntKind.bits, convV, ne_eq, not_false_eq_true, not_true_eq_false, Int.reduceNeg, Int.reduceAdd, Int.reduceSub, Int.reduceLT, Int.reduceLE, extractV, decide_true, decide_false, Int.reduceEq, mkFuncV, stBScrTxt, beq_self_eq_true, tyB0ScrTxt, eq_self, Tryd.results28]; exact hR
  by_cases h2 : k = 2
  · subst h2; simp (disch := first | omega | ((simp only [nxBScrTxt]) <;> omega) | decide) only [↓stepPre, stepPost, ↓W_cond, ↓W_block, ↓reduceIte, Nat.reduceEqDiff, Nat.reduceLT, Nat.reduceLeDiff, ret0, stVar, isTup, Value.cells, Nat.le_refl, Nat.reduceAdd, Nat.reduceMul, Nat.reduceSub, env0, binV, intV, reduceCtorEq, pickV, nilCheckV, ptrV, unV, true_and, and_true, Nat.add_zero, Nat.zero_add, Rt, resultsV, allV, resV, Bool.not_true, Bool.not_false, calleeV, builtinV, eqV, fieldAddrV, ldVar, stN_own, stN_ownL, Int.fdiv_eq_ediv_of_nonneg, Int.reduceToNat, Int.reducePow, IntKind.bits, convV, ne_eq, not_false_eq_true, not_true_eq_false, Int.reduceNeg, Int.reduceAdd, Int.reduceSub, Int.reduceLT, Int.reduceLE, extractV, decide_true, decide_false, Int.reduceEq, mkFuncV, stBScrTxt, beq_self_eq_true, tyB0ScrTxt, eq_self, Tryd.results28]; exact hR
  by_cases h3 : k = 3
  · subst h3; simp (disch := first | omega | ((simp only [nxBScrTxt]) <;> omega) | decide) only [↓stepPre, stepPost, ↓W_cond, ↓W_block, ↓reduceIte, Nat.reduceEqDiff, Nat.reduceLT, Nat.reduceLeDiff, ret0, stVar, isTup, Value.cells, Nat.le_refl, Nat.reduceAdd, Nat.reduceMul, Nat.reduceSub, env0, binV, intV, reduceCtorEq, pickV, nilCheckV, ptrV, unV, true_and, and_true, Nat.add_zero, Nat.zero_add, Rt, resultsV, allV, resV, Bool.not_true, Bool.not_false, calleeV, builtinV, eqV, fieldAddrV, ldVar, stN_own, stN_ownL, Int.fdiv_eq_ediv_of_nonneg, Int.reduceToNat, Int.reducePow, IntKind.bits, convV, ne_eq, not_false_eq_true, not_true_eq_false, Int.reduceNeg, Int.reduceAdd, Int.reduceSub, Int.reduceLT, Int.reduceLE, extractV, decide_true, decide_false, Int.reduceEq, mkFuncV, stBScrTxt, beq_self_eq_true, tyB0ScrTxt, eq_self, Tryd.results28]; exact hR
  by_cases h4 : k = 4
  · subst h4; simp (disch := first | omega | ((simp only [nxBScrTxt]) <;> omega) | decide) only [↓stepPre, stepPost, ↓W_cond, ↓W_block, ↓reduceIte, Nat.reduceEqDiff, Nat.reduceLT, Nat.reduceLeDiff, ret0, stVar, isTup, Value.cells, Nat.le_refl, Nat.reduceAdd, Nat.reduceMul, Nat.reduceSub, env0, binV, intV, reduceCtorEq, pickV, nilCheckV, ptrV, unV, true_and, and_true, Nat.add_zero, Nat.zero_add, Rt, resultsV, allV, resV, Bool.not_true, Bool.not_false, calleeV, builtinV, eqV, fieldAddrV, ldVar, stN_own, stN_ownL, Int.fdiv_eq_ediv_of_nonneg, Int.reduceToNat, Int.reducePow, IntKind.bits, convV, ne_eq, not_false_eq_true, not_true_eq_false, Int.reduceNeg, Int.reduceAdd, Int.reduceSub, Int.reduceLT, Int.reduceLE, extractV, decide_true, decide_false, Int.reduceEq, mkFuncV, stBScrTxt, beq_self_eq_true, tyB0ScrTxt, eq_self, Tryd.results28]; exact hR
  by_cases h5 : k = 5
  · subst h5; simp (disch := first | omega | ((simp only [nxBScrTxt]) <;> omega) | decide) only [↓stepPre, stepPost, ↓W_cond, ↓W_block, ↓reduceIte, Nat.reduceEqDiff, Nat.reduceLT, Nat.reduceLeDiff, ret0, stVar, isTup, Value.cells, Nat.le_refl, Nat.reduceAdd, Nat.reduceMul, Nat.reduceSub, env0, binV, intV, reduceCtorEq, pickV, nilCheckV, ptrV, unV, true_and, and_true, Nat.add_zero, Nat.zero_add, Rt, resultsV, allV, resV, Bool.not_true, Bool.not_false, calleeV, builtinV, eqV, fieldAddrV, ldVar, stN_own, stN_ownL, Int.fdiv_eq_ediv_of_nonneg, Int.reduceToNat, Int.reducePow, IntKind.bits, convV, ne_eq, not_false_eq_true, not_true_eq_false, Int.reduceNeg, Int.reduceAdd, Int.reduceSub, Int.reduceLT, Int.reduceLE, extractV, decide_true, decide_false, Int.reduceEq, mkFuncV, stBScrTxt, beq_self_eq_true, tyB0ScrTxt, eq_self, Tryd.results28]; exact hR
  by_cases h6 : k = 6
  · subst h6; simp (disch := first | omega | ((simp only [nxBScrTxt]) <;> omega) | decide) only [↓stepPre, stepPost, ↓W_cond, ↓W_block, ↓reduceIte, Nat.reduceEqDiff, Nat.reduceLT, Nat.reduceLeDiff, ret0, stVar, isTup, Value.cells, Nat.le_refl, Nat.reduceAdd, Nat.reduceMul, Nat.reduceSub, env0, binV, intV, reduceCtorEq, pickV, nilCheckV, ptrV, unV, true_and, and_true, Nat.add_zero, Nat.zero_add, Rt, resultsV, allV, resV, Bool.not_true, Bool.not_false, calleeV, builtinV, eqV, fieldAddrV, ldVar, stN_own, stN_ownL, Int.fdiv_eq_ediv_of_nonneg, Int.reduceToNat, Int.reducePow, IntKind.bits, convV, ne_eq, not_false_eq_true, not_true_eq_false, Int.reduceNeg, Int.reduceAdd, Int.reduceSub, Int.reduceLT, Int.reduceLE, extractV, decide_true, decide_false, Int.reduceEq, mkFuncV, stBScrTxt, beq_self_eq_true, tyB0ScrTxt, eq_self, Tryd.results28]; exact hR
  by_cases h7 : k = 7
  · subst h7; simp (disch := first | omega | ((simp only [nxBScrTxt]) <;> omega) | decide) only [↓stepPre, stepPost, ↓W_cond, ↓W_block, ↓reduceIte, Nat.reduceEqDiff, Nat.reduceLT, Nat.reduceLeDiff, ret0, stVar, isTup, Value.cells, Nat.le_refl, Nat.reduceAdd, Nat.reduceMul, Nat.reduceSub, env0, binV, intV, reduceCtorEq, pickV, nilCheckV, ptrV, unV, true_and, and_true, Nat.add_zero, Nat.zero_add, Rt, resultsV, allV, resV, Bool.not_true, Bool.not_false, calleeV, builtinV, eqV, fieldAddrV, ldVar, stN_own, stN_ownL, Int.fdiv_eq_ediv_of_nonneg, Int.reduceToNat, Int.reducePow, IntKind.bits, convV, ne_eq, not_false_eq_true, not_true_eq_false, Int.reduceNeg, Int.reduceAdd, Int.reduceSub, Int.reduceLT, Int.reduceLE, extractV, decide_true, decide_false, Int.reduceEq, mkFuncV, stBScrTxt, beq_self_eq_true, tyB0ScrTxt, eq_self, Tryd.results28]; exact hR
  rw [if_neg h1, if_neg h2, if_neg h3, if_neg h4, if_neg h5, if_neg h6, if_neg h7] at hR
  simp (disch := first | omega | ((simp only [nxBScrTxt]) <;> omega) | decide) only [↓stepPre, stepPost, ↓W_cond, ↓W_block, ↓reduceIte, Nat.reduceEqDiff, Nat.reduceLT, Nat.reduceLeDiff, ret0, stVar, isTup, Value.cells, Nat.le_refl, Nat.reduceAdd, Nat.reduceMul, Nat.reduceSub, env0, binV, intV, reduceCtorEq, pickV, nilCheckV, ptrV, unV, true_and, and_true, Nat.add_zero, Nat.zero_add, Rt, resultsV, allV, resV, Bool.not_true, Bool.not_false, calleeV, builtinV, eqV, fieldAddrV, ldVar, stN_own, stN_ownL, Int.fdiv_eq_ediv_of_nonneg, Int.reduceToNat, Int.reducePow, IntKind.bits, convV, ne_eq, not_false_eq_true, not_true_eq_false, Int.reduceNeg, Int.reduceAdd, Int.reduceSub, Int.reduceLT, Int.reduceLE, extractV, decide_true, decide_false, Int.reduceEq, mkFuncV, stBScrTxt, beq_self_eq_true, tyB0ScrTxt, h1, h2, h3, h4, h5, h6, h7, Tryd.results28]
  exact hR
end Go.Proofs.YthjpfllmecpliaaDoor
