/- Texts of our own, one behind the other: ScrTxt, Class, Stream, StreamLabel. -/
import Derived.Test.YthjpfllmecpliaaGreatDoorMg4
import Derived.Test.YthjpfllmecpliaaGreatDoorMg3
/- Numbers, bytes and acts as texts (the package script, and its document): as contracts. -/
set_option linter.all false
set_option maxRecDepth 20000
namespace Go.Proofs.YthjpfllmecpliaaGreatDoor
open Go Go.Ab
def spBScrTxt := And.intro @Nat.le_refl (And.intro @true_and (And.intro @and_true (And.intro @Nat.add_zero (And.intro @Nat.zero_add (And.intro @Bool.not_true (And.intro @Bool.not_false (And.intro @ne_eq.{1} (And.intro @not_false_eq_true (And.intro @not_true_eq_false (And.intro @decide_true (And.intro @decide_false (@Int.fdiv_eq_ediv_of_nonneg))))))))))))
def nxBScrTxt := And.intro @Ab.next_alloc (And.intro @Ab.next_upd (And.intro @List.length_cons.{0} (And.intro @List.length_nil.{0} (And.intro @ne_eq.{1} (And.intro not_true_eq_false not_false_eq_true)))))
def tyB0ScrTxt := And.intro @Ty.t9 (And.intro @Tryz.underlying9 (And.intro @Ty.t5 (And.intro @Tryz.underlying5 (And.intro @Ty.t70 (And.intro @Tryz.underlying70 (And.intro @Ty.t2 (And.intro @Tryz.underlying2 (And.intro @Ty.t3 (And.intro @Tryz.underlying3 (And.intro @Ty.t4 (And.intro @Tryz.underlying4 (And.intro @Ty.t33 (And.intro @Tryz.underlying33 (And.intro @Ty.t30 (And.intro @Tryz.underlying30 (And.intro @Ty.t31 @Tryz.underlying31))))))))))))))))
def stBScrTxt := And.intro @List.size_toArray.{0} (And.intro @List.length_cons.{0} (And.intro @List.length_nil.{0} (And.intro @List.set_cons_zero.{0} (And.intro @List.set_cons_succ.{0} (And.intro @List.getD_cons_zero.{0} (And.intro @List.getD_cons_succ.{0} (And.intro @List.getElem?_cons_succ.{0} (And.intro @List.getElem?_cons_zero.{0} (And.intro @List.map_cons.{0,0} (And.intro @List.map_nil.{0,0} (And.intro @Option.isNone_none.{0} (And.intro @Option.isNone_some.{0} (And.intro @Option.map_some.{0,0} (And.intro @Option.map_none.{0,0} (And.intro @List.cons_append.{0} (And.intro @List.nil_append.{0} (And.intro @List.append_nil.{0} (And.intro @Array.toList_append.{0} (And.intro @List.toList_toArray.{0} (And.intro @Int.cast_ofNat_Int (And.intro @Option.isSome_some.{0} (And.intro @List.getElem?_toArray.{0} (And.intro @List.map_toArray.{0,0} (@Nat.min_eq_left))))))))))))))))))))))))
def glBScrTxt := And.intro @List.drop_zero.{0} (And.intro @List.drop_succ_cons.{0} (And.intro @List.take_succ_cons.{0} (And.intro @List.take_zero.{0} (@List.take_nil.{0}))))
variable {base : Nat} [Bok base] {s : St} {R : Value → St → Prop}
def hxD : List UInt8 := [48, 49, 50, 51, 52, 53, 54, 55, 56, 57, 97, 98, 99, 100, 101, 102]
def hxAt (d : Nat) : UInt8 := hxD.getD d 0
theorem slc_hx {s : St} {d : Nat} {k k' : IntKind} (hd : d < 16) : sliceV Tryz.prog s 9 (.string ⟨#[48, 49, 50, 51, 52, 53, 54, 55, 56, 57, 97, 98, 99, 100, 101, 102]⟩) (some (.int k (d : Int))) (some (.int k' ((d : Int) + 1))) none = some (.string (strB [hxAt d])) := by
  refine (slcStr (l := hxD) Ty.str9 (by omega) (by omega) (by simp [hxD]; omega)).trans ?_
  have : ∀ i : Fin 16, (hxD.take (((i.val : Int) + 1).toNat)).drop ((i.val : Int).toNat) = [hxAt i.val] := by decide
  rw [this ⟨d, hd⟩]
theorem slc_dg {s : St} {d : Nat} {k k' : IntKind} (hd : d < 10) : sliceV Tryz.prog s 9 (.string ⟨#[48, 49, 50, 51, 52, 53, 54, 55, 56, 57]⟩) (some (.int k (d : Int))) (some (.int k' ((d : Int) + 1))) none = some (.string (strB [hxAt d])) := by
  refine (slcStr (l := hxD.take 10) Ty.str9 (by omega) (by omega) (by simp [hxD]; omega)).trans ?_
  have : ∀ i : Fin 10, ((hxD.take 10).take (((i.val : Int) + 1).toNat)).drop ((i.val : Int).toNat) = [hxAt i.val] := by decide
  rw [this ⟨d, hd⟩]
/-- A number's digits. -/
def digF : Nat → Nat → List UInt8
  | 0, _ => []
  | f + 1, n => if n < 10 then [hxAt n] else digF f (n / 10) ++ [hxAt (n % 10)]
theorem digF_more : ∀ (f g n : Nat), n < f → n < g → digF f n = digF g n := by
  intro f
  induction f with
  | zero => intro g n h; omega
  | succ f ih =>
    intro g n h1 h2
    cases g with
    | zero => omega
    | succ g =>
      unfold digF
      split
      · rfl
      · rw [ih g (n / 10) (by omega) (by omega)]
def digL (n : Nat) : List UInt8 := digF (n + 1) n
theorem digL_small {n : Nat} (h : n < 10) : digL n = [hxAt n] := by unfold digL digF; rw [if_pos h]
theorem digL_big {n : Nat} (h : ¬ n < 10) : digL n = digL (n / 10) ++ [hxAt (n % 10)] := by
  have : digL n = digF n (n / 10) ++ [hxAt (n % 10)] := by rw [digL, digF, if_neg h]
  rw [this, digF_more n (n / 10 + 1) (n / 10) (by omega) (by omega)]
  rfl
theorem digL_len : ∀ (k n : Nat), n < 10 ^ k → (digL n).length ≤ k + 1 := by
  intro k
  induction k with
  | zero => intro n h; rw [digL_small (by omega)]; simp
  | succ k ih =>
    intro n h
    by_cases h1 : n < 10
    · rw [digL_small h1]; simp
    · rw [digL_big h1, List.length_append]
      have := ih (n / 10) (by rw [Nat.pow_succ] at h; omega)
      simp; omega
theorem digits_ok {n : Nat} (hn : n < 2 ^ 63) (hR : R (.string (strB (digL n))) s) : WC Tryz.prog base 34 [.int .i64 (n : Int)] s R := by
  refine WC_open Tryz.func34 rfl ?_
  simp (disch := first | omega | ((simp only [nxBScrTxt]) <;> omega) | decide) only [↓stepPre, stepPost, ↓W_cond, ↓W_block, ↓reduceIte, Nat.reduceEqDiff, Nat.reduceLT, Nat.reduceLeDiff, ret0, stVar, isTup, Value.cells, Nat.reduceAdd, Nat.reduceMul, Nat.reduceSub, env0, binV, intV, reduceCtorEq, pickV, nilCheckV, ptrV, unV, Rt, resultsV, allV, resV, calleeV, builtinV, eqV, fieldAddrV, ldVar, stN_own, stN_ownL, Int.reduceToNat, Int.reducePow, IntKind.bits, convV, Int.reduceNeg, Int.reduceAdd, Int.reduceSub, Int.reduceLT, Int.reduceLE, extractV, Int.reduceEq, mkFuncV, stBScrTxt, spBScrTxt, beq_self_eq_true, tyB0ScrTxt, getL_take, glBScrTxt]
  have h19 : n < 10 ^ 19 := by omega
  refine W_loop_dec (fun d e s1 => s1 = s ∧ e 0 = .int .i64 (d : Int) ∧ d < 2 ^ 63 ∧ ∃ out, e 3 = .string (strB out) ∧ digL n = digL d ++ out) ?_ (d := n) ⟨rfl, rfl, hn, [], rfl, by simp⟩
  rintro d e s1 ⟨rfl, h0, hd, out, h3, hq⟩
  have hl := digL_len 19 n h19
  rw [hq, List.length_append] at hl
  have m10 : (d : Int).tmod 10 = ((d % 10 : Nat) : Int) := by rw [Int.tmod_eq_emod_of_nonneg (by omega)]; omega
  have q10 : (d : Int).tdiv 10 = ((d / 10 : Nat) : Int) := by rw [Int.tdiv_eq_ediv_of_nonneg (by omega)]; omega
  have h10 := slc_hx (s := s1) (d := d % 10) (k := .i64) (k' := .i64) (by omega)
  have a1 := addStrV (l := [hxAt (d % 10)]) (m := out) (by simp; omega)
  by_cases hz : d / 10 = 0
  · have g1 : ((d / 10 : Nat) : Int) = 0 := by omega
    simp (disch := first | omega | ((simp only [nxBScrTxt]) <;> omega) | decide) only [↓stepPre, stepPost, ↓W_cond, ↓W_block, ↓reduceIte, Nat.reduceEqDiff, Nat.reduceLT, Nat.reduceLeDiff, ret0, stVar, isTup, Value.cells, Nat.reduceAdd, Nat.reduceMul, Nat.reduceSub, env0, binV, intV, reduceCtorEq, pickV, nilCheckV, ptrV, unV, Rt, resultsV, allV, resV, calleeV, builtinV, eqV, fieldAddrV, ldVar, stN_own, stN_ownL, Int.reduceToNat, Int.reducePow, IntKind.bits, convV, Int.reduceNeg, Int.reduceAdd, Int.reduceSub, Int.reduceLT, Int.reduceLE, extractV, Int.reduceEq, mkFuncV, stBScrTxt, spBScrTxt, beq_self_eq_true, tyB0ScrTxt, getL_take, glBScrTxt, h0, h3, m10, q10, h10, a1, g1, Tryz.results34]
    rw [hq, digL_small (by omega)] at hR
    rw [show d % 10 = d by omega]
    exact hR
  · have g1 : ¬ ((d / 10 : Nat) : Int) = 0 := by omega
    simp (disch := first | omega | ((simp only [nxBScrTxt]) <;> omega) | decide) only [↓stepPre, stepPost, ↓W_cond, ↓W_block, ↓reduceIte, Nat.reduceEqDiff, Nat.reduceLT, Nat.reduceLeDiff, ret0, stVar, isTup, Value.cells, Nat.reduceAdd, Nat.reduceMul, Nat.reduceSub, env0, binV, intV, reduceCtorEq, pickV, nilCheckV, ptrV, unV, Rt, resultsV, allV, resV, calleeV, builtinV, eqV, fieldAddrV, ldVar, stN_own, stN_ownL, Int.reduceToNat, Int.reducePow, IntKind.bits, convV, Int.reduceNeg, Int.reduceAdd, Int.reduceSub, Int.reduceLT, Int.reduceLE, extractV, Int.reduceEq, mkFuncV, stBScrTxt, spBScrTxt, beq_self_eq_true, tyB0ScrTxt, getL_take, glBScrTxt, h0, h3, m10, q10, h10, a1, g1]
    refine ⟨d / 10, by omega, rfl, by omega, hxAt (d % 10) :: out, rfl, ?_⟩
    rw [hq, digL_big (show ¬ d < 10 by omega), List.append_assoc]; rfl
theorem rdigits_ok : ∀ (k n : Nat), n < 10 ^ (k + 1) → n < 2 ^ 63 → ∀ {R : Value → St → Prop}, R (.string (strB (digL n))) s → WC Tryz.prog base 20 [.int .i64 (n : Int)] s R := by
  intro k
  induction k with
  | zero =>
    intro n h _ R hR
    refine WC_open Tryz.func20 rfl ?_
    have g1 : (n : Int) < 10 := by omega
    have h10 := slc_dg (s := s) (d := n) (k := .i64) (k' := .i64) (by omega)
    simp (disch := first | omega | ((simp only [nxBScrTxt]) <;> omega) | decide) only [↓stepPre, stepPost, ↓W_cond, ↓W_block, ↓reduceIte, Nat.reduceEqDiff, Nat.reduceLT, Nat.reduceLeDiff, ret0, stVar, isTup, Value.cells, Nat.reduceAdd, Nat.reduceMul, Nat.reduceSub, env0, binV, intV, reduceCtorEq, pickV, nilCheckV, ptrV, unV, Rt, resultsV, allV, resV, calleeV, builtinV, eqV, fieldAddrV, ldVar, stN_own, stN_ownL, Int.reduceToNat, Int.reducePow, IntKind.bits, convV, Int.reduceNeg, Int.reduceAdd, Int.reduceSub, Int.reduceLT, Int.reduceLE, extractV, Int.reduceEq, mkFuncV, stBScrTxt, spBScrTxt, beq_self_eq_true, tyB0ScrTxt, getL_take, glBScrTxt, g1, h10, Tryz.results20]
    rw [digL_small (by omega)] at hR
    exact hR
  | succ k ih =>
    intro n h hn R hR
    by_cases h1 : n < 10
    · refine WC_open Tryz.func20 rfl ?_
      have g1 : (n : Int) < 10 := by omega
      have h10 := slc_dg (s := s) (d := n) (k := .i64) (k' := .i64) (by omega)
      simp (disch := first | omega | ((simp only [nxBScrTxt]) <;> omega) | decide) only [↓stepPre, stepPost, ↓W_cond, ↓W_block, ↓reduceIte, Nat.reduceEqDiff, Nat.reduceLT, Nat.reduceLeDiff, ret0, stVar, isTup, Value.cells, Nat.reduceAdd, Nat.reduceMul, Nat.reduceSub, env0, binV, intV, reduceCtorEq, pickV, nilCheckV, ptrV, unV, Rt, resultsV, allV, resV, calleeV, builtinV, eqV, fieldAddrV, ldVar, stN_own, stN_ownL, Int.reduceToNat, Int.reducePow, IntKind.bits, convV, Int.reduceNeg, Int.reduceAdd, Int.reduceSub, Int.reduceLT, Int.reduceLE, extractV, Int.reduceEq, mkFuncV, stBScrTxt, spBScrTxt, beq_self_eq_true, tyB0ScrTxt, getL_take, glBScrTxt, g1, h10, Tryz.results20]
      rw [digL_small (by omega)] at hR
      exact hR
    · refine WC_open Tryz.func20 rfl ?_
      have g1 : ¬ (n : Int) < 10 := by omega
      have m10 : (n : Int).tmod 10 = ((n % 10 : Nat) : Int) := by rw [Int.tmod_eq_emod_of_nonneg (by omega)]; omega
      have q10 : (n : Int).tdiv 10 = ((n / 10 : Nat) : Int) := by rw [Int.tdiv_eq_ediv_of_nonneg (by omega)]; omega
      have hl := digL_len 19 (n / 10) (by omega)
      have a1 := addStrV (l := digL (n / 10)) (m := [hxAt (n % 10)]) (by simp; omega)
      simp (disch := first | omega | ((simp only [nxBScrTxt]) <;> omega) | decide) only [↓stepPre, stepPost, ↓W_cond, ↓W_block, ↓reduceIte, Nat.reduceEqDiff, Nat.reduceLT, Nat.reduceLeDiff, ret0, stVar, isTup, Value.cells, Nat.reduceAdd, Nat.reduceMul, Nat.reduceSub, env0, binV, intV, reduceCtorEq, pickV, nilCheckV, ptrV, unV, Rt, resultsV, allV, resV, calleeV, builtinV, eqV, fieldAddrV, ldVar, stN_own, stN_ownL, Int.reduceToNat, Int.reducePow, IntKind.bits, convV, Int.reduceNeg, Int.reduceAdd, Int.reduceSub, Int.reduceLT, Int.reduceLE, extractV, Int.reduceEq, mkFuncV, stBScrTxt, spBScrTxt, beq_self_eq_true, tyB0ScrTxt, getL_take, glBScrTxt, g1, q10]
      refine ih (n / 10) (by rw [Nat.pow_succ] at h; omega) (by omega) ?_
      simp (disch := first | omega | ((simp only [nxBScrTxt]) <;> omega) | decide) only [↓stepPre, stepPost, ↓W_cond, ↓W_block, ↓reduceIte, Nat.reduceEqDiff, Nat.reduceLT, Nat.reduceLeDiff, ret0, stVar, isTup, Value.cells, Nat.reduceAdd, Nat.reduceMul, Nat.reduceSub, env0, binV, intV, reduceCtorEq, pickV, nilCheckV, ptrV, unV, Rt, resultsV, allV, resV, calleeV, builtinV, eqV, fieldAddrV, ldVar, stN_own, stN_ownL, Int.reduceToNat, Int.reducePow, IntKind.bits, convV, Int.reduceNeg, Int.reduceAdd, Int.reduceSub, Int.reduceLT, Int.reduceLE, extractV, Int.reduceEq, mkFuncV, stBScrTxt, spBScrTxt, beq_self_eq_true, tyB0ScrTxt, getL_take, glBScrTxt, m10]
      refine ih (n % 10) (Nat.lt_of_lt_of_le (Nat.mod_lt _ (by omega)) (by have := Nat.one_le_two_pow (n := k); exact Nat.le_trans (by omega : 10 ≤ 10 ^ 1) (Nat.pow_le_pow_right (by omega) (by omega)))) (by omega) ?_
      rw [digL_small (show n % 10 < 10 by omega)]
      simp (disch := first | omega | ((simp only [nxBScrTxt]) <;> omega) | decide) only [↓stepPre, stepPost, ↓W_cond, ↓W_block, ↓reduceIte, Nat.reduceEqDiff, Nat.reduceLT, Nat.reduceLeDiff, ret0, stVar, isTup, Value.cells, Nat.reduceAdd, Nat.reduceMul, Nat.reduceSub, env0, binV, intV, reduceCtorEq, pickV, nilCheckV, ptrV, unV, Rt, resultsV, allV, resV, calleeV, builtinV, eqV, fieldAddrV, ldVar, stN_own, stN_ownL, Int.reduceToNat, Int.reducePow, IntKind.bits, convV, Int.reduceNeg, Int.reduceAdd, Int.reduceSub, Int.reduceLT, Int.reduceLE, extractV, Int.reduceEq, mkFuncV, stBScrTxt, spBScrTxt, beq_self_eq_true, tyB0ScrTxt, getL_take, glBScrTxt, a1, Tryz.results20]
      rw [digL_big h1] at hR
      exact hR
theorem rdigits_p {n : Nat} (hn : n < 2 ^ 63) (hR : R (.string (strB (digL n))) s) : WC Tryz.prog base 20 [.int .i64 (n : Int)] s R := rdigits_ok 19 n (by omega) hn hR
/-! ### Eight bytes -/
def hxT (ds : List Nat) : List UInt8 := ds.flatMap fun x => [hxAt (x / 16 % 16), hxAt (x % 16)]
theorem hxT_snoc (ds : List Nat) (x : Nat) : hxT (ds ++ [x]) = hxT ds ++ [hxAt (x / 16 % 16), hxAt (x % 16)] := by simp [hxT]
theorem hxT_len (ds : List Nat) : (hxT ds).length = 2 * ds.length := by
  induction ds with
  | nil => rfl
  | cons x ds ih => simp only [hxT, List.flatMap_cons, List.length_append, List.length_cons, List.length_nil] at *; omega
theorem take_snocN {ds : List Nat} {i : Nat} (h : i < ds.length) : ds.take (i + 1) = ds.take i ++ [ds.getD i 0] := by
  rw [List.take_succ_eq_append_getElem h]; simp [List.getD_eq_getElem?_getD, h]
theorem getD_lt {ds : List Nat} {i : Nat} (hy : ∀ y ∈ ds, y < 256) (h : i < ds.length) : ds.getD i 0 < 256 := by
  rw [List.getD_eq_getElem?_getD, List.getElem?_eq_getElem h]; exact hy _ (List.getElem_mem _)
theorem and15 {x : Nat} (h : x < 256) : andI .u8 (x : Int) 15 = ((x % 16 : Nat) : Int) := by
  have : ∀ i : Fin 256, andI .u8 (i.val : Int) 15 = ((i.val % 16 : Nat) : Int) := by decide
  exact this ⟨x, h⟩
abbrev d8V (ds : List Nat) : Value := .agg (bC ds).toArray
theorem getL_d8 {ds : List Nat} (h : ds.length = 8) : getL (bC ds) 0 8 = some (bC ds) := by
  unfold getL
  rw [if_pos (by simp [bC_len, h])]
  rw [List.drop_zero, List.take_of_length_le (by simp [bC_len, h])]
theorem bC_at {ds : List Nat} {i : Nat} (h : i < ds.length) : (bC ds)[i]? = some (.int .u8 ((ds.getD i 0 : Nat) : Int)) := by
  simp [bC, List.getD_eq_getElem?_getD, h]
theorem d8_at {ds : List Nat} {i : Nat} (hd : ds.length = 8) (h : i < 8) : indexV Tryz.prog 31 (d8V ds) (.int .i64 (i : Int)) = some (.int .u8 ((ds.getD i 0 : Nat) : Int)) := by
  simp only [indexV, intOf?, Ty.arr31, Ty.siz5]
  rw [if_pos ⟨by omega, by omega⟩]
  have := bC_at (ds := ds) (i := i) (by omega)
  simp [partV, Ty.agg5, this]
theorem bytes38_ok {ds : List Nat} (hd : ds.length = 8) (hy : ∀ y ∈ ds, y < 256) (hbn : base ≤ s.next) (hR : ∀ s', Mild s s' → R (.string (strB (hxT ds))) s') : WC Tryz.prog base 19 [d8V ds] s R := by
  refine WC_open Tryz.func19 rfl ?_
  have hm0 := Mild.alloc s (.row (bC ds))
  have key := hR _ hm0
  simp (disch := first | omega | ((simp only [nxBScrTxt]) <;> omega) | decide) only [↓stepPre, stepPost, ↓W_cond, ↓W_block, ↓reduceIte, Nat.reduceEqDiff, Nat.reduceLT, Nat.reduceLeDiff, ret0, stVar, isTup, Value.cells, Nat.reduceAdd, Nat.reduceMul, Nat.reduceSub, env0, binV, intV, reduceCtorEq, pickV, nilCheckV, ptrV, unV, Rt, resultsV, allV, resV, calleeV, builtinV, eqV, fieldAddrV, ldVar, stN_own, stN_ownL, Int.reduceToNat, Int.reducePow, IntKind.bits, convV, Int.reduceNeg, Int.reduceAdd, Int.reduceSub, Int.reduceLT, Int.reduceLE, extractV, Int.reduceEq, mkFuncV, stBScrTxt, spBScrTxt, beq_self_eq_true, tyB0ScrTxt, getL_take, glBScrTxt, getL_d8 hd]
  refine W_loop_inv 8 (fun i e1 s2 => s2 = s.alloc (.row (bC ds)) ∧ e1 3 = .string (strB (hxT (ds.take i))) ∧ e1 6 = d8V ds ∧ e1 7 = .int .i64 (i : Int)) (fun x e1 s2 => x = .exit 0 ∧ s2 = s.alloc (.row (bC ds)) ∧ e1 3 = .string (strB (hxT ds))) ?_ ⟨rfl, rfl, rfl, rfl⟩ ?_
  · rintro i e1 s2 hi ⟨rfl, h3, h6, h7⟩
    by_cases hil : i < 8
    rotate_left
    · have g1 : ¬ (i : Int) < 8 := by omega
      rw [List.take_of_length_le (by omega)] at h3
      simp (disch := first | omega | ((simp only [nxBScrTxt]) <;> omega) | decide) only [↓stepPre, stepPost, ↓W_cond, ↓W_block, ↓reduceIte, Nat.reduceEqDiff, Nat.reduceLT, Nat.reduceLeDiff, ret0, stVar, isTup, Value.cells, Nat.reduceAdd, Nat.reduceMul, Nat.reduceSub, env0, binV, intV, reduceCtorEq, pickV, nilCheckV, ptrV, unV, Rt, resultsV, allV, resV, calleeV, builtinV, eqV, fieldAddrV, ldVar, stN_own, stN_ownL, Int.reduceToNat, Int.reducePow, IntKind.bits, convV, Int.reduceNeg, Int.reduceAdd, Int.reduceSub, Int.reduceLT, Int.reduceLE, extractV, Int.reduceEq, mkFuncV, stBScrTxt, spBScrTxt, beq_self_eq_true, tyB0ScrTxt, getL_take, glBScrTxt, h3, h6, h7, g1]
    have g1 : (i : Int) < 8 := by omega
    have hix := d8_at (ds := ds) (i := i) hd hil
    have hxy := getD_lt (i := i) hy (by omega)
    have hsn := take_snocN (ds := ds) (i := i) (by omega)
    generalize ds.getD i 0 = x at hix hxy hsn
    simp (disch := first | omega | ((simp only [nxBScrTxt]) <;> omega) | decide) only [↓stepPre, stepPost, ↓W_cond, ↓W_block, ↓reduceIte, Nat.reduceEqDiff, Nat.reduceLT, Nat.reduceLeDiff, ret0, stVar, isTup, Value.cells, Nat.reduceAdd, Nat.reduceMul, Nat.reduceSub, env0, binV, intV, reduceCtorEq, pickV, nilCheckV, ptrV, unV, Rt, resultsV, allV, resV, calleeV, builtinV, eqV, fieldAddrV, ldVar, stN_own, stN_ownL, Int.reduceToNat, Int.reducePow, IntKind.bits, convV, Int.reduceNeg, Int.reduceAdd, Int.reduceSub, Int.reduceLT, Int.reduceLE, extractV, Int.reduceEq, mkFuncV, stBScrTxt, spBScrTxt, beq_self_eq_true, tyB0ScrTxt, getL_take, glBScrTxt, h3, h6, h7, g1, hix]
    refine W_draw (fun _ => false) (fun _ => false) (fun _ => false) (by kernel_rfl) (by kernel_rfl) ?_
    have e16 : (x : Int) / 16 = ((x / 16 % 16 : Nat) : Int) := by omega
    have s1h := fun s => slc_hx (s := s) (d := x / 16 % 16) (k := .u8) (k' := .u8) (Nat.mod_lt _ (by omega))
    have s2h := fun s => slc_hx (s := s) (d := x % 16) (k := .u8) (k' := .u8) (Nat.mod_lt _ (by omega))
    have w1 : IntKind.u8.wrap (((x % 16 : Nat) : Int) + 1) = ((x % 16 : Nat) : Int) + 1 := IntWalk.u8_in _ (by omega)
    have a2 := addStrV (l := [hxAt (x / 16 % 16)]) (m := [hxAt (x % 16)]) (by simp)
    have a3 := addStrV (l := hxT (ds.take i)) (m := [hxAt (x / 16 % 16), hxAt (x % 16)]) (by simp [hxT_len]; omega)
    simp (disch := first | omega | ((simp only [nxBScrTxt]) <;> omega) | decide) only [↓stepPre, stepPost, ↓W_cond, ↓W_block, ↓reduceIte, Nat.reduceEqDiff, Nat.reduceLT, Nat.reduceLeDiff, ret0, stVar, isTup, Value.cells, Nat.reduceAdd, Nat.reduceMul, Nat.reduceSub, env0, binV, intV, reduceCtorEq, pickV, nilCheckV, ptrV, unV, Rt, resultsV, allV, resV, calleeV, builtinV, eqV, fieldAddrV, ldVar, stN_own, stN_ownL, Int.reduceToNat, Int.reducePow, IntKind.bits, convV, Int.reduceNeg, Int.reduceAdd, Int.reduceSub, Int.reduceLT, Int.reduceLE, extractV, Int.reduceEq, mkFuncV, stBScrTxt, spBScrTxt, beq_self_eq_true, tyB0ScrTxt, getL_take, glBScrTxt, h3, h6, h7, e16, and15 hxy, s1h, s2h, w1, a2, a3]
    exact ⟨hil, by rw [hsn, hxT_snoc], by simp⟩
  · rintro x e1 s2 ⟨rfl, rfl, h3⟩
    simp (disch := first | omega | ((simp only [nxBScrTxt]) <;> omega) | decide) only [↓stepPre, stepPost, ↓W_cond, ↓W_block, ↓reduceIte, Nat.reduceEqDiff, Nat.reduceLT, Nat.reduceLeDiff, ret0, stVar, isTup, Value.cells, Nat.reduceAdd, Nat.reduceMul, Nat.reduceSub, env0, binV, intV, reduceCtorEq, pickV, nilCheckV, ptrV, unV, Rt, resultsV, allV, resV, calleeV, builtinV, eqV, fieldAddrV, ldVar, stN_own, stN_ownL, Int.reduceToNat, Int.reducePow, IntKind.bits, convV, Int.reduceNeg, Int.reduceAdd, Int.reduceSub, Int.reduceLT, Int.reduceLE, extractV, Int.reduceEq, mkFuncV, stBScrTxt, spBScrTxt, beq_self_eq_true, tyB0ScrTxt, getL_take, glBScrTxt, h3, Tryz.results19]
    exact key
theorem data38_ok {ds : List Nat} (hd : ds.length = 8) (hy : ∀ y ∈ ds, y < 256) (hbn : base ≤ s.next) (hR : ∀ s', Mild s s' → R (.string (strB (hxT ds))) s') : WC Tryz.prog base 21 [d8V ds] s R := by
  refine WC_open Tryz.func21 rfl ?_
  have hm0 := Mild.alloc s (.row (bC ds))
  have hh0 := Ab.heap_alloc_new s (.row (bC ds))
  have key := hR _ hm0
  simp (disch := first | omega | ((simp only [nxBScrTxt]) <;> omega) | decide) only [↓stepPre, stepPost, ↓W_cond, ↓W_block, ↓reduceIte, Nat.reduceEqDiff, Nat.reduceLT, Nat.reduceLeDiff, ret0, stVar, isTup, Value.cells, Nat.reduceAdd, Nat.reduceMul, Nat.reduceSub, env0, binV, intV, reduceCtorEq, pickV, nilCheckV, ptrV, unV, Rt, resultsV, allV, resV, calleeV, builtinV, eqV, fieldAddrV, ldVar, stN_own, stN_ownL, Int.reduceToNat, Int.reducePow, IntKind.bits, convV, Int.reduceNeg, Int.reduceAdd, Int.reduceSub, Int.reduceLT, Int.reduceLE, extractV, Int.reduceEq, mkFuncV, stBScrTxt, spBScrTxt, beq_self_eq_true, tyB0ScrTxt, getL_take, glBScrTxt, getL_d8 hd]
  generalize s.alloc (.row (bC ds)) = s1 at hm0 hh0 key ⊢
  refine W_loop_inv 8 (fun i e1 s2 => s2 = s1 ∧ e1 1 = .pointer (some ⟨s.next, 0, none⟩) ∧ e1 3 = .string (strB (hxT (ds.take i))) ∧ e1 4 = .int .i64 (i : Int)) (fun x e1 s2 => x = .exit 0 ∧ s2 = s1 ∧ e1 3 = .string (strB (hxT ds))) ?_ ⟨rfl, rfl, rfl, rfl⟩ ?_
  · rintro i e1 s2 hi ⟨rfl, h1, h3, h4⟩
    by_cases hil : i < 8
    rotate_left
    · have g1 : ¬ (i : Int) < 8 := by omega
      rw [List.take_of_length_le (by omega)] at h3
      simp (disch := first | omega | ((simp only [nxBScrTxt]) <;> omega) | decide) only [↓stepPre, stepPost, ↓W_cond, ↓W_block, ↓reduceIte, Nat.reduceEqDiff, Nat.reduceLT, Nat.reduceLeDiff, ret0, stVar, isTup, Value.cells, Nat.reduceAdd, Nat.reduceMul, Nat.reduceSub, env0, binV, intV, reduceCtorEq, pickV, nilCheckV, ptrV, unV, Rt, resultsV, allV, resV, calleeV, builtinV, eqV, fieldAddrV, ldVar, stN_own, stN_ownL, Int.reduceToNat, Int.reducePow, IntKind.bits, convV, Int.reduceNeg, Int.reduceAdd, Int.reduceSub, Int.reduceLT, Int.reduceLE, extractV, Int.reduceEq, mkFuncV, stBScrTxt, spBScrTxt, beq_self_eq_true, tyB0ScrTxt, getL_take, glBScrTxt, h1, h3, h4, g1]
    have g1 : (i : Int) < 8 := by omega
    have hix := idxArr (P := Tryz.prog) (b := s.next) (o := 0) (kk := .i64) (i := (i : Int)) Ty.arr31 Ty.siz5 (by omega) (by omega)
    rw [Int.toNat_natCast] at hix
    have hfa := bC_at (ds := ds) (i := i) (by omega)
    have hxy := getD_lt (i := i) hy (by omega)
    have hsn := take_snocN (ds := ds) (i := i) (by omega)
    generalize ds.getD i 0 = x at hfa hxy hsn
    simp (disch := first | omega | ((simp only [nxBScrTxt]) <;> omega) | decide) only [↓stepPre, stepPost, ↓W_cond, ↓W_block, ↓reduceIte, Nat.reduceEqDiff, Nat.reduceLT, Nat.reduceLeDiff, ret0, stVar, isTup, Value.cells, Nat.reduceAdd, Nat.reduceMul, Nat.reduceSub, env0, binV, intV, reduceCtorEq, pickV, nilCheckV, ptrV, unV, Rt, resultsV, allV, resV, calleeV, builtinV, eqV, fieldAddrV, ldVar, stN_own, stN_ownL, Int.reduceToNat, Int.reducePow, IntKind.bits, convV, Int.reduceNeg, Int.reduceAdd, Int.reduceSub, Int.reduceLT, Int.reduceLE, extractV, Int.reduceEq, mkFuncV, stBScrTxt, spBScrTxt, beq_self_eq_true, tyB0ScrTxt, getL_take, glBScrTxt, h1, h3, h4, g1]
    refine W_draw (fun _ => false) (fun _ => false) (fun _ => false) (by kernel_rfl) (by kernel_rfl) ?_
    have e16 : (x : Int).tdiv 16 = ((x / 16 % 16 : Nat) : Int) := by rw [Int.tdiv_eq_ediv_of_nonneg (by omega)]; omega
    have m16 : (x : Int).tmod 16 = ((x % 16 : Nat) : Int) := by rw [Int.tmod_eq_emod_of_nonneg (by omega)]; omega
    have s1h := slc_hx (s := s2) (d := x / 16 % 16) (k := .u8) (k' := .u8) (Nat.mod_lt _ (by omega))
    have s2h := slc_hx (s := s2) (d := x % 16) (k := .u8) (k' := .u8) (Nat.mod_lt _ (by omega))
    have w1 : IntKind.u8.wrap (((x % 16 : Nat) : Int) + 1) = ((x % 16 : Nat) : Int) + 1 := IntWalk.u8_in _ (by omega)
    have w2 : IntKind.u8.wrap (((x / 16 % 16 : Nat) : Int) + 1) = ((x / 16 % 16 : Nat) : Int) + 1 := IntWalk.u8_in _ (by omega)
    have a2 := addStrV (l := [hxAt (x / 16 % 16)]) (m := [hxAt (x % 16)]) (by simp)
    have a3 := addStrV (l := hxT (ds.take i)) (m := [hxAt (x / 16 % 16), hxAt (x % 16)]) (by simp [hxT_len]; omega)
    simp (disch := first | omega | ((simp only [nxBScrTxt]) <;> omega) | decide) only [↓stepPre, stepPost, ↓W_cond, ↓W_block, ↓reduceIte, Nat.reduceEqDiff, Nat.reduceLT, Nat.reduceLeDiff, ret0, stVar, isTup, Value.cells, Nat.reduceAdd, Nat.reduceMul, Nat.reduceSub, env0, binV, intV, reduceCtorEq, pickV, nilCheckV, ptrV, unV, Rt, resultsV, allV, resV, calleeV, builtinV, eqV, fieldAddrV, ldVar, stN_own, stN_ownL, Int.reduceToNat, Int.reducePow, IntKind.bits, convV, Int.reduceNeg, Int.reduceAdd, Int.reduceSub, Int.reduceLT, Int.reduceLE, extractV, Int.reduceEq, mkFuncV, stBScrTxt, spBScrTxt, beq_self_eq_true, tyB0ScrTxt, getL_take, glBScrTxt, Nat.mul_one, h1, h3, h4, hix, hh0, hfa, e16, m16, s1h, s2h, w1, w2, a2, a3]
    exact ⟨hil, by rw [hsn, hxT_snoc], by simp⟩
  · rintro x e1 s2 ⟨rfl, rfl, h3⟩
    simp (disch := first | omega | ((simp only [nxBScrTxt]) <;> omega) | decide) only [↓stepPre, stepPost, ↓W_cond, ↓W_block, ↓reduceIte, Nat.reduceEqDiff, Nat.reduceLT, Nat.reduceLeDiff, ret0, stVar, isTup, Value.cells, Nat.reduceAdd, Nat.reduceMul, Nat.reduceSub, env0, binV, intV, reduceCtorEq, pickV, nilCheckV, ptrV, unV, Rt, resultsV, allV, resV, calleeV, builtinV, eqV, fieldAddrV, ldVar, stN_own, stN_ownL, Int.reduceToNat, Int.reducePow, IntKind.bits, convV, Int.reduceNeg, Int.reduceAdd, Int.reduceSub, Int.reduceLT, Int.reduceLE, extractV, Int.reduceEq, mkFuncV, stBScrTxt, spBScrTxt, beq_self_eq_true, tyB0ScrTxt, getL_take, glBScrTxt, h3, Tryz.results21]
    exact key
/-! ### Acts that can be, and their words -/
def boundA (k : Int) : Int := if k = 1 then 10000 else if k = 3 then 2047 else if k = 4 then 2147483647 else if k = 7 then 1048576 else -1
def rightA (k K N : Int) (ds : List Nat) : Bool :=
  if k < 1 ∨ 7 < k then false else if k ≠ 3 ∧ ds ≠ [0, 0, 0, 0, 0, 0, 0, 0] then false
  else if k = 1 then decide (K = 0 ∧ 1 ≤ N ∧ N ≤ 10000) else decide (0 ≤ K ∧ K ≤ 31 ∧ 0 ≤ N ∧ N ≤ max (boundA k) 0)
def wordL (k : Int) : List UInt8 :=
  if k = 1 then [114, 117, 110] else if k = 2 then [102, 108, 105, 112] else if k = 3 then [114, 101, 108, 101, 97, 115, 101] else if k = 4 then [99, 97, 110, 99, 101, 108]
  else if k = 5 then [99, 114, 97, 115, 104] else if k = 6 then [114, 101, 115, 116, 97, 114, 116] else if k = 7 then [115, 112, 101, 101, 100] else []
theorem within38_p {n lo hi : Int} (hR : R (.bool (decide (lo ≤ n ∧ n ≤ hi))) s) : WC Tryz.prog base 14 [.int .i64 n, .int .i64 lo, .int .i64 hi] s R := by
  refine WC_open Tryz.func14 rfl ?_
  by_cases h1 : lo ≤ n
  · have h1' : n ≥ lo := h1
    by_cases h2 : n ≤ hi
    · rw [decide_eq_true ⟨h1, h2⟩] at hR
      simp (disch := first | omega | ((simp only [nxBScrTxt]) <;> omega) | decide) only [↓stepPre, stepPost, ↓W_cond, ↓W_block, ↓reduceIte, Nat.reduceEqDiff, Nat.reduceLT, Nat.reduceLeDiff, ret0, stVar, isTup, Value.cells, Nat.reduceAdd, Nat.reduceMul, Nat.reduceSub, env0, binV, intV, reduceCtorEq, pickV, nilCheckV, ptrV, unV, Rt, resultsV, allV, resV, calleeV, builtinV, eqV, fieldAddrV, ldVar, stN_own, stN_ownL, Int.reduceToNat, Int.reducePow, IntKind.bits, convV, Int.reduceNeg, Int.reduceAdd, Int.reduceSub, Int.reduceLT, Int.reduceLE, extractV, Int.reduceEq, mkFuncV, stBScrTxt, spBScrTxt, beq_self_eq_true, tyB0ScrTxt, h1, h1', h2, Tryz.results14]
      exact hR
    · rw [decide_eq_false (fun h => h2 h.2)] at hR
      simp (disch := first | omega | ((simp only [nxBScrTxt]) <;> omega) | decide) only [↓stepPre, stepPost, ↓W_cond, ↓W_block, ↓reduceIte, Nat.reduceEqDiff, Nat.reduceLT, Nat.reduceLeDiff, ret0, stVar, isTup, Value.cells, Nat.reduceAdd, Nat.reduceMul, Nat.reduceSub, env0, binV, intV, reduceCtorEq, pickV, nilCheckV, ptrV, unV, Rt, resultsV, allV, resV, calleeV, builtinV, eqV, fieldAddrV, ldVar, stN_own, stN_ownL, Int.reduceToNat, Int.reducePow, IntKind.bits, convV, Int.reduceNeg, Int.reduceAdd, Int.reduceSub, Int.reduceLT, Int.reduceLE, extractV, Int.reduceEq, mkFuncV, stBScrTxt, spBScrTxt, beq_self_eq_true, tyB0ScrTxt, h1, h1', h2, Tryz.results14]
      exact hR
  · have h1' : ¬ n ≥ lo := h1
    rw [decide_eq_false (fun h => h1 h.1)] at hR
    simp (disch := first | omega | ((simp only [nxBScrTxt]) <;> omega) | decide) only [↓stepPre, stepPost, ↓W_cond, ↓W_block, ↓reduceIte, Nat.reduceEqDiff, Nat.reduceLT, Nat.reduceLeDiff, ret0, stVar, isTup, Value.cells, Nat.reduceAdd, Nat.reduceMul, Nat.reduceSub, env0, binV, intV, reduceCtorEq, pickV, nilCheckV, ptrV, unV, Rt, resultsV, allV, resV, calleeV, builtinV, eqV, fieldAddrV, ldVar, stN_own, stN_ownL, Int.reduceToNat, Int.reducePow, IntKind.bits, convV, Int.reduceNeg, Int.reduceAdd, Int.reduceSub, Int.reduceLT, Int.reduceLE, extractV, Int.reduceEq, mkFuncV, stBScrTxt, spBScrTxt, beq_self_eq_true, tyB0ScrTxt, h1, h1', Tryz.results14]
    exact hR
theorem bound38_p {k : Int} (hR : R (.int .i64 (boundA k)) s) : WC Tryz.prog base 15 [.int .i64 k] s R := by
  refine WC_open Tryz.func15 rfl ?_
  unfold boundA at hR
  by_cases h1 : k = 1
  · subst h1; simp (disch := first | omega | ((simp only [nxBScrTxt]) <;> omega) | decide) only [↓stepPre, stepPost, ↓W_cond, ↓W_block, ↓reduceIte, Nat.reduceEqDiff, Nat.reduceLT, Nat.reduceLeDiff, ret0, stVar, isTup, Value.cells, Nat.reduceAdd, Nat.reduceMul, Nat.reduceSub, env0, binV, intV, reduceCtorEq, pickV, nilCheckV, ptrV, unV, Rt, resultsV, allV, resV, calleeV, builtinV, eqV, fieldAddrV, ldVar, stN_own, stN_ownL, Int.reduceToNat, Int.reducePow, IntKind.bits, convV, Int.reduceNeg, Int.reduceAdd, Int.reduceSub, Int.reduceLT, Int.reduceLE, extractV, Int.reduceEq, mkFuncV, stBScrTxt, spBScrTxt, beq_self_eq_true, tyB0ScrTxt, eq_self, Tryz.results15]; exact hR
  by_cases h3 : k = 3
  · subst h3; simp (disch := first | omega | ((simp only [nxBScrTxt]) <;> omega) | decide) only [↓stepPre, stepPost, ↓W_cond, ↓W_block, ↓reduceIte, Nat.reduceEqDiff, Nat.reduceLT, Nat.reduceLeDiff, ret0, stVar, isTup, Value.cells, Nat.reduceAdd, Nat.reduceMul, Nat.reduceSub, env0, binV, intV, reduceCtorEq, pickV, nilCheckV, ptrV, unV, Rt, resultsV, allV, resV, calleeV, builtinV, eqV, fieldAddrV, ldVar, stN_own, stN_ownL, Int.reduceToNat, Int.reducePow, IntKind.bits, convV, Int.reduceNeg, Int.reduceAdd, Int.reduceSub, Int.reduceLT, Int.reduceLE, extractV, Int.reduceEq, mkFuncV, stBScrTxt, spBScrTxt, beq_self_eq_true, tyB0ScrTxt, eq_self, Tryz.results15]; exact hR
  by_cases h4 : k = 4
  · subst h4; simp (disch := first | omega | ((simp only [nxBScrTxt]) <;> omega) | decide) only [↓stepPre, stepPost, ↓W_cond, ↓W_block, ↓reduceIte, Nat.reduceEqDiff, Nat.reduceLT, Nat.reduceLeDiff, ret0, stVar, isTup, Value.cells, Nat.reduceAdd, Nat.reduceMul, Nat.reduceSub, env0, binV, intV, reduceCtorEq, pickV, nilCheckV, ptrV, unV, Rt, resultsV, allV, resV, calleeV, builtinV, eqV, fieldAddrV, ldVar, stN_own, stN_ownL, Int.reduceToNat, Int.reducePow, IntKind.bits, convV, Int.reduceNeg, Int.reduceAdd, Int.reduceSub, Int.reduceLT, Int.reduceLE, extractV, Int.reduceEq, mkFuncV, stBScrTxt, spBScrTxt, beq_self_eq_true, tyB0ScrTxt, eq_self, Tryz.results15]; exact hR
  by_cases h7 : k = 7
  · subst h7; simp (disch := first | omega | ((simp only [nxBScrTxt]) <;> omega) | decide) only [↓stepPre, stepPost, ↓W_cond, ↓W_block, ↓reduceIte, Nat.reduceEqDiff, Nat.reduceLT, Nat.reduceLeDiff, ret0, stVar, isTup, Value.cells, Nat.reduceAdd, Nat.reduceMul, Nat.reduceSub, env0, binV, intV, reduceCtorEq, pickV, nilCheckV, ptrV, unV, Rt, resultsV, allV, resV, calleeV, builtinV, eqV, fieldAddrV, ldVar, stN_own, stN_ownL, Int.reduceToNat, Int.reducePow, IntKind.bits, convV, Int.reduceNeg, Int.reduceAdd, Int.reduceSub, Int.reduceLT, Int.reduceLE, extractV, Int.reduceEq, mkFuncV, stBScrTxt, spBScrTxt, beq_self_eq_true, tyB0ScrTxt, eq_self, Tryz.results15]; exact hR
  rw [if_neg h1, if_neg h3, if_neg h4, if_neg h7] at hR
  simp (disch := first | omega | ((simp only [nxBScrTxt]) <;> omega) | decide) only [↓stepPre, stepPost, ↓W_cond, ↓W_block, ↓reduceIte, Nat.reduceEqDiff, Nat.reduceLT, Nat.reduceLeDiff, ret0, stVar, isTup, Value.cells, Nat.reduceAdd, Nat.reduceMul, Nat.reduceSub, env0, binV, intV, reduceCtorEq, pickV, nilCheckV, ptrV, unV, Rt, resultsV, allV, resV, calleeV, builtinV, eqV, fieldAddrV, ldVar, stN_own, stN_ownL, Int.reduceToNat, Int.reducePow, IntKind.bits, convV, Int.reduceNeg, Int.reduceAdd, Int.reduceSub, Int.reduceLT, Int.reduceLE, extractV, Int.reduceEq, mkFuncV, stBScrTxt, spBScrTxt, beq_self_eq_true, tyB0ScrTxt, h1, h3, h4, h7, Tryz.results15]
  exact hR
theorem word38_p {k : Int} (hR : R (.string (strB (wordL k))) s) : WC Tryz.prog base 16 [.int .i64 k] s R := by
  refine WC_open Tryz.func16 rfl ?_
  unfold wordL at hR
  by_cases h1 : k = 1
  · subst h1; simp (disch := first | omega | ((simp only [nxBScrTxt]) <;> omega) | decide) only [↓stepPre, stepPost, ↓W_cond, ↓W_block, ↓reduceIte, Nat.reduceEqDiff, Nat.reduceLT, Nat.reduceLeDiff, ret0, stVar, isTup, Value.cells, Nat.reduceAdd, Nat.reduceMul, Nat.reduceSub, env0, binV, intV, reduceCtorEq, pickV, nilCheckV, ptrV, unV, Rt, resultsV, allV, resV, calleeV, builtinV, eqV, fieldAddrV, ldVar, stN_own, stN_ownL, Int.reduceToNat, Int.reducePow, IntKind.bits, convV, Int.reduceNeg, Int.reduceAdd, Int.reduceSub, Int.reduceLT, Int.reduceLE, extractV, Int.reduceEq, mkFuncV, stBScrTxt, spBScrTxt, beq_self_eq_true, tyB0ScrTxt, eq_self, Tryz.results16]; exact hR
  by_cases h2 : k = 2
  · subst h2; simp (disch := first | omega | ((simp only [nxBScrTxt]) <;> omega) | decide) only [↓stepPre, stepPost, ↓W_cond, ↓W_block, ↓reduceIte, Nat.reduceEqDiff, Nat.reduceLT, Nat.reduceLeDiff, ret0, stVar, isTup, Value.cells, Nat.reduceAdd, Nat.reduceMul, Nat.reduceSub, env0, binV, intV, reduceCtorEq, pickV, nilCheckV, ptrV, unV, Rt, resultsV, allV, resV, calleeV, builtinV, eqV, fieldAddrV, ldVar, stN_own, stN_ownL, Int.reduceToNat, Int.reducePow, IntKind.bits, convV, Int.reduceNeg, Int.reduceAdd, Int.reduceSub, Int.reduceLT, Int.reduceLE, extractV, Int.reduceEq, mkFuncV, stBScrTxt, spBScrTxt, beq_self_eq_true, tyB0ScrTxt, eq_self, Tryz.results16]; exact hR
  by_cases h3 : k = 3
  · subst h3; simp (disch := first | omega | ((simp only [nxBScrTxt]) <;> omega) | decide) only [↓stepPre, stepPost, ↓W_cond, ↓W_block, ↓reduceIte, Nat.reduceEqDiff, Nat.reduceLT, Nat.reduceLeDiff, ret0, stVar, isTup, Value.cells, Nat.reduceAdd, Nat.reduceMul, Nat.reduceSub, env0, binV, intV, reduceCtorEq, pickV, nilCheckV, ptrV, unV, Rt, resultsV, allV, resV, calleeV, builtinV, eqV, fieldAddrV, ldVar, stN_own, stN_ownL, Int.reduceToNat, Int.reducePow, IntKind.bits, convV, Int.reduceNeg, Int.reduceAdd, Int.reduceSub, Int.reduceLT, Int.reduceLE, extractV, Int.reduceEq, mkFuncV, stBScrTxt, spBScrTxt, beq_self_eq_true, tyB0ScrTxt, eq_self, Tryz.results16]; exact hR
  by_cases h4 : k = 4
  · subst h4; simp (disch := first | omega | ((simp only [nxBScrTxt]) <;> omega) | decide) only [↓stepPre, stepPost, ↓W_cond, ↓W_block, ↓reduceIte, Nat.reduceEqDiff, Nat.reduceLT, Nat.reduceLeDiff, ret0, stVar, isTup, Value.cells, Nat.reduceAdd, Nat.reduceMul, Nat.reduceSub, env0, binV, intV, reduceCtorEq, pickV, nilCheckV, ptrV, unV, Rt, resultsV, allV, resV, calleeV, builtinV, eqV, fieldAddrV, ldVar, stN_own, stN_ownL, Int.reduceToNat, Int.reducePow, IntKind.bits, convV, Int.reduceNeg, Int.reduceAdd, Int.reduceSub, Int.reduceLT, Int.reduceLE, extractV, Int.reduceEq, mkFuncV, stBScrTxt, spBScrTxt, beq_self_eq_true, tyB0ScrTxt, eq_self, Tryz.results16]; exact hR
  by_cases h5 : k = 5
  · subst h5; simp (disch := first | omega | ((simp only [nxBScrTxt]) <;> omega) | decide) only [↓stepPre, stepPost, ↓W_cond, ↓W_block, ↓reduceIte, Nat.reduceEqDiff, Nat.reduceLT, Nat.reduceLeDiff, ret0, stVar, isTup, Value.cells, Nat.reduceAdd, Nat.reduceMul, Nat.reduceSub, env0, binV, intV, reduceCtorEq, pickV, nilCheckV, ptrV, unV, Rt, resultsV, allV, resV, calleeV, builtinV, eqV, fieldAddrV, ldVar, stN_own, stN_ownL, Int.reduceToNat, Int.reducePow, IntKind.bits, convV, Int.reduceNeg, Int.reduceAdd, Int.reduceSub, Int.reduceLT, Int.reduceLE, extractV, Int.reduceEq, mkFuncV, stBScrTxt, spBScrTxt, beq_self_eq_true, tyB0ScrTxt, eq_self, Tryz.results16]; exact hR
  by_cases h6 : k = 6
  · subst h6; simp (disch := first | omega | ((simp only [nxBScrTxt]) <;> omega) | decide) only [↓stepPre, stepPost, ↓W_cond, ↓W_block, ↓reduceIte, Nat.reduceEqDiff, Nat.reduceLT, Nat.reduceLeDiff, ret0, stVar, isTup, Value.cells, Nat.reduceAdd, Nat.reduceMul, Nat.reduceSub, env0, binV, intV, reduceCtorEq, pickV, nilCheckV, ptrV, unV, Rt, resultsV, allV, resV, calleeV, builtinV, eqV, fieldAddrV, ldVar, stN_own, stN_ownL, Int.reduceToNat, Int.reducePow, IntKind.bits, convV, Int.reduceNeg, Int.reduceAdd, Int.reduceSub, Int.reduceLT, Int.reduceLE, extractV, Int.reduceEq, mkFuncV, stBScrTxt, spBScrTxt, beq_self_eq_true, tyB0ScrTxt, eq_self, Tryz.results16]; exact hR
  by_cases h7 : k = 7
  · subst h7; simp (disch := first | omega | ((simp only [nxBScrTxt]) <;> omega) | decide) only [↓stepPre, stepPost, ↓W_cond, ↓W_block, ↓reduceIte, Nat.reduceEqDiff, Nat.reduceLT, Nat.reduceLeDiff, ret0, stVar, isTup, Value.cells, Nat.reduceAdd, Nat.reduceMul, Nat.reduceSub, env0, binV, intV, reduceCtorEq, pickV, nilCheckV, ptrV, unV, Rt, resultsV, allV, resV, calleeV, builtinV, eqV, fieldAddrV, ldVar, stN_own, stN_ownL, Int.reduceToNat, Int.reducePow, IntKind.bits, convV, Int.reduceNeg, Int.reduceAdd, Int.reduceSub, Int.reduceLT, Int.reduceLE, extractV, Int.reduceEq, mkFuncV, stBScrTxt, spBScrTxt, beq_self_eq_true, tyB0ScrTxt, eq_self, Tryz.results16]; exact hR
  rw [if_neg h1, if_neg h2, if_neg h3, if_neg h4, if_neg h5, if_neg h6, if_neg h7] at hR
  simp (disch := first | omega | ((simp only [nxBScrTxt]) <;> omega) | decide) only [↓stepPre, stepPost, ↓W_cond, ↓W_block, ↓reduceIte, Nat.reduceEqDiff, Nat.reduceLT, Nat.reduceLeDiff, ret0, stVar, isTup, Value.cells, Nat.reduceAdd, Nat.reduceMul, Nat.reduceSub, env0, binV, intV, reduceCtorEq, pickV, nilCheckV, ptrV, unV, Rt, resultsV, allV, resV, calleeV, builtinV, eqV, fieldAddrV, ldVar, stN_own, stN_ownL, Int.reduceToNat, Int.reducePow, IntKind.bits, convV, Int.reduceNeg, Int.reduceAdd, Int.reduceSub, Int.reduceLT, Int.reduceLE, extractV, Int.reduceEq, mkFuncV, stBScrTxt, spBScrTxt, beq_self_eq_true, tyB0ScrTxt, h1, h2, h3, h4, h5, h6, h7, Tryz.results16]
  exact hR
end Go.Proofs.YthjpfllmecpliaaGreatDoor
/- The package class, and its document, as contracts. -/
set_option linter.all false
set_option maxRecDepth 20000
namespace Go.Proofs.YthjpfllmecpliaaGreatDoor
open Go Go.Ab
def spBClass := And.intro @Nat.le_refl (And.intro @true_and (And.intro @and_true (And.intro @Nat.add_zero (And.intro @Nat.zero_add (And.intro @Bool.not_true (And.intro @Bool.not_false (And.intro @ne_eq.{1} (And.intro @not_false_eq_true (And.intro @not_true_eq_false (And.intro @decide_true (And.intro @decide_false (@Int.fdiv_eq_ediv_of_nonneg))))))))))))
def nxBClass := And.intro @Ab.next_alloc (And.intro @Ab.next_upd (And.intro @List.length_cons.{0} (And.intro @List.length_nil.{0} (And.intro @ne_eq.{1} (And.intro not_true_eq_false not_false_eq_true)))))
def tyB0Class := And.intro @Ty.t132 (And.intro @Tryz.underlying132 (And.intro @Ty.t56 (And.intro @Tryz.underlying56 (And.intro @Ty.t3 (And.intro @Tryz.underlying3 (And.intro @Ty.t4 (And.intro @Tryz.underlying4 (And.intro @Ty.t144 (And.intro @Tryz.underlying144 (And.intro @Ty.t70 @Tryz.underlying70))))))))))
def stBClass := And.intro @List.size_toArray.{0} (And.intro @List.length_cons.{0} (And.intro @List.length_nil.{0} (And.intro @List.set_cons_zero.{0} (And.intro @List.set_cons_succ.{0} (And.intro @List.getD_cons_zero.{0} (And.intro @List.getD_cons_succ.{0} (And.intro @List.getElem?_cons_succ.{0} (And.intro @List.getElem?_cons_zero.{0} (And.intro @List.map_cons.{0,0} (And.intro @List.map_nil.{0,0} (And.intro @Option.isNone_none.{0} (And.intro @Option.isNone_some.{0} (And.intro @Option.map_some.{0,0} (And.intro @Option.map_none.{0,0} (And.intro @List.cons_append.{0} (And.intro @List.nil_append.{0} (And.intro @List.append_nil.{0} (And.intro @Array.toList_append.{0} (And.intro @List.toList_toArray.{0} (And.intro @Int.cast_ofNat_Int (And.intro @Option.isSome_some.{0} (And.intro @List.getElem?_toArray.{0} (And.intro @List.map_toArray.{0,0} (@Nat.min_eq_left))))))))))))))))))))))))
variable {base : Nat} [Bok base] {s : St} {R : Value → St → Prop}
def rt (c a b d : Int) : Bool := decide (1 ≤ c ∧ c ≤ 3 ∧ 0 ≤ a ∧ a ≤ 255 ∧ 0 ≤ b ∧ b ≤ 2047 ∧ 0 ≤ d ∧ d ≤ 31)
theorem right_ok {c a b d : Int} (hbn : base ≤ s.next) (hR : ∀ s', Mild s s' → R (.bool (rt c a b d)) s') : WC Tryz.prog base 80 [.agg #[.int .i64 c, .int .i64 a, .int .i64 b, .int .i64 d]] s R := by
  refine WC_open Tryz.func80 rfl ?_
  have hT : ∀ (q : Bool) s', Mild s s' → q = rt c a b d → R (.bool q) s' := fun q s' hm h => h ▸ hR s' hm
  have hc : c = 1 ∨ c = 2 ∨ c = 3 ∨ (¬ c = 1 ∧ ¬ c = 2 ∧ ¬ c = 3) := by omega
  rcases hc with rfl | rfl | rfl | ⟨h1, h2, h3⟩
  case inr.inr.inr =>
    simp (disch := first | omega | ((simp only [nxBClass]) <;> omega) | decide) only [↓stepPre, stepPost, ↓W_cond, ↓W_block, ↓reduceIte, Nat.reduceEqDiff, Nat.reduceLT, Nat.reduceLeDiff, ret0, stVar, isTup, Value.cells, Nat.reduceAdd, Nat.reduceMul, Nat.reduceSub, env0, binV, intV, reduceCtorEq, pickV, nilCheckV, ptrV, unV, Rt, resultsV, allV, resV, calleeV, builtinV, eqV, fieldAddrV, ldVar, stN_own, stN_ownL, Int.reduceToNat, Int.reducePow, IntKind.bits, convV, Int.reduceNeg, Int.reduceAdd, Int.reduceSub, Int.reduceLT, Int.reduceLE, extractV, Int.reduceEq, mkFuncV, stBClass, spBClass, beq_self_eq_true, tyB0Class, h1, h2, h3, Tryz.results80]
    have : false = rt c a b d := by simp [rt]; omega
    rw [this]; exact hR _ (.alloc _ _)
  all_goals
    simp (disch := first | omega | ((simp only [nxBClass]) <;> omega) | decide) only [↓stepPre, stepPost, ↓W_cond, ↓W_block, ↓reduceIte, Nat.reduceEqDiff, Nat.reduceLT, Nat.reduceLeDiff, ret0, stVar, isTup, Value.cells, Nat.reduceAdd, Nat.reduceMul, Nat.reduceSub, env0, binV, intV, reduceCtorEq, pickV, nilCheckV, ptrV, unV, Rt, resultsV, allV, resV, calleeV, builtinV, eqV, fieldAddrV, ldVar, stN_own, stN_ownL, Int.reduceToNat, Int.reducePow, IntKind.bits, convV, Int.reduceNeg, Int.reduceAdd, Int.reduceSub, Int.reduceLT, Int.reduceLE, extractV, Int.reduceEq, mkFuncV, stBClass, spBClass, beq_self_eq_true, tyB0Class]
    refine Gif_dec (fun g1 => ?_) (fun g1 => ?_)
    · simp (disch := first | omega | ((simp only [nxBClass]) <;> omega) | decide) only [↓stepPre, stepPost, ↓W_cond, ↓W_block, ↓reduceIte, Nat.reduceEqDiff, Nat.reduceLT, Nat.reduceLeDiff, ret0, stVar, isTup, Value.cells, Nat.reduceAdd, Nat.reduceMul, Nat.reduceSub, env0, binV, intV, reduceCtorEq, pickV, nilCheckV, ptrV, unV, Rt, resultsV, allV, resV, calleeV, builtinV, eqV, fieldAddrV, ldVar, stN_own, stN_ownL, Int.reduceToNat, Int.reducePow, IntKind.bits, convV, Int.reduceNeg, Int.reduceAdd, Int.reduceSub, Int.reduceLT, Int.reduceLE, extractV, Int.reduceEq, mkFuncV, stBClass, spBClass, beq_self_eq_true, tyB0Class, g1]
      refine Gif_dec (fun g2 => ?_) (fun g2 => ?_)
      · simp (disch := first | omega | ((simp only [nxBClass]) <;> omega) | decide) only [↓stepPre, stepPost, ↓W_cond, ↓W_block, ↓reduceIte, Nat.reduceEqDiff, Nat.reduceLT, Nat.reduceLeDiff, ret0, stVar, isTup, Value.cells, Nat.reduceAdd, Nat.reduceMul, Nat.reduceSub, env0, binV, intV, reduceCtorEq, pickV, nilCheckV, ptrV, unV, Rt, resultsV, allV, resV, calleeV, builtinV, eqV, fieldAddrV, ldVar, stN_own, stN_ownL, Int.reduceToNat, Int.reducePow, IntKind.bits, convV, Int.reduceNeg, Int.reduceAdd, Int.reduceSub, Int.reduceLT, Int.reduceLE, extractV, Int.reduceEq, mkFuncV, stBClass, spBClass, beq_self_eq_true, tyB0Class, g1, g2, Tryz.results80]
        simp only [decide_eq_true_eq] at g1 g2
        refine hT _ _ (.alloc _ _) ?_
        simp only [rt, decide_eq_decide]; omega
      · simp (disch := first | omega | ((simp only [nxBClass]) <;> omega) | decide) only [↓stepPre, stepPost, ↓W_cond, ↓W_block, ↓reduceIte, Nat.reduceEqDiff, Nat.reduceLT, Nat.reduceLeDiff, ret0, stVar, isTup, Value.cells, Nat.reduceAdd, Nat.reduceMul, Nat.reduceSub, env0, binV, intV, reduceCtorEq, pickV, nilCheckV, ptrV, unV, Rt, resultsV, allV, resV, calleeV, builtinV, eqV, fieldAddrV, ldVar, stN_own, stN_ownL, Int.reduceToNat, Int.reducePow, IntKind.bits, convV, Int.reduceNeg, Int.reduceAdd, Int.reduceSub, Int.reduceLT, Int.reduceLE, extractV, Int.reduceEq, mkFuncV, stBClass, spBClass, beq_self_eq_true, tyB0Class, g1, g2, Tryz.results80]
        simp only [Bool.not_true, decide_eq_false_iff_not] at g1 g2
        refine hT _ _ (.alloc _ _) ?_
        simp only [rt]; symm; rw [decide_eq_false_iff_not]; omega
    · simp (disch := first | omega | ((simp only [nxBClass]) <;> omega) | decide) only [↓stepPre, stepPost, ↓W_cond, ↓W_block, ↓reduceIte, Nat.reduceEqDiff, Nat.reduceLT, Nat.reduceLeDiff, ret0, stVar, isTup, Value.cells, Nat.reduceAdd, Nat.reduceMul, Nat.reduceSub, env0, binV, intV, reduceCtorEq, pickV, nilCheckV, ptrV, unV, Rt, resultsV, allV, resV, calleeV, builtinV, eqV, fieldAddrV, ldVar, stN_own, stN_ownL, Int.reduceToNat, Int.reducePow, IntKind.bits, convV, Int.reduceNeg, Int.reduceAdd, Int.reduceSub, Int.reduceLT, Int.reduceLE, extractV, Int.reduceEq, mkFuncV, stBClass, spBClass, beq_self_eq_true, tyB0Class, g1, Tryz.results80]
      simp only [Bool.not_true, decide_eq_false_iff_not] at g1
      refine hT _ _ (.alloc _ _) ?_
      simp only [rt]; symm; rw [decide_eq_false_iff_not]; omega
theorem rright_ok {c a b d : Int} (hbn : base ≤ s.next) (hR : ∀ s', Mild s s' → R (.bool (rt c a b d)) s') : WC Tryz.prog base 86 [.agg #[.int .i64 c, .int .i64 a, .int .i64 b, .int .i64 d]] s R := by
  refine WC_open Tryz.func86 rfl ?_
  have hF : ∀ s', Mild s s' → ¬ (1 ≤ c ∧ c ≤ 3 ∧ 0 ≤ a ∧ a ≤ 255 ∧ 0 ≤ b ∧ b ≤ 2047 ∧ 0 ≤ d ∧ d ≤ 31) → R (.bool false) s' := fun s' hm h => by
    have := hR s' hm; simp only [rt, h, decide_false] at this; exact this
  simp (disch := first | omega | ((simp only [nxBClass]) <;> omega) | decide) only [↓stepPre, stepPost, ↓W_cond, ↓W_block, ↓reduceIte, Nat.reduceEqDiff, Nat.reduceLT, Nat.reduceLeDiff, ret0, stVar, isTup, Value.cells, Nat.reduceAdd, Nat.reduceMul, Nat.reduceSub, env0, binV, intV, reduceCtorEq, pickV, nilCheckV, ptrV, unV, Rt, resultsV, allV, resV, calleeV, builtinV, eqV, fieldAddrV, ldVar, stN_own, stN_ownL, Int.reduceToNat, Int.reducePow, IntKind.bits, convV, Int.reduceNeg, Int.reduceAdd, Int.reduceSub, Int.reduceLT, Int.reduceLE, extractV, Int.reduceEq, mkFuncV, stBClass, spBClass, beq_self_eq_true, tyB0Class]
  refine Gif_dec (fun g1 => ?_) (fun g1 => ?_)
  rotate_left
  · simp (disch := first | omega | ((simp only [nxBClass]) <;> omega) | decide) only [↓stepPre, stepPost, ↓W_cond, ↓W_block, ↓reduceIte, Nat.reduceEqDiff, Nat.reduceLT, Nat.reduceLeDiff, ret0, stVar, isTup, Value.cells, Nat.reduceAdd, Nat.reduceMul, Nat.reduceSub, env0, binV, intV, reduceCtorEq, pickV, nilCheckV, ptrV, unV, Rt, resultsV, allV, resV, calleeV, builtinV, eqV, fieldAddrV, ldVar, stN_own, stN_ownL, Int.reduceToNat, Int.reducePow, IntKind.bits, convV, Int.reduceNeg, Int.reduceAdd, Int.reduceSub, Int.reduceLT, Int.reduceLE, extractV, Int.reduceEq, mkFuncV, stBClass, spBClass, beq_self_eq_true, tyB0Class, g1, Tryz.results86]
    exact hF _ (.alloc _ _) (by simp at g1; omega)
  simp (disch := first | omega | ((simp only [nxBClass]) <;> omega) | decide) only [↓stepPre, stepPost, ↓W_cond, ↓W_block, ↓reduceIte, Nat.reduceEqDiff, Nat.reduceLT, Nat.reduceLeDiff, ret0, stVar, isTup, Value.cells, Nat.reduceAdd, Nat.reduceMul, Nat.reduceSub, env0, binV, intV, reduceCtorEq, pickV, nilCheckV, ptrV, unV, Rt, resultsV, allV, resV, calleeV, builtinV, eqV, fieldAddrV, ldVar, stN_own, stN_ownL, Int.reduceToNat, Int.reducePow, IntKind.bits, convV, Int.reduceNeg, Int.reduceAdd, Int.reduceSub, Int.reduceLT, Int.reduceLE, extractV, Int.reduceEq, mkFuncV, stBClass, spBClass, beq_self_eq_true, tyB0Class, g1]
  refine Gif_dec (fun g2 => ?_) (fun g2 => ?_)
  rotate_left
  · simp (disch := first | omega | ((simp only [nxBClass]) <;> omega) | decide) only [↓stepPre, stepPost, ↓W_cond, ↓W_block, ↓reduceIte, Nat.reduceEqDiff, Nat.reduceLT, Nat.reduceLeDiff, ret0, stVar, isTup, Value.cells, Nat.reduceAdd, Nat.reduceMul, Nat.reduceSub, env0, binV, intV, reduceCtorEq, pickV, nilCheckV, ptrV, unV, Rt, resultsV, allV, resV, calleeV, builtinV, eqV, fieldAddrV, ldVar, stN_own, stN_ownL, Int.reduceToNat, Int.reducePow, IntKind.bits, convV, Int.reduceNeg, Int.reduceAdd, Int.reduceSub, Int.reduceLT, Int.reduceLE, extractV, Int.reduceEq, mkFuncV, stBClass, spBClass, beq_self_eq_true, tyB0Class, g1, g2, Tryz.results86]
    exact hF _ (.alloc _ _) (by simp at g1 g2; omega)
  simp (disch := first | omega | ((simp only [nxBClass]) <;> omega) | decide) only [↓stepPre, stepPost, ↓W_cond, ↓W_block, ↓reduceIte, Nat.reduceEqDiff, Nat.reduceLT, Nat.reduceLeDiff, ret0, stVar, isTup, Value.cells, Nat.reduceAdd, Nat.reduceMul, Nat.reduceSub, env0, binV, intV, reduceCtorEq, pickV, nilCheckV, ptrV, unV, Rt, resultsV, allV, resV, calleeV, builtinV, eqV, fieldAddrV, ldVar, stN_own, stN_ownL, Int.reduceToNat, Int.reducePow, IntKind.bits, convV, Int.reduceNeg, Int.reduceAdd, Int.reduceSub, Int.reduceLT, Int.reduceLE, extractV, Int.reduceEq, mkFuncV, stBClass, spBClass, beq_self_eq_true, tyB0Class, g1, g2]
  refine Gif_dec (fun g3 => ?_) (fun g3 => ?_)
  rotate_left
  · simp (disch := first | omega | ((simp only [nxBClass]) <;> omega) | decide) only [↓stepPre, stepPost, ↓W_cond, ↓W_block, ↓reduceIte, Nat.reduceEqDiff, Nat.reduceLT, Nat.reduceLeDiff, ret0, stVar, isTup, Value.cells, Nat.reduceAdd, Nat.reduceMul, Nat.reduceSub, env0, binV, intV, reduceCtorEq, pickV, nilCheckV, ptrV, unV, Rt, resultsV, allV, resV, calleeV, builtinV, eqV, fieldAddrV, ldVar, stN_own, stN_ownL, Int.reduceToNat, Int.reducePow, IntKind.bits, convV, Int.reduceNeg, Int.reduceAdd, Int.reduceSub, Int.reduceLT, Int.reduceLE, extractV, Int.reduceEq, mkFuncV, stBClass, spBClass, beq_self_eq_true, tyB0Class, g1, g2, g3, Tryz.results86]
    exact hF _ (.alloc _ _) (by simp at g1 g2 g3; omega)
  simp (disch := first | omega | ((simp only [nxBClass]) <;> omega) | decide) only [↓stepPre, stepPost, ↓W_cond, ↓W_block, ↓reduceIte, Nat.reduceEqDiff, Nat.reduceLT, Nat.reduceLeDiff, ret0, stVar, isTup, Value.cells, Nat.reduceAdd, Nat.reduceMul, Nat.reduceSub, env0, binV, intV, reduceCtorEq, pickV, nilCheckV, ptrV, unV, Rt, resultsV, allV, resV, calleeV, builtinV, eqV, fieldAddrV, ldVar, stN_own, stN_ownL, Int.reduceToNat, Int.reducePow, IntKind.bits, convV, Int.reduceNeg, Int.reduceAdd, Int.reduceSub, Int.reduceLT, Int.reduceLE, extractV, Int.reduceEq, mkFuncV, stBClass, spBClass, beq_self_eq_true, tyB0Class, g1, g2, g3]
  refine Gif_dec (fun g4 => ?_) (fun g4 => ?_)
  rotate_left
  · simp (disch := first | omega | ((simp only [nxBClass]) <;> omega) | decide) only [↓stepPre, stepPost, ↓W_cond, ↓W_block, ↓reduceIte, Nat.reduceEqDiff, Nat.reduceLT, Nat.reduceLeDiff, ret0, stVar, isTup, Value.cells, Nat.reduceAdd, Nat.reduceMul, Nat.reduceSub, env0, binV, intV, reduceCtorEq, pickV, nilCheckV, ptrV, unV, Rt, resultsV, allV, resV, calleeV, builtinV, eqV, fieldAddrV, ldVar, stN_own, stN_ownL, Int.reduceToNat, Int.reducePow, IntKind.bits, convV, Int.reduceNeg, Int.reduceAdd, Int.reduceSub, Int.reduceLT, Int.reduceLE, extractV, Int.reduceEq, mkFuncV, stBClass, spBClass, beq_self_eq_true, tyB0Class, g1, g2, g3, g4, Tryz.results86]
    exact hF _ (.alloc _ _) (by simp at g1 g2 g3 g4; omega)
  simp (disch := first | omega | ((simp only [nxBClass]) <;> omega) | decide) only [↓stepPre, stepPost, ↓W_cond, ↓W_block, ↓reduceIte, Nat.reduceEqDiff, Nat.reduceLT, Nat.reduceLeDiff, ret0, stVar, isTup, Value.cells, Nat.reduceAdd, Nat.reduceMul, Nat.reduceSub, env0, binV, intV, reduceCtorEq, pickV, nilCheckV, ptrV, unV, Rt, resultsV, allV, resV, calleeV, builtinV, eqV, fieldAddrV, ldVar, stN_own, stN_ownL, Int.reduceToNat, Int.reducePow, IntKind.bits, convV, Int.reduceNeg, Int.reduceAdd, Int.reduceSub, Int.reduceLT, Int.reduceLE, extractV, Int.reduceEq, mkFuncV, stBClass, spBClass, beq_self_eq_true, tyB0Class, g1, g2, g3, g4]
  refine Gif_dec (fun g5 => ?_) (fun g5 => ?_)
  rotate_left
  · simp (disch := first | omega | ((simp only [nxBClass]) <;> omega) | decide) only [↓stepPre, stepPost, ↓W_cond, ↓W_block, ↓reduceIte, Nat.reduceEqDiff, Nat.reduceLT, Nat.reduceLeDiff, ret0, stVar, isTup, Value.cells, Nat.reduceAdd, Nat.reduceMul, Nat.reduceSub, env0, binV, intV, reduceCtorEq, pickV, nilCheckV, ptrV, unV, Rt, resultsV, allV, resV, calleeV, builtinV, eqV, fieldAddrV, ldVar, stN_own, stN_ownL, Int.reduceToNat, Int.reducePow, IntKind.bits, convV, Int.reduceNeg, Int.reduceAdd, Int.reduceSub, Int.reduceLT, Int.reduceLE, extractV, Int.reduceEq, mkFuncV, stBClass, spBClass, beq_self_eq_true, tyB0Class, g1, g2, g3, g4, g5, Tryz.results86]
    exact hF _ (.alloc _ _) (by simp at g1 g2 g3 g4 g5; omega)
  simp (disch := first | omega | ((simp only [nxBClass]) <;> omega) | decide) only [↓stepPre, stepPost, ↓W_cond, ↓W_block, ↓reduceIte, Nat.reduceEqDiff, Nat.reduceLT, Nat.reduceLeDiff, ret0, stVar, isTup, Value.cells, Nat.reduceAdd, Nat.reduceMul, Nat.reduceSub, env0, binV, intV, reduceCtorEq, pickV, nilCheckV, ptrV, unV, Rt, resultsV, allV, resV, calleeV, builtinV, eqV, fieldAddrV, ldVar, stN_own, stN_ownL, Int.reduceToNat, Int.reducePow, IntKind.bits, convV, Int.reduceNeg, Int.reduceAdd, Int.reduceSub, Int.reduceLT, Int.reduceLE, extractV, Int.reduceEq, mkFuncV, stBClass, spBClass, beq_self_eq_true, tyB0Class, g1, g2, g3, g4, g5]
  refine Gif_dec (fun g6 => ?_) (fun g6 => ?_)
  rotate_left
  · simp (disch := first | omega | ((simp only [nxBClass]) <;> omega) | decide) only [↓stepPre, stepPost, ↓W_cond, ↓W_block, ↓reduceIte, Nat.reduceEqDiff, Nat.reduceLT, Nat.reduceLeDiff, ret0, stVar, isTup, Value.cells, Nat.reduceAdd, Nat.reduceMul, Nat.reduceSub, env0, binV, intV, reduceCtorEq, pickV, nilCheckV, ptrV, unV, Rt, resultsV, allV, resV, calleeV, builtinV, eqV, fieldAddrV, ldVar, stN_own, stN_ownL, Int.reduceToNat, Int.reducePow, IntKind.bits, convV, Int.reduceNeg, Int.reduceAdd, Int.reduceSub, Int.reduceLT, Int.reduceLE, extractV, Int.reduceEq, mkFuncV, stBClass, spBClass, beq_self_eq_true, tyB0Class, g1, g2, g3, g4, g5, g6, Tryz.results86]
    exact hF _ (.alloc _ _) (by simp at g1 g2 g3 g4 g5 g6; omega)
  simp (disch := first | omega | ((simp only [nxBClass]) <;> omega) | decide) only [↓stepPre, stepPost, ↓W_cond, ↓W_block, ↓reduceIte, Nat.reduceEqDiff, Nat.reduceLT, Nat.reduceLeDiff, ret0, stVar, isTup, Value.cells, Nat.reduceAdd, Nat.reduceMul, Nat.reduceSub, env0, binV, intV, reduceCtorEq, pickV, nilCheckV, ptrV, unV, Rt, resultsV, allV, resV, calleeV, builtinV, eqV, fieldAddrV, ldVar, stN_own, stN_ownL, Int.reduceToNat, Int.reducePow, IntKind.bits, convV, Int.reduceNeg, Int.reduceAdd, Int.reduceSub, Int.reduceLT, Int.reduceLE, extractV, Int.reduceEq, mkFuncV, stBClass, spBClass, beq_self_eq_true, tyB0Class, g1, g2, g3, g4, g5, g6]
  refine Gif_dec (fun g7 => ?_) (fun g7 => ?_)
  rotate_left
  · simp (disch := first | omega | ((simp only [nxBClass]) <;> omega) | decide) only [↓stepPre, stepPost, ↓W_cond, ↓W_block, ↓reduceIte, Nat.reduceEqDiff, Nat.reduceLT, Nat.reduceLeDiff, ret0, stVar, isTup, Value.cells, Nat.reduceAdd, Nat.reduceMul, Nat.reduceSub, env0, binV, intV, reduceCtorEq, pickV, nilCheckV, ptrV, unV, Rt, resultsV, allV, resV, calleeV, builtinV, eqV, fieldAddrV, ldVar, stN_own, stN_ownL, Int.reduceToNat, Int.reducePow, IntKind.bits, convV, Int.reduceNeg, Int.reduceAdd, Int.reduceSub, Int.reduceLT, Int.reduceLE, extractV, Int.reduceEq, mkFuncV, stBClass, spBClass, beq_self_eq_true, tyB0Class, g1, g2, g3, g4, g5, g6, g7, Tryz.results86]
    exact hF _ (.alloc _ _) (by simp at g1 g2 g3 g4 g5 g6 g7; omega)
  simp (disch := first | omega | ((simp only [nxBClass]) <;> omega) | decide) only [↓stepPre, stepPost, ↓W_cond, ↓W_block, ↓reduceIte, Nat.reduceEqDiff, Nat.reduceLT, Nat.reduceLeDiff, ret0, stVar, isTup, Value.cells, Nat.reduceAdd, Nat.reduceMul, Nat.reduceSub, env0, binV, intV, reduceCtorEq, pickV, nilCheckV, ptrV, unV, Rt, resultsV, allV, resV, calleeV, builtinV, eqV, fieldAddrV, ldVar, stN_own, stN_ownL, Int.reduceToNat, Int.reducePow, IntKind.bits, convV, Int.reduceNeg, Int.reduceAdd, Int.reduceSub, Int.reduceLT, Int.reduceLE, extractV, Int.reduceEq, mkFuncV, stBClass, spBClass, beq_self_eq_true, tyB0Class, g1, g2, g3, g4, g5, g6, g7, Tryz.results86]
  rw [show decide (d < 32) = rt c a b d by simp only [rt, decide_eq_decide]; simp at g1 g2 g3 g4 g5 g6 g7; omega]
  exact hR _ (.alloc _ _)
/-! ### Calls of values alone leave all as it was -/
theorem right_p {c a b d : Int} (hR : R (.bool (rt c a b d)) s) : WC Tryz.prog base 80 [.agg #[.int .i64 c, .int .i64 a, .int .i64 b, .int .i64 d]] s R :=
  WC_pureG rfl rfl (fun base s hB hn0 => right_ok hn0 fun _ _ => rfl) hR
theorem rright_p {c a b d : Int} (hR : R (.bool (rt c a b d)) s) : WC Tryz.prog base 86 [.agg #[.int .i64 c, .int .i64 a, .int .i64 b, .int .i64 d]] s R :=
  WC_pureG rfl rfl (fun base s hB hn0 => rright_ok hn0 fun _ _ => rfl) hR
end Go.Proofs.YthjpfllmecpliaaGreatDoor
/- Streams: their labels, what is wrong with one, what it costs, its jobs; and the document's. -/
set_option linter.all false
set_option maxRecDepth 20000
namespace Go.Proofs.YthjpfllmecpliaaGreatDoor
open Go Go.Ab
def spBStream := And.intro @Nat.le_refl (And.intro @true_and (And.intro @and_true (And.intro @Nat.add_zero (And.intro @Nat.zero_add (And.intro @Bool.not_true (And.intro @Bool.not_false (And.intro @ne_eq.{1} (And.intro @not_false_eq_true (And.intro @not_true_eq_false (And.intro @decide_true (And.intro @decide_false (@Int.fdiv_eq_ediv_of_nonneg))))))))))))
def nxBStream := And.intro @Ab.next_alloc (And.intro @Ab.next_upd (And.intro @List.length_cons.{0} (And.intro @List.length_nil.{0} (And.intro @ne_eq.{1} (And.intro not_true_eq_false not_false_eq_true)))))
def tyB0Stream := And.intro @Ty.t58 (And.intro @Tryz.underlying58 (And.intro @Ty.t22 (And.intro @Tryz.underlying22 (And.intro @Ty.t132 (And.intro @Tryz.underlying132 (And.intro @Ty.t56 (And.intro @Tryz.underlying56 (And.intro @Ty.t3 (And.intro @Tryz.underlying3 (And.intro @Ty.t2 (And.intro @Tryz.underlying2 (And.intro @Ty.t4 (And.intro @Tryz.underlying4 (And.intro @Ty.t144 (And.intro @Tryz.underlying144 (And.intro @Ty.t70 (And.intro @Tryz.underlying70 (And.intro @Ty.t35 @Tryz.underlying35))))))))))))))))))
def stBStream := And.intro @List.size_toArray.{0} (And.intro @List.length_cons.{0} (And.intro @List.length_nil.{0} (And.intro @List.set_cons_zero.{0} (And.intro @List.set_cons_succ.{0} (And.intro @List.getD_cons_zero.{0} (And.intro @List.getD_cons_succ.{0} (And.intro @List.getElem?_cons_succ.{0} (And.intro @List.getElem?_cons_zero.{0} (And.intro @List.map_cons.{0,0} (And.intro @List.map_nil.{0,0} (And.intro @Option.isNone_none.{0} (And.intro @Option.isNone_some.{0} (And.intro @Option.map_some.{0,0} (And.intro @Option.map_none.{0,0} (And.intro @List.cons_append.{0} (And.intro @List.nil_append.{0} (And.intro @List.append_nil.{0} (And.intro @Array.toList_append.{0} (And.intro @List.toList_toArray.{0} (And.intro @Int.cast_ofNat_Int (And.intro @Option.isSome_some.{0} (And.intro @List.getElem?_toArray.{0} (And.intro @List.map_toArray.{0,0} (@Nat.min_eq_left))))))))))))))))))))))))
def glBStream := And.intro @List.drop_zero.{0} (And.intro @List.drop_succ_cons.{0} (And.intro @List.take_succ_cons.{0} (And.intro @List.take_zero.{0} (@List.take_nil.{0}))))
variable {base : Nat} [Bok base] {s : St} {R : Value → St → Prop}
structure Sm where
  id : Int
  nd : Int
  cl : Int
  pe : Int
  de : Int
  sl : Int
  by_ : Int
abbrev Sm.c (x : Sm) : List Value := [.int .i64 x.id, .int .i64 x.nd, .int .i64 x.cl, .int .i64 x.pe, .int .i64 x.de, .int .i64 x.sl, .int .i64 x.by_]
theorem label_p {x : Sm} (hR : R (.agg #[.int .i64 x.cl, .int .i64 x.sl, .int .i64 x.id, .int .i64 x.nd]) s) : WC Tryz.prog base 81 [.agg x.c.toArray] s R := by
  refine WC_pureG rfl rfl (fun base s hB hn0 => ?_) hR
  refine WC_open Tryz.func81 rfl ?_
  simp (disch := first | omega | ((simp only [nxBStream]) <;> omega) | decide) only [↓stepPre, stepPost, ↓W_cond, ↓W_block, ↓reduceIte, Nat.reduceEqDiff, Nat.reduceLT, Nat.reduceLeDiff, ret0, stVar, isTup, Value.cells, Nat.reduceAdd, Nat.reduceMul, Nat.reduceSub, env0, binV, intV, reduceCtorEq, pickV, nilCheckV, ptrV, unV, Rt, resultsV, allV, resV, calleeV, builtinV, eqV, fieldAddrV, ldVar, stN_own, stN_ownL, Int.reduceToNat, Int.reducePow, IntKind.bits, convV, Int.reduceNeg, Int.reduceAdd, Int.reduceSub, Int.reduceLT, Int.reduceLE, extractV, Int.reduceEq, mkFuncV, stBStream, spBStream, beq_self_eq_true, tyB0Stream, getL_take, glBStream, buildV, fillL, Tryz.results81]
theorem rlabel_p {x : Sm} (hR : R (.agg #[.int .i64 x.cl, .int .i64 x.sl, .int .i64 x.id, .int .i64 x.nd]) s) : WC Tryz.prog base 87 [.agg x.c.toArray] s R := by
  refine WC_pureG rfl rfl (fun base s hB hn0 => ?_) hR
  refine WC_open Tryz.func87 rfl ?_
  simp (disch := first | omega | ((simp only [nxBStream]) <;> omega) | decide) only [↓stepPre, stepPost, ↓W_cond, ↓W_block, ↓reduceIte, Nat.reduceEqDiff, Nat.reduceLT, Nat.reduceLeDiff, ret0, stVar, isTup, Value.cells, Nat.reduceAdd, Nat.reduceMul, Nat.reduceSub, env0, binV, intV, reduceCtorEq, pickV, nilCheckV, ptrV, unV, Rt, resultsV, allV, resV, calleeV, builtinV, eqV, fieldAddrV, ldVar, stN_own, stN_ownL, Int.reduceToNat, Int.reducePow, IntKind.bits, convV, Int.reduceNeg, Int.reduceAdd, Int.reduceSub, Int.reduceLT, Int.reduceLE, extractV, Int.reduceEq, mkFuncV, stBStream, spBStream, beq_self_eq_true, tyB0Stream, getL_take, glBStream, buildV, fillL, Tryz.results87]
theorem within_p {n m : Int} (hR : R (.bool (decide (1 ≤ n) && decide (n ≤ m))) s) : WC Tryz.prog base 56 [.int .i64 n, .int .i64 m] s R := by
  refine WC_open Tryz.func56 rfl ?_
  by_cases h : 1 ≤ n
  · simp only [h, decide_true, Bool.true_and] at hR
    simp (disch := first | omega | ((simp only [nxBStream]) <;> omega) | decide) only [↓stepPre, stepPost, ↓W_cond, ↓W_block, ↓reduceIte, Nat.reduceEqDiff, Nat.reduceLT, Nat.reduceLeDiff, ret0, stVar, isTup, Value.cells, Nat.reduceAdd, Nat.reduceMul, Nat.reduceSub, env0, binV, intV, reduceCtorEq, pickV, nilCheckV, ptrV, unV, Rt, resultsV, allV, resV, calleeV, builtinV, eqV, fieldAddrV, ldVar, stN_own, stN_ownL, Int.reduceToNat, Int.reducePow, IntKind.bits, convV, Int.reduceNeg, Int.reduceAdd, Int.reduceSub, Int.reduceLT, Int.reduceLE, extractV, Int.reduceEq, mkFuncV, stBStream, spBStream, beq_self_eq_true, tyB0Stream, h, Tryz.results56]
    exact hR
  · simp only [h, decide_false, Bool.false_and] at hR
    simp (disch := first | omega | ((simp only [nxBStream]) <;> omega) | decide) only [↓stepPre, stepPost, ↓W_cond, ↓W_block, ↓reduceIte, Nat.reduceEqDiff, Nat.reduceLT, Nat.reduceLeDiff, ret0, stVar, isTup, Value.cells, Nat.reduceAdd, Nat.reduceMul, Nat.reduceSub, env0, binV, intV, reduceCtorEq, pickV, nilCheckV, ptrV, unV, Rt, resultsV, allV, resV, calleeV, builtinV, eqV, fieldAddrV, ldVar, stN_own, stN_ownL, Int.reduceToNat, Int.reducePow, IntKind.bits, convV, Int.reduceNeg, Int.reduceAdd, Int.reduceSub, Int.reduceLT, Int.reduceLE, extractV, Int.reduceEq, mkFuncV, stBStream, spBStream, beq_self_eq_true, tyB0Stream, h, Tryz.results56]
    exact hR
/-- What is wrong with a stream. -/
def Sm.right (x : Sm) : Int :=
  if x.cl < 1 ∨ 3 < x.cl then 10 else if rt x.cl x.sl x.id x.nd = false then 1 else if x.pe < 1 ∨ 1073741824 < x.pe ∨ x.de < 1 ∨ x.pe < x.de then 1 else if x.by_ < 0 ∨ 8 < x.by_ then 2 else 0
theorem sright_p {x : Sm} (hR : R (.int .i64 x.right) s) : WC Tryz.prog base 58 [.agg x.c.toArray] s R := by
  refine WC_pureG rfl rfl (fun base s hB hn0 => ?_) hR
  refine WC_open Tryz.func58 rfl ?_
  by_cases h1 : x.cl < 1
  · have : x.right = 10 := by simp [Sm.right, h1]
    simp (disch := first | omega | ((simp only [nxBStream]) <;> omega) | decide) only [↓stepPre, stepPost, ↓W_cond, ↓W_block, ↓reduceIte, Nat.reduceEqDiff, Nat.reduceLT, Nat.reduceLeDiff, ret0, stVar, isTup, Value.cells, Nat.reduceAdd, Nat.reduceMul, Nat.reduceSub, env0, binV, intV, reduceCtorEq, pickV, nilCheckV, ptrV, unV, Rt, resultsV, allV, resV, calleeV, builtinV, eqV, fieldAddrV, ldVar, stN_own, stN_ownL, Int.reduceToNat, Int.reducePow, IntKind.bits, convV, Int.reduceNeg, Int.reduceAdd, Int.reduceSub, Int.reduceLT, Int.reduceLE, extractV, Int.reduceEq, mkFuncV, stBStream, spBStream, beq_self_eq_true, tyB0Stream, getL_take, glBStream, h1, this, Tryz.results58]
  by_cases h2 : 3 < x.cl
  · have : x.right = 10 := by simp [Sm.right, h2]
    have h2' : x.cl > 3 := h2
    simp (disch := first | omega | ((simp only [nxBStream]) <;> omega) | decide) only [↓stepPre, stepPost, ↓W_cond, ↓W_block, ↓reduceIte, Nat.reduceEqDiff, Nat.reduceLT, Nat.reduceLeDiff, ret0, stVar, isTup, Value.cells, Nat.reduceAdd, Nat.reduceMul, Nat.reduceSub, env0, binV, intV, reduceCtorEq, pickV, nilCheckV, ptrV, unV, Rt, resultsV, allV, resV, calleeV, builtinV, eqV, fieldAddrV, ldVar, stN_own, stN_ownL, Int.reduceToNat, Int.reducePow, IntKind.bits, convV, Int.reduceNeg, Int.reduceAdd, Int.reduceSub, Int.reduceLT, Int.reduceLE, extractV, Int.reduceEq, mkFuncV, stBStream, spBStream, beq_self_eq_true, tyB0Stream, getL_take, glBStream, h1, h2, h2', this, Tryz.results58]
  have h2' : ¬ x.cl > 3 := h2
  simp (disch := first | omega | ((simp only [nxBStream]) <;> omega) | decide) only [↓stepPre, stepPost, ↓W_cond, ↓W_block, ↓reduceIte, Nat.reduceEqDiff, Nat.reduceLT, Nat.reduceLeDiff, ret0, stVar, isTup, Value.cells, Nat.reduceAdd, Nat.reduceMul, Nat.reduceSub, env0, binV, intV, reduceCtorEq, pickV, nilCheckV, ptrV, unV, Rt, resultsV, allV, resV, calleeV, builtinV, eqV, fieldAddrV, ldVar, stN_own, stN_ownL, Int.reduceToNat, Int.reducePow, IntKind.bits, convV, Int.reduceNeg, Int.reduceAdd, Int.reduceSub, Int.reduceLT, Int.reduceLE, extractV, Int.reduceEq, mkFuncV, stBStream, spBStream, beq_self_eq_true, tyB0Stream, getL_take, glBStream, h1, h2, h2']
  refine label_p ?_
  simp (disch := first | omega | ((simp only [nxBStream]) <;> omega) | decide) only [↓stepPre, stepPost, ↓W_cond, ↓W_block, ↓reduceIte, Nat.reduceEqDiff, Nat.reduceLT, Nat.reduceLeDiff, ret0, stVar, isTup, Value.cells, Nat.reduceAdd, Nat.reduceMul, Nat.reduceSub, env0, binV, intV, reduceCtorEq, pickV, nilCheckV, ptrV, unV, Rt, resultsV, allV, resV, calleeV, builtinV, eqV, fieldAddrV, ldVar, stN_own, stN_ownL, Int.reduceToNat, Int.reducePow, IntKind.bits, convV, Int.reduceNeg, Int.reduceAdd, Int.reduceSub, Int.reduceLT, Int.reduceLE, extractV, Int.reduceEq, mkFuncV, stBStream, spBStream, beq_self_eq_true, tyB0Stream, getL_take, glBStream]
  refine right_p ?_
  cases h3 : rt x.cl x.sl x.id x.nd
  · have : x.right = 1 := by simp [Sm.right, h1, h2, h3]
    simp (disch := first | omega | ((simp only [nxBStream]) <;> omega) | decide) only [↓stepPre, stepPost, ↓W_cond, ↓W_block, ↓reduceIte, Nat.reduceEqDiff, Nat.reduceLT, Nat.reduceLeDiff, ret0, stVar, isTup, Value.cells, Nat.reduceAdd, Nat.reduceMul, Nat.reduceSub, env0, binV, intV, reduceCtorEq, pickV, nilCheckV, ptrV, unV, Rt, resultsV, allV, resV, calleeV, builtinV, eqV, fieldAddrV, ldVar, stN_own, stN_ownL, Int.reduceToNat, Int.reducePow, IntKind.bits, convV, Int.reduceNeg, Int.reduceAdd, Int.reduceSub, Int.reduceLT, Int.reduceLE, extractV, Int.reduceEq, mkFuncV, stBStream, spBStream, beq_self_eq_true, tyB0Stream, getL_take, glBStream, this, Tryz.results58]
  simp (disch := first | omega | ((simp only [nxBStream]) <;> omega) | decide) only [↓stepPre, stepPost, ↓W_cond, ↓W_block, ↓reduceIte, Nat.reduceEqDiff, Nat.reduceLT, Nat.reduceLeDiff, ret0, stVar, isTup, Value.cells, Nat.reduceAdd, Nat.reduceMul, Nat.reduceSub, env0, binV, intV, reduceCtorEq, pickV, nilCheckV, ptrV, unV, Rt, resultsV, allV, resV, calleeV, builtinV, eqV, fieldAddrV, ldVar, stN_own, stN_ownL, Int.reduceToNat, Int.reducePow, IntKind.bits, convV, Int.reduceNeg, Int.reduceAdd, Int.reduceSub, Int.reduceLT, Int.reduceLE, extractV, Int.reduceEq, mkFuncV, stBStream, spBStream, beq_self_eq_true, tyB0Stream, getL_take, glBStream]
  refine within_p ?_
  by_cases h4 : 1 ≤ x.pe ∧ x.pe ≤ 1073741824
  rotate_left
  · have h5 : (decide (1 ≤ x.pe) && decide (x.pe ≤ 1073741824)) = false := by simp only [Bool.and_eq_false_iff, decide_eq_false_iff_not]; omega
    have : x.right = 1 := by
      have : x.pe < 1 ∨ 1073741824 < x.pe ∨ x.de < 1 ∨ x.pe < x.de := by omega
      simp [Sm.right, h1, h2, h3, this]
    simp (disch := first | omega | ((simp only [nxBStream]) <;> omega) | decide) only [↓stepPre, stepPost, ↓W_cond, ↓W_block, ↓reduceIte, Nat.reduceEqDiff, Nat.reduceLT, Nat.reduceLeDiff, ret0, stVar, isTup, Value.cells, Nat.reduceAdd, Nat.reduceMul, Nat.reduceSub, env0, binV, intV, reduceCtorEq, pickV, nilCheckV, ptrV, unV, Rt, resultsV, allV, resV, calleeV, builtinV, eqV, fieldAddrV, ldVar, stN_own, stN_ownL, Int.reduceToNat, Int.reducePow, IntKind.bits, convV, Int.reduceNeg, Int.reduceAdd, Int.reduceSub, Int.reduceLT, Int.reduceLE, extractV, Int.reduceEq, mkFuncV, stBStream, spBStream, beq_self_eq_true, tyB0Stream, getL_take, glBStream, h5, this, Tryz.results58]
  have h5 : (decide (1 ≤ x.pe) && decide (x.pe ≤ 1073741824)) = true := by simp only [Bool.and_eq_true, decide_eq_true_eq]; omega
  simp (disch := first | omega | ((simp only [nxBStream]) <;> omega) | decide) only [↓stepPre, stepPost, ↓W_cond, ↓W_block, ↓reduceIte, Nat.reduceEqDiff, Nat.reduceLT, Nat.reduceLeDiff, ret0, stVar, isTup, Value.cells, Nat.reduceAdd, Nat.reduceMul, Nat.reduceSub, env0, binV, intV, reduceCtorEq, pickV, nilCheckV, ptrV, unV, Rt, resultsV, allV, resV, calleeV, builtinV, eqV, fieldAddrV, ldVar, stN_own, stN_ownL, Int.reduceToNat, Int.reducePow, IntKind.bits, convV, Int.reduceNeg, Int.reduceAdd, Int.reduceSub, Int.reduceLT, Int.reduceLE, extractV, Int.reduceEq, mkFuncV, stBStream, spBStream, beq_self_eq_true, tyB0Stream, getL_take, glBStream, h5]
  refine within_p ?_
  by_cases h6 : 1 ≤ x.de ∧ x.de ≤ x.pe
  rotate_left
  · have h7 : (decide (1 ≤ x.de) && decide (x.de ≤ x.pe)) = false := by simp only [Bool.and_eq_false_iff, decide_eq_false_iff_not]; omega
    have : x.right = 1 := by
      have : x.pe < 1 ∨ 1073741824 < x.pe ∨ x.de < 1 ∨ x.pe < x.de := by omega
      simp [Sm.right, h1, h2, h3, this]
    simp (disch := first | omega | ((simp only [nxBStream]) <;> omega) | decide) only [↓stepPre, stepPost, ↓W_cond, ↓W_block, ↓reduceIte, Nat.reduceEqDiff, Nat.reduceLT, Nat.reduceLeDiff, ret0, stVar, isTup, Value.cells, Nat.reduceAdd, Nat.reduceMul, Nat.reduceSub, env0, binV, intV, reduceCtorEq, pickV, nilCheckV, ptrV, unV, Rt, resultsV, allV, resV, calleeV, builtinV, eqV, fieldAddrV, ldVar, stN_own, stN_ownL, Int.reduceToNat, Int.reducePow, IntKind.bits, convV, Int.reduceNeg, Int.reduceAdd, Int.reduceSub, Int.reduceLT, Int.reduceLE, extractV, Int.reduceEq, mkFuncV, stBStream, spBStream, beq_self_eq_true, tyB0Stream, getL_take, glBStream, h7, this, Tryz.results58]
  have h7 : (decide (1 ≤ x.de) && decide (x.de ≤ x.pe)) = true := by simp only [Bool.and_eq_true, decide_eq_true_eq]; omega
  have h8 : ¬ (x.pe < 1 ∨ 1073741824 < x.pe ∨ x.de < 1 ∨ x.pe < x.de) := by omega
  by_cases h9 : x.by_ < 0
  · have : x.right = 2 := by simp only [Sm.right, h1, h2, h3, h8, h9, true_or, or_self, if_true, if_false, Bool.true_eq_false]
    simp (disch := first | omega | ((simp only [nxBStream]) <;> omega) | decide) only [↓stepPre, stepPost, ↓W_cond, ↓W_block, ↓reduceIte, Nat.reduceEqDiff, Nat.reduceLT, Nat.reduceLeDiff, ret0, stVar, isTup, Value.cells, Nat.reduceAdd, Nat.reduceMul, Nat.reduceSub, env0, binV, intV, reduceCtorEq, pickV, nilCheckV, ptrV, unV, Rt, resultsV, allV, resV, calleeV, builtinV, eqV, fieldAddrV, ldVar, stN_own, stN_ownL, Int.reduceToNat, Int.reducePow, IntKind.bits, convV, Int.reduceNeg, Int.reduceAdd, Int.reduceSub, Int.reduceLT, Int.reduceLE, extractV, Int.reduceEq, mkFuncV, stBStream, spBStream, beq_self_eq_true, tyB0Stream, getL_take, glBStream, h7, h9, this, Tryz.results58]
  by_cases h10 : 8 < x.by_
  · have : x.right = 2 := by simp only [Sm.right, h1, h2, h3, h8, h9, h10, or_true, or_self, if_true, if_false, Bool.true_eq_false]
    have h10' : x.by_ > 8 := h10
    simp (disch := first | omega | ((simp only [nxBStream]) <;> omega) | decide) only [↓stepPre, stepPost, ↓W_cond, ↓W_block, ↓reduceIte, Nat.reduceEqDiff, Nat.reduceLT, Nat.reduceLeDiff, ret0, stVar, isTup, Value.cells, Nat.reduceAdd, Nat.reduceMul, Nat.reduceSub, env0, binV, intV, reduceCtorEq, pickV, nilCheckV, ptrV, unV, Rt, resultsV, allV, resV, calleeV, builtinV, eqV, fieldAddrV, ldVar, stN_own, stN_ownL, Int.reduceToNat, Int.reducePow, IntKind.bits, convV, Int.reduceNeg, Int.reduceAdd, Int.reduceSub, Int.reduceLT, Int.reduceLE, extractV, Int.reduceEq, mkFuncV, stBStream, spBStream, beq_self_eq_true, tyB0Stream, getL_take, glBStream, h7, h9, h10, h10', this, Tryz.results58]
  have h10' : ¬ x.by_ > 8 := h10
  have : x.right = 0 := by simp only [Sm.right, h1, h2, h3, h8, h9, h10, or_self, if_true, if_false, Bool.true_eq_false]
  simp (disch := first | omega | ((simp only [nxBStream]) <;> omega) | decide) only [↓stepPre, stepPost, ↓W_cond, ↓W_block, ↓reduceIte, Nat.reduceEqDiff, Nat.reduceLT, Nat.reduceLeDiff, ret0, stVar, isTup, Value.cells, Nat.reduceAdd, Nat.reduceMul, Nat.reduceSub, env0, binV, intV, reduceCtorEq, pickV, nilCheckV, ptrV, unV, Rt, resultsV, allV, resV, calleeV, builtinV, eqV, fieldAddrV, ldVar, stN_own, stN_ownL, Int.reduceToNat, Int.reducePow, IntKind.bits, convV, Int.reduceNeg, Int.reduceAdd, Int.reduceSub, Int.reduceLT, Int.reduceLE, extractV, Int.reduceEq, mkFuncV, stBStream, spBStream, beq_self_eq_true, tyB0Stream, getL_take, glBStream, h7, h9, h10, h10', this, Tryz.results58]
theorem rsright_p {x : Sm} (hR : R (.int .i64 x.right) s) : WC Tryz.prog base 69 [.agg x.c.toArray] s R := by
  refine WC_pureG rfl rfl (fun base s hB hn0 => ?_) hR
  refine WC_open Tryz.func69 rfl ?_
  by_cases h1 : x.cl < 1
  · have : x.right = 10 := by simp [Sm.right, h1]
    simp (disch := first | omega | ((simp only [nxBStream]) <;> omega) | decide) only [↓stepPre, stepPost, ↓W_cond, ↓W_block, ↓reduceIte, Nat.reduceEqDiff, Nat.reduceLT, Nat.reduceLeDiff, ret0, stVar, isTup, Value.cells, Nat.reduceAdd, Nat.reduceMul, Nat.reduceSub, env0, binV, intV, reduceCtorEq, pickV, nilCheckV, ptrV, unV, Rt, resultsV, allV, resV, calleeV, builtinV, eqV, fieldAddrV, ldVar, stN_own, stN_ownL, Int.reduceToNat, Int.reducePow, IntKind.bits, convV, Int.reduceNeg, Int.reduceAdd, Int.reduceSub, Int.reduceLT, Int.reduceLE, extractV, Int.reduceEq, mkFuncV, stBStream, spBStream, beq_self_eq_true, tyB0Stream, getL_take, glBStream, h1, this, Tryz.results69]
  by_cases h2 : 3 < x.cl
  · have : x.right = 10 := by simp [Sm.right, h2]
    simp (disch := first | omega | ((simp only [nxBStream]) <;> omega) | decide) only [↓stepPre, stepPost, ↓W_cond, ↓W_block, ↓reduceIte, Nat.reduceEqDiff, Nat.reduceLT, Nat.reduceLeDiff, ret0, stVar, isTup, Value.cells, Nat.reduceAdd, Nat.reduceMul, Nat.reduceSub, env0, binV, intV, reduceCtorEq, pickV, nilCheckV, ptrV, unV, Rt, resultsV, allV, resV, calleeV, builtinV, eqV, fieldAddrV, ldVar, stN_own, stN_ownL, Int.reduceToNat, Int.reducePow, IntKind.bits, convV, Int.reduceNeg, Int.reduceAdd, Int.reduceSub, Int.reduceLT, Int.reduceLE, extractV, Int.reduceEq, mkFuncV, stBStream, spBStream, beq_self_eq_true, tyB0Stream, getL_take, glBStream, h1, h2, this, Tryz.results69]
  simp (disch := first | omega | ((simp only [nxBStream]) <;> omega) | decide) only [↓stepPre, stepPost, ↓W_cond, ↓W_block, ↓reduceIte, Nat.reduceEqDiff, Nat.reduceLT, Nat.reduceLeDiff, ret0, stVar, isTup, Value.cells, Nat.reduceAdd, Nat.reduceMul, Nat.reduceSub, env0, binV, intV, reduceCtorEq, pickV, nilCheckV, ptrV, unV, Rt, resultsV, allV, resV, calleeV, builtinV, eqV, fieldAddrV, ldVar, stN_own, stN_ownL, Int.reduceToNat, Int.reducePow, IntKind.bits, convV, Int.reduceNeg, Int.reduceAdd, Int.reduceSub, Int.reduceLT, Int.reduceLE, extractV, Int.reduceEq, mkFuncV, stBStream, spBStream, beq_self_eq_true, tyB0Stream, getL_take, glBStream, h1, h2]
  refine rlabel_p ?_
  simp (disch := first | omega | ((simp only [nxBStream]) <;> omega) | decide) only [↓stepPre, stepPost, ↓W_cond, ↓W_block, ↓reduceIte, Nat.reduceEqDiff, Nat.reduceLT, Nat.reduceLeDiff, ret0, stVar, isTup, Value.cells, Nat.reduceAdd, Nat.reduceMul, Nat.reduceSub, env0, binV, intV, reduceCtorEq, pickV, nilCheckV, ptrV, unV, Rt, resultsV, allV, resV, calleeV, builtinV, eqV, fieldAddrV, ldVar, stN_own, stN_ownL, Int.reduceToNat, Int.reducePow, IntKind.bits, convV, Int.reduceNeg, Int.reduceAdd, Int.reduceSub, Int.reduceLT, Int.reduceLE, extractV, Int.reduceEq, mkFuncV, stBStream, spBStream, beq_self_eq_true, tyB0Stream, getL_take, glBStream]
  refine rright_p ?_
  cases h3 : rt x.cl x.sl x.id x.nd
  · have : x.right = 1 := by simp [Sm.right, h1, h2, h3]
    simp (disch := first | omega | ((simp only [nxBStream]) <;> omega) | decide) only [↓stepPre, stepPost, ↓W_cond, ↓W_block, ↓reduceIte, Nat.reduceEqDiff, Nat.reduceLT, Nat.reduceLeDiff, ret0, stVar, isTup, Value.cells, Nat.reduceAdd, Nat.reduceMul, Nat.reduceSub, env0, binV, intV, reduceCtorEq, pickV, nilCheckV, ptrV, unV, Rt, resultsV, allV, resV, calleeV, builtinV, eqV, fieldAddrV, ldVar, stN_own, stN_ownL, Int.reduceToNat, Int.reducePow, IntKind.bits, convV, Int.reduceNeg, Int.reduceAdd, Int.reduceSub, Int.reduceLT, Int.reduceLE, extractV, Int.reduceEq, mkFuncV, stBStream, spBStream, beq_self_eq_true, tyB0Stream, getL_take, glBStream, this, Tryz.results69]
  by_cases h4 : x.pe < 1
  · have : x.right = 1 := by simp [Sm.right, h1, h2, h3, h4]
    simp (disch := first | omega | ((simp only [nxBStream]) <;> omega) | decide) only [↓stepPre, stepPost, ↓W_cond, ↓W_block, ↓reduceIte, Nat.reduceEqDiff, Nat.reduceLT, Nat.reduceLeDiff, ret0, stVar, isTup, Value.cells, Nat.reduceAdd, Nat.reduceMul, Nat.reduceSub, env0, binV, intV, reduceCtorEq, pickV, nilCheckV, ptrV, unV, Rt, resultsV, allV, resV, calleeV, builtinV, eqV, fieldAddrV, ldVar, stN_own, stN_ownL, Int.reduceToNat, Int.reducePow, IntKind.bits, convV, Int.reduceNeg, Int.reduceAdd, Int.reduceSub, Int.reduceLT, Int.reduceLE, extractV, Int.reduceEq, mkFuncV, stBStream, spBStream, beq_self_eq_true, tyB0Stream, getL_take, glBStream, h4, this, Tryz.results69]
  by_cases h5 : 1073741824 < x.pe
  · have : x.right = 1 := by simp [Sm.right, h1, h2, h3, h5]
    simp (disch := first | omega | ((simp only [nxBStream]) <;> omega) | decide) only [↓stepPre, stepPost, ↓W_cond, ↓W_block, ↓reduceIte, Nat.reduceEqDiff, Nat.reduceLT, Nat.reduceLeDiff, ret0, stVar, isTup, Value.cells, Nat.reduceAdd, Nat.reduceMul, Nat.reduceSub, env0, binV, intV, reduceCtorEq, pickV, nilCheckV, ptrV, unV, Rt, resultsV, allV, resV, calleeV, builtinV, eqV, fieldAddrV, ldVar, stN_own, stN_ownL, Int.reduceToNat, Int.reducePow, IntKind.bits, convV, Int.reduceNeg, Int.reduceAdd, Int.reduceSub, Int.reduceLT, Int.reduceLE, extractV, Int.reduceEq, mkFuncV, stBStream, spBStream, beq_self_eq_true, tyB0Stream, getL_take, glBStream, h4, h5, this, Tryz.results69]
  by_cases h6 : x.de < 1
  · have : x.right = 1 := by simp [Sm.right, h1, h2, h3, h6]
    simp (disch := first | omega | ((simp only [nxBStream]) <;> omega) | decide) only [↓stepPre, stepPost, ↓W_cond, ↓W_block, ↓reduceIte, Nat.reduceEqDiff, Nat.reduceLT, Nat.reduceLeDiff, ret0, stVar, isTup, Value.cells, Nat.reduceAdd, Nat.reduceMul, Nat.reduceSub, env0, binV, intV, reduceCtorEq, pickV, nilCheckV, ptrV, unV, Rt, resultsV, allV, resV, calleeV, builtinV, eqV, fieldAddrV, ldVar, stN_own, stN_ownL, Int.reduceToNat, Int.reducePow, IntKind.bits, convV, Int.reduceNeg, Int.reduceAdd, Int.reduceSub, Int.reduceLT, Int.reduceLE, extractV, Int.reduceEq, mkFuncV, stBStream, spBStream, beq_self_eq_true, tyB0Stream, getL_take, glBStream, h4, h5, h6, this, Tryz.results69]
  by_cases h7 : x.pe < x.de
  · have : x.right = 1 := by simp [Sm.right, h1, h2, h3, h7]
    simp (disch := first | omega | ((simp only [nxBStream]) <;> omega) | decide) only [↓stepPre, stepPost, ↓W_cond, ↓W_block, ↓reduceIte, Nat.reduceEqDiff, Nat.reduceLT, Nat.reduceLeDiff, ret0, stVar, isTup, Value.cells, Nat.reduceAdd, Nat.reduceMul, Nat.reduceSub, env0, binV, intV, reduceCtorEq, pickV, nilCheckV, ptrV, unV, Rt, resultsV, allV, resV, calleeV, builtinV, eqV, fieldAddrV, ldVar, stN_own, stN_ownL, Int.reduceToNat, Int.reducePow, IntKind.bits, convV, Int.reduceNeg, Int.reduceAdd, Int.reduceSub, Int.reduceLT, Int.reduceLE, extractV, Int.reduceEq, mkFuncV, stBStream, spBStream, beq_self_eq_true, tyB0Stream, getL_take, glBStream, h4, h5, h6, h7, this, Tryz.results69]
  have h8 : ¬ (x.pe < 1 ∨ 1073741824 < x.pe ∨ x.de < 1 ∨ x.pe < x.de) := by omega
  by_cases h9 : x.by_ < 0
  · have : x.right = 2 := by simp only [Sm.right, h1, h2, h3, h8, h9, true_or, or_self, if_true, if_false, Bool.true_eq_false]
    simp (disch := first | omega | ((simp only [nxBStream]) <;> omega) | decide) only [↓stepPre, stepPost, ↓W_cond, ↓W_block, ↓reduceIte, Nat.reduceEqDiff, Nat.reduceLT, Nat.reduceLeDiff, ret0, stVar, isTup, Value.cells, Nat.reduceAdd, Nat.reduceMul, Nat.reduceSub, env0, binV, intV, reduceCtorEq, pickV, nilCheckV, ptrV, unV, Rt, resultsV, allV, resV, calleeV, builtinV, eqV, fieldAddrV, ldVar, stN_own, stN_ownL, Int.reduceToNat, Int.reducePow, IntKind.bits, convV, Int.reduceNeg, Int.reduceAdd, Int.reduceSub, Int.reduceLT, Int.reduceLE, extractV, Int.reduceEq, mkFuncV, stBStream, spBStream, beq_self_eq_true, tyB0Stream, getL_take, glBStream, h4, h5, h6, h7, h9, this, Tryz.results69]
  by_cases h10 : 8 < x.by_
  · have : x.right = 2 := by simp only [Sm.right, h1, h2, h3, h8, h9, h10, or_true, or_self, if_true, if_false, Bool.true_eq_false]
    simp (disch := first | omega | ((simp only [nxBStream]) <;> omega) | decide) only [↓stepPre, stepPost, ↓W_cond, ↓W_block, ↓reduceIte, Nat.reduceEqDiff, Nat.reduceLT, Nat.reduceLeDiff, ret0, stVar, isTup, Value.cells, Nat.reduceAdd, Nat.reduceMul, Nat.reduceSub, env0, binV, intV, reduceCtorEq, pickV, nilCheckV, ptrV, unV, Rt, resultsV, allV, resV, calleeV, builtinV, eqV, fieldAddrV, ldVar, stN_own, stN_ownL, Int.reduceToNat, Int.reducePow, IntKind.bits, convV, Int.reduceNeg, Int.reduceAdd, Int.reduceSub, Int.reduceLT, Int.reduceLE, extractV, Int.reduceEq, mkFuncV, stBStream, spBStream, beq_self_eq_true, tyB0Stream, getL_take, glBStream, h4, h5, h6, h7, h9, h10, this, Tryz.results69]
  have : x.right = 0 := by simp only [Sm.right, h1, h2, h3, h8, h9, h10, or_self, if_true, if_false, Bool.true_eq_false]
  simp (disch := first | omega | ((simp only [nxBStream]) <;> omega) | decide) only [↓stepPre, stepPost, ↓W_cond, ↓W_block, ↓reduceIte, Nat.reduceEqDiff, Nat.reduceLT, Nat.reduceLeDiff, ret0, stVar, isTup, Value.cells, Nat.reduceAdd, Nat.reduceMul, Nat.reduceSub, env0, binV, intV, reduceCtorEq, pickV, nilCheckV, ptrV, unV, Rt, resultsV, allV, resV, calleeV, builtinV, eqV, fieldAddrV, ldVar, stN_own, stN_ownL, Int.reduceToNat, Int.reducePow, IntKind.bits, convV, Int.reduceNeg, Int.reduceAdd, Int.reduceSub, Int.reduceLT, Int.reduceLE, extractV, Int.reduceEq, mkFuncV, stBStream, spBStream, beq_self_eq_true, tyB0Stream, getL_take, glBStream, h4, h5, h6, h7, h9, h10, this, Tryz.results69]
end Go.Proofs.YthjpfllmecpliaaGreatDoor
/- Slots of deadlines, and streams' labels, as contracts. -/
set_option linter.all false
set_option maxRecDepth 20000
namespace Go.Proofs.YthjpfllmecpliaaGreatDoor
open Go Go.Ab
def tyB0StreamLabel := And.intro @Ty.t58 (And.intro @Tryz.underlying58 (And.intro @Ty.t132 (And.intro @Tryz.underlying132 (And.intro @Ty.t56 (And.intro @Tryz.underlying56 (And.intro @Ty.t3 (And.intro @Tryz.underlying3 (And.intro @Ty.t2 (And.intro @Tryz.underlying2 (And.intro @Ty.t48 (And.intro @Tryz.underlying48 (And.intro @Ty.t4 (And.intro @Tryz.underlying4 (And.intro @Ty.t35 @Tryz.underlying35))))))))))))))
variable {base : Nat} [Bok base] {s : St} {R : Value → St → Prop}
theorem clamp_p {a lo hi : Int} (hR : R (.int .i64 (if a < lo then lo else if hi < a then hi else a)) s) : WC Tryz.prog base 79 [.int .i64 a, .int .i64 lo, .int .i64 hi] s R := by
  refine WC_open Tryz.func79 rfl ?_
  by_cases h : a < lo
  · simp only [h, if_true] at hR
    simp (disch := first | omega | ((simp only [Ab.next_alloc, Ab.next_upd, List.length_cons, List.length_nil, ne_eq, not_true_eq_false, not_false_eq_true]) <;> omega) | decide) only [↓stepPre, stepPost, ↓W_cond, ↓W_block, ↓reduceIte, Nat.reduceEqDiff, Nat.reduceLT, Nat.reduceLeDiff, List.size_toArray, List.length_cons, List.length_nil, ret0, stVar, isTup, Value.cells, List.set_cons_zero, List.set_cons_succ, Nat.le_refl, Nat.reduceAdd, Nat.reduceMul, Nat.reduceSub, env0, List.getD_cons_zero, List.getD_cons_succ, binV, intV, reduceCtorEq, List.getElem?_cons_succ, List.getElem?_cons_zero, pickV, nilCheckV, ptrV, unV, true_and, and_true, List.map_cons, List.map_nil, Nat.add_zero, Nat.zero_add, Option.isNone_none, Option.isNone_some, Rt, resultsV, allV, resV, Bool.not_true, Bool.not_false, calleeV, builtinV, Option.map_some, Option.map_none, List.cons_append, List.nil_append, List.append_nil, Array.toList_append, List.toList_toArray, eqV, fieldAddrV, ldVar, stN_own, stN_ownL, Int.cast_ofNat_Int, Int.fdiv_eq_ediv_of_nonneg, Int.reduceToNat, Nat.min_eq_left, Int.reducePow, IntKind.bits, convV, ne_eq, not_false_eq_true, not_true_eq_false, Int.reduceNeg, Int.reduceAdd, Int.reduceSub, Int.reduceLT, Int.reduceLE, Option.isSome_some, extractV, decide_true, decide_false, Int.reduceEq, List.getElem?_toArray, mkFuncV, List.map_toArray, beq_self_eq_true, tyB0StreamLabel, h, Tryz.results79]
    exact hR
  · simp only [h, if_false] at hR
    simp (disch := first | omega | ((simp only [Ab.next_alloc, Ab.next_upd, List.length_cons, List.length_nil, ne_eq, not_true_eq_false, not_false_eq_true]) <;> omega) | decide) only [↓stepPre, stepPost, ↓W_cond, ↓W_block, ↓reduceIte, Nat.reduceEqDiff, Nat.reduceLT, Nat.reduceLeDiff, List.size_toArray, List.length_cons, List.length_nil, ret0, stVar, isTup, Value.cells, List.set_cons_zero, List.set_cons_succ, Nat.le_refl, Nat.reduceAdd, Nat.reduceMul, Nat.reduceSub, env0, List.getD_cons_zero, List.getD_cons_succ, binV, intV, reduceCtorEq, List.getElem?_cons_succ, List.getElem?_cons_zero, pickV, nilCheckV, ptrV, unV, true_and, and_true, List.map_cons, List.map_nil, Nat.add_zero, Nat.zero_add, Option.isNone_none, Option.isNone_some, Rt, resultsV, allV, resV, Bool.not_true, Bool.not_false, calleeV, builtinV, Option.map_some, Option.map_none, List.cons_append, List.nil_append, List.append_nil, Array.toList_append, List.toList_toArray, eqV, fieldAddrV, ldVar, stN_own, stN_ownL, Int.cast_ofNat_Int, Int.fdiv_eq_ediv_of_nonneg, Int.reduceToNat, Nat.min_eq_left, Int.reducePow, IntKind.bits, convV, ne_eq, not_false_eq_true, not_true_eq_false, Int.reduceNeg, Int.reduceAdd, Int.reduceSub, Int.reduceLT, Int.reduceLE, Option.isSome_some, extractV, decide_true, decide_false, Int.reduceEq, List.getElem?_toArray, mkFuncV, List.map_toArray, beq_self_eq_true, tyB0StreamLabel, h, minB, foldV, minV, Tryz.results79]
    exact hR
end Go.Proofs.YthjpfllmecpliaaGreatDoor
