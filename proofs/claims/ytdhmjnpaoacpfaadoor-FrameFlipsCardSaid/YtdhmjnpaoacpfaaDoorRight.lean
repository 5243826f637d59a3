import Derived.Test.YtdhmjnpaoacpfaaDoorTypes
import Derived.Test.YtdhmjnpaoacpfaaDoorRow0
import Derived.Test.YtdhmjnpaoacpfaaDoorAbC
import Derived.Test.YtdhmjnpaoacpfaaDoorBits
import Derived.Test.YtdhmjnpaoacpfaaDoorOwnOf
import Derived.Test.YtdhmjnpaoacpfaaDoorPure
/- Frames that can be (frame.Right, bellbuoyref06.Right), and identifiers that can be, as contracts. -/
set_option linter.all false
set_option maxRecDepth 20000
namespace Go.Proofs.YtdhmjnpaoacpfaaDoor
open Go Go.Ab
variable {base : Nat} [Bok base] {s : St} {R : Value → St → Prop}
def idOk (e : Bool) (n : Nat) : Bool := decide (n < if e then 536870912 else 2048)
abbrev idV (e : Bool) (n : Nat) : Value := .agg #[.bool e, .int .u32 (n : Int)]
theorem r05right_p {e : Bool} {n : Nat} (hR : R (.bool (idOk e n)) s) : WC Tryd.prog base 34 [idV e n] s R := by
  refine WC_pureG rfl rfl (fun base s hB hn0 => ?_) hR
  refine WC_open Tryd.func34 rfl ?_
  cases e
  · simp (disch := first | omega | ((simp only [Ab.next_alloc, Ab.next_upd, List.length_cons, List.length_nil, ne_eq, not_true_eq_false, not_false_eq_true]) <;> omega) | decide) only [↓stepPre, stepPost, ↓W_cond, ↓W_block, ↓reduceIte, Nat.reduceEqDiff, Nat.reduceLT, Nat.reduceLeDiff, List.size_toArray, List.length_cons, List.length_nil, ret0, stVar, isTup, Value.cells, List.set_cons_zero, List.set_cons_succ, Nat.le_refl, Nat.reduceAdd, Nat.reduceMul, Nat.reduceSub, env0, List.getD_cons_zero, List.getD_cons_succ, binV, intV, reduceCtorEq, List.getElem?_cons_succ, List.getElem?_cons_zero, pickV, nilCheckV, ptrV, unV, true_and, and_true, List.map_cons, List.map_nil, Nat.add_zero, Nat.zero_add, Option.isNone_none, Option.isNone_some, Rt, resultsV, allV, resV, Bool.not_true, Bool.not_false, calleeV, builtinV, Option.map_some, Option.map_none, List.cons_append, List.nil_append, List.append_nil, Array.toList_append, List.toList_toArray, eqV, fieldAddrV, ldVar, stN_own, stN_ownL, Int.cast_ofNat_Int, Int.fdiv_eq_ediv_of_nonneg, Int.reduceToNat, Nat.min_eq_left, Int.reducePow, IntKind.bits, convV, ne_eq, not_false_eq_true, not_true_eq_false, Int.reduceNeg, Int.reduceAdd, Int.reduceSub, Int.reduceLT, Int.reduceLE, Option.isSome_some, extractV, decide_true, decide_false, Int.reduceEq, List.getElem?_toArray, mkFuncV, List.map_toArray, beq_self_eq_true, Ty.t27, Tryd.underlying27, Ty.t24, Tryd.underlying24, Ty.t3, Tryd.underlying3, Ty.t4, Tryd.underlying4, Ty.t22, Tryd.underlying22, Ty.t5, Tryd.underlying5, Ty.t25, Tryd.underlying25, Ty.t34, Tryd.underlying34, Ty.t60, Tryd.underlying60, Ty.t31, Tryd.underlying31, getL_take, List.drop_zero, List.drop_succ_cons, List.take_succ_cons, List.take_zero, List.take_nil, hn0, Tryd.results34]
    simp only [idOk, Bool.false_eq_true, if_false, Value.bool.injEq, decide_eq_decide]; omega
  · simp (disch := first | omega | ((simp only [Ab.next_alloc, Ab.next_upd, List.length_cons, List.length_nil, ne_eq, not_true_eq_false, not_false_eq_true]) <;> omega) | decide) only [↓stepPre, stepPost, ↓W_cond, ↓W_block, ↓reduceIte, Nat.reduceEqDiff, Nat.reduceLT, Nat.reduceLeDiff, List.size_toArray, List.length_cons, List.length_nil, ret0, stVar, isTup, Value.cells, List.set_cons_zero, List.set_cons_succ, Nat.le_refl, Nat.reduceAdd, Nat.reduceMul, Nat.reduceSub, env0, List.getD_cons_zero, List.getD_cons_succ, binV, intV, reduceCtorEq, List.getElem?_cons_succ, List.getElem?_cons_zero, pickV, nilCheckV, ptrV, unV, true_and, and_true, List.map_cons, List.map_nil, Nat.add_zero, Nat.zero_add, Option.isNone_none, Option.isNone_some, Rt, resultsV, allV, resV, Bool.not_true, Bool.not_false, calleeV, builtinV, Option.map_some, Option.map_none, List.cons_append, List.nil_append, List.append_nil, Array.toList_append, List.toList_toArray, eqV, fieldAddrV, ldVar, stN_own, stN_ownL, Int.cast_ofNat_Int, Int.fdiv_eq_ediv_of_nonneg, Int.reduceToNat, Nat.min_eq_left, Int.reducePow, IntKind.bits, convV, ne_eq, not_false_eq_true, not_true_eq_false, Int.reduceNeg, Int.reduceAdd, Int.reduceSub, Int.reduceLT, Int.reduceLE, Option.isSome_some, extractV, decide_true, decide_false, Int.reduceEq, List.getElem?_toArray, mkFuncV, List.map_toArray, beq_self_eq_true, Ty.t27, Tryd.underlying27, Ty.t24, Tryd.underlying24, Ty.t3, Tryd.underlying3, Ty.t4, Tryd.underlying4, Ty.t22, Tryd.underlying22, Ty.t5, Tryd.underlying5, Ty.t25, Tryd.underlying25, Ty.t34, Tryd.underlying34, Ty.t60, Tryd.underlying60, Ty.t31, Tryd.underlying31, getL_take, List.drop_zero, List.drop_succ_cons, List.take_succ_cons, List.take_zero, List.take_nil, hn0, Tryd.results34]
    simp only [idOk, if_true, Value.bool.injEq, decide_eq_decide]; omega
/-! ### Which byte is the first of which something holds -/
/-! ### Frames -/
abbrev frC (e : Bool) (n : Nat) (r : Bool) (l : Int) (ds : List Nat) : List Value := .bool e :: .int .u32 (n : Int) :: .bool r :: .int .i64 l :: bC ds
abbrev frV (e : Bool) (n : Nat) (r : Bool) (l : Int) (ds : List Nat) : Value := .agg (frC e n r l ds).toArray
theorem frC_at {e : Bool} {n : Nat} {r : Bool} {l : Int} {ds : List Nat} {i : Nat} (h : i < ds.length) : (frC e n r l ds)[4 + i * 1]? = some (.int .u8 ((ds.getD i 0 : Nat) : Int)) := by
  rw [Nat.mul_one, Nat.add_comm]; simp [frC, bC, h]
theorem getL_fr {a b c d : Value} {ds : List Nat} (h : ds.length = 8) : getL (a :: b :: c :: d :: bC ds) 0 12 = some (a :: b :: c :: d :: bC ds) := by
  unfold getL
  rw [if_pos (by simp [bC_len, h])]
  rw [List.drop_zero, List.take_of_length_le (by simp [bC_len, h])]
theorem putAt_12 {a0 a1 a2 a3 a4 a5 a6 a7 a8 a9 a10 a11 b0 b1 b2 b3 : Value} {ds : List Nat} (h : ds.length = 8) : putAt (.row [a0, a1, a2, a3, a4, a5, a6, a7, a8, a9, a10, a11]) 0 (b0 :: b1 :: b2 :: b3 :: bC ds) = some (.row (b0 :: b1 :: b2 :: b3 :: bC ds)) := by
  simp only [putAt, AObj.cells?, AObj.withCells]
  rw [if_pos (by simp [bC_len, h]), setL_all (by simp [bC_len, h])]
def rightF (e : Bool) (n : Nat) (r : Bool) (l : Int) (ds : List Nat) : Int :=
  if idOk e n = false then 1 else if l < 0 ∨ 8 < l then 2 else if (ds.drop (if r then 0 else l.toNat)).any (fun x => x != 0) then 3 else 0
theorem any_drop {ds : List Nat} {u : Nat} : (ds.drop u).any (fun x => x != 0) = true ↔ ∃ j, j < ds.length ∧ u ≤ j ∧ ds.getD j 0 ≠ 0 := by
  rw [List.any_eq_true]
  constructor
  · rintro ⟨x, hx, hne⟩
    obtain ⟨i, hi, rfl⟩ := List.mem_drop_iff_getElem.1 hx
    exact ⟨u + i, by omega, by omega, by rw [List.getD_eq_getElem?_getD, List.getElem?_eq_getElem (by omega)]; simpa using hne⟩
  · rintro ⟨j, h1, h2, h3⟩
    refine ⟨ds[j], List.mem_drop_iff_getElem.2 ⟨j - u, by omega, ?_⟩, ?_⟩
    · congr 1; omega
    · rw [List.getD_eq_getElem?_getD, List.getElem?_eq_getElem h1] at h3; simpa using h3
theorem used_iff {r : Bool} {l : Int} {j : Nat} (h0 : ¬ l < 0) : (if r = true then 0 else l.toNat) ≤ j ↔ (l ≤ j ∨ r = true) := by
  cases r <;> simp
theorem rightF_bad {e : Bool} {n : Nat} {r : Bool} {l : Int} {ds : List Nat} (hi : idOk e n = true) (h0 : ¬ l < 0) (h8 : ¬ 8 < l) {j : Nat} (hj : j < ds.length) (hx : ds.getD j 0 ≠ 0) (hc : l ≤ j ∨ r = true) : rightF e n r l ds = 3 := by
  have hany := (any_drop (ds := ds) (u := if r then 0 else l.toNat)).2 ⟨j, hj, (used_iff h0).2 hc, hx⟩
  simp only [rightF, hi, h0, h8, or_self, if_false, hany, if_true, Bool.true_eq_false]
theorem rightF_good {e : Bool} {n : Nat} {r : Bool} {l : Int} {ds : List Nat} (hi : idOk e n = true) (h0 : ¬ l < 0) (h8 : ¬ 8 < l) (h : ∀ j, j < ds.length → ds.getD j 0 ≠ 0 → ¬ (l ≤ j ∨ r = true)) : rightF e n r l ds = 0 := by
  have hany : (ds.drop (if r then 0 else l.toNat)).any (fun x => x != 0) = false := by
    rw [Bool.eq_false_iff]
    intro hc
    obtain ⟨j, h1, h2, h3⟩ := any_drop.1 hc
    exact h j h1 h3 ((used_iff h0).1 h2)
  simp only [rightF, hi, h0, h8, or_self, if_false, hany, if_true, Bool.true_eq_false, Bool.false_eq_true]
theorem rframeRight_p {e : Bool} {n : Nat} {r : Bool} {l : Int} {ds : List Nat} (hd : ds.length = 8) (hR : R (.int .i64 (rightF e n r l ds)) s) : WC Tryd.prog base 12 [frV e n r l ds] s R := by
  refine WC_pureG (by simp [bareV, bareV1, oldOk, bC]) rfl (fun base s hB hn0 => ?_) hR
  clear hR
  refine WC_open Tryd.func12 rfl ?_
  simp (disch := first | omega | ((simp only [Ab.next_alloc, Ab.next_upd, List.length_cons, List.length_nil, ne_eq, not_true_eq_false, not_false_eq_true]) <;> omega) | decide) only [↓stepPre, stepPost, ↓W_cond, ↓W_block, ↓reduceIte, Nat.reduceEqDiff, Nat.reduceLT, Nat.reduceLeDiff, List.size_toArray, List.length_cons, List.length_nil, ret0, stVar, isTup, Value.cells, List.set_cons_zero, List.set_cons_succ, Nat.le_refl, Nat.reduceAdd, Nat.reduceMul, Nat.reduceSub, env0, List.getD_cons_zero, List.getD_cons_succ, binV, intV, reduceCtorEq, List.getElem?_cons_succ, List.getElem?_cons_zero, pickV, nilCheckV, ptrV, unV, true_and, and_true, List.map_cons, List.map_nil, Nat.add_zero, Nat.zero_add, Option.isNone_none, Option.isNone_some, Rt, resultsV, allV, resV, Bool.not_true, Bool.not_false, calleeV, builtinV, Option.map_some, Option.map_none, List.cons_append, List.nil_append, List.append_nil, Array.toList_append, List.toList_toArray, eqV, fieldAddrV, ldVar, stN_own, stN_ownL, Int.cast_ofNat_Int, Int.fdiv_eq_ediv_of_nonneg, Int.reduceToNat, Nat.min_eq_left, Int.reducePow, IntKind.bits, convV, ne_eq, not_false_eq_true, not_true_eq_false, Int.reduceNeg, Int.reduceAdd, Int.reduceSub, Int.reduceLT, Int.reduceLE, Option.isSome_some, extractV, decide_true, decide_false, Int.reduceEq, List.getElem?_toArray, mkFuncV, List.map_toArray, beq_self_eq_true, Ty.t27, Tryd.underlying27, Ty.t24, Tryd.underlying24, Ty.t3, Tryd.underlying3, Ty.t4, Tryd.underlying4, Ty.t22, Tryd.underlying22, Ty.t5, Tryd.underlying5, Ty.t25, Tryd.underlying25, Ty.t34, Tryd.underlying34, Ty.t60, Tryd.underlying60, Ty.t31, Tryd.underlying31, getL_take, List.drop_zero, List.drop_succ_cons, List.take_succ_cons, List.take_zero, List.take_nil, hn0, bC_len, hd]
  refine r05right_p ?_
  cases hi : idOk e n
  · simp (disch := first | omega | ((simp only [Ab.next_alloc, Ab.next_upd, List.length_cons, List.length_nil, ne_eq, not_true_eq_false, not_false_eq_true]) <;> omega) | decide) only [↓stepPre, stepPost, ↓W_cond, ↓W_block, ↓reduceIte, Nat.reduceEqDiff, Nat.reduceLT, Nat.reduceLeDiff, List.size_toArray, List.length_cons, List.length_nil, ret0, stVar, isTup, Value.cells, List.set_cons_zero, List.set_cons_succ, Nat.le_refl, Nat.reduceAdd, Nat.reduceMul, Nat.reduceSub, env0, List.getD_cons_zero, List.getD_cons_succ, binV, intV, reduceCtorEq, List.getElem?_cons_succ, List.getElem?_cons_zero, pickV, nilCheckV, ptrV, unV, true_and, and_true, List.map_cons, List.map_nil, Nat.add_zero, Nat.zero_add, Option.isNone_none, Option.isNone_some, Rt, resultsV, allV, resV, Bool.not_true, Bool.not_false, calleeV, builtinV, Option.map_some, Option.map_none, List.cons_append, List.nil_append, List.append_nil, Array.toList_append, List.toList_toArray, eqV, fieldAddrV, ldVar, stN_own, stN_ownL, Int.cast_ofNat_Int, Int.fdiv_eq_ediv_of_nonneg, Int.reduceToNat, Nat.min_eq_left, Int.reducePow, IntKind.bits, convV, ne_eq, not_false_eq_true, not_true_eq_false, Int.reduceNeg, Int.reduceAdd, Int.reduceSub, Int.reduceLT, Int.reduceLE, Option.isSome_some, extractV, decide_true, decide_false, Int.reduceEq, List.getElem?_toArray, mkFuncV, List.map_toArray, beq_self_eq_true, Ty.t27, Tryd.underlying27, Ty.t24, Tryd.underlying24, Ty.t3, Tryd.underlying3, Ty.t4, Tryd.underlying4, Ty.t22, Tryd.underlying22, Ty.t5, Tryd.underlying5, Ty.t25, Tryd.underlying25, Ty.t34, Tryd.underlying34, Ty.t60, Tryd.underlying60, Ty.t31, Tryd.underlying31, getL_take, List.drop_zero, List.drop_succ_cons, List.take_succ_cons, List.take_zero, List.take_nil, hn0, Tryd.results12]
    simp [rightF, hi]
  (repeat' (first | (simp (disch := first | omega | ((simp only [Ab.next_alloc, Ab.next_upd, List.length_cons, List.length_nil, ne_eq, not_true_eq_false, not_false_eq_true]) <;> omega) | decide) only [↓stepPre, stepPost, ↓W_cond, ↓W_block, ↓reduceIte, Nat.reduceEqDiff, Nat.reduceLT, Nat.reduceLeDiff, List.size_toArray, List.length_cons, List.length_nil, ret0, stVar, isTup, Value.cells, List.set_cons_zero, List.set_cons_succ, Nat.le_refl, Nat.reduceAdd, Nat.reduceMul, Nat.reduceSub, env0, List.getD_cons_zero, List.getD_cons_succ, binV, intV, reduceCtorEq, List.getElem?_cons_succ, List.getElem?_cons_zero, pickV, nilCheckV, ptrV, unV, true_and, and_true, List.map_cons, List.map_nil, Nat.add_zero, Nat.zero_add, Option.isNone_none, Option.isNone_some, Rt, resultsV, allV, resV, Bool.not_true, Bool.not_false, calleeV, builtinV, Option.map_some, Option.map_none, List.cons_append, List.nil_append, List.append_nil, Array.toList_append, List.toList_toArray, eqV, fieldAddrV, ldVar, stN_own, stN_ownL, Int.cast_ofNat_Int, Int.fdiv_eq_ediv_of_nonneg, Int.reduceToNat, Nat.min_eq_left, Int.reducePow, IntKind.bits, convV, ne_eq, not_false_eq_true, not_true_eq_false, Int.reduceNeg, Int.reduceAdd, Int.reduceSub, Int.reduceLT, Int.reduceLE, Option.isSome_some, extractV, decide_true, decide_false, Int.reduceEq, List.getElem?_toArray, mkFuncV, List.map_toArray, beq_self_eq_true, Ty.t27, Tryd.underlying27, Ty.t24, Tryd.underlying24, Ty.t3, Tryd.underlying3, Ty.t4, Tryd.underlying4, Ty.t22, Tryd.underlying22, Ty.t5, Tryd.underlying5, Ty.t25, Tryd.underlying25, Ty.t34, Tryd.underlying34, Ty.t60, Tryd.underlying60, Ty.t31, Tryd.underlying31, getL_take, List.drop_zero, List.drop_succ_cons, List.take_succ_cons, List.take_zero, List.take_nil, Tryd.results12, Dok_free, Dok_alloc, eq_self, Int.toNat_natCast, *]) | (refine Gif_dt (fun _ => ?_) (fun _ => ?_)) | (refine Gif_df (fun _ => ?_) (fun _ => ?_)) | (refine Wif_dec (fun _ => ?_) (fun _ => ?_)) | (refine Gif_bt (fun _ => ?_) (fun _ => ?_)) | (refine Gif_bf (fun _ => ?_) (fun _ => ?_)) | (refine Wif_bool (fun _ => ?_) (fun _ => ?_)) | (exfalso; omega)))
  · rename_i h8; simp only [rightF, hi, h8, or_true, if_true, Bool.true_eq_false, if_false]
  · rename_i h0 h8
    refine W_loop_ind 8 (fun i e' s1 => s1 = s.alloc (.row (frC e n r l ds)) ∧ e' 1 = .pointer (some ⟨s.next, 0, none⟩) ∧ e' 3 = .int .i64 i ∧ ∀ j, j < i → ds.getD j 0 ≠ 0 → ¬ (l ≤ j ∨ r = true)) ?_ ⟨rfl, rfl, rfl, fun j hj => by omega⟩
    rintro i e' s1 hi8 ⟨rfl, h1, h3, hq⟩
    by_cases hlt : i < 8
    · have hi3 : i < ds.length := by omega
      (repeat' (first | (simp (disch := first | omega | ((simp only [Ab.next_alloc, Ab.next_upd, List.length_cons, List.length_nil, ne_eq, not_true_eq_false, not_false_eq_true]) <;> omega) | decide) only [↓stepPre, stepPost, ↓W_cond, ↓W_block, ↓reduceIte, Nat.reduceEqDiff, Nat.reduceLT, Nat.reduceLeDiff, List.size_toArray, List.length_cons, List.length_nil, ret0, stVar, isTup, Value.cells, List.set_cons_zero, List.set_cons_succ, Nat.le_refl, Nat.reduceAdd, Nat.reduceMul, Nat.reduceSub, env0, List.getD_cons_zero, List.getD_cons_succ, binV, intV, reduceCtorEq, List.getElem?_cons_succ, List.getElem?_cons_zero, pickV, nilCheckV, ptrV, unV, true_and, and_true, List.map_cons, List.map_nil, Nat.add_zero, Nat.zero_add, Option.isNone_none, Option.isNone_some, Rt, resultsV, allV, resV, Bool.not_true, Bool.not_false, calleeV, builtinV, Option.map_some, Option.map_none, List.cons_append, List.nil_append, List.append_nil, Array.toList_append, List.toList_toArray, eqV, fieldAddrV, ldVar, stN_own, stN_ownL, Int.cast_ofNat_Int, Int.fdiv_eq_ediv_of_nonneg, Int.reduceToNat, Nat.min_eq_left, Int.reducePow, IntKind.bits, convV, ne_eq, not_false_eq_true, not_true_eq_false, Int.reduceNeg, Int.reduceAdd, Int.reduceSub, Int.reduceLT, Int.reduceLE, Option.isSome_some, extractV, decide_true, decide_false, Int.reduceEq, List.getElem?_toArray, mkFuncV, List.map_toArray, beq_self_eq_true, Ty.t27, Tryd.underlying27, Ty.t24, Tryd.underlying24, Ty.t3, Tryd.underlying3, Ty.t4, Tryd.underlying4, Ty.t22, Tryd.underlying22, Ty.t5, Tryd.underlying5, Ty.t25, Tryd.underlying25, Ty.t34, Tryd.underlying34, Ty.t60, Tryd.underlying60, Ty.t31, Tryd.underlying31, getL_take, List.drop_zero, List.drop_succ_cons, List.take_succ_cons, List.take_zero, List.take_nil, idxArr Ty.arr25 Ty.siz5, Int.toNat_natCast, frC_at hi3, Tryd.results12, Dok_free, Dok_alloc, eq_self, Int.toNat_natCast, *]) | (refine Gif_dt (fun _ => ?_) (fun _ => ?_)) | (refine Gif_df (fun _ => ?_) (fun _ => ?_)) | (refine Wif_dec (fun _ => ?_) (fun _ => ?_)) | (refine Gif_bt (fun _ => ?_) (fun _ => ?_)) | (refine Gif_bf (fun _ => ?_) (fun _ => ?_)) | (refine Wif_bool (fun _ => ?_) (fun _ => ?_)) | (exfalso; omega)))
      · rename_i _ hx hz hr; subst hr; rw [rightF_bad hi h0 h8 hi3 (by omega) (.inr rfl)]
      · rename_i _ hx hz hr
        refine ⟨rfl, fun j hj hne => ?_⟩
        by_cases hji : j = i
        · subst hji; simp; omega
        · have := hq j (by omega) hne; simpa [hr] using this
      · rename_i _ hx hz; rw [rightF_bad hi h0 h8 hi3 (by omega) (.inl hz)]
      · rename_i _ hx
        refine ⟨rfl, fun j hj hne => ?_⟩
        by_cases hji : j = i
        · subst hji; omega
        · exact hq j (by omega) hne
    · have hge : ¬ ((i : Int) < 8) := by omega
      (repeat' (first | (simp (disch := first | omega | ((simp only [Ab.next_alloc, Ab.next_upd, List.length_cons, List.length_nil, ne_eq, not_true_eq_false, not_false_eq_true]) <;> omega) | decide) only [↓stepPre, stepPost, ↓W_cond, ↓W_block, ↓reduceIte, Nat.reduceEqDiff, Nat.reduceLT, Nat.reduceLeDiff, List.size_toArray, List.length_cons, List.length_nil, ret0, stVar, isTup, Value.cells, List.set_cons_zero, List.set_cons_succ, Nat.le_refl, Nat.reduceAdd, Nat.reduceMul, Nat.reduceSub, env0, List.getD_cons_zero, List.getD_cons_succ, binV, intV, reduceCtorEq, List.getElem?_cons_succ, List.getElem?_cons_zero, pickV, nilCheckV, ptrV, unV, true_and, and_true, List.map_cons, List.map_nil, Nat.add_zero, Nat.zero_add, Option.isNone_none, Option.isNone_some, Rt, resultsV, allV, resV, Bool.not_true, Bool.not_false, calleeV, builtinV, Option.map_some, Option.map_none, List.cons_append, List.nil_append, List.append_nil, Array.toList_append, List.toList_toArray, eqV, fieldAddrV, ldVar, stN_own, stN_ownL, Int.cast_ofNat_Int, Int.fdiv_eq_ediv_of_nonneg, Int.reduceToNat, Nat.min_eq_left, Int.reducePow, IntKind.bits, convV, ne_eq, not_false_eq_true, not_true_eq_false, Int.reduceNeg, Int.reduceAdd, Int.reduceSub, Int.reduceLT, Int.reduceLE, Option.isSome_some, extractV, decide_true, decide_false, Int.reduceEq, List.getElem?_toArray, mkFuncV, List.map_toArray, beq_self_eq_true, Ty.t27, Tryd.underlying27, Ty.t24, Tryd.underlying24, Ty.t3, Tryd.underlying3, Ty.t4, Tryd.underlying4, Ty.t22, Tryd.underlying22, Ty.t5, Tryd.underlying5, Ty.t25, Tryd.underlying25, Ty.t34, Tryd.underlying34, Ty.t60, Tryd.underlying60, Ty.t31, Tryd.underlying31, getL_take, List.drop_zero, List.drop_succ_cons, List.take_succ_cons, List.take_zero, List.take_nil, Tryd.results12, Dok_free, Dok_alloc, eq_self, Int.toNat_natCast, *]) | (refine Gif_dt (fun _ => ?_) (fun _ => ?_)) | (refine Gif_df (fun _ => ?_) (fun _ => ?_)) | (refine Wif_dec (fun _ => ?_) (fun _ => ?_)) | (refine Gif_bt (fun _ => ?_) (fun _ => ?_)) | (refine Gif_bf (fun _ => ?_) (fun _ => ?_)) | (refine Wif_bool (fun _ => ?_) (fun _ => ?_)) | (exfalso; omega)))
      rw [rightF_good hi h0 h8 fun j hj => hq j (by omega)]
  · rename_i h0; simp only [rightF, hi, h0, true_or, if_true, Bool.true_eq_false, if_false]
/-! ### Frames that are handed in -/
theorem flatFrame : flat Tryd.prog 16 27 = some [.bool, .int .u32, .bool, .int .i64, .int .u8, .int .u8, .int .u8, .int .u8, .int .u8, .int .u8, .int .u8, .int .u8] := by kernel_rfl
theorem byte_of {x : Int} (h : (Lit.int .u8 x).wf = true) : ∃ m : Nat, x = m ∧ m < 256 := by
  have hn := wf_int h
  simp only [IntKind.min, IntKind.max, IntKind.signed, IntKind.bits] at hn
  have h0 : 0 ≤ x ∧ x ≤ 255 := by simpa using hn
  exact ⟨x.toNat, by omega, by omega⟩
theorem u32_of {x : Int} (h : (Lit.int .u32 x).wf = true) : ∃ m : Nat, x = m ∧ m < 2 ^ 32 := by
  have hn := wf_int h
  simp only [IntKind.min, IntKind.max, IntKind.signed, IntKind.bits] at hn
  have h0 : 0 ≤ x ∧ x ≤ 4294967295 := by simpa using hn
  exact ⟨x.toNat, by omega, by omega⟩
theorem i64_of {x : Int} (h : (Lit.int .i64 x).wf = true) : -9223372036854775808 ≤ x ∧ x ≤ 9223372036854775807 := by
  have hn := wf_int h
  simp only [IntKind.min, IntKind.max, IntKind.signed, IntKind.bits] at hn
  simpa using hn
theorem frame_cells {W : World} {c : List Value} (h1 : okCells W [.bool, .int .u32, .bool, .int .i64, .int .u8, .int .u8, .int .u8, .int .u8, .int .u8, .int .u8, .int .u8, .int .u8] c) : ∃ e n r l ds, c = frC e n r l ds ∧ ds.length = 8 ∧ n < 2 ^ 32 ∧ (∀ x ∈ ds, x < 256) ∧ -9223372036854775808 ≤ l ∧ l ≤ 9223372036854775807 := by
  simp only [okCells, okCell] at h1
  obtain ⟨_, _, rfl, ⟨e, rfl⟩, _, _, rfl, ⟨n, rfl, wn⟩, _, _, rfl, ⟨r, rfl⟩, _, _, rfl, ⟨l, rfl, wl⟩, h1⟩ := h1
  obtain ⟨_, _, rfl, ⟨x0, rfl, w0⟩, _, _, rfl, ⟨x1, rfl, w1⟩, _, _, rfl, ⟨x2, rfl, w2⟩, _, _, rfl, ⟨x3, rfl, w3⟩, _, _, rfl, ⟨x4, rfl, w4⟩, _, _, rfl, ⟨x5, rfl, w5⟩, _, _, rfl, ⟨x6, rfl, w6⟩, _, _, rfl, ⟨x7, rfl, w7⟩, rfl⟩ := h1
  obtain ⟨n, rfl, hn⟩ := u32_of wn
  obtain ⟨y0, rfl, v0⟩ := byte_of w0
  obtain ⟨y1, rfl, v1⟩ := byte_of w1
  obtain ⟨y2, rfl, v2⟩ := byte_of w2
  obtain ⟨y3, rfl, v3⟩ := byte_of w3
  obtain ⟨y4, rfl, v4⟩ := byte_of w4
  obtain ⟨y5, rfl, v5⟩ := byte_of w5
  obtain ⟨y6, rfl, v6⟩ := byte_of w6
  obtain ⟨y7, rfl, v7⟩ := byte_of w7
  refine ⟨e, n, r, l, [y0, y1, y2, y3, y4, y5, y6, y7], rfl, rfl, hn, ?_, i64_of wl⟩
  simp only [List.mem_cons, List.not_mem_nil, or_false, forall_eq_or_imp, forall_eq]
  exact ⟨v0, v1, v2, v3, v4, v5, v6, v7⟩
theorem frame_arg {W : World} {v : Value} (h : ArgR Tryd.prog W 27 v) : ∃ e n r l ds, v = frV e n r l ds ∧ ds.length = 8 ∧ n < 2 ^ 32 ∧ (∀ x ∈ ds, x < 256) ∧ -9223372036854775808 ≤ l ∧ l ≤ 9223372036854775807 := by
  obtain ⟨c, rfl, h1, -⟩ := arg_agg h flatFrame (by kernel_rfl)
  obtain ⟨e, n, r, l, ds, rfl, h2⟩ := frame_cells h1
  exact ⟨e, n, r, l, ds, rfl, h2⟩
end Go.Proofs.YtdhmjnpaoacpfaaDoor
