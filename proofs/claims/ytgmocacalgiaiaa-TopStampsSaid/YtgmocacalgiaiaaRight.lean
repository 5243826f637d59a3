import Derived.Test.YtgmocacalgiaiaaTypes
import Derived.Test.YtgmocacalgiaiaaRow0
import Derived.Test.YtgmocacalgiaiaaAbC
import Derived.Test.YtgmocacalgiaiaaOwnOf
import Derived.Test.YtgmocacalgiaiaaPure
/- Frames that can be (frame.Right, bellbuoyref06.Right), and identifiers that can be, as contracts. -/
set_option linter.all false
set_option maxRecDepth 20000
namespace Go.Proofs.Ytgmocacalgiaiaa
open Go Go.Ab
variable {base : Nat} [Bok base] {s : St} {R : Value → St → Prop}
def idOk (e : Bool) (n : Nat) : Bool := decide (n < if e then 536870912 else 2048)
abbrev idV (e : Bool) (n : Nat) : Value := .agg #[.bool e, .int .u32 (n : Int)]
theorem iright_p {e : Bool} {n : Nat} (hR : R (.bool (idOk e n)) s) : WC Try.prog base 47 [idV e n] s R := by
  refine WC_pureG rfl rfl (fun base s hB hn0 => ?_) hR
  refine WC_open Try.func47 rfl ?_
  have e11 : ((n : Int) / 2048) = ((n / 2048 : Nat) : Int) := by omega
  have e29 : ((n : Int) / 536870912) = ((n / 536870912 : Nat) : Int) := by omega
  cases e
  · simp (disch := first | omega | ((simp only [Ab.next_alloc, Ab.next_upd, List.length_cons, List.length_nil, ne_eq, not_true_eq_false, not_false_eq_true]) <;> omega) | decide) only [↓stepPre, stepPost, ↓W_cond, ↓W_block, ↓reduceIte, Nat.reduceEqDiff, Nat.reduceLT, Nat.reduceLeDiff, List.size_toArray, List.length_cons, List.length_nil, ret0, stVar, isTup, Value.cells, List.set_cons_zero, List.set_cons_succ, Nat.le_refl, Nat.reduceAdd, Nat.reduceMul, Nat.reduceSub, env0, List.getD_cons_zero, List.getD_cons_succ, binV, intV, reduceCtorEq, List.getElem?_cons_succ, List.getElem?_cons_zero, pickV, nilCheckV, ptrV, unV, true_and, and_true, List.map_cons, List.map_nil, Nat.add_zero, Nat.zero_add, Option.isNone_none, Option.isNone_some, Rt, resultsV, allV, resV, Bool.not_true, Bool.not_false, calleeV, builtinV, Option.map_some, Option.map_none, List.cons_append, List.nil_append, List.append_nil, Array.toList_append, List.toList_toArray, eqV, fieldAddrV, ldVar, stN_own, stN_ownL, Int.cast_ofNat_Int, Int.fdiv_eq_ediv_of_nonneg, Int.reduceToNat, Nat.min_eq_left, Int.reducePow, IntKind.bits, convV, ne_eq, not_false_eq_true, not_true_eq_false, Int.reduceNeg, Int.reduceAdd, Int.reduceSub, Int.reduceLT, Int.reduceLE, Option.isSome_some, extractV, decide_true, decide_false, Int.reduceEq, List.getElem?_toArray, mkFuncV, List.map_toArray, beq_self_eq_true, Ty.t41, Try.underlying41, Ty.t38, Try.underlying38, Ty.t3, Try.underlying3, Ty.t4, Try.underlying4, Ty.t36, Try.underlying36, Ty.t5, Try.underlying5, Ty.t39, Try.underlying39, Ty.t108, Try.underlying108, Ty.t24, Try.underlying24, getL_take, List.drop_zero, List.drop_succ_cons, List.take_succ_cons, List.take_zero, List.take_nil, hn0, Try.results47]
    simp only [idOk, Bool.false_eq_true, if_false, Value.bool.injEq, decide_eq_decide]; omega
  · simp (disch := first | omega | ((simp only [Ab.next_alloc, Ab.next_upd, List.length_cons, List.length_nil, ne_eq, not_true_eq_false, not_false_eq_true]) <;> omega) | decide) only [↓stepPre, stepPost, ↓W_cond, ↓W_block, ↓reduceIte, Nat.reduceEqDiff, Nat.reduceLT, Nat.reduceLeDiff, List.size_toArray, List.length_cons, List.length_nil, ret0, stVar, isTup, Value.cells, List.set_cons_zero, List.set_cons_succ, Nat.le_refl, Nat.reduceAdd, Nat.reduceMul, Nat.reduceSub, env0, List.getD_cons_zero, List.getD_cons_succ, binV, intV, reduceCtorEq, List.getElem?_cons_succ, List.getElem?_cons_zero, pickV, nilCheckV, ptrV, unV, true_and, and_true, List.map_cons, List.map_nil, Nat.add_zero, Nat.zero_add, Option.isNone_none, Option.isNone_some, Rt, resultsV, allV, resV, Bool.not_true, Bool.not_false, calleeV, builtinV, Option.map_some, Option.map_none, List.cons_append, List.nil_append, List.append_nil, Array.toList_append, List.toList_toArray, eqV, fieldAddrV, ldVar, stN_own, stN_ownL, Int.cast_ofNat_Int, Int.fdiv_eq_ediv_of_nonneg, Int.reduceToNat, Nat.min_eq_left, Int.reducePow, IntKind.bits, convV, ne_eq, not_false_eq_true, not_true_eq_false, Int.reduceNeg, Int.reduceAdd, Int.reduceSub, Int.reduceLT, Int.reduceLE, Option.isSome_some, extractV, decide_true, decide_false, Int.reduceEq, List.getElem?_toArray, mkFuncV, List.map_toArray, beq_self_eq_true, Ty.t41, Try.underlying41, Ty.t38, Try.underlying38, Ty.t3, Try.underlying3, Ty.t4, Try.underlying4, Ty.t36, Try.underlying36, Ty.t5, Try.underlying5, Ty.t39, Try.underlying39, Ty.t108, Try.underlying108, Ty.t24, Try.underlying24, getL_take, List.drop_zero, List.drop_succ_cons, List.take_succ_cons, List.take_zero, List.take_nil, hn0, Try.results47]
    simp only [idOk, if_true, Value.bool.injEq, decide_eq_decide]; omega
/-! ### Which byte is the first of which something holds -/
/-! ### Frames -/
abbrev frC (e : Bool) (n : Nat) (r : Bool) (l : Int) (ds : List Nat) : List Value := .bool e :: .int .u32 (n : Int) :: .bool r :: .int .i64 l :: bC ds
abbrev frV (e : Bool) (n : Nat) (r : Bool) (l : Int) (ds : List Nat) : Value := .agg (frC e n r l ds).toArray
theorem frC_at {e : Bool} {n : Nat} {r : Bool} {l : Int} {ds : List Nat} {i : Nat} (h : i < ds.length) : (frC e n r l ds)[4 + i * 1]? = some (.int .u8 ((ds.getD i 0 : Nat) : Int)) := by
  rw [Nat.mul_one, Nat.add_comm]; simp [frC, bC, h]
theorem getL_fr {a b c d : Value} {ds : List Nat} (h : ds.length = 8) : getL (a :: b :: c :: d :: bC ds) 0 12 = some (a :: b :: c :: d :: bC ds) := by
  unfold getL
  rw [if_pos (by simp [bC_len, h])]
  rw [List.drop_zero, List.take_of_length_le (by simp [bC_len, h])]
theorem putAt_fr {a b c d a' b' c' d' : Value} {ds ds' : List Nat} (h : ds.length = 8) (h' : ds'.length = 8) : putAt (.row (a :: b :: c :: d :: bC ds)) 0 (a' :: b' :: c' :: d' :: bC ds') = some (.row (a' :: b' :: c' :: d' :: bC ds')) := by
  simp only [putAt, AObj.cells?, AObj.withCells]
  rw [if_pos (by simp [bC_len, h, h']), setL_all (by simp [bC_len, h, h'])]
theorem putAt_12 {a0 a1 a2 a3 a4 a5 a6 a7 a8 a9 a10 a11 b0 b1 b2 b3 : Value} {ds : List Nat} (h : ds.length = 8) : putAt (.row [a0, a1, a2, a3, a4, a5, a6, a7, a8, a9, a10, a11]) 0 (b0 :: b1 :: b2 :: b3 :: bC ds) = some (.row (b0 :: b1 :: b2 :: b3 :: bC ds)) := by
  simp only [putAt, AObj.cells?, AObj.withCells]
  rw [if_pos (by simp [bC_len, h]), setL_all (by simp [bC_len, h])]
theorem eqCells_bC : ∀ (xs ys : List Nat), xs.length = ys.length → eqCells (bC xs) (bC ys) = decide (xs = ys) := by
  intro xs
  induction xs with
  | nil => intro ys h; cases ys with
    | nil => rfl
    | cons => cases h
  | cons x xs ih =>
    intro ys h
    cases ys with
    | nil => cases h
    | cons y ys =>
      simp only [bC, List.map_cons, eqCells, eqCell] at *
      rw [ih ys (by simpa using h)]
      rw [Bool.eq_iff_iff]; simp; omega
theorem fits8 : ∀ (ds : List Nat), fitsAll (List.replicate ds.length (.int .u8)) (bC ds) = true := by
  intro ds
  induction ds with
  | nil => rfl
  | cons d ds ih => simp only [List.length_cons, List.replicate_succ, bC, List.map_cons, fitsAll, Kd.fits, decide_true, Bool.true_and] at *; exact ih
theorem fits_fr {e : Bool} {n : Nat} {r : Bool} {l : Int} {ds : List Nat} (h : ds.length = 8) : fitsAll [.bool, .int .u32, .bool, .int .i64, .int .u8, .int .u8, .int .u8, .int .u8, .int .u8, .int .u8, .int .u8, .int .u8] (frC e n r l ds) = true := by
  have := fits8 ds
  rw [h] at this
  simp only [frC, fitsAll, Kd.fits, decide_true, Bool.true_and]
  exact this
theorem eqCells_fr {e e' : Bool} {n n' : Nat} {r r' : Bool} {l l' : Int} {ds ds' : List Nat} (h : ds.length = 8) (h' : ds'.length = 8) :
    eqCells (frC e n r l ds) (frC e' n' r' l' ds') = decide (e = e' ∧ n = n' ∧ r = r' ∧ l = l' ∧ ds = ds') := by
  simp only [frC, eqCells, eqCell]
  rw [eqCells_bC _ _ (by omega), Bool.eq_iff_iff]
  simp only [Bool.and_eq_true, beq_iff_eq, decide_eq_true_eq, and_assoc, show ((n : Int) = (n' : Int)) = (n = n') by rw [eq_iff_iff]; omega]
theorem eq_frame {e e' : Bool} {n n' : Nat} {r r' : Bool} {l l' : Int} {ds ds' : List Nat} (h : ds.length = 8) (h' : ds'.length = 8) :
    eqV Try.prog 41 (frV e n r l ds) (frV e' n' r' l' ds') = some (decide (e = e' ∧ n = n' ∧ r = r' ∧ l = l' ∧ ds = ds')) := by
  have := eqV_agg (P := Try.prog) (t := 41) (l := frC e n r l ds) (m := frC e' n' r' l' ds') Ty.kd41 Ty.eqg41 Ty.agg41 (fits_fr h) (fits_fr h')
  rw [this, eqCells_fr h h']
def rightF (e : Bool) (n : Nat) (r : Bool) (l : Int) (ds : List Nat) : Int :=
  if idOk e n = false then 1 else if l < 0 ∨ 8 < l then 2 else if (ds.drop (if r then 0 else l.toNat)).any (fun x => x != 0) then 3 else 0
theorem bareV_fr {e : Bool} {n : Nat} {r : Bool} {l : Int} {ds : List Nat} : bareV (frV e n r l ds) = true := by
  simp [bareV, bareV1, oldOk, bC]
theorem any_drop {ds : List Nat} {u : Nat} : (ds.drop u).any (fun x => x != 0) = true ↔ ∃ j, j < ds.length ∧ u ≤ j ∧ ds.getD j 0 ≠ 0 := by
  rw [List.any_eq_true]
  constructor
  · rintro ⟨x, hx, hne⟩
    obtain ⟨i, hi, rfl⟩ := List.mem_drop_iff_getElem.1 hx
    exact ⟨u + i, by omega, by omega, by rw [List.getD_eq_getElem?_getD, List.getElem?_eq_getElem (by omega)]; simpa using hne⟩
  · rintro ⟨j, h1, h2, h3⟩
    refine ⟨ds[j], List.mem_drop_iff_getElem.2 ⟨j - u, by omega, ?_⟩, ?_⟩
    · congr 1; omega
    · rw [List.getD_eq_getElem?_getD, List.getElem?_eq_getElem h1] at h3; simpa using h3
theorem used_iff {r : Bool} {l : Int} {j : Nat} (h0 : ¬ l < 0) : (if r = true then 0 else l.toNat) ≤ j ↔ (l ≤ j ∨ r = true) := by
  cases r <;> simp
theorem rightF_bad {e : Bool} {n : Nat} {r : Bool} {l : Int} {ds : List Nat} (hi : idOk e n = true) (h0 : ¬ l < 0) (h8 : ¬ 8 < l) {j : Nat} (hj : j < ds.length) (hx : ds.getD j 0 ≠ 0) (hc : l ≤ j ∨ r = true) : rightF e n r l ds = 3 := by
  have hany := (any_drop (ds := ds) (u := if r then 0 else l.toNat)).2 ⟨j, hj, (used_iff h0).2 hc, hx⟩
  simp only [rightF, hi, h0, h8, or_self, if_false, hany, if_true, Bool.true_eq_false]
theorem rightF_good {e : Bool} {n : Nat} {r : Bool} {l : Int} {ds : List Nat} (hi : idOk e n = true) (h0 : ¬ l < 0) (h8 : ¬ 8 < l) (h : ∀ j, j < ds.length → ds.getD j 0 ≠ 0 → ¬ (l ≤ j ∨ r = true)) : rightF e n r l ds = 0 := by
  have hany : (ds.drop (if r then 0 else l.toNat)).any (fun x => x != 0) = false := by
    rw [Bool.eq_false_iff]
    intro hc
    obtain ⟨j, h1, h2, h3⟩ := any_drop.1 hc
    exact h j h1 h3 ((used_iff h0).1 h2)
  simp only [rightF, hi, h0, h8, or_self, if_false, hany, if_true, Bool.true_eq_false, Bool.false_eq_true]
/-! ### Frames that are handed in -/
theorem flatFrame : flat Try.prog 16 41 = some [.bool, .int .u32, .bool, .int .i64, .int .u8, .int .u8, .int .u8, .int .u8, .int .u8, .int .u8, .int .u8, .int .u8] := by kernel_rfl
theorem byte_of {x : Int} (h : (Lit.int .u8 x).wf = true) : ∃ m : Nat, x = m ∧ m < 256 := by
  have hn := wf_int h
  simp only [IntKind.min, IntKind.max, IntKind.signed, IntKind.bits] at hn
  have h0 : 0 ≤ x ∧ x ≤ 255 := by simpa using hn
  exact ⟨x.toNat, by omega, by omega⟩
theorem u32_of {x : Int} (h : (Lit.int .u32 x).wf = true) : ∃ m : Nat, x = m ∧ m < 2 ^ 32 := by
  have hn := wf_int h
  simp only [IntKind.min, IntKind.max, IntKind.signed, IntKind.bits] at hn
  have h0 : 0 ≤ x ∧ x ≤ 4294967295 := by simpa using hn
  exact ⟨x.toNat, by omega, by omega⟩
theorem i64_of {x : Int} (h : (Lit.int .i64 x).wf = true) : -9223372036854775808 ≤ x ∧ x ≤ 9223372036854775807 := by
  have hn := wf_int h
  simp only [IntKind.min, IntKind.max, IntKind.signed, IntKind.bits] at hn
  simpa using hn
theorem frame_cells {W : World} {c : List Value} (h1 : okCells W [.bool, .int .u32, .bool, .int .i64, .int .u8, .int .u8, .int .u8, .int .u8, .int .u8, .int .u8, .int .u8, .int .u8] c) : ∃ e n r l ds, c = frC e n r l ds ∧ ds.length = 8 ∧ n < 2 ^ 32 ∧ (∀ x ∈ ds, x < 256) ∧ -9223372036854775808 ≤ l ∧ l ≤ 9223372036854775807 := by
  simp only [okCells, okCell] at h1
  obtain ⟨_, _, rfl, ⟨e, rfl⟩, _, _, rfl, ⟨n, rfl, wn⟩, _, _, rfl, ⟨r, rfl⟩, _, _, rfl, ⟨l, rfl, wl⟩, h1⟩ := h1
  obtain ⟨_, _, rfl, ⟨x0, rfl, w0⟩, _, _, rfl, ⟨x1, rfl, w1⟩, _, _, rfl, ⟨x2, rfl, w2⟩, _, _, rfl, ⟨x3, rfl, w3⟩, _, _, rfl, ⟨x4, rfl, w4⟩, _, _, rfl, ⟨x5, rfl, w5⟩, _, _, rfl, ⟨x6, rfl, w6⟩, _, _, rfl, ⟨x7, rfl, w7⟩, rfl⟩ := h1
  obtain ⟨n, rfl, hn⟩ := u32_of wn
  obtain ⟨y0, rfl, v0⟩ := byte_of w0
  obtain ⟨y1, rfl, v1⟩ := byte_of w1
  obtain ⟨y2, rfl, v2⟩ := byte_of w2
  obtain ⟨y3, rfl, v3⟩ := byte_of w3
  obtain ⟨y4, rfl, v4⟩ := byte_of w4
  obtain ⟨y5, rfl, v5⟩ := byte_of w5
  obtain ⟨y6, rfl, v6⟩ := byte_of w6
  obtain ⟨y7, rfl, v7⟩ := byte_of w7
  refine ⟨e, n, r, l, [y0, y1, y2, y3, y4, y5, y6, y7], rfl, rfl, hn, ?_, i64_of wl⟩
  simp only [List.mem_cons, List.not_mem_nil, or_false, forall_eq_or_imp, forall_eq]
  exact ⟨v0, v1, v2, v3, v4, v5, v6, v7⟩
theorem frame_arg {W : World} {v : Value} (h : ArgR Try.prog W 41 v) : ∃ e n r l ds, v = frV e n r l ds ∧ ds.length = 8 ∧ n < 2 ^ 32 ∧ (∀ x ∈ ds, x < 256) ∧ -9223372036854775808 ≤ l ∧ l ≤ 9223372036854775807 := by
  obtain ⟨c, rfl, h1, -⟩ := arg_agg h flatFrame (by kernel_rfl)
  obtain ⟨e, n, r, l, ds, rfl, h2⟩ := frame_cells h1
  exact ⟨e, n, r, l, ds, rfl, h2⟩
end Go.Proofs.Ytgmocacalgiaiaa
