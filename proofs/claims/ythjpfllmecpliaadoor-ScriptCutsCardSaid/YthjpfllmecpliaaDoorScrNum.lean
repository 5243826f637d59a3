/- A word as a number (the package script): as a contract. -/
import Derived.Test.YthjpfllmecpliaaDoorTypes
import Derived.Test.YthjpfllmecpliaaDoorRow0
import Derived.Test.YthjpfllmecpliaaDoorAbC
import Derived.Test.YthjpfllmecpliaaDoorPure
import Derived.Test.YthjpfllmecpliaaDoorBoxes
import Derived.Test.YthjpfllmecpliaaDoorScrTxt
import Derived.Test.YthjpfllmecpliaaDoorGiven
import Derived.Test.YthjpfllmecpliaaDoorShelf
set_option linter.all false
set_option maxRecDepth 20000
namespace Go.Proofs.YthjpfllmecpliaaDoor
open Go Go.Ab
def nxBScrNum := And.intro @Ab.next_alloc (And.intro @Ab.next_upd (And.intro @List.length_cons.{0} (And.intro @List.length_nil.{0} (And.intro @ne_eq.{1} (And.intro not_true_eq_false not_false_eq_true)))))
def tyB0ScrNum := And.intro @Ty.t9 (And.intro @Tryd.underlying9 (And.intro @Ty.t5 (And.intro @Tryd.underlying5 (And.intro @Ty.t2 (And.intro @Tryd.underlying2 (And.intro @Ty.t3 (And.intro @Tryd.underlying3 (And.intro @Ty.t4 @Tryd.underlying4))))))))
def stBScrNum := And.intro @List.size_toArray.{0} (And.intro @List.length_cons.{0} (And.intro @List.length_nil.{0} (And.intro @List.set_cons_zero.{0} (And.intro @List.set_cons_succ.{0} (And.intro @List.getD_cons_zero.{0} (And.intro @List.getD_cons_succ.{0} (And.intro @List.getElem?_cons_succ.{0} (And.intro @List.getElem?_cons_zero.{0} (And.intro @List.map_cons.{0,0} (And.intro @List.map_nil.{0,0} (And.intro @Option.isNone_none.{0} (And.intro @Option.isNone_some.{0} (And.intro @Option.map_some.{0,0} (And.intro @Option.map_none.{0,0} (And.intro @List.cons_append.{0} (And.intro @List.nil_append.{0} (And.intro @List.append_nil.{0} (And.intro @Array.toList_append.{0} (And.intro @List.toList_toArray.{0} (And.intro @Int.cast_ofNat_Int (And.intro @Option.isSome_some.{0} (And.intro @List.getElem?_toArray.{0} (And.intro @List.map_toArray.{0,0} (@Nat.min_eq_left))))))))))))))))))))))))
def glBScrNum := And.intro @List.drop_zero.{0} (And.intro @List.drop_succ_cons.{0} (And.intro @List.take_succ_cons.{0} (And.intro @List.take_zero.{0} (@List.take_nil.{0}))))
variable {base : Nat} [Bok base] {s : St} {R : Value → St → Prop}
theorem body_indexB : ∃ fn c, Tryd.prog.funcs[71]? = some fn ∧ fn.body = some c ∧ fn.name ≠ "runtime.NumGoroutine" := by
  refine ⟨_, _, Tryd.func71, rfl, ?_⟩
  decide
theorem indexB_p {a : List UInt8} {c : Nat} (hR : R (.int .i64 (Lib.indexByte a c.toUInt8)) s) :
    WC Tryd.prog base 71 [.string (strB a), .int .u8 (c : Int)] s R := by
  refine ⟨_, _, given_ev body_indexB rfl rfl (fun w hw => ?_), hR⟩
  have := Tryd.strings_IndexByte (strB a) (c : Int) w
  intro cs
  obtain ⟨e, w', fr, ⟨h1, h2⟩, rest⟩ := this cs
  exact ⟨e, w', fr, ⟨h1, 0, h2⟩, rest⟩
def isDig (c : UInt8) : Bool := decide (48 ≤ c.toNat) && decide (c.toNat ≤ 57)
theorem index_dig (c : UInt8) : Lib.indexByte (hxD.take 10) c.toNat.toUInt8 = if isDig c = true then ((c.toNat - 48 : Nat) : Int) else -1 := by
  have : ∀ k : Fin 256, Lib.indexByte (hxD.take 10) k.val.toUInt8 = if isDig k.val.toUInt8 = true then ((k.val.toUInt8.toNat - 48 : Nat) : Int) else -1 := by decide
  have h := this ⟨c.toNat, c.toNat_lt⟩
  simp only at h
  have e : c.toNat.toUInt8 = c := by simp
  rw [e] at h ⊢
  exact h
def valL (w : List UInt8) : Nat := w.foldl (fun n c => n * 10 + (c.toNat - 48)) 0
theorem valL_snoc (w : List UInt8) (c : UInt8) : valL (w ++ [c]) = valL w * 10 + (c.toNat - 48) := by simp [valL]
theorem valL_le : ∀ (b a : List UInt8), valL a ≤ valL (a ++ b) := by
  intro b
  induction b with
  | nil => intro a; simp
  | cons c b ih =>
    intro a
    have h1 := ih (a ++ [c])
    rw [valL_snoc, List.append_assoc, List.singleton_append] at h1
    omega
theorem valL_take (w : List UInt8) (i : Nat) : valL (w.take i) ≤ valL w := by
  have := valL_le (w.drop i) (w.take i)
  rwa [List.take_append_drop] at this
theorem hxAt_dig {d : Nat} (h : d < 10) : isDig (hxAt d) = true ∧ (hxAt d).toNat - 48 = d := by
  have : ∀ i : Fin 10, isDig (hxAt i.val) = true ∧ (hxAt i.val).toNat - 48 = i.val := by decide
  exact this ⟨d, h⟩
theorem digL_dig : ∀ (n : Nat), ∀ c ∈ digL n, isDig c = true := by
  intro n
  induction n using Nat.strongRecOn with
  | ind n ih =>
    intro c hc
    by_cases h : n < 10
    · rw [digL_small h] at hc
      obtain rfl := List.mem_singleton.1 hc
      exact (hxAt_dig h).1
    · rw [digL_big h] at hc
      rcases List.mem_append.1 hc with hc | hc
      · exact ih (n / 10) (by omega) c hc
      · obtain rfl := List.mem_singleton.1 hc
        exact (hxAt_dig (by omega)).1
theorem valL_digL : ∀ (n : Nat), valL (digL n) = n := by
  intro n
  induction n using Nat.strongRecOn with
  | ind n ih =>
    by_cases h : n < 10
    · rw [digL_small h, ← List.nil_append [hxAt n], valL_snoc, (hxAt_dig h).2]; simp [valL]
    · rw [digL_big h, valL_snoc, ih (n / 10) (by omega), (hxAt_dig (by omega)).2]; omega
def isNum (w : List UInt8) : Bool := decide (valL w ≤ 2147483647) && decide (w = digL (valL w))
theorem isNum_dig {n : Nat} (h : n ≤ 2147483647) : isNum (digL n) = true := by
  unfold isNum; rw [valL_digL]; simp [h]
theorem isNum_on {w : List UInt8} (h : isNum w = true) : valL w ≤ 2147483647 ∧ w = digL (valL w) := by
  unfold isNum at h
  simpa only [Bool.and_eq_true, decide_eq_true_eq] using h
theorem num38_ok {w : List UInt8} (hw : w.length ≤ 1000000) (hR : ∀ n : Nat, n ≤ 2147483647 → (isNum w = true → n = valL w) → R (.tuple #[.int .i64 (n : Int), .bool (isNum w)]) s) :
    WC Tryd.prog base 85 [.string (strB w)] s R := by
  refine WC_open Tryd.func85 rfl ?_
  have hlen : ∀ ts, lenB Tryd.prog (9 :: ts) [.string (strB w)] = some (.int .i64 (w.length : Int)) := fun ts => lenStr Ty.str9 Ty.arr9
  simp (disch := first | omega | ((simp only [nxBScrNum]) <;> omega) | decide) only [↓stepPre, stepPost, ↓W_cond, ↓W_block, ↓reduceIte, Nat.reduceEqDiff, Nat.reduceLT, Nat.reduceLeDiff, ret0, stVar, isTup, Value.cells, Nat.le_refl, Nat.reduceAdd, Nat.reduceMul, Nat.reduceSub, env0, binV, intV, reduceCtorEq, pickV, nilCheckV, ptrV, unV, true_and, and_true, Nat.add_zero, Nat.zero_add, Rt, resultsV, allV, resV, Bool.not_true, Bool.not_false, calleeV, builtinV, eqV, fieldAddrV, ldVar, stN_own, stN_ownL, Int.fdiv_eq_ediv_of_nonneg, Int.reduceToNat, Int.reducePow, IntKind.bits, convV, ne_eq, not_false_eq_true, not_true_eq_false, Int.reduceNeg, Int.reduceAdd, Int.reduceSub, Int.reduceLT, Int.reduceLE, extractV, decide_true, decide_false, Int.reduceEq, mkFuncV, stBScrNum, beq_self_eq_true, tyB0ScrNum, getL_take, glBScrNum, hlen]
  refine W_loop_inv w.length (fun i e1 s1 => s1 = s ∧ e1 0 = .string (strB w) ∧ e1 4 = .int .i64 (valL (w.take i) : Int) ∧ e1 8 = .int .i64 (w.length : Int) ∧ e1 9 = .int .i64 (i : Int) ∧ valL (w.take i) ≤ 2147483647)
    (fun x e1 s1 => s1 = s ∧ ((x = .exit 0 ∧ e1 0 = .string (strB w) ∧ e1 4 = .int .i64 (valL w : Int) ∧ valL w ≤ 2147483647) ∨ (x = .ret ∧ e1 2 = .int .i64 0 ∧ e1 3 = .bool false ∧ isNum w = false))) ?_ ?_ ?_
  rotate_left
  · exact ⟨rfl, rfl, rfl, rfl, rfl, by simp [valL]⟩
  · rintro x e1 s1 ⟨rfl, ⟨rfl, h0, h4, hv⟩ | ⟨rfl, h2, h3, hb⟩⟩
    · simp (disch := first | omega | ((simp only [nxBScrNum]) <;> omega) | decide) only [↓stepPre, stepPost, ↓W_cond, ↓W_block, ↓reduceIte, Nat.reduceEqDiff, Nat.reduceLT, Nat.reduceLeDiff, ret0, stVar, isTup, Value.cells, Nat.le_refl, Nat.reduceAdd, Nat.reduceMul, Nat.reduceSub, env0, binV, intV, reduceCtorEq, pickV, nilCheckV, ptrV, unV, true_and, and_true, Nat.add_zero, Nat.zero_add, Rt, resultsV, allV, resV, Bool.not_true, Bool.not_false, calleeV, builtinV, eqV, fieldAddrV, ldVar, stN_own, stN_ownL, Int.fdiv_eq_ediv_of_nonneg, Int.reduceToNat, Int.reducePow, IntKind.bits, convV, ne_eq, not_false_eq_true, not_true_eq_false, Int.reduceNeg, Int.reduceAdd, Int.reduceSub, Int.reduceLT, Int.reduceLE, extractV, decide_true, decide_false, Int.reduceEq, mkFuncV, stBScrNum, beq_self_eq_true, tyB0ScrNum, getL_take, glBScrNum, h0, h4]
      refine digits_ok (by omega) ?_
      simp (disch := first | omega | ((simp only [nxBScrNum]) <;> omega) | decide) only [↓stepPre, stepPost, ↓W_cond, ↓W_block, ↓reduceIte, Nat.reduceEqDiff, Nat.reduceLT, Nat.reduceLeDiff, ret0, stVar, isTup, Value.cells, Nat.le_refl, Nat.reduceAdd, Nat.reduceMul, Nat.reduceSub, env0, binV, intV, reduceCtorEq, pickV, nilCheckV, ptrV, unV, true_and, and_true, Nat.add_zero, Nat.zero_add, Rt, resultsV, allV, resV, Bool.not_true, Bool.not_false, calleeV, builtinV, eqV, fieldAddrV, ldVar, stN_own, stN_ownL, Int.fdiv_eq_ediv_of_nonneg, Int.reduceToNat, Int.reducePow, IntKind.bits, convV, ne_eq, not_false_eq_true, not_true_eq_false, Int.reduceNeg, Int.reduceAdd, Int.reduceSub, Int.reduceLT, Int.reduceLE, extractV, decide_true, decide_false, Int.reduceEq, mkFuncV, stBScrNum, beq_self_eq_true, tyB0ScrNum, getL_take, glBScrNum, h0, h4, eqlStr, eqlStrV, Tryd.results85]
      have : isNum w = decide (w = digL (valL w)) := by unfold isNum; simp [hv]
      rw [← this]
      exact hR _ hv fun _ => rfl
    · simp (disch := first | omega | ((simp only [nxBScrNum]) <;> omega) | decide) only [↓stepPre, stepPost, ↓W_cond, ↓W_block, ↓reduceIte, Nat.reduceEqDiff, Nat.reduceLT, Nat.reduceLeDiff, ret0, stVar, isTup, Value.cells, Nat.le_refl, Nat.reduceAdd, Nat.reduceMul, Nat.reduceSub, env0, binV, intV, reduceCtorEq, pickV, nilCheckV, ptrV, unV, true_and, and_true, Nat.add_zero, Nat.zero_add, Rt, resultsV, allV, resV, Bool.not_true, Bool.not_false, calleeV, builtinV, eqV, fieldAddrV, ldVar, stN_own, stN_ownL, Int.fdiv_eq_ediv_of_nonneg, Int.reduceToNat, Int.reducePow, IntKind.bits, convV, ne_eq, not_false_eq_true, not_true_eq_false, Int.reduceNeg, Int.reduceAdd, Int.reduceSub, Int.reduceLT, Int.reduceLE, extractV, decide_true, decide_false, Int.reduceEq, mkFuncV, stBScrNum, beq_self_eq_true, tyB0ScrNum, getL_take, glBScrNum, h2, h3, Tryd.results85]
      have := hR 0 (by omega) (fun h => by rw [hb] at h; cases h)
      rw [hb] at this
      exact this
  rintro i e1 s1 hi ⟨rfl, h0, h4, h8, h9, hv⟩
  by_cases hil : i < w.length
  rotate_left
  · have g1 : ¬ (i : Int) < (w.length : Int) := by omega
    rw [List.take_of_length_le (by omega)] at h4 hv
    simp (disch := first | omega | ((simp only [nxBScrNum]) <;> omega) | decide) only [↓stepPre, stepPost, ↓W_cond, ↓W_block, ↓reduceIte, Nat.reduceEqDiff, Nat.reduceLT, Nat.reduceLeDiff, ret0, stVar, isTup, Value.cells, Nat.le_refl, Nat.reduceAdd, Nat.reduceMul, Nat.reduceSub, env0, binV, intV, reduceCtorEq, pickV, nilCheckV, ptrV, unV, true_and, and_true, Nat.add_zero, Nat.zero_add, Rt, resultsV, allV, resV, Bool.not_true, Bool.not_false, calleeV, builtinV, eqV, fieldAddrV, ldVar, stN_own, stN_ownL, Int.fdiv_eq_ediv_of_nonneg, Int.reduceToNat, Int.reducePow, IntKind.bits, convV, ne_eq, not_false_eq_true, not_true_eq_false, Int.reduceNeg, Int.reduceAdd, Int.reduceSub, Int.reduceLT, Int.reduceLE, extractV, decide_true, decide_false, Int.reduceEq, mkFuncV, stBScrNum, beq_self_eq_true, tyB0ScrNum, getL_take, glBScrNum, h0, h4, h8, h9, g1]
    exact .inl hv
  have g1 : (i : Int) < (w.length : Int) := by omega
  have hsl : ∀ {s : St}, sliceV Tryd.prog s 9 (.string ⟨#[48, 49, 50, 51, 52, 53, 54, 55, 56, 57, 97, 98, 99, 100, 101, 102]⟩) none (some (.int .i64 10)) none = some (.string (strB (hxD.take 10))) := fun {s} => slcStrHi (l := hxD) Ty.str9 (by omega) (by simp [hxD])
  have hix := idxStr (P := Tryd.prog) (l := w) (k := .i64) (i := (i : Int)) Ty.str9 (by omega) (by omega)
  rw [Int.toNat_natCast, List.getD_eq_getElem?_getD, List.getElem?_eq_getElem hil, Option.getD_some] at hix
  have htk : w.take (i + 1) = w.take i ++ [w[i]] := List.take_succ_eq_append_getElem hil
  have hval : valL (w.take (i + 1)) = valL (w.take i) * 10 + (w[i].toNat - 48) := by rw [htk, valL_snoc]
  have hle := valL_take w (i + 1)
  have hc := w[i].toNat_lt
  have hdg : isDig w[i] = true → 48 ≤ w[i].toNat ∧ w[i].toNat ≤ 57 := fun h => by unfold isDig at h; simpa using h
  have hbad : isDig w[i] = false → isNum w = false := fun h => by
    cases hn : isNum w with
    | false => rfl
    | true =>
      have := digL_dig (valL w) w[i] (by rw [← (isNum_on hn).2]; exact List.getElem_mem hil)
      rw [h] at this; cases this
  have hbig : 2147483647 < valL (w.take (i + 1)) → isNum w = false := fun h => by
    cases hn : isNum w with
    | false => rfl
    | true => have := (isNum_on hn).1; omega
  simp (disch := first | omega | ((simp only [nxBScrNum]) <;> omega) | decide) only [↓stepPre, stepPost, ↓W_cond, ↓W_block, ↓reduceIte, Nat.reduceEqDiff, Nat.reduceLT, Nat.reduceLeDiff, ret0, stVar, isTup, Value.cells, Nat.le_refl, Nat.reduceAdd, Nat.reduceMul, Nat.reduceSub, env0, binV, intV, reduceCtorEq, pickV, nilCheckV, ptrV, unV, true_and, and_true, Nat.add_zero, Nat.zero_add, Rt, resultsV, allV, resV, Bool.not_true, Bool.not_false, calleeV, builtinV, eqV, fieldAddrV, ldVar, stN_own, stN_ownL, Int.fdiv_eq_ediv_of_nonneg, Int.reduceToNat, Int.reducePow, IntKind.bits, convV, ne_eq, not_false_eq_true, not_true_eq_false, Int.reduceNeg, Int.reduceAdd, Int.reduceSub, Int.reduceLT, Int.reduceLE, extractV, decide_true, decide_false, Int.reduceEq, mkFuncV, stBScrNum, beq_self_eq_true, tyB0ScrNum, getL_take, glBScrNum, h0, h4, h8, h9, g1]
  refine W_draw (fun _ => false) (fun _ => false) (fun _ => false) (by kernel_rfl) (by kernel_rfl) ?_
  simp (disch := first | omega | ((simp only [nxBScrNum]) <;> omega) | decide) only [↓stepPre, stepPost, ↓W_cond, ↓W_block, ↓reduceIte, Nat.reduceEqDiff, Nat.reduceLT, Nat.reduceLeDiff, ret0, stVar, isTup, Value.cells, Nat.le_refl, Nat.reduceAdd, Nat.reduceMul, Nat.reduceSub, env0, binV, intV, reduceCtorEq, pickV, nilCheckV, ptrV, unV, true_and, and_true, Nat.add_zero, Nat.zero_add, Rt, resultsV, allV, resV, Bool.not_true, Bool.not_false, calleeV, builtinV, eqV, fieldAddrV, ldVar, stN_own, stN_ownL, Int.fdiv_eq_ediv_of_nonneg, Int.reduceToNat, Int.reducePow, IntKind.bits, convV, ne_eq, not_false_eq_true, not_true_eq_false, Int.reduceNeg, Int.reduceAdd, Int.reduceSub, Int.reduceLT, Int.reduceLE, extractV, decide_true, decide_false, Int.reduceEq, mkFuncV, stBScrNum, beq_self_eq_true, tyB0ScrNum, getL_take, glBScrNum, h0, h4, h8, h9, hsl, hix]
  refine indexB_p ?_
  rw [index_dig]
  cases hd : isDig w[i] with
  | false =>
    rw [if_neg (by decide)]
    have k1 : (-1 : Int) < 0 := by omega
    have := hbad hd
    simp (disch := first | omega | ((simp only [nxBScrNum]) <;> omega) | decide) only [↓stepPre, stepPost, ↓W_cond, ↓W_block, ↓reduceIte, Nat.reduceEqDiff, Nat.reduceLT, Nat.reduceLeDiff, ret0, stVar, isTup, Value.cells, Nat.le_refl, Nat.reduceAdd, Nat.reduceMul, Nat.reduceSub, env0, binV, intV, reduceCtorEq, pickV, nilCheckV, ptrV, unV, true_and, and_true, Nat.add_zero, Nat.zero_add, Rt, resultsV, allV, resV, Bool.not_true, Bool.not_false, calleeV, builtinV, eqV, fieldAddrV, ldVar, stN_own, stN_ownL, Int.fdiv_eq_ediv_of_nonneg, Int.reduceToNat, Int.reducePow, IntKind.bits, convV, ne_eq, not_false_eq_true, not_true_eq_false, Int.reduceNeg, Int.reduceAdd, Int.reduceSub, Int.reduceLT, Int.reduceLE, extractV, decide_true, decide_false, Int.reduceEq, mkFuncV, stBScrNum, beq_self_eq_true, tyB0ScrNum, getL_take, glBScrNum, Dok_same, h0, h4, h8, h9, k1]
    exact .inr this
  | true =>
    rw [if_pos rfl]
    have := hdg hd
    generalize hD : w[i].toNat - 48 = D at hval
    have hD9 : D ≤ 9 := by omega
    have k1 : ¬ (D : Int) < 0 := by omega
    by_cases k2 : 2147483647 < valL (w.take (i + 1))
    · have k3 : (valL (w.take i) : Int) * 10 + (D : Int) > 2147483647 := by omega
      have k3' : 2147483647 < (valL (w.take i) : Int) * 10 + (D : Int) := by omega
      have := hbig k2
      simp (disch := first | omega | ((simp only [nxBScrNum]) <;> omega) | decide) only [↓stepPre, stepPost, ↓W_cond, ↓W_block, ↓reduceIte, Nat.reduceEqDiff, Nat.reduceLT, Nat.reduceLeDiff, ret0, stVar, isTup, Value.cells, Nat.le_refl, Nat.reduceAdd, Nat.reduceMul, Nat.reduceSub, env0, binV, intV, reduceCtorEq, pickV, nilCheckV, ptrV, unV, true_and, and_true, Nat.add_zero, Nat.zero_add, Rt, resultsV, allV, resV, Bool.not_true, Bool.not_false, calleeV, builtinV, eqV, fieldAddrV, ldVar, stN_own, stN_ownL, Int.fdiv_eq_ediv_of_nonneg, Int.reduceToNat, Int.reducePow, IntKind.bits, convV, ne_eq, not_false_eq_true, not_true_eq_false, Int.reduceNeg, Int.reduceAdd, Int.reduceSub, Int.reduceLT, Int.reduceLE, extractV, decide_true, decide_false, Int.reduceEq, mkFuncV, stBScrNum, beq_self_eq_true, tyB0ScrNum, getL_take, glBScrNum, Dok_same, h0, h4, h8, h9, k1, k3, k3']
      exact .inr this
    · have k3 : ¬ (valL (w.take i) : Int) * 10 + (D : Int) > 2147483647 := by omega
      have k3' : ¬ 2147483647 < (valL (w.take i) : Int) * 10 + (D : Int) := by omega
      simp (disch := first | omega | ((simp only [nxBScrNum]) <;> omega) | decide) only [↓stepPre, stepPost, ↓W_cond, ↓W_block, ↓reduceIte, Nat.reduceEqDiff, Nat.reduceLT, Nat.reduceLeDiff, ret0, stVar, isTup, Value.cells, Nat.le_refl, Nat.reduceAdd, Nat.reduceMul, Nat.reduceSub, env0, binV, intV, reduceCtorEq, pickV, nilCheckV, ptrV, unV, true_and, and_true, Nat.add_zero, Nat.zero_add, Rt, resultsV, allV, resV, Bool.not_true, Bool.not_false, calleeV, builtinV, eqV, fieldAddrV, ldVar, stN_own, stN_ownL, Int.fdiv_eq_ediv_of_nonneg, Int.reduceToNat, Int.reducePow, IntKind.bits, convV, ne_eq, not_false_eq_true, not_true_eq_false, Int.reduceNeg, Int.reduceAdd, Int.reduceSub, Int.reduceLT, Int.reduceLE, extractV, decide_true, decide_false, Int.reduceEq, mkFuncV, stBScrNum, beq_self_eq_true, tyB0ScrNum, getL_take, glBScrNum, Dok_same, h0, h4, h8, h9, k1, k3, k3']
      exact ⟨hil, by rw [hval]; simp, by simp, by omega⟩
end Go.Proofs.YthjpfllmecpliaaDoor
