/- A stream's line, read (the package script): as a contract. -/
import Derived.Test.YthjpfllmecpliaaDoorTypes
import Derived.Test.YthjpfllmecpliaaDoorRow0
import Derived.Test.YthjpfllmecpliaaDoorAbC
import Derived.Test.YthjpfllmecpliaaDoorPure
import Derived.Test.YthjpfllmecpliaaDoorBoxes
import Derived.Test.YthjpfllmecpliaaDoorScrHead
import Derived.Test.YthjpfllmecpliaaDoorScrPlan
set_option linter.all false
set_option maxRecDepth 20000
namespace Go.Proofs.YthjpfllmecpliaaDoor
open Go Go.Ab
def nxBScrStream := And.intro @Ab.next_alloc (And.intro @Ab.next_upd (And.intro @List.length_cons.{0} (And.intro @List.length_nil.{0} (And.intro @ne_eq.{1} (And.intro not_true_eq_false not_false_eq_true)))))
def tyB0ScrStream := And.intro @Ty.t9 (And.intro @Tryd.underlying9 (And.intro @Ty.t52 (And.intro @Tryd.underlying52 (And.intro @Ty.t55 (And.intro @Tryd.underlying55 (And.intro @Ty.t53 (And.intro @Tryd.underlying53 (And.intro @Ty.t128 (And.intro @Tryd.underlying128 (And.intro @Ty.t118 (And.intro @Tryd.underlying118 (And.intro @Ty.t141 (And.intro @Tryd.underlying141 (And.intro @Ty.t144 (And.intro @Tryd.underlying144 (And.intro @Ty.t122 (And.intro @Tryd.underlying122 (And.intro @Ty.t124 (And.intro @Tryd.underlying124 (And.intro @Ty.t5 (And.intro @Tryd.underlying5 (And.intro @Ty.t2 (And.intro @Tryd.underlying2 (And.intro @Ty.t3 (And.intro @Tryd.underlying3 (And.intro @Ty.t4 @Tryd.underlying4))))))))))))))))))))))))))
def stBScrStream := And.intro @List.size_toArray.{0} (And.intro @List.length_cons.{0} (And.intro @List.length_nil.{0} (And.intro @List.set_cons_zero.{0} (And.intro @List.set_cons_succ.{0} (And.intro @List.getD_cons_zero.{0} (And.intro @List.getD_cons_succ.{0} (And.intro @List.getElem?_cons_succ.{0} (And.intro @List.getElem?_cons_zero.{0} (And.intro @List.map_cons.{0,0} (And.intro @List.map_nil.{0,0} (And.intro @Option.isNone_none.{0} (And.intro @Option.isNone_some.{0} (And.intro @Option.map_some.{0,0} (And.intro @Option.map_none.{0,0} (And.intro @List.cons_append.{0} (And.intro @List.nil_append.{0} (And.intro @List.append_nil.{0} (And.intro @Array.toList_append.{0} (And.intro @List.toList_toArray.{0} (And.intro @Int.cast_ofNat_Int (And.intro @Option.isSome_some.{0} (And.intro @List.getElem?_toArray.{0} (And.intro @List.map_toArray.{0,0} (@Nat.min_eq_left))))))))))))))))))))))))
def glBScrStream := And.intro @List.drop_zero.{0} (And.intro @List.drop_succ_cons.{0} (And.intro @List.take_succ_cons.{0} (And.intro @List.take_zero.{0} (@List.take_nil.{0}))))
variable {base : Nat} [Bok base] {s : St} {R : Value → St → Prop}
def placeF (w : List UInt8) : List (List UInt8) → Nat → Option Nat
  | [], _ => none
  | y :: r, i => if w = y then some i else placeF w r (i + 1)
def placeN (tab : List (List UInt8)) (w : List UInt8) : Nat := (placeF w tab 0).getD 0
theorem placeF_le (w : List UInt8) : ∀ (tab : List (List UInt8)) (i k : Nat), placeF w tab i = some k → k < i + tab.length := by
  intro tab
  induction tab with
  | nil => intro i k h; cases h
  | cons y r ih =>
    intro i k h
    unfold placeF at h
    split at h
    · cases h; simp
    · have := ih _ _ h; simp only [List.length_cons]; omega
theorem placeN_le (tab : List (List UInt8)) (w : List UInt8) (h : tab ≠ []) : placeN tab w < tab.length := by
  unfold placeN
  cases hp : placeF w tab 0 with
  | none => exact List.length_pos_iff.2 h
  | some k => have := placeF_le w tab 0 k hp; simpa using this
theorem place38_ok {v : Value} {tab : List (List UInt8)} {w : List UInt8} (hs : Sl base s 1 v (strL tab)) (hn : tab.length ≤ 1000000) (hR : R (.int .i64 (placeN tab w : Int)) s) :
    WC Tryd.prog base 69 [v, .string (strB w)] s R := by
  refine WC_open Tryd.func69 rfl ?_
  simp (disch := first | omega | ((simp only [nxBScrStream]) <;> omega) | decide) only [↓stepPre, stepPost, ↓W_cond, ↓W_block, ↓reduceIte, Nat.reduceEqDiff, Nat.reduceLT, Nat.reduceLeDiff, ret0, stVar, isTup, Value.cells, Nat.le_refl, Nat.reduceAdd, Nat.reduceMul, Nat.reduceSub, env0, binV, intV, reduceCtorEq, pickV, nilCheckV, ptrV, unV, true_and, and_true, Nat.add_zero, Nat.zero_add, Rt, resultsV, allV, resV, Bool.not_true, Bool.not_false, calleeV, builtinV, eqV, fieldAddrV, ldVar, stN_own, stN_ownL, Int.fdiv_eq_ediv_of_nonneg, Int.reduceToNat, Int.reducePow, IntKind.bits, convV, ne_eq, not_false_eq_true, not_true_eq_false, Int.reduceNeg, Int.reduceAdd, Int.reduceSub, Int.reduceLT, Int.reduceLE, extractV, decide_true, decide_false, Int.reduceEq, mkFuncV, stBScrStream, beq_self_eq_true, tyB0ScrStream, getL_take, glBScrStream]
  refine WC_open Tryd.func86 rfl ?_
  have hlen := hs.len (P := Tryd.prog) (ts := []) Ty.elem52 Ty.arr52
  rw [strL_len] at hlen
  have hmx : ∀ k : Int, maxB [.int .i64 k, .int .i64 0] = some (.int .i64 (max k 0)) := fun k => by
    simp only [maxB, foldV, maxV]
    split <;> congr <;> omega
  simp (disch := first | omega | ((simp only [nxBScrStream]) <;> omega) | decide) only [↓stepPre, stepPost, ↓W_cond, ↓W_block, ↓reduceIte, Nat.reduceEqDiff, Nat.reduceLT, Nat.reduceLeDiff, ret0, stVar, isTup, Value.cells, Nat.le_refl, Nat.reduceAdd, Nat.reduceMul, Nat.reduceSub, env0, binV, intV, reduceCtorEq, pickV, nilCheckV, ptrV, unV, true_and, and_true, Nat.add_zero, Nat.zero_add, Rt, resultsV, allV, resV, Bool.not_true, Bool.not_false, calleeV, builtinV, eqV, fieldAddrV, ldVar, stN_own, stN_ownL, Int.fdiv_eq_ediv_of_nonneg, Int.reduceToNat, Int.reducePow, IntKind.bits, convV, ne_eq, not_false_eq_true, not_true_eq_false, Int.reduceNeg, Int.reduceAdd, Int.reduceSub, Int.reduceLT, Int.reduceLE, extractV, decide_true, decide_false, Int.reduceEq, mkFuncV, stBScrStream, beq_self_eq_true, tyB0ScrStream, getL_take, glBScrStream, hlen]
  refine W_loop_inv tab.length (fun i e1 t => t = s ∧ e1 0 = v ∧ e1 1 = .string (strB w) ∧ e1 7 = .int .i64 (tab.length : Int) ∧ e1 8 = .int .i64 (i : Int) ∧ placeF w tab 0 = placeF w (tab.drop i) i)
    (fun x e1 t => t = s ∧ ((x = .exit 0 ∧ placeF w tab 0 = none) ∨ (x = .ret ∧ ∃ i : Nat, e1 4 = .int .i64 (i : Int) ∧ placeF w tab 0 = some i))) ?_ ?_ ?_
  rotate_left
  · exact ⟨rfl, rfl, rfl, rfl, rfl, rfl⟩
  · rintro x e1 t ⟨rfl, ⟨rfl, hp⟩ | ⟨rfl, i, h4, hp⟩⟩
    · simp (disch := first | omega | ((simp only [nxBScrStream]) <;> omega) | decide) only [↓stepPre, stepPost, ↓W_cond, ↓W_block, ↓reduceIte, Nat.reduceEqDiff, Nat.reduceLT, Nat.reduceLeDiff, ret0, stVar, isTup, Value.cells, Nat.le_refl, Nat.reduceAdd, Nat.reduceMul, Nat.reduceSub, env0, binV, intV, reduceCtorEq, pickV, nilCheckV, ptrV, unV, true_and, and_true, Nat.add_zero, Nat.zero_add, Rt, resultsV, allV, resV, Bool.not_true, Bool.not_false, calleeV, builtinV, eqV, fieldAddrV, ldVar, stN_own, stN_ownL, Int.fdiv_eq_ediv_of_nonneg, Int.reduceToNat, Int.reducePow, IntKind.bits, convV, ne_eq, not_false_eq_true, not_true_eq_false, Int.reduceNeg, Int.reduceAdd, Int.reduceSub, Int.reduceLT, Int.reduceLE, extractV, decide_true, decide_false, Int.reduceEq, mkFuncV, stBScrStream, beq_self_eq_true, tyB0ScrStream, getL_take, glBScrStream, hmx, Tryd.results86, Tryd.results69]
      have : placeN tab w = 0 := by unfold placeN; rw [hp]; rfl
      rw [this] at hR; exact hR
    · simp (disch := first | omega | ((simp only [nxBScrStream]) <;> omega) | decide) only [↓stepPre, stepPost, ↓W_cond, ↓W_block, ↓reduceIte, Nat.reduceEqDiff, Nat.reduceLT, Nat.reduceLeDiff, ret0, stVar, isTup, Value.cells, Nat.le_refl, Nat.reduceAdd, Nat.reduceMul, Nat.reduceSub, env0, binV, intV, reduceCtorEq, pickV, nilCheckV, ptrV, unV, true_and, and_true, Nat.add_zero, Nat.zero_add, Rt, resultsV, allV, resV, Bool.not_true, Bool.not_false, calleeV, builtinV, eqV, fieldAddrV, ldVar, stN_own, stN_ownL, Int.fdiv_eq_ediv_of_nonneg, Int.reduceToNat, Int.reducePow, IntKind.bits, convV, ne_eq, not_false_eq_true, not_true_eq_false, Int.reduceNeg, Int.reduceAdd, Int.reduceSub, Int.reduceLT, Int.reduceLE, extractV, decide_true, decide_false, Int.reduceEq, mkFuncV, stBScrStream, beq_self_eq_true, tyB0ScrStream, getL_take, glBScrStream, h4, hmx, Tryd.results86, Tryd.results69]
      have : placeN tab w = i := by unfold placeN; rw [hp]; rfl
      rw [this] at hR
      have e : max (i : Int) 0 = i := by omega
      rw [e]; exact hR
  rintro i e1 t hi ⟨rfl, q0, q1, q7, q8, hp⟩
  by_cases hil : i < tab.length
  rotate_left
  · have g1 : ¬ (i : Int) < (tab.length : Int) := by omega
    rw [List.drop_of_length_le (by omega)] at hp
    simp (disch := first | omega | ((simp only [nxBScrStream]) <;> omega) | decide) only [↓stepPre, stepPost, ↓W_cond, ↓W_block, ↓reduceIte, Nat.reduceEqDiff, Nat.reduceLT, Nat.reduceLeDiff, ret0, stVar, isTup, Value.cells, Nat.le_refl, Nat.reduceAdd, Nat.reduceMul, Nat.reduceSub, env0, binV, intV, reduceCtorEq, pickV, nilCheckV, ptrV, unV, true_and, and_true, Nat.add_zero, Nat.zero_add, Rt, resultsV, allV, resV, Bool.not_true, Bool.not_false, calleeV, builtinV, eqV, fieldAddrV, ldVar, stN_own, stN_ownL, Int.fdiv_eq_ediv_of_nonneg, Int.reduceToNat, Int.reducePow, IntKind.bits, convV, ne_eq, not_false_eq_true, not_true_eq_false, Int.reduceNeg, Int.reduceAdd, Int.reduceSub, Int.reduceLT, Int.reduceLE, extractV, decide_true, decide_false, Int.reduceEq, mkFuncV, stBScrStream, beq_self_eq_true, tyB0ScrStream, getL_take, glBScrStream, q0, q1, q7, q8, g1]
    exact .inl hp
  have g1 : (i : Int) < (tab.length : Int) := by omega
  have hix := hs.index (P := Tryd.prog) (k := .i64) (i := (i : Int)) Ty.elem52 Ty.siz9 (by omega) (by rw [strL_len]; omega)
  rw [Int.toNat_natCast] at hix
  have hld := hs.load1 (P := Tryd.prog) (strL_at hil) Ty.agg9 Ty.siz9
  rw [List.drop_eq_getElem_cons hil, placeF] at hp
  generalize tab[i] = y at hld hp
  by_cases hw : w = y
  · subst hw
    rw [if_pos rfl] at hp
    simp (disch := first | omega | ((simp only [nxBScrStream]) <;> omega) | decide) only [↓stepPre, stepPost, ↓W_cond, ↓W_block, ↓reduceIte, Nat.reduceEqDiff, Nat.reduceLT, Nat.reduceLeDiff, ret0, stVar, isTup, Value.cells, Nat.le_refl, Nat.reduceAdd, Nat.reduceMul, Nat.reduceSub, env0, binV, intV, reduceCtorEq, pickV, nilCheckV, ptrV, unV, true_and, and_true, Nat.add_zero, Nat.zero_add, Rt, resultsV, allV, resV, Bool.not_true, Bool.not_false, calleeV, builtinV, eqV, fieldAddrV, ldVar, stN_own, stN_ownL, Int.fdiv_eq_ediv_of_nonneg, Int.reduceToNat, Int.reducePow, IntKind.bits, convV, ne_eq, not_false_eq_true, not_true_eq_false, Int.reduceNeg, Int.reduceAdd, Int.reduceSub, Int.reduceLT, Int.reduceLE, extractV, decide_true, decide_false, Int.reduceEq, mkFuncV, stBScrStream, beq_self_eq_true, tyB0ScrStream, getL_take, glBScrStream, q0, q1, q7, q8, g1, hix, hld, eqlStrV, eq_self]
    exact .inr ⟨i, rfl, hp⟩
  · rw [if_neg hw] at hp
    simp (disch := first | omega | ((simp only [nxBScrStream]) <;> omega) | decide) only [↓stepPre, stepPost, ↓W_cond, ↓W_block, ↓reduceIte, Nat.reduceEqDiff, Nat.reduceLT, Nat.reduceLeDiff, ret0, stVar, isTup, Value.cells, Nat.le_refl, Nat.reduceAdd, Nat.reduceMul, Nat.reduceSub, env0, binV, intV, reduceCtorEq, pickV, nilCheckV, ptrV, unV, true_and, and_true, Nat.add_zero, Nat.zero_add, Rt, resultsV, allV, resV, Bool.not_true, Bool.not_false, calleeV, builtinV, eqV, fieldAddrV, ldVar, stN_own, stN_ownL, Int.fdiv_eq_ediv_of_nonneg, Int.reduceToNat, Int.reducePow, IntKind.bits, convV, ne_eq, not_false_eq_true, not_true_eq_false, Int.reduceNeg, Int.reduceAdd, Int.reduceSub, Int.reduceLT, Int.reduceLE, extractV, decide_true, decide_false, Int.reduceEq, mkFuncV, stBScrStream, beq_self_eq_true, tyB0ScrStream, getL_take, glBScrStream, q0, q1, q7, q8, g1, hix, hld, eqlStrV, hw]
    exact ⟨hil, by simp, hp⟩
/-- A stream's line, and what it says. -/
def streamB (x : List UInt8) : Bool :=
  let t := (partW 32 x).tail
  let t3 := (t.drop 2).tail
  !(decide (¬ (partW 32 x).headD [] = streamW) || !okW t 2 || (t.drop 2).isEmpty || !okW t3 2 || !okW (t3.drop 2) 2) && ((t3.drop 2).drop 2).isEmpty && decide (0 < placeN classesL ((t.drop 2).headD []))
def streamV (x : List UInt8) : Sm :=
  let t := (partW 32 x).tail
  let t3 := (t.drop 2).tail
  ⟨valL (t.getD 0 []), valL (t.getD 1 []), placeN classesL ((t.drop 2).headD []), valL (t3.getD 0 []), valL (t3.getD 1 []), valL ((t3.drop 2).getD 0 []), valL ((t3.drop 2).getD 1 [])⟩
theorem two_ns {ns : List Nat} (h : ns.length = 2) : ∃ a b, ns = [a, b] := by
  match ns, h with
  | [a, b], _ => exact ⟨a, b, rfl⟩
theorem two_val {ws : List (List UInt8)} {a b : Nat} (hk : okW ws 2 = true) (h : [a, b] = (ws.take 2).map valL) : a = valL (ws.getD 0 []) ∧ b = valL (ws.getD 1 []) := by
  unfold okW at hk
  simp only [Bool.and_eq_true, decide_eq_true_eq] at hk
  match ws, hk.1 with
  | x :: y :: r, _ => simpa using h
theorem streamOf_ok {x : List UInt8} (hx : x.length ≤ 1000000) (hL : LaidOk base s) (hbn : base ≤ s.next)
    (hR : ∀ s' (X : Sm), Mild s s' → (streamB x = true → X = streamV x) → R (.tuple #[.agg X.c.toArray, .bool (streamB x)]) s') :
    WC Tryd.prog base 46 [.string (strB x)] s R := by
  refine WC_open Tryd.func46 rfl ?_
  have h5 := Bok.le5 (base := base)
  simp (disch := first | omega | ((simp only [nxBScrStream]) <;> omega) | decide) only [↓stepPre, stepPost, ↓W_cond, ↓W_block, ↓reduceIte, Nat.reduceEqDiff, Nat.reduceLT, Nat.reduceLeDiff, ret0, stVar, isTup, Value.cells, Nat.le_refl, Nat.reduceAdd, Nat.reduceMul, Nat.reduceSub, env0, binV, intV, reduceCtorEq, pickV, nilCheckV, ptrV, unV, true_and, and_true, Nat.add_zero, Nat.zero_add, Rt, resultsV, allV, resV, Bool.not_true, Bool.not_false, calleeV, builtinV, eqV, fieldAddrV, ldVar, stN_own, stN_ownL, Int.fdiv_eq_ediv_of_nonneg, Int.reduceToNat, Int.reducePow, IntKind.bits, convV, ne_eq, not_false_eq_true, not_true_eq_false, Int.reduceNeg, Int.reduceAdd, Int.reduceSub, Int.reduceLT, Int.reduceLE, extractV, decide_true, decide_false, Int.reduceEq, mkFuncV, stBScrStream, beq_self_eq_true, tyB0ScrStream, getL_take, glBScrStream]
  have M_s2 : Mild s ((s.alloc (.row [.int .i64 0, .int .i64 0, .int .i64 0, .int .i64 0, .int .i64 0, .int .i64 0, .int .i64 0])).alloc (.row [.int .i64 0, .int .i64 0, .int .i64 0, .int .i64 0, .int .i64 0, .int .i64 0, .int .i64 0])) := (Mild.alloc s _).alloc'
  have z_s2 : ((s.alloc (.row [.int .i64 0, .int .i64 0, .int .i64 0, .int .i64 0, .int .i64 0, .int .i64 0, .int .i64 0])).alloc (.row [.int .i64 0, .int .i64 0, .int .i64 0, .int .i64 0, .int .i64 0, .int .i64 0, .int .i64 0])).heap s.next = .row [.int .i64 0, .int .i64 0, .int .i64 0, .int .i64 0, .int .i64 0, .int .i64 0, .int .i64 0] := (Ab.heap_alloc_ne _ _ (by simp only [Ab.next_alloc]; omega)).trans (Ab.heap_alloc_new _ _)
  have q_s2 : ((s.alloc (.row [.int .i64 0, .int .i64 0, .int .i64 0, .int .i64 0, .int .i64 0, .int .i64 0, .int .i64 0])).alloc (.row [.int .i64 0, .int .i64 0, .int .i64 0, .int .i64 0, .int .i64 0, .int .i64 0, .int .i64 0])).heap (s.next + 1) = .row [.int .i64 0, .int .i64 0, .int .i64 0, .int .i64 0, .int .i64 0, .int .i64 0, .int .i64 0] := Ab.heap_alloc_new (s.alloc (.row [.int .i64 0, .int .i64 0, .int .i64 0, .int .i64 0, .int .i64 0, .int .i64 0, .int .i64 0])) (.row [.int .i64 0, .int .i64 0, .int .i64 0, .int .i64 0, .int .i64 0, .int .i64 0, .int .i64 0])
  have n_s2 : ((s.alloc (.row [.int .i64 0, .int .i64 0, .int .i64 0, .int .i64 0, .int .i64 0, .int .i64 0, .int .i64 0])).alloc (.row [.int .i64 0, .int .i64 0, .int .i64 0, .int .i64 0, .int .i64 0, .int .i64 0, .int .i64 0])).next = s.next + 2 := rfl
  generalize (s.alloc (.row [.int .i64 0, .int .i64 0, .int .i64 0, .int .i64 0, .int .i64 0, .int .i64 0, .int .i64 0])).alloc (.row [.int .i64 0, .int .i64 0, .int .i64 0, .int .i64 0, .int .i64 0, .int .i64 0, .int .i64 0]) = s2 at M_s2 z_s2 q_s2 n_s2 ⊢
  refine open38_ok (word := streamW) hx (by omega) fun s3 b m3 r_s3 => ?_
  have n3 := m3.next
  have M_s3 := M_s2.trans m3
  have z_s3 := (m3.heap s.next (by omega)).trans z_s2
  have q_s3 := (m3.heap (s.next + 1) (by omega)).trans q_s2
  have hb2 : s2.next ≤ b ∧ b < s3.next := by obtain ⟨v, y1, y2, y3, y4, y5, y6⟩ := r_s3; exact ⟨y4, y5⟩
  simp (disch := first | omega | ((simp only [nxBScrStream]) <;> omega) | decide) only [↓stepPre, stepPost, ↓W_cond, ↓W_block, ↓reduceIte, Nat.reduceEqDiff, Nat.reduceLT, Nat.reduceLeDiff, ret0, stVar, isTup, Value.cells, Nat.le_refl, Nat.reduceAdd, Nat.reduceMul, Nat.reduceSub, env0, binV, intV, reduceCtorEq, pickV, nilCheckV, ptrV, unV, true_and, and_true, Nat.add_zero, Nat.zero_add, Rt, resultsV, allV, resV, Bool.not_true, Bool.not_false, calleeV, builtinV, eqV, fieldAddrV, ldVar, stN_own, stN_ownL, Int.fdiv_eq_ediv_of_nonneg, Int.reduceToNat, Int.reducePow, IntKind.bits, convV, ne_eq, not_false_eq_true, not_true_eq_false, Int.reduceNeg, Int.reduceAdd, Int.reduceSub, Int.reduceLT, Int.reduceLE, extractV, decide_true, decide_false, Int.reduceEq, mkFuncV, stBScrStream, beq_self_eq_true, tyB0ScrStream, getL_take, glBScrStream, build2p]
  have r_s4 := r_s3.keep (fun j h1 h2 => Ab.heap_alloc_ne s3 (.row [.pointer (some ⟨s.next + 1, 0, none⟩), .pointer (some ⟨s.next + 1, 1, none⟩)]) (by omega)) (by simp only [Ab.next_alloc]; omega)
  have q_s4 := (Ab.heap_alloc_ne s3 (.row [.pointer (some ⟨s.next + 1, 0, none⟩), .pointer (some ⟨s.next + 1, 1, none⟩)]) (b := s.next + 1) (by omega)).trans q_s3
  have z_s4 := (Ab.heap_alloc_ne s3 (.row [.pointer (some ⟨s.next + 1, 0, none⟩), .pointer (some ⟨s.next + 1, 1, none⟩)]) (b := s.next) (by omega)).trans z_s3
  have M_s4 := M_s3.alloc' (o := .row [.pointer (some ⟨s.next + 1, 0, none⟩), .pointer (some ⟨s.next + 1, 1, none⟩)])
  have p_s4 : Sl base (s3.alloc (.row [.pointer (some ⟨s.next + 1, 0, none⟩), .pointer (some ⟨s.next + 1, 1, none⟩)])) 1 (.slice (some ⟨s3.next, 0, none⟩) 2 2) (ptrL (s.next + 1) [0, 1]) := .newRow (Ab.heap_alloc_new _ _) rfl rfl (by simp [ptrL]) (by omega) (by simp only [Ab.next_alloc]; omega)
  have n_s4 := Ab.next_alloc s3 (.row [.pointer (some ⟨s.next + 1, 0, none⟩), .pointer (some ⟨s.next + 1, 1, none⟩)])
  generalize s3.alloc (.row [.pointer (some ⟨s.next + 1, 0, none⟩), .pointer (some ⟨s.next + 1, 1, none⟩)]) = s4 at r_s4 q_s4 z_s4 M_s4 p_s4 n_s4 ⊢
  refine read38_ok (offs := [0, 1]) r_s4 (by omega) (by omega) (.inl (by omega)) q_s4 (by simp) (by simp) p_s4 (fun j hj => by simp only [inB] at hj; omega) fun t1 ns n1 f1 r_t1 h1 l1 b1 v1 => ?_
  obtain ⟨a0, a1, rfl⟩ := two_ns l1
  have M_t1 : Mild s t1 := ⟨by have := M_s4.next; omega, fun k hk => by rw [f1 k (by omega) (by omega)]; exact M_s4.heap k hk⟩
  have z_t1 := (f1 s.next (by omega) (by omega)).trans z_s4
  have q_t1 : t1.heap (s.next + 1) = .row [.int .i64 (a0 : Int), .int .i64 (a1 : Int), .int .i64 0, .int .i64 0, .int .i64 0, .int .i64 0, .int .i64 0] := h1
  obtain ⟨cv, c1, c2, c3⟩ := (hL.mild M_t1 hbn).classes
  simp (disch := first | omega | ((simp only [nxBScrStream]) <;> omega) | decide) only [↓stepPre, stepPost, ↓W_cond, ↓W_block, ↓reduceIte, Nat.reduceEqDiff, Nat.reduceLT, Nat.reduceLeDiff, ret0, stVar, isTup, Value.cells, Nat.le_refl, Nat.reduceAdd, Nat.reduceMul, Nat.reduceSub, env0, binV, intV, reduceCtorEq, pickV, nilCheckV, ptrV, unV, true_and, and_true, Nat.add_zero, Nat.zero_add, Rt, resultsV, allV, resV, Bool.not_true, Bool.not_false, calleeV, builtinV, eqV, fieldAddrV, ldVar, stN_own, stN_ownL, Int.fdiv_eq_ediv_of_nonneg, Int.reduceToNat, Int.reducePow, IntKind.bits, convV, ne_eq, not_false_eq_true, not_true_eq_false, Int.reduceNeg, Int.reduceAdd, Int.reduceSub, Int.reduceLT, Int.reduceLE, extractV, decide_true, decide_false, Int.reduceEq, mkFuncV, stBScrStream, beq_self_eq_true, tyB0ScrStream, getL_take, glBScrStream]
  refine W_draw (fun k => k == 2 || k == 5) (fun k => k == 0) (fun k => k == 1) (by kernel_rfl) (by kernel_rfl) ?_
  simp (disch := first | omega | ((simp only [nxBScrStream]) <;> omega) | decide) only [↓stepPre, stepPost, ↓W_cond, ↓W_block, ↓reduceIte, Nat.reduceEqDiff, Nat.reduceLT, Nat.reduceLeDiff, ret0, stVar, isTup, Value.cells, Nat.le_refl, Nat.reduceAdd, Nat.reduceMul, Nat.reduceSub, env0, binV, intV, reduceCtorEq, pickV, nilCheckV, ptrV, unV, true_and, and_true, Nat.add_zero, Nat.zero_add, Rt, resultsV, allV, resV, Bool.not_true, Bool.not_false, calleeV, builtinV, eqV, fieldAddrV, ldVar, stN_own, stN_ownL, Int.fdiv_eq_ediv_of_nonneg, Int.reduceToNat, Int.reducePow, IntKind.bits, convV, ne_eq, not_false_eq_true, not_true_eq_false, Int.reduceNeg, Int.reduceAdd, Int.reduceSub, Int.reduceLT, Int.reduceLE, extractV, decide_true, decide_false, Int.reduceEq, mkFuncV, stBScrStream, beq_self_eq_true, tyB0ScrStream, getL_take, glBScrStream, ev_global, ld_var c1 c3]
  refine ⟨fun _ => ⟨rfl, by show 1 < t1.next; omega⟩, ?_⟩
  refine next38_ok r_t1 fun t2 n2 f2 r_t2 => ?_
  refine ⟨.inr ⟨rfl, by omega, fun j hj _ => f2 j (by have : j = 1 := (by simpa using hj); omega)⟩, ?_⟩
  simp (disch := first | omega | ((simp only [nxBScrStream]) <;> omega) | decide) only [↓stepPre, stepPost, ↓W_cond, ↓W_block, ↓reduceIte, Nat.reduceEqDiff, Nat.reduceLT, Nat.reduceLeDiff, ret0, stVar, isTup, Value.cells, Nat.le_refl, Nat.reduceAdd, Nat.reduceMul, Nat.reduceSub, env0, binV, intV, reduceCtorEq, pickV, nilCheckV, ptrV, unV, true_and, and_true, Nat.add_zero, Nat.zero_add, Rt, resultsV, allV, resV, Bool.not_true, Bool.not_false, calleeV, builtinV, eqV, fieldAddrV, ldVar, stN_own, stN_ownL, Int.fdiv_eq_ediv_of_nonneg, Int.reduceToNat, Int.reducePow, IntKind.bits, convV, ne_eq, not_false_eq_true, not_true_eq_false, Int.reduceNeg, Int.reduceAdd, Int.reduceSub, Int.reduceLT, Int.reduceLE, extractV, decide_true, decide_false, Int.reduceEq, mkFuncV, stBScrStream, beq_self_eq_true, tyB0ScrStream, getL_take, glBScrStream]
  have M_t2 : Mild s t2 := ⟨by have := M_t1.next; omega, fun k hk => by rw [f2 k (by omega)]; exact M_t1.heap k hk⟩
  have z_t2 := (f2 s.next (by omega)).trans z_t1
  have q_t2 := (f2 (s.next + 1) (by omega)).trans q_t1
  have hcv : Sl base t2 1 cv (strL classesL) := by
    refine c2.frame (fun a n c e => ?_) (by omega)
    subst e
    have : a.block < base := by simpa [oldOk, oldA] using c3
    exact f2 _ (by omega)
  refine place38_ok hcv (by decide) ?_
  simp (disch := first | omega | ((simp only [nxBScrStream]) <;> omega) | decide) only [↓stepPre, stepPost, ↓W_cond, ↓W_block, ↓reduceIte, Nat.reduceEqDiff, Nat.reduceLT, Nat.reduceLeDiff, ret0, stVar, isTup, Value.cells, Nat.le_refl, Nat.reduceAdd, Nat.reduceMul, Nat.reduceSub, env0, binV, intV, reduceCtorEq, pickV, nilCheckV, ptrV, unV, true_and, and_true, Nat.add_zero, Nat.zero_add, Rt, resultsV, allV, resV, Bool.not_true, Bool.not_false, calleeV, builtinV, eqV, fieldAddrV, ldVar, stN_own, stN_ownL, Int.fdiv_eq_ediv_of_nonneg, Int.reduceToNat, Int.reducePow, IntKind.bits, convV, ne_eq, not_false_eq_true, not_true_eq_false, Int.reduceNeg, Int.reduceAdd, Int.reduceSub, Int.reduceLT, Int.reduceLE, extractV, decide_true, decide_false, Int.reduceEq, mkFuncV, stBScrStream, beq_self_eq_true, tyB0ScrStream, getL_take, glBScrStream, Dok_same, q_t2]
  refine ⟨.inr ⟨rfl, Nat.le_refl _, fun j hj hjn => Ab.heap_upd_ne _ _ (by have : j = 1 := (by simpa using hj); omega)⟩, ?_⟩
  have M_t3 : Mild s (t2.upd (s.next + 1) (.row [.int .i64 (a0 : Int), .int .i64 (a1 : Int), .int .i64 (placeN classesL (((partW 32 x).tail.drop 2).headD []) : Int), .int .i64 0, .int .i64 0, .int .i64 0, .int .i64 0])) := M_t2.upd' (by omega)
  have z_t3 : (t2.upd (s.next + 1) (.row [.int .i64 (a0 : Int), .int .i64 (a1 : Int), .int .i64 (placeN classesL (((partW 32 x).tail.drop 2).headD []) : Int), .int .i64 0, .int .i64 0, .int .i64 0, .int .i64 0])).heap s.next = .row [.int .i64 0, .int .i64 0, .int .i64 0, .int .i64 0, .int .i64 0, .int .i64 0, .int .i64 0] := (Ab.heap_upd_ne _ _ (by omega)).trans z_t2
  have q_t3 := Ab.heap_upd_same t2 (s.next + 1) (.row [.int .i64 (a0 : Int), .int .i64 (a1 : Int), .int .i64 (placeN classesL (((partW 32 x).tail.drop 2).headD []) : Int), .int .i64 0, .int .i64 0, .int .i64 0, .int .i64 0])
  have r_t3 := r_t2.keep (s' := t2.upd (s.next + 1) (.row [.int .i64 (a0 : Int), .int .i64 (a1 : Int), .int .i64 (placeN classesL (((partW 32 x).tail.drop 2).headD []) : Int), .int .i64 0, .int .i64 0, .int .i64 0, .int .i64 0])) (fun j h1 h2 => Ab.heap_upd_ne _ _ (by omega)) (Nat.le_refl _)
  have n_t3 : (t2.upd (s.next + 1) (.row [.int .i64 (a0 : Int), .int .i64 (a1 : Int), .int .i64 (placeN classesL (((partW 32 x).tail.drop 2).headD []) : Int), .int .i64 0, .int .i64 0, .int .i64 0, .int .i64 0])).next = t2.next := rfl
  generalize t2.upd (s.next + 1) (.row [.int .i64 (a0 : Int), .int .i64 (a1 : Int), .int .i64 (placeN classesL (((partW 32 x).tail.drop 2).headD []) : Int), .int .i64 0, .int .i64 0, .int .i64 0, .int .i64 0]) = t3 at M_t3 z_t3 q_t3 r_t3 n_t3 ⊢
  simp (disch := first | omega | ((simp only [nxBScrStream]) <;> omega) | decide) only [↓stepPre, stepPost, ↓W_cond, ↓W_block, ↓reduceIte, Nat.reduceEqDiff, Nat.reduceLT, Nat.reduceLeDiff, ret0, stVar, isTup, Value.cells, Nat.le_refl, Nat.reduceAdd, Nat.reduceMul, Nat.reduceSub, env0, binV, intV, reduceCtorEq, pickV, nilCheckV, ptrV, unV, true_and, and_true, Nat.add_zero, Nat.zero_add, Rt, resultsV, allV, resV, Bool.not_true, Bool.not_false, calleeV, builtinV, eqV, fieldAddrV, ldVar, stN_own, stN_ownL, Int.fdiv_eq_ediv_of_nonneg, Int.reduceToNat, Int.reducePow, IntKind.bits, convV, ne_eq, not_false_eq_true, not_true_eq_false, Int.reduceNeg, Int.reduceAdd, Int.reduceSub, Int.reduceLT, Int.reduceLE, extractV, decide_true, decide_false, Int.reduceEq, mkFuncV, stBScrStream, beq_self_eq_true, tyB0ScrStream, getL_take, glBScrStream, build2q]
  have r_s5 := r_t3.keep (fun j h1 h2 => Ab.heap_alloc_ne t3 (.row [.pointer (some ⟨s.next + 1, 3, none⟩), .pointer (some ⟨s.next + 1, 4, none⟩)]) (by omega)) (by simp only [Ab.next_alloc]; omega)
  have q_s5 := (Ab.heap_alloc_ne t3 (.row [.pointer (some ⟨s.next + 1, 3, none⟩), .pointer (some ⟨s.next + 1, 4, none⟩)]) (b := s.next + 1) (by omega)).trans q_t3
  have z_s5 := (Ab.heap_alloc_ne t3 (.row [.pointer (some ⟨s.next + 1, 3, none⟩), .pointer (some ⟨s.next + 1, 4, none⟩)]) (b := s.next) (by omega)).trans z_t3
  have M_s5 := M_t3.alloc' (o := .row [.pointer (some ⟨s.next + 1, 3, none⟩), .pointer (some ⟨s.next + 1, 4, none⟩)])
  have p_s5 : Sl base (t3.alloc (.row [.pointer (some ⟨s.next + 1, 3, none⟩), .pointer (some ⟨s.next + 1, 4, none⟩)])) 1 (.slice (some ⟨t3.next, 0, none⟩) 2 2) (ptrL (s.next + 1) [3, 4]) := .newRow (Ab.heap_alloc_new _ _) rfl rfl (by simp [ptrL]) (by omega) (by simp only [Ab.next_alloc]; omega)
  have n_s5 := Ab.next_alloc t3 (.row [.pointer (some ⟨s.next + 1, 3, none⟩), .pointer (some ⟨s.next + 1, 4, none⟩)])
  generalize t3.alloc (.row [.pointer (some ⟨s.next + 1, 3, none⟩), .pointer (some ⟨s.next + 1, 4, none⟩)]) = s5 at r_s5 q_s5 z_s5 M_s5 p_s5 n_s5 ⊢
  refine long38_ok (offs := [3, 4]) r_s5 (by omega) (by omega) (.inl (by omega)) q_s5 (by simp) (by simp) p_s5 (fun j hj => by simp only [inB] at hj; omega) fun t4 ns4 n4 f4 r_t4 h4 l4 b4 v4 => ?_
  obtain ⟨a3, a4, rfl⟩ := two_ns l4
  have M_t4 : Mild s t4 := ⟨by have := M_s5.next; omega, fun k hk => by rw [f4 k (by omega) (by omega) (by omega)]; exact M_s5.heap k hk⟩
  have z_t4 := (f4 s.next (by omega) (by omega) (by omega)).trans z_s5
  generalize hcl : placeN classesL (((partW 32 x).tail.drop 2).headD []) = cl at h4
  have q_t4 : t4.heap (s.next + 1) = .row [.int .i64 (a0 : Int), .int .i64 (a1 : Int), .int .i64 (cl : Int), .int .i64 (a3 : Int), .int .i64 (a4 : Int), .int .i64 0, .int .i64 0] := h4
  simp (disch := first | omega | ((simp only [nxBScrStream]) <;> omega) | decide) only [↓stepPre, stepPost, ↓W_cond, ↓W_block, ↓reduceIte, Nat.reduceEqDiff, Nat.reduceLT, Nat.reduceLeDiff, ret0, stVar, isTup, Value.cells, Nat.le_refl, Nat.reduceAdd, Nat.reduceMul, Nat.reduceSub, env0, binV, intV, reduceCtorEq, pickV, nilCheckV, ptrV, unV, true_and, and_true, Nat.add_zero, Nat.zero_add, Rt, resultsV, allV, resV, Bool.not_true, Bool.not_false, calleeV, builtinV, eqV, fieldAddrV, ldVar, stN_own, stN_ownL, Int.fdiv_eq_ediv_of_nonneg, Int.reduceToNat, Int.reducePow, IntKind.bits, convV, ne_eq, not_false_eq_true, not_true_eq_false, Int.reduceNeg, Int.reduceAdd, Int.reduceSub, Int.reduceLT, Int.reduceLE, extractV, decide_true, decide_false, Int.reduceEq, mkFuncV, stBScrStream, beq_self_eq_true, tyB0ScrStream, getL_take, glBScrStream, build2p]
  have r_s6 := r_t4.keep (fun j h1 h2 => Ab.heap_alloc_ne t4 (.row [.pointer (some ⟨s.next + 1, 5, none⟩), .pointer (some ⟨s.next + 1, 6, none⟩)]) (by omega)) (by simp only [Ab.next_alloc]; omega)
  have q_s6 := (Ab.heap_alloc_ne t4 (.row [.pointer (some ⟨s.next + 1, 5, none⟩), .pointer (some ⟨s.next + 1, 6, none⟩)]) (b := s.next + 1) (by omega)).trans q_t4
  have z_s6 := (Ab.heap_alloc_ne t4 (.row [.pointer (some ⟨s.next + 1, 5, none⟩), .pointer (some ⟨s.next + 1, 6, none⟩)]) (b := s.next) (by omega)).trans z_t4
  have M_s6 := M_t4.alloc' (o := .row [.pointer (some ⟨s.next + 1, 5, none⟩), .pointer (some ⟨s.next + 1, 6, none⟩)])
  have p_s6 : Sl base (t4.alloc (.row [.pointer (some ⟨s.next + 1, 5, none⟩), .pointer (some ⟨s.next + 1, 6, none⟩)])) 1 (.slice (some ⟨t4.next, 0, none⟩) 2 2) (ptrL (s.next + 1) [5, 6]) := .newRow (Ab.heap_alloc_new _ _) rfl rfl (by simp [ptrL]) (by omega) (by simp only [Ab.next_alloc]; omega)
  have n_s6 := Ab.next_alloc t4 (.row [.pointer (some ⟨s.next + 1, 5, none⟩), .pointer (some ⟨s.next + 1, 6, none⟩)])
  generalize t4.alloc (.row [.pointer (some ⟨s.next + 1, 5, none⟩), .pointer (some ⟨s.next + 1, 6, none⟩)]) = s6 at r_s6 q_s6 z_s6 M_s6 p_s6 n_s6 ⊢
  refine read38_ok (offs := [5, 6]) r_s6 (by omega) (by omega) (.inl (by omega)) q_s6 (by simp) (by simp) p_s6 (fun j hj => by simp only [inB] at hj; omega) fun t5 ns5 n5 f5 r_t5 h5' l5 b5 v5 => ?_
  obtain ⟨a5, a6, rfl⟩ := two_ns l5
  have M_t5 : Mild s t5 := ⟨by have := M_s6.next; omega, fun k hk => by rw [f5 k (by omega) (by omega)]; exact M_s6.heap k hk⟩
  have z_t5 := (f5 s.next (by omega) (by omega)).trans z_s6
  have q_t5 : t5.heap (s.next + 1) = .row (Sm.mk a0 a1 cl a3 a4 a5 a6).c := h5'
  simp (disch := first | omega | ((simp only [nxBScrStream]) <;> omega) | decide) only [↓stepPre, stepPost, ↓W_cond, ↓W_block, ↓reduceIte, Nat.reduceEqDiff, Nat.reduceLT, Nat.reduceLeDiff, ret0, stVar, isTup, Value.cells, Nat.le_refl, Nat.reduceAdd, Nat.reduceMul, Nat.reduceSub, env0, binV, intV, reduceCtorEq, pickV, nilCheckV, ptrV, unV, true_and, and_true, Nat.add_zero, Nat.zero_add, Rt, resultsV, allV, resV, Bool.not_true, Bool.not_false, calleeV, builtinV, eqV, fieldAddrV, ldVar, stN_own, stN_ownL, Int.fdiv_eq_ediv_of_nonneg, Int.reduceToNat, Int.reducePow, IntKind.bits, convV, ne_eq, not_false_eq_true, not_true_eq_false, Int.reduceNeg, Int.reduceAdd, Int.reduceSub, Int.reduceLT, Int.reduceLE, extractV, decide_true, decide_false, Int.reduceEq, mkFuncV, stBScrStream, beq_self_eq_true, tyB0ScrStream, getL_take, glBScrStream]
  refine W_draw (fun k => k == 8) (fun k => k == 5) (fun k => k == s.next + 1) (by kernel_rfl) (by kernel_rfl) ?_
  simp (disch := first | omega | ((simp only [nxBScrStream]) <;> omega) | decide) only [↓stepPre, stepPost, ↓W_cond, ↓W_block, ↓reduceIte, Nat.reduceEqDiff, Nat.reduceLT, Nat.reduceLeDiff, ret0, stVar, isTup, Value.cells, Nat.le_refl, Nat.reduceAdd, Nat.reduceMul, Nat.reduceSub, env0, binV, intV, reduceCtorEq, pickV, nilCheckV, ptrV, unV, true_and, and_true, Nat.add_zero, Nat.zero_add, Rt, resultsV, allV, resV, Bool.not_true, Bool.not_false, calleeV, builtinV, eqV, fieldAddrV, ldVar, stN_own, stN_ownL, Int.fdiv_eq_ediv_of_nonneg, Int.reduceToNat, Int.reducePow, IntKind.bits, convV, ne_eq, not_false_eq_true, not_true_eq_false, Int.reduceNeg, Int.reduceAdd, Int.reduceSub, Int.reduceLT, Int.reduceLE, extractV, decide_true, decide_false, Int.reduceEq, mkFuncV, stBScrStream, beq_self_eq_true, tyB0ScrStream, getL_take, glBScrStream, q_t5]
  refine ⟨fun h => by simp at h, ?_⟩
  refine fine38_ok r_t5 ?_
  have hsb : streamB x = ((!(decide (¬ (partW 32 x).headD [] = streamW) || !okW (partW 32 x).tail 2 || ((partW 32 x).tail.drop 2).isEmpty || !okW ((partW 32 x).tail.drop 2).tail 2 || !okW (((partW 32 x).tail.drop 2).tail.drop 2) 2) && ((((partW 32 x).tail.drop 2).tail.drop 2).drop 2).isEmpty) && decide ((cl : Int) > 0)) := by
    simp only [streamB]; rw [hcl]; simp
  have hsv : streamB x = true → Sm.mk a0 a1 cl a3 a4 a5 a6 = streamV x := fun h => by
    rw [hsb] at h
    simp only [Bool.and_eq_true, Bool.not_eq_true', Bool.or_eq_false_iff, Bool.not_eq_false'] at h
    obtain ⟨⟨⟨⟨⟨⟨w1, w2⟩, w3⟩, w4⟩, w5⟩, w6⟩, w7⟩ := h
    obtain ⟨e0, e1⟩ := two_val w2 (v1 w2)
    obtain ⟨e3, e4⟩ := two_val w4 (v4 w4)
    obtain ⟨e5, e6⟩ := two_val w5 (v5 w5)
    simp only [streamV]
    rw [hcl, e0, e1, e3, e4, e5, e6]
  have key := fun s' M => hR s' _ M hsv
  rw [hsb] at key
  clear hsb hsv hR
  generalize (!(decide (¬ (partW 32 x).headD [] = streamW) || !okW (partW 32 x).tail 2 || ((partW 32 x).tail.drop 2).isEmpty || !okW ((partW 32 x).tail.drop 2).tail 2 || !okW (((partW 32 x).tail.drop 2).tail.drop 2) 2) && ((((partW 32 x).tail.drop 2).tail.drop 2).drop 2).isEmpty) = F at key ⊢
  have fin : ∀ V : List Value, s.next < t5.next ∧ s.next ≠ s.next + 1 := fun _ => by omega
  cases F with
  | false =>
    simp (disch := first | omega | ((simp only [nxBScrStream]) <;> omega) | decide) only [↓stepPre, stepPost, ↓W_cond, ↓W_block, ↓reduceIte, Nat.reduceEqDiff, Nat.reduceLT, Nat.reduceLeDiff, ret0, stVar, isTup, Value.cells, Nat.le_refl, Nat.reduceAdd, Nat.reduceMul, Nat.reduceSub, env0, binV, intV, reduceCtorEq, pickV, nilCheckV, ptrV, unV, true_and, and_true, Nat.add_zero, Nat.zero_add, Rt, resultsV, allV, resV, Bool.not_true, Bool.not_false, calleeV, builtinV, eqV, fieldAddrV, ldVar, stN_own, stN_ownL, Int.fdiv_eq_ediv_of_nonneg, Int.reduceToNat, Int.reducePow, IntKind.bits, convV, ne_eq, not_false_eq_true, not_true_eq_false, Int.reduceNeg, Int.reduceAdd, Int.reduceSub, Int.reduceLT, Int.reduceLE, extractV, decide_true, decide_false, Int.reduceEq, mkFuncV, stBScrStream, beq_self_eq_true, tyB0ScrStream, getL_take, glBScrStream, Dok_same, q_t5, z_t5, Tryd.results46]
    exact ⟨.inr ⟨rfl, Nat.le_refl _, fun j hj hjn => Ab.heap_upd_ne _ _ (by have : j = s.next + 1 := (by simpa using hj); omega)⟩, key _ (M_t5.upd' (Nat.le_refl _))⟩
  | true =>
    simp (disch := first | omega | ((simp only [nxBScrStream]) <;> omega) | decide) only [↓stepPre, stepPost, ↓W_cond, ↓W_block, ↓reduceIte, Nat.reduceEqDiff, Nat.reduceLT, Nat.reduceLeDiff, ret0, stVar, isTup, Value.cells, Nat.le_refl, Nat.reduceAdd, Nat.reduceMul, Nat.reduceSub, env0, binV, intV, reduceCtorEq, pickV, nilCheckV, ptrV, unV, true_and, and_true, Nat.add_zero, Nat.zero_add, Rt, resultsV, allV, resV, Bool.not_true, Bool.not_false, calleeV, builtinV, eqV, fieldAddrV, ldVar, stN_own, stN_ownL, Int.fdiv_eq_ediv_of_nonneg, Int.reduceToNat, Int.reducePow, IntKind.bits, convV, ne_eq, not_false_eq_true, not_true_eq_false, Int.reduceNeg, Int.reduceAdd, Int.reduceSub, Int.reduceLT, Int.reduceLE, extractV, decide_true, decide_false, Int.reduceEq, mkFuncV, stBScrStream, beq_self_eq_true, tyB0ScrStream, getL_take, glBScrStream, Dok_same, q_t5, z_t5, Tryd.results46]
    refine ⟨fun _ => ⟨by show (s.next + 1 == s.next + 1) = true; simp, by show s.next + 1 < t5.next; omega⟩, ?_⟩
    refine ⟨.inr ⟨rfl, Nat.le_refl _, fun j hj hjn => Ab.heap_upd_ne _ _ (by have : j = s.next + 1 := (by simpa using hj); omega)⟩, ?_⟩
    exact key _ (M_t5.upd' (Nat.le_refl _))
end Go.Proofs.YthjpfllmecpliaaDoor
