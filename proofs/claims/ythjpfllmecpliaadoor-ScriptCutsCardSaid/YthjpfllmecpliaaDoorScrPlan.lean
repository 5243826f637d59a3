/- What a network that is right has: plain. And streams' lines, as contracts. -/
import Derived.Test.YthjpfllmecpliaaDoorTypes
import Derived.Test.YthjpfllmecpliaaDoorRow0
import Derived.Test.YthjpfllmecpliaaDoorAbC
import Derived.Test.YthjpfllmecpliaaDoorPure
import Derived.Test.YthjpfllmecpliaaDoorBoxes
import Derived.Test.YthjpfllmecpliaaDoorScrCheck
import Derived.Test.YthjpfllmecpliaaDoorScrLine
set_option linter.all false
set_option maxRecDepth 20000
namespace Go.Proofs.YthjpfllmecpliaaDoor
open Go Go.Ab
def nxBScrPlan := And.intro @Ab.next_alloc (And.intro @Ab.next_upd (And.intro @List.length_cons.{0} (And.intro @List.length_nil.{0} (And.intro @ne_eq.{1} (And.intro not_true_eq_false not_false_eq_true)))))
def tyB0ScrPlan := And.intro @Ty.t55 (And.intro @Tryd.underlying55 (And.intro @Ty.t22 (And.intro @Tryd.underlying22 (And.intro @Ty.t53 (And.intro @Tryd.underlying53 (And.intro @Ty.t9 (And.intro @Tryd.underlying9 (And.intro @Ty.t52 (And.intro @Tryd.underlying52 (And.intro @Ty.t68 (And.intro @Tryd.underlying68 (And.intro @Ty.t2 (And.intro @Tryd.underlying2 (And.intro @Ty.t3 (And.intro @Tryd.underlying3 (And.intro @Ty.t4 @Tryd.underlying4))))))))))))))))
def stBScrPlan := And.intro @List.size_toArray.{0} (And.intro @List.length_cons.{0} (And.intro @List.length_nil.{0} (And.intro @List.set_cons_zero.{0} (And.intro @List.set_cons_succ.{0} (And.intro @List.getD_cons_zero.{0} (And.intro @List.getD_cons_succ.{0} (And.intro @List.getElem?_cons_succ.{0} (And.intro @List.getElem?_cons_zero.{0} (And.intro @List.map_cons.{0,0} (And.intro @List.map_nil.{0,0} (And.intro @Option.isNone_none.{0} (And.intro @Option.isNone_some.{0} (And.intro @Option.map_some.{0,0} (And.intro @Option.map_none.{0,0} (And.intro @List.cons_append.{0} (And.intro @List.nil_append.{0} (And.intro @List.append_nil.{0} (And.intro @Array.toList_append.{0} (And.intro @List.toList_toArray.{0} (And.intro @Int.cast_ofNat_Int (And.intro @Option.isSome_some.{0} (And.intro @List.getElem?_toArray.{0} (And.intro @List.map_toArray.{0,0} (@Nat.min_eq_left))))))))))))))))))))))))
def glBScrPlan := And.intro @List.drop_zero.{0} (And.intro @List.drop_succ_cons.{0} (And.intro @List.take_succ_cons.{0} (And.intro @List.take_zero.{0} (@List.take_nil.{0}))))
variable {base : Nat} [Bok base] {s : St} {R : Value → St → Prop}
def smFine (x : Sm) : Prop := 0 ≤ x.id ∧ 0 ≤ x.nd ∧ 1 ≤ x.cl ∧ x.cl ≤ 3 ∧ 0 ≤ x.pe ∧ 0 ≤ x.de ∧ 0 ≤ x.sl ∧ 0 ≤ x.by_ ∧ x.id ≤ 2147483647 ∧ x.nd ≤ 2147483647 ∧ x.pe ≤ 2147483647 ∧ x.de ≤ 2147483647 ∧ x.sl ≤ 2147483647 ∧ x.by_ ≤ 2147483647
theorem right_fine {x : Sm} (h : x.right = 0) : smFine x := by
  unfold Sm.right at h
  split at h
  · cases h
  split at h
  · cases h
  rename_i h1 h2
  split at h
  · cases h
  split at h
  · cases h
  have h2 : rt x.cl x.sl x.id x.nd = true := by simpa using h2
  unfold rt at h2
  unfold smFine
  simp only [decide_eq_true_eq] at h2
  omega
def classL (c : Int) : List UInt8 := if c = 1 then [101, 100, 102] else if c = 2 then [100, 109] else [102, 105, 120, 101, 100]
def streamW : List UInt8 := [115, 116, 114, 101, 97, 109]
def streamL (x : Sm) : List UInt8 := rowL streamW [x.id.toNat, x.nd.toNat] ++ 32 :: rowL (classL x.cl) [x.pe.toNat, x.de.toNat, x.sl.toNat, x.by_.toNat]
theorem classL_len (c : Int) : (classL c).length ≤ 5 := by
  unfold classL
  repeat' split
  all_goals decide
theorem class_at {c : Int} (h1 : 1 ≤ c) (h3 : c ≤ 3) : classesL[c.toNat]? = some (classL c) := by
  have : c = 1 ∨ c = 2 ∨ c = 3 := by omega
  rcases this with rfl | rfl | rfl <;> rfl
theorem build4i {s : St} {a b c d : Int} : buildSliceV Tryd.prog s 68 4 [(0, .int .i64 a), (1, .int .i64 b), (2, .int .i64 c), (3, .int .i64 d)] = some (.slice (some ⟨s.next, 0, none⟩) 4 4, s.alloc (.row [.int .i64 a, .int .i64 b, .int .i64 c, .int .i64 d])) := by
  simp [buildSliceV, Ty.elem68, Ty.siz2, Ty.zer2, fillL, isTup, Value.cells, repL, setL]
theorem build3i {s : St} {a b c : Int} : buildSliceV Tryd.prog s 68 3 [(0, .int .i64 a), (1, .int .i64 b), (2, .int .i64 c)] = some (.slice (some ⟨s.next, 0, none⟩) 3 3, s.alloc (.row [.int .i64 a, .int .i64 b, .int .i64 c])) := by
  simp [buildSliceV, Ty.elem68, Ty.siz2, Ty.zer2, fillL, isTup, Value.cells, repL, setL]
theorem i64_new {s' : St} {b : Nat} {ns : List Nat} (hh : s'.heap b = .row (i64L ns).flatten) (hb : base ≤ b) (hlt : b < s'.next) : Sl base s' 1 (.slice (some ⟨b, 0, none⟩) ns.length ns.length) (i64L ns) :=
  .newRow hh rfl (i64L_len ns).symm (fun l hl => by obtain ⟨n, -, rfl⟩ := List.mem_map.1 hl; rfl) hb hlt
theorem streamLine_ok {x : Sm} (hx : smFine x) (hL : LaidOk base s) (hbn : base ≤ s.next) (hR : ∀ s', Mild s s' → R (.string (strB (streamL x))) s') : WC Tryd.prog base 19 [.agg x.c.toArray] s R := by
  refine WC_open Tryd.func19 rfl ?_
  have h5 := Bok.le5 (base := base)
  obtain ⟨x1, x2, x3, x4, x5, x6, x7, x8, y1, y2, y5, y6, y7, y8⟩ := hx
  obtain ⟨id, nd, cl, pe, de, sl, by_⟩ := x
  simp only at x1 x2 x3 x4 x5 x6 x7 x8 y1 y2 y5 y6 y7 y8
  obtain ⟨id, rfl⟩ : ∃ n : Nat, id = n := ⟨id.toNat, by omega⟩
  obtain ⟨nd, rfl⟩ : ∃ n : Nat, nd = n := ⟨nd.toNat, by omega⟩
  obtain ⟨pe, rfl⟩ : ∃ n : Nat, pe = n := ⟨pe.toNat, by omega⟩
  obtain ⟨de, rfl⟩ : ∃ n : Nat, de = n := ⟨de.toNat, by omega⟩
  obtain ⟨sl, rfl⟩ : ∃ n : Nat, sl = n := ⟨sl.toNat, by omega⟩
  obtain ⟨by_, rfl⟩ : ∃ n : Nat, by_ = n := ⟨by_.toNat, by omega⟩
  unfold streamL at hR
  simp only [Int.toNat_natCast] at hR
  have m0 := Mild.alloc s (.row (Sm.mk id nd cl pe de sl by_).c)
  have c0 := Ab.heap_alloc_new s (.row (Sm.mk id nd cl pe de sl by_).c)
  have n0 := Ab.next_alloc s (.row (Sm.mk id nd cl pe de sl by_).c)
  simp (disch := first | omega | ((simp only [nxBScrPlan]) <;> omega) | decide) only [↓stepPre, stepPost, ↓W_cond, ↓W_block, ↓reduceIte, Nat.reduceEqDiff, Nat.reduceLT, Nat.reduceLeDiff, ret0, stVar, isTup, Value.cells, Nat.le_refl, Nat.reduceAdd, Nat.reduceMul, Nat.reduceSub, env0, binV, intV, reduceCtorEq, pickV, nilCheckV, ptrV, unV, true_and, and_true, Nat.add_zero, Nat.zero_add, Rt, resultsV, allV, resV, Bool.not_true, Bool.not_false, calleeV, builtinV, eqV, fieldAddrV, ldVar, stN_own, stN_ownL, Int.fdiv_eq_ediv_of_nonneg, Int.reduceToNat, Int.reducePow, IntKind.bits, convV, ne_eq, not_false_eq_true, not_true_eq_false, Int.reduceNeg, Int.reduceAdd, Int.reduceSub, Int.reduceLT, Int.reduceLE, extractV, decide_true, decide_false, Int.reduceEq, mkFuncV, stBScrPlan, beq_self_eq_true, tyB0ScrPlan, getL_take, glBScrPlan]
  generalize s.alloc (.row (Sm.mk id nd cl pe de sl by_).c) = s1 at m0 c0 n0 ⊢
  refine W_draw (fun _ => false) (fun _ => false) (fun _ => false) (by kernel_rfl) (by kernel_rfl) ?_
  simp (disch := first | omega | ((simp only [nxBScrPlan]) <;> omega) | decide) only [↓stepPre, stepPost, ↓W_cond, ↓W_block, ↓reduceIte, Nat.reduceEqDiff, Nat.reduceLT, Nat.reduceLeDiff, ret0, stVar, isTup, Value.cells, Nat.le_refl, Nat.reduceAdd, Nat.reduceMul, Nat.reduceSub, env0, binV, intV, reduceCtorEq, pickV, nilCheckV, ptrV, unV, true_and, and_true, Nat.add_zero, Nat.zero_add, Rt, resultsV, allV, resV, Bool.not_true, Bool.not_false, calleeV, builtinV, eqV, fieldAddrV, ldVar, stN_own, stN_ownL, Int.fdiv_eq_ediv_of_nonneg, Int.reduceToNat, Int.reducePow, IntKind.bits, convV, ne_eq, not_false_eq_true, not_true_eq_false, Int.reduceNeg, Int.reduceAdd, Int.reduceSub, Int.reduceLT, Int.reduceLE, extractV, decide_true, decide_false, Int.reduceEq, mkFuncV, stBScrPlan, beq_self_eq_true, tyB0ScrPlan, getL_take, glBScrPlan, c0, build2i Ty.elem68 Ty.siz2 Ty.zer2]
  have l2 : Sl base (s1.alloc (.row [.int .i64 (id : Int), .int .i64 (nd : Int)])) 1 (.slice (some ⟨s1.next, 0, none⟩) 2 2) (i64L [id, nd]) := i64_new (ns := [id, nd]) (Ab.heap_alloc_new _ _) (by omega) (by simp only [Ab.next_alloc]; omega)
  have m2 := m0.alloc' (o := .row [.int .i64 (id : Int), .int .i64 (nd : Int)])
  refine row38_ok (w := streamW) l2 (by decide) (by simp) (by simp; omega) (by simp only [Ab.next_alloc]; omega) fun s3 m3 => ?_
  have n3 := m3.next
  simp only [Ab.next_alloc] at n3
  have M3 := m2.trans m3
  have c3 := (m3.heap s.next (by simp only [Ab.next_alloc]; omega)).trans ((Ab.heap_alloc_ne _ _ (by omega)).trans c0)
  obtain ⟨wv, w1, w2, w3⟩ := (hL.mild M3 hbn).classes
  have hkw := class_at x3 x4
  have hlw : cl.toNat < classesL.length := (List.getElem?_eq_some_iff.1 hkw).1
  have q1 := w2.index (P := Tryd.prog) (k := .i64) (i := cl) Ty.elem52 Ty.siz9 (by omega) (by rw [strL_len]; omega)
  have q2 : loadV Tryd.prog base s3 9 (atP wv (cl.toNat * 1)) = some (.string (strB (classL cl))) := by
    have := w2.load1 (P := Tryd.prog) (i := cl.toNat) (strL_at hlw) Ty.agg9 Ty.siz9
    rw [this]
    rw [List.getElem?_eq_getElem hlw] at hkw
    rw [Option.some.inj hkw]
  refine ⟨.inl m3, ?_⟩
  simp (disch := first | omega | ((simp only [nxBScrPlan]) <;> omega) | decide) only [↓stepPre, stepPost, ↓W_cond, ↓W_block, ↓reduceIte, Nat.reduceEqDiff, Nat.reduceLT, Nat.reduceLeDiff, ret0, stVar, isTup, Value.cells, Nat.le_refl, Nat.reduceAdd, Nat.reduceMul, Nat.reduceSub, env0, binV, intV, reduceCtorEq, pickV, nilCheckV, ptrV, unV, true_and, and_true, Nat.add_zero, Nat.zero_add, Rt, resultsV, allV, resV, Bool.not_true, Bool.not_false, calleeV, builtinV, eqV, fieldAddrV, ldVar, stN_own, stN_ownL, Int.fdiv_eq_ediv_of_nonneg, Int.reduceToNat, Int.reducePow, IntKind.bits, convV, ne_eq, not_false_eq_true, not_true_eq_false, Int.reduceNeg, Int.reduceAdd, Int.reduceSub, Int.reduceLT, Int.reduceLE, extractV, decide_true, decide_false, Int.reduceEq, mkFuncV, stBScrPlan, beq_self_eq_true, tyB0ScrPlan, getL_take, glBScrPlan, c3, ev_global, ld_var w1 w3, q1, q2, build4i]
  have l4 : Sl base (s3.alloc (.row [.int .i64 (pe : Int), .int .i64 (de : Int), .int .i64 (sl : Int), .int .i64 (by_ : Int)])) 1 (.slice (some ⟨s3.next, 0, none⟩) 4 4) (i64L [pe, de, sl, by_]) := i64_new (ns := [pe, de, sl, by_]) (Ab.heap_alloc_new _ _) (by omega) (by simp only [Ab.next_alloc]; omega)
  have m4 := M3.alloc' (o := .row [.int .i64 (pe : Int), .int .i64 (de : Int), .int .i64 (sl : Int), .int .i64 (by_ : Int)])
  have hcl := classL_len cl
  refine row38_ok (w := classL cl) l4 (by omega) (by simp) (by simp; omega) (by simp only [Ab.next_alloc]; omega) fun s5 m5 => ?_
  have n5 := m5.next
  simp only [Ab.next_alloc] at n5
  refine ⟨.inl m5, ?_⟩
  have hr1 := rowL_len streamW [id, nd] (by simp; omega)
  have hr2 := rowL_len (classL cl) [pe, de, sl, by_] (by simp; omega)
  have hsw : streamW.length = 6 := rfl
  generalize rowL streamW [id, nd] = ra at *
  generalize rowL (classL cl) [pe, de, sl, by_] = rb at *
  have hj : Lib.join [ra, rb] [32] = ra ++ 32 :: rb := by simp [Lib.join, List.intercalate]
  have h0 : Sl base (s5.alloc (.row [.string (strB ra), .string (strB rb)])) 1 (.slice (some ⟨s5.next, 0, none⟩) 2 2) (strL [ra, rb]) := .newRow (L := strL [ra, rb]) (Ab.heap_alloc_new _ _) rfl rfl (by simp [strL]) (by omega) (by simp only [Ab.next_alloc]; omega)
  simp (disch := first | omega | ((simp only [nxBScrPlan]) <;> omega) | decide) only [↓stepPre, stepPost, ↓W_cond, ↓W_block, ↓reduceIte, Nat.reduceEqDiff, Nat.reduceLT, Nat.reduceLeDiff, ret0, stVar, isTup, Value.cells, Nat.le_refl, Nat.reduceAdd, Nat.reduceMul, Nat.reduceSub, env0, binV, intV, reduceCtorEq, pickV, nilCheckV, ptrV, unV, true_and, and_true, Nat.add_zero, Nat.zero_add, Rt, resultsV, allV, resV, Bool.not_true, Bool.not_false, calleeV, builtinV, eqV, fieldAddrV, ldVar, stN_own, stN_ownL, Int.fdiv_eq_ediv_of_nonneg, Int.reduceToNat, Int.reducePow, IntKind.bits, convV, ne_eq, not_false_eq_true, not_true_eq_false, Int.reduceNeg, Int.reduceAdd, Int.reduceSub, Int.reduceLT, Int.reduceLE, extractV, decide_true, decide_false, Int.reduceEq, mkFuncV, stBScrPlan, beq_self_eq_true, tyB0ScrPlan, getL_take, glBScrPlan, build2t]
  refine put38_ok h0 (by simp) (by simp) (by rw [hj]; simp at hr1 hr2 ⊢; omega) ?_
  rw [hj]
  simp (disch := first | omega | ((simp only [nxBScrPlan]) <;> omega) | decide) only [↓stepPre, stepPost, ↓W_cond, ↓W_block, ↓reduceIte, Nat.reduceEqDiff, Nat.reduceLT, Nat.reduceLeDiff, ret0, stVar, isTup, Value.cells, Nat.le_refl, Nat.reduceAdd, Nat.reduceMul, Nat.reduceSub, env0, binV, intV, reduceCtorEq, pickV, nilCheckV, ptrV, unV, true_and, and_true, Nat.add_zero, Nat.zero_add, Rt, resultsV, allV, resV, Bool.not_true, Bool.not_false, calleeV, builtinV, eqV, fieldAddrV, ldVar, stN_own, stN_ownL, Int.fdiv_eq_ediv_of_nonneg, Int.reduceToNat, Int.reducePow, IntKind.bits, convV, ne_eq, not_false_eq_true, not_true_eq_false, Int.reduceNeg, Int.reduceAdd, Int.reduceSub, Int.reduceLT, Int.reduceLE, extractV, decide_true, decide_false, Int.reduceEq, mkFuncV, stBScrPlan, beq_self_eq_true, tyB0ScrPlan, getL_take, glBScrPlan, Dok_same, Tryd.results19]
  exact hR _ ((m4.trans m5).alloc')
end Go.Proofs.YthjpfllmecpliaaDoor
