/- live(): what must be, whatever is asked (the laws of the package script). -/
import Derived.Test.YthjpfllmecpliaaDoorTypes
import Derived.Test.YthjpfllmecpliaaDoorRow0
import Derived.Test.YthjpfllmecpliaaDoorAbC
import Derived.Test.YthjpfllmecpliaaDoorOwnOf
import Derived.Test.YthjpfllmecpliaaDoorAsks
import Derived.Test.YthjpfllmecpliaaDoorPure
import Derived.Test.YthjpfllmecpliaaDoorBoxes
import Derived.Test.YthjpfllmecpliaaDoorScrSame
import Derived.Test.YthjpfllmecpliaaDoorScrParse
import Derived.Test.YthjpfllmecpliaaDoorScrPrint
set_option linter.all false
set_option maxRecDepth 20000
namespace Go.Proofs.YthjpfllmecpliaaDoor
open Go Go.Ab
def nxBScrLive := And.intro @Ab.next_alloc (And.intro @Ab.next_upd (And.intro @List.length_cons.{0} (And.intro @List.length_nil.{0} (And.intro @ne_eq.{1} (And.intro not_true_eq_false not_false_eq_true)))))
def tyB0ScrLive := And.intro @Ty.t9 (And.intro @Tryd.underlying9 (And.intro @Ty.t55 (And.intro @Tryd.underlying55 (And.intro @Ty.t22 (And.intro @Tryd.underlying22 (And.intro @Ty.t45 (And.intro @Tryd.underlying45 (And.intro @Ty.t27 (And.intro @Tryd.underlying27 (And.intro @Ty.t42 (And.intro @Tryd.underlying42 (And.intro @Ty.t43 (And.intro @Tryd.underlying43 (And.intro @Ty.t5 (And.intro @Tryd.underlying5 (And.intro @Ty.t53 (And.intro @Tryd.underlying53 (And.intro @Ty.t26 (And.intro @Tryd.underlying26 (And.intro @Ty.t33 (And.intro @Tryd.underlying33 (And.intro @Ty.t24 (And.intro @Tryd.underlying24 (And.intro @Ty.t3 (And.intro @Tryd.underlying3 (And.intro @Ty.t2 (And.intro @Tryd.underlying2 (And.intro @Ty.t4 (And.intro @Tryd.underlying4 (And.intro @Ty.t29 @Tryd.underlying29))))))))))))))))))))))))))))))
def stBScrLive := And.intro @List.size_toArray.{0} (And.intro @List.length_cons.{0} (And.intro @List.length_nil.{0} (And.intro @List.set_cons_zero.{0} (And.intro @List.set_cons_succ.{0} (And.intro @List.getD_cons_zero.{0} (And.intro @List.getD_cons_succ.{0} (And.intro @List.getElem?_cons_succ.{0} (And.intro @List.getElem?_cons_zero.{0} (And.intro @List.map_cons.{0,0} (And.intro @List.map_nil.{0,0} (And.intro @Option.isNone_none.{0} (And.intro @Option.isNone_some.{0} (And.intro @Option.map_some.{0,0} (And.intro @Option.map_none.{0,0} (And.intro @List.cons_append.{0} (And.intro @List.nil_append.{0} (And.intro @List.append_nil.{0} (And.intro @Array.toList_append.{0} (And.intro @List.toList_toArray.{0} (And.intro @Int.cast_ofNat_Int (And.intro @Option.isSome_some.{0} (And.intro @List.getElem?_toArray.{0} (And.intro @List.map_toArray.{0,0} (@Nat.min_eq_left))))))))))))))))))))))))
def glBScrLive := And.intro @List.drop_zero.{0} (And.intro @List.drop_succ_cons.{0} (And.intro @List.take_succ_cons.{0} (And.intro @List.take_zero.{0} (@List.take_nil.{0}))))
variable {base : Nat} [Bok base] {s : St} {R : Value → St → Prop}
def plP : Pl := ⟨2, 1000, 4, 10, 1, 100, 900, 100, 800, [⟨1, 0, 1, 90000, 80000, 0, 2⟩]⟩
def acP : Ac := ⟨3, 1, 3, [5, 0, 0, 0, 0, 0, 0, 0]⟩
def acQ : Ac := ⟨1, 0, 50, [0, 0, 0, 0, 0, 0, 0, 0]⟩
theorem live_print : printE plP [acP, acQ] = 0 := by decide +kernel
theorem live_parse : parseF (printT plP [acP, acQ]) = (0, 9, plP, [acP, acQ]) := by kernel_rfl
theorem live_len : (printT plP [acP, acQ]).length ≤ 131072 := by decide +kernel
theorem live_cut : (parseF [110, 111, 100, 101, 115, 32, 50, 10]).1 = 12 ∧ (parseF [110, 111, 100, 101, 115, 32, 50, 10]).2.1 = 1 := by decide +kernel
theorem live_line : lineA 3 1 3 [5, 0, 0, 0, 0, 0, 0, 0] = [114, 101, 108, 101, 97, 115, 101, 32, 49, 32, 51, 32, 48, 53, 48, 48, 48, 48, 48, 48, 48, 48, 48, 48, 48, 48, 48, 48] := by decide +kernel
theorem live_right : rightA 3 1 3 [5, 0, 0, 0, 0, 0, 0, 0] = true ∧ rightA 0 0 0 [0, 0, 0, 0, 0, 0, 0, 0] = false := by decide +kernel
theorem plant38_ok (hbn : base ≤ s.next) (hR : ∀ s' v, Mild s s' → Sl base s' 7 v (smL plP.xs) → R (.agg (plP.c v).toArray) s') : WC Tryd.prog base 12 [] s R := by
  refine WC_open Tryd.func12 rfl ?_
  have hb := fun (s : St) => build1 (P := Tryd.prog) (s := s) (l := [.int .i64 1, .int .i64 0, .int .i64 1, .int .i64 90000, .int .i64 80000, .int .i64 0, .int .i64 2]) (zr := [.int .i64 0, .int .i64 0, .int .i64 0, .int .i64 0, .int .i64 0, .int .i64 0, .int .i64 0]) Ty.elem22 Ty.siz55 Ty.zer55 rfl rfl (by omega) (by omega)
  simp only [List.toArray] at hb
  simp (disch := first | omega | ((simp only [nxBScrLive]) <;> omega) | decide) only [↓stepPre, stepPost, ↓W_cond, ↓W_block, ↓reduceIte, Nat.reduceEqDiff, Nat.reduceLT, Nat.reduceLeDiff, ret0, stVar, isTup, Value.cells, Nat.le_refl, Nat.reduceAdd, Nat.reduceMul, Nat.reduceSub, env0, binV, intV, reduceCtorEq, pickV, nilCheckV, ptrV, unV, true_and, and_true, Nat.add_zero, Nat.zero_add, Rt, resultsV, allV, resV, Bool.not_true, Bool.not_false, calleeV, builtinV, eqV, fieldAddrV, ldVar, stN_own, stN_ownL, Int.fdiv_eq_ediv_of_nonneg, Int.reduceToNat, Int.reducePow, IntKind.bits, convV, ne_eq, not_false_eq_true, not_true_eq_false, Int.reduceNeg, Int.reduceAdd, Int.reduceSub, Int.reduceLT, Int.reduceLE, extractV, decide_true, decide_false, Int.reduceEq, mkFuncV, stBScrLive, beq_self_eq_true, tyB0ScrLive, getL_take, glBScrLive, buildV, fillL, setL, hb, putAt_row, Tryd.results12]
  refine hR _ (.slice (some ⟨s.next + 1, 0, none⟩) 1 1) ?_ (.newRow (L := smL plP.xs) ((Ab.heap_upd_ne _ _ (by omega)).trans (Ab.heap_alloc_new (s.alloc _) _)) rfl rfl (by simp [smL]) (by omega) (by show s.next + 1 < s.next + 1 + 1; omega))
  (repeat first | exact Mild.refl _ | assumption | apply Mild.alloc' | (refine Mild.upd' ?_ (by omega)) | (refine Mild.upd' ?_ (by simp only [Ab.next_alloc, Ab.next_upd] at *; omega)))
theorem buildA {s : St} : buildSliceV Tryd.prog s 27 2 [(0, .agg #[.int .i64 3, .int .i64 1, .int .i64 3, .int .u8 5, .int .u8 0, .int .u8 0, .int .u8 0, .int .u8 0, .int .u8 0, .int .u8 0, .int .u8 0]), (1, .agg #[.int .i64 1, .int .i64 0, .int .i64 50, .int .u8 0, .int .u8 0, .int .u8 0, .int .u8 0, .int .u8 0, .int .u8 0, .int .u8 0, .int .u8 0])] = some (.slice (some ⟨s.next, 0, none⟩) 2 2, s.alloc (.row [.int .i64 3, .int .i64 1, .int .i64 3, .int .u8 5, .int .u8 0, .int .u8 0, .int .u8 0, .int .u8 0, .int .u8 0, .int .u8 0, .int .u8 0, .int .i64 1, .int .i64 0, .int .i64 50, .int .u8 0, .int .u8 0, .int .u8 0, .int .u8 0, .int .u8 0, .int .u8 0, .int .u8 0, .int .u8 0])) := by kernel_rfl
theorem live38_ok (hL : LaidOk base s) (hbn : base ≤ s.next) (hR : ∀ s', Mild s s' → R (.bool true) s') : WC Tryd.prog base 5 [] s R := by
  refine WC_open Tryd.func5 rfl ?_
  simp (disch := first | omega | ((simp only [nxBScrLive]) <;> omega) | decide) only [↓stepPre, stepPost, ↓W_cond, ↓W_block, ↓reduceIte, Nat.reduceEqDiff, Nat.reduceLT, Nat.reduceLeDiff, ret0, stVar, isTup, Value.cells, Nat.le_refl, Nat.reduceAdd, Nat.reduceMul, Nat.reduceSub, env0, binV, intV, reduceCtorEq, pickV, nilCheckV, ptrV, unV, true_and, and_true, Nat.add_zero, Nat.zero_add, Rt, resultsV, allV, resV, Bool.not_true, Bool.not_false, calleeV, builtinV, eqV, fieldAddrV, ldVar, stN_own, stN_ownL, Int.fdiv_eq_ediv_of_nonneg, Int.reduceToNat, Int.reducePow, IntKind.bits, convV, ne_eq, not_false_eq_true, not_true_eq_false, Int.reduceNeg, Int.reduceAdd, Int.reduceSub, Int.reduceLT, Int.reduceLE, extractV, decide_true, decide_false, Int.reduceEq, mkFuncV, stBScrLive, beq_self_eq_true, tyB0ScrLive, getL_take, glBScrLive, buildV, fillL, setL]
  have m1 := Mild.alloc s (.row [.int .i64 3, .int .i64 1, .int .i64 3, .int .u8 5, .int .u8 0, .int .u8 0, .int .u8 0, .int .u8 0, .int .u8 0, .int .u8 0, .int .u8 0])
  have r1 := Ab.heap_alloc_new s (.row [.int .i64 3, .int .i64 1, .int .i64 3, .int .u8 5, .int .u8 0, .int .u8 0, .int .u8 0, .int .u8 0, .int .u8 0, .int .u8 0, .int .u8 0])
  have n1 := Ab.next_alloc s (.row [.int .i64 3, .int .i64 1, .int .i64 3, .int .u8 5, .int .u8 0, .int .u8 0, .int .u8 0, .int .u8 0, .int .u8 0, .int .u8 0, .int .u8 0])
  generalize s.alloc (.row [.int .i64 3, .int .i64 1, .int .i64 3, .int .u8 5, .int .u8 0, .int .u8 0, .int .u8 0, .int .u8 0, .int .u8 0, .int .u8 0, .int .u8 0]) = s1 at m1 r1 n1 ⊢
  refine W_draw (fun _ => false) (fun _ => false) (fun _ => false) (by kernel_rfl) (by kernel_rfl) ?_
  simp (disch := first | omega | ((simp only [nxBScrLive]) <;> omega) | decide) only [↓stepPre, stepPost, ↓W_cond, ↓W_block, ↓reduceIte, Nat.reduceEqDiff, Nat.reduceLT, Nat.reduceLeDiff, ret0, stVar, isTup, Value.cells, Nat.le_refl, Nat.reduceAdd, Nat.reduceMul, Nat.reduceSub, env0, binV, intV, reduceCtorEq, pickV, nilCheckV, ptrV, unV, true_and, and_true, Nat.add_zero, Nat.zero_add, Rt, resultsV, allV, resV, Bool.not_true, Bool.not_false, calleeV, builtinV, eqV, fieldAddrV, ldVar, stN_own, stN_ownL, Int.fdiv_eq_ediv_of_nonneg, Int.reduceToNat, Int.reducePow, IntKind.bits, convV, ne_eq, not_false_eq_true, not_true_eq_false, Int.reduceNeg, Int.reduceAdd, Int.reduceSub, Int.reduceLT, Int.reduceLE, extractV, decide_true, decide_false, Int.reduceEq, mkFuncV, stBScrLive, beq_self_eq_true, tyB0ScrLive, getL_take, glBScrLive]
  refine plant38_ok (by omega) fun s2 v m2 l2 => ?_
  have n2 := m2.next
  have r2 := (m2.heap s.next (by omega)).trans r1
  refine ⟨.inl m2, ?_⟩
  simp (disch := first | omega | ((simp only [nxBScrLive]) <;> omega) | decide) only [↓stepPre, stepPost, ↓W_cond, ↓W_block, ↓reduceIte, Nat.reduceEqDiff, Nat.reduceLT, Nat.reduceLeDiff, ret0, stVar, isTup, Value.cells, Nat.le_refl, Nat.reduceAdd, Nat.reduceMul, Nat.reduceSub, env0, binV, intV, reduceCtorEq, pickV, nilCheckV, ptrV, unV, true_and, and_true, Nat.add_zero, Nat.zero_add, Rt, resultsV, allV, resV, Bool.not_true, Bool.not_false, calleeV, builtinV, eqV, fieldAddrV, ldVar, stN_own, stN_ownL, Int.fdiv_eq_ediv_of_nonneg, Int.reduceToNat, Int.reducePow, IntKind.bits, convV, ne_eq, not_false_eq_true, not_true_eq_false, Int.reduceNeg, Int.reduceAdd, Int.reduceSub, Int.reduceLT, Int.reduceLE, extractV, decide_true, decide_false, Int.reduceEq, mkFuncV, stBScrLive, beq_self_eq_true, tyB0ScrLive, getL_take, glBScrLive, r2, buildV, fillL, setL, buildA]
  have l3 : Sl base (s2.alloc (.row [.int .i64 3, .int .i64 1, .int .i64 3, .int .u8 5, .int .u8 0, .int .u8 0, .int .u8 0, .int .u8 0, .int .u8 0, .int .u8 0, .int .u8 0, .int .i64 1, .int .i64 0, .int .i64 50, .int .u8 0, .int .u8 0, .int .u8 0, .int .u8 0, .int .u8 0, .int .u8 0, .int .u8 0, .int .u8 0])) 11 (.slice (some ⟨s2.next, 0, none⟩) 2 2) (acL [acP, acQ]) := .newRow (L := acL [acP, acQ]) (Ab.heap_alloc_new _ _) rfl rfl (by simp [acL, acP, acQ, bC]) (by omega) (by simp only [Ab.next_alloc]; omega)
  have m3 := (m1.trans m2).alloc' (o := .row [.int .i64 3, .int .i64 1, .int .i64 3, .int .u8 5, .int .u8 0, .int .u8 0, .int .u8 0, .int .u8 0, .int .u8 0, .int .u8 0, .int .u8 0, .int .i64 1, .int .i64 0, .int .i64 50, .int .u8 0, .int .u8 0, .int .u8 0, .int .u8 0, .int .u8 0, .int .u8 0, .int .u8 0, .int .u8 0])
  have n3 := Ab.next_alloc s2 (.row [.int .i64 3, .int .i64 1, .int .i64 3, .int .u8 5, .int .u8 0, .int .u8 0, .int .u8 0, .int .u8 0, .int .u8 0, .int .u8 0, .int .u8 0, .int .i64 1, .int .i64 0, .int .i64 50, .int .u8 0, .int .u8 0, .int .u8 0, .int .u8 0, .int .u8 0, .int .u8 0, .int .u8 0, .int .u8 0])
  refine print38_ok (p := plP) (l := [acP, acQ]) (l2.mild (Mild.alloc _ _)) l3 (by simp [acP, acQ, Ac.good]) (by simp [plP]) (by simp) (by simp [plP]) (by simp) (by simp [plP]) (hL.mild m3 hbn) (by omega) fun s4 m4 => ?_
  refine ⟨.inl m4, ?_⟩
  rw [live_print]
  have M4 := m3.trans m4
  have n4 := m4.next
  have r4 := (m4.heap s.next (by omega)).trans ((Ab.heap_alloc_ne s2 (.row [.int .i64 3, .int .i64 1, .int .i64 3, .int .u8 5, .int .u8 0, .int .u8 0, .int .u8 0, .int .u8 0, .int .u8 0, .int .u8 0, .int .u8 0, .int .i64 1, .int .i64 0, .int .i64 50, .int .u8 0, .int .u8 0, .int .u8 0, .int .u8 0, .int .u8 0, .int .u8 0, .int .u8 0, .int .u8 0]) (by omega)).trans r2)
  simp (disch := first | omega | ((simp only [nxBScrLive]) <;> omega) | decide) only [↓stepPre, stepPost, ↓W_cond, ↓W_block, ↓reduceIte, Nat.reduceEqDiff, Nat.reduceLT, Nat.reduceLeDiff, ret0, stVar, isTup, Value.cells, Nat.le_refl, Nat.reduceAdd, Nat.reduceMul, Nat.reduceSub, env0, binV, intV, reduceCtorEq, pickV, nilCheckV, ptrV, unV, true_and, and_true, Nat.add_zero, Nat.zero_add, Rt, resultsV, allV, resV, Bool.not_true, Bool.not_false, calleeV, builtinV, eqV, fieldAddrV, ldVar, stN_own, stN_ownL, Int.fdiv_eq_ediv_of_nonneg, Int.reduceToNat, Int.reducePow, IntKind.bits, convV, ne_eq, not_false_eq_true, not_true_eq_false, Int.reduceNeg, Int.reduceAdd, Int.reduceSub, Int.reduceLT, Int.reduceLE, extractV, decide_true, decide_false, Int.reduceEq, mkFuncV, stBScrLive, beq_self_eq_true, tyB0ScrLive, getL_take, glBScrLive]
  refine parse38_ok (x := printT plP [acP, acQ]) live_len (hL.mild M4 hbn) (by omega) (fun _ s5 w u m5 l5 l6 => ?_) (fun h => absurd (by rw [live_parse]) h)
  simp only [live_parse] at l5 l6 ⊢
  obtain ⟨wa, wn, wc, rfl⟩ := l5.shape
  have M5 := M4.trans m5
  have n5 := m5.next
  have r5 := (m5.heap s.next (by omega)).trans r4
  simp (disch := first | omega | ((simp only [nxBScrLive]) <;> omega) | decide) only [↓stepPre, stepPost, ↓W_cond, ↓W_block, ↓reduceIte, Nat.reduceEqDiff, Nat.reduceLT, Nat.reduceLeDiff, ret0, stVar, isTup, Value.cells, Nat.le_refl, Nat.reduceAdd, Nat.reduceMul, Nat.reduceSub, env0, binV, intV, reduceCtorEq, pickV, nilCheckV, ptrV, unV, true_and, and_true, Nat.add_zero, Nat.zero_add, Rt, resultsV, allV, resV, Bool.not_true, Bool.not_false, calleeV, builtinV, eqV, fieldAddrV, ldVar, stN_own, stN_ownL, Int.fdiv_eq_ediv_of_nonneg, Int.reduceToNat, Int.reducePow, IntKind.bits, convV, ne_eq, not_false_eq_true, not_true_eq_false, Int.reduceNeg, Int.reduceAdd, Int.reduceSub, Int.reduceLT, Int.reduceLE, extractV, decide_true, decide_false, Int.reduceEq, mkFuncV, stBScrLive, beq_self_eq_true, tyB0ScrLive, getL_take, glBScrLive, putAt_row]
  have M56 : Mild s5 ((((s5.alloc (.row [.int .i64 0, .slice none 0 0, .int .i64 0, .int .i64 0, .int .i64 0, .int .i64 0, .int .i64 0, .int .i64 0, .int .i64 0, .int .i64 0])).alloc (.row [.int .i64 0, .int .i64 0])).upd s5.next (.row [.int .i64 plP.no, .slice wa wn wc, .int .i64 plP.len, .int .i64 plP.rm, .int .i64 plP.nm, .int .i64 plP.dr, .int .i64 plP.tu, .int .i64 plP.ba, .int .i64 plP.st, .int .i64 plP.pe])).upd (s5.next + 1) (.row [.int .i64 0, .int .i64 0])) := ((((Mild.alloc s5 _).alloc').upd' (Nat.le_refl _)).upd' (by omega))
  have M6 := M5.trans M56
  have q6 : ((((s5.alloc (.row [.int .i64 0, .slice none 0 0, .int .i64 0, .int .i64 0, .int .i64 0, .int .i64 0, .int .i64 0, .int .i64 0, .int .i64 0, .int .i64 0])).alloc (.row [.int .i64 0, .int .i64 0])).upd s5.next (.row [.int .i64 plP.no, .slice wa wn wc, .int .i64 plP.len, .int .i64 plP.rm, .int .i64 plP.nm, .int .i64 plP.dr, .int .i64 plP.tu, .int .i64 plP.ba, .int .i64 plP.st, .int .i64 plP.pe])).upd (s5.next + 1) (.row [.int .i64 0, .int .i64 0])).heap s5.next = .row [.int .i64 plP.no, .slice wa wn wc, .int .i64 plP.len, .int .i64 plP.rm, .int .i64 plP.nm, .int .i64 plP.dr, .int .i64 plP.tu, .int .i64 plP.ba, .int .i64 plP.st, .int .i64 plP.pe] := by rw [Ab.heap_upd_ne _ _ (by omega)]; exact Ab.heap_upd_same _ _ _
  have f6 : ((((s5.alloc (.row [.int .i64 0, .slice none 0 0, .int .i64 0, .int .i64 0, .int .i64 0, .int .i64 0, .int .i64 0, .int .i64 0, .int .i64 0, .int .i64 0])).alloc (.row [.int .i64 0, .int .i64 0])).upd s5.next (.row [.int .i64 plP.no, .slice wa wn wc, .int .i64 plP.len, .int .i64 plP.rm, .int .i64 plP.nm, .int .i64 plP.dr, .int .i64 plP.tu, .int .i64 plP.ba, .int .i64 plP.st, .int .i64 plP.pe])).upd (s5.next + 1) (.row [.int .i64 0, .int .i64 0])).heap (s5.next + 1) = .row [.int .i64 0, .int .i64 0] := Ab.heap_upd_same _ _ _
  have r6 : ((((s5.alloc (.row [.int .i64 0, .slice none 0 0, .int .i64 0, .int .i64 0, .int .i64 0, .int .i64 0, .int .i64 0, .int .i64 0, .int .i64 0, .int .i64 0])).alloc (.row [.int .i64 0, .int .i64 0])).upd s5.next (.row [.int .i64 plP.no, .slice wa wn wc, .int .i64 plP.len, .int .i64 plP.rm, .int .i64 plP.nm, .int .i64 plP.dr, .int .i64 plP.tu, .int .i64 plP.ba, .int .i64 plP.st, .int .i64 plP.pe])).upd (s5.next + 1) (.row [.int .i64 0, .int .i64 0])).heap s.next = .row [.int .i64 3, .int .i64 1, .int .i64 3, .int .u8 5, .int .u8 0, .int .u8 0, .int .u8 0, .int .u8 0, .int .u8 0, .int .u8 0, .int .u8 0] := by rw [Ab.heap_upd_ne _ _ (by omega), Ab.heap_upd_ne _ _ (by omega), Ab.heap_alloc_ne _ _ (by simp only [Ab.next_alloc]; omega), Ab.heap_alloc_ne _ _ (by omega)]; exact r5
  have n6 : ((((s5.alloc (.row [.int .i64 0, .slice none 0 0, .int .i64 0, .int .i64 0, .int .i64 0, .int .i64 0, .int .i64 0, .int .i64 0, .int .i64 0, .int .i64 0])).alloc (.row [.int .i64 0, .int .i64 0])).upd s5.next (.row [.int .i64 plP.no, .slice wa wn wc, .int .i64 plP.len, .int .i64 plP.rm, .int .i64 plP.nm, .int .i64 plP.dr, .int .i64 plP.tu, .int .i64 plP.ba, .int .i64 plP.st, .int .i64 plP.pe])).upd (s5.next + 1) (.row [.int .i64 0, .int .i64 0])).next = s5.next + 2 := rfl
  have l5' := l5.mild M56
  have l6' := l6.mild M56
  generalize (((s5.alloc (.row [.int .i64 0, .slice none 0 0, .int .i64 0, .int .i64 0, .int .i64 0, .int .i64 0, .int .i64 0, .int .i64 0, .int .i64 0, .int .i64 0])).alloc (.row [.int .i64 0, .int .i64 0])).upd s5.next (.row [.int .i64 plP.no, .slice wa wn wc, .int .i64 plP.len, .int .i64 plP.rm, .int .i64 plP.nm, .int .i64 plP.dr, .int .i64 plP.tu, .int .i64 plP.ba, .int .i64 plP.st, .int .i64 plP.pe])).upd (s5.next + 1) (.row [.int .i64 0, .int .i64 0]) = s6 at M56 M6 q6 f6 r6 n6 l5' l6' ⊢
  refine parse38_ok (x := [110, 111, 100, 101, 115, 32, 50, 10]) (by decide) (hL.mild M6 hbn) (by omega) (fun h => absurd h (by rw [live_cut.1]; decide)) (fun _ s7 m7 => ?_)
  rw [live_cut.1, live_cut.2]
  have M7 := M6.trans m7
  have n7 := m7.next
  have q7 := (m7.heap s5.next (by omega)).trans q6
  have f7 := (m7.heap (s5.next + 1) (by omega)).trans f6
  have r7 := (m7.heap s.next (by omega)).trans r6
  have l5'' := l5'.mild m7
  have l6'' := l6'.mild m7
  simp (disch := first | omega | ((simp only [nxBScrLive]) <;> omega) | decide) only [↓stepPre, stepPost, ↓W_cond, ↓W_block, ↓reduceIte, Nat.reduceEqDiff, Nat.reduceLT, Nat.reduceLeDiff, ret0, stVar, isTup, Value.cells, Nat.le_refl, Nat.reduceAdd, Nat.reduceMul, Nat.reduceSub, env0, binV, intV, reduceCtorEq, pickV, nilCheckV, ptrV, unV, true_and, and_true, Nat.add_zero, Nat.zero_add, Rt, resultsV, allV, resV, Bool.not_true, Bool.not_false, calleeV, builtinV, eqV, fieldAddrV, ldVar, stN_own, stN_ownL, Int.fdiv_eq_ediv_of_nonneg, Int.reduceToNat, Int.reducePow, IntKind.bits, convV, ne_eq, not_false_eq_true, not_true_eq_false, Int.reduceNeg, Int.reduceAdd, Int.reduceSub, Int.reduceLT, Int.reduceLE, extractV, decide_true, decide_false, Int.reduceEq, mkFuncV, stBScrLive, beq_self_eq_true, tyB0ScrLive, getL_take, glBScrLive, putAt_row]
  have M78 : Mild s7 ((((s7.alloc (.row [.int .i64 0, .slice none 0 0, .int .i64 0, .int .i64 0, .int .i64 0, .int .i64 0, .int .i64 0, .int .i64 0, .int .i64 0, .int .i64 0])).alloc (.row [.int .i64 0, .int .i64 0])).upd s7.next (.row [.int .i64 pl0.no, .slice none 0 0, .int .i64 pl0.len, .int .i64 pl0.rm, .int .i64 pl0.nm, .int .i64 pl0.dr, .int .i64 pl0.tu, .int .i64 pl0.ba, .int .i64 pl0.st, .int .i64 pl0.pe])).upd (s7.next + 1) (.row [.int .i64 12, .int .i64 1])) := ((((Mild.alloc s7 _).alloc').upd' (Nat.le_refl _)).upd' (by omega))
  have M8 := M7.trans M78
  have q8 := (M78.heap s5.next (by omega)).trans q7
  have f8 := (M78.heap (s5.next + 1) (by omega)).trans f7
  have r8 := (M78.heap s.next (by omega)).trans r7
  have g8 : ((((s7.alloc (.row [.int .i64 0, .slice none 0 0, .int .i64 0, .int .i64 0, .int .i64 0, .int .i64 0, .int .i64 0, .int .i64 0, .int .i64 0, .int .i64 0])).alloc (.row [.int .i64 0, .int .i64 0])).upd s7.next (.row [.int .i64 pl0.no, .slice none 0 0, .int .i64 pl0.len, .int .i64 pl0.rm, .int .i64 pl0.nm, .int .i64 pl0.dr, .int .i64 pl0.tu, .int .i64 pl0.ba, .int .i64 pl0.st, .int .i64 pl0.pe])).upd (s7.next + 1) (.row [.int .i64 12, .int .i64 1])).heap (s7.next + 1) = .row [.int .i64 12, .int .i64 1] := Ab.heap_upd_same _ _ _
  have n8 : ((((s7.alloc (.row [.int .i64 0, .slice none 0 0, .int .i64 0, .int .i64 0, .int .i64 0, .int .i64 0, .int .i64 0, .int .i64 0, .int .i64 0, .int .i64 0])).alloc (.row [.int .i64 0, .int .i64 0])).upd s7.next (.row [.int .i64 pl0.no, .slice none 0 0, .int .i64 pl0.len, .int .i64 pl0.rm, .int .i64 pl0.nm, .int .i64 pl0.dr, .int .i64 pl0.tu, .int .i64 pl0.ba, .int .i64 pl0.st, .int .i64 pl0.pe])).upd (s7.next + 1) (.row [.int .i64 12, .int .i64 1])).next = s7.next + 2 := rfl
  have l58 := l5''.mild M78
  have l68 := l6''.mild M78
  generalize (((s7.alloc (.row [.int .i64 0, .slice none 0 0, .int .i64 0, .int .i64 0, .int .i64 0, .int .i64 0, .int .i64 0, .int .i64 0, .int .i64 0, .int .i64 0])).alloc (.row [.int .i64 0, .int .i64 0])).upd s7.next (.row [.int .i64 pl0.no, .slice none 0 0, .int .i64 pl0.len, .int .i64 pl0.rm, .int .i64 pl0.nm, .int .i64 pl0.dr, .int .i64 pl0.tu, .int .i64 pl0.ba, .int .i64 pl0.st, .int .i64 pl0.pe])).upd (s7.next + 1) (.row [.int .i64 12, .int .i64 1]) = s8 at M78 M8 q8 f8 r8 g8 n8 l58 l68 ⊢
  refine W_draw (fun _ => false) (fun _ => false) (fun _ => false) (by kernel_rfl) (by kernel_rfl) ?_
  simp (disch := first | omega | ((simp only [nxBScrLive]) <;> omega) | decide) only [↓stepPre, stepPost, ↓W_cond, ↓W_block, ↓reduceIte, Nat.reduceEqDiff, Nat.reduceLT, Nat.reduceLeDiff, ret0, stVar, isTup, Value.cells, Nat.le_refl, Nat.reduceAdd, Nat.reduceMul, Nat.reduceSub, env0, binV, intV, reduceCtorEq, pickV, nilCheckV, ptrV, unV, true_and, and_true, Nat.add_zero, Nat.zero_add, Rt, resultsV, allV, resV, Bool.not_true, Bool.not_false, calleeV, builtinV, eqV, fieldAddrV, ldVar, stN_own, stN_ownL, Int.fdiv_eq_ediv_of_nonneg, Int.reduceToNat, Int.reducePow, IntKind.bits, convV, ne_eq, not_false_eq_true, not_true_eq_false, Int.reduceNeg, Int.reduceAdd, Int.reduceSub, Int.reduceLT, Int.reduceLE, extractV, decide_true, decide_false, Int.reduceEq, mkFuncV, stBScrLive, beq_self_eq_true, tyB0ScrLive, getL_take, glBScrLive, r8]
  refine line38_ok (k := 3) (K := 1) (N := 3) (ds := [5, 0, 0, 0, 0, 0, 0, 0]) rfl (by simp) (hL.mild M8 hbn) (by omega) fun s9 m9 => ?_
  refine ⟨.inl m9, ?_⟩
  rw [live_line]
  have M9 := M8.trans m9
  have n9 := m9.next
  have q9 := (m9.heap s5.next (by omega)).trans q8
  have f9 := (m9.heap (s5.next + 1) (by omega)).trans f8
  have r9 := (m9.heap s.next (by omega)).trans r8
  have g9 := (m9.heap (s7.next + 1) (by omega)).trans g8
  have l59 := l58.mild m9
  have l69 := l68.mild m9
  simp (disch := first | omega | ((simp only [nxBScrLive]) <;> omega) | decide) only [↓stepPre, stepPost, ↓W_cond, ↓W_block, ↓reduceIte, Nat.reduceEqDiff, Nat.reduceLT, Nat.reduceLeDiff, ret0, stVar, isTup, Value.cells, Nat.le_refl, Nat.reduceAdd, Nat.reduceMul, Nat.reduceSub, env0, binV, intV, reduceCtorEq, pickV, nilCheckV, ptrV, unV, true_and, and_true, Nat.add_zero, Nat.zero_add, Rt, resultsV, allV, resV, Bool.not_true, Bool.not_false, calleeV, builtinV, eqV, fieldAddrV, ldVar, stN_own, stN_ownL, Int.fdiv_eq_ediv_of_nonneg, Int.reduceToNat, Int.reducePow, IntKind.bits, convV, ne_eq, not_false_eq_true, not_true_eq_false, Int.reduceNeg, Int.reduceAdd, Int.reduceSub, Int.reduceLT, Int.reduceLE, extractV, decide_true, decide_false, Int.reduceEq, mkFuncV, stBScrLive, beq_self_eq_true, tyB0ScrLive, getL_take, glBScrLive, r9, eqlStrV, eq_self]
  refine right38_p (k := 3) (K := 1) (N := 3) (ds := [5, 0, 0, 0, 0, 0, 0, 0]) rfl ?_
  rw [live_right.1]
  simp (disch := first | omega | ((simp only [nxBScrLive]) <;> omega) | decide) only [↓stepPre, stepPost, ↓W_cond, ↓W_block, ↓reduceIte, Nat.reduceEqDiff, Nat.reduceLT, Nat.reduceLeDiff, ret0, stVar, isTup, Value.cells, Nat.le_refl, Nat.reduceAdd, Nat.reduceMul, Nat.reduceSub, env0, binV, intV, reduceCtorEq, pickV, nilCheckV, ptrV, unV, true_and, and_true, Nat.add_zero, Nat.zero_add, Rt, resultsV, allV, resV, Bool.not_true, Bool.not_false, calleeV, builtinV, eqV, fieldAddrV, ldVar, stN_own, stN_ownL, Int.fdiv_eq_ediv_of_nonneg, Int.reduceToNat, Int.reducePow, IntKind.bits, convV, ne_eq, not_false_eq_true, not_true_eq_false, Int.reduceNeg, Int.reduceAdd, Int.reduceSub, Int.reduceLT, Int.reduceLE, extractV, decide_true, decide_false, Int.reduceEq, mkFuncV, stBScrLive, beq_self_eq_true, tyB0ScrLive, getL_take, glBScrLive, Dok_same, r9, buildV, fillL, setL]
  refine right38_p (k := 0) (K := 0) (N := 0) (ds := [0, 0, 0, 0, 0, 0, 0, 0]) rfl ?_
  rw [live_right.2]
  have hF0 := eqV_same (P := Tryd.prog) (t := 33) (l := [.int .i64 0, .int .i64 0]) Ty.kd33 Ty.eqg33 Ty.agg33 rfl
  have hF1 := eqV_same (P := Tryd.prog) (t := 33) (l := [.int .i64 12, .int .i64 1]) Ty.kd33 Ty.eqg33 Ty.agg33 rfl
  simp (disch := first | omega | ((simp only [nxBScrLive]) <;> omega) | decide) only [↓stepPre, stepPost, ↓W_cond, ↓W_block, ↓reduceIte, Nat.reduceEqDiff, Nat.reduceLT, Nat.reduceLeDiff, ret0, stVar, isTup, Value.cells, Nat.le_refl, Nat.reduceAdd, Nat.reduceMul, Nat.reduceSub, env0, binV, intV, reduceCtorEq, pickV, nilCheckV, ptrV, unV, true_and, and_true, Nat.add_zero, Nat.zero_add, Rt, resultsV, allV, resV, Bool.not_true, Bool.not_false, calleeV, builtinV, eqV, fieldAddrV, ldVar, stN_own, stN_ownL, Int.fdiv_eq_ediv_of_nonneg, Int.reduceToNat, Int.reducePow, IntKind.bits, convV, ne_eq, not_false_eq_true, not_true_eq_false, Int.reduceNeg, Int.reduceAdd, Int.reduceSub, Int.reduceLT, Int.reduceLE, extractV, decide_true, decide_false, Int.reduceEq, mkFuncV, stBScrLive, beq_self_eq_true, -eqV, tyB0ScrLive, getL_take, glBScrLive, Dok_same, q9, f9, eq_self, buildV, fillL, setL, hF0]
  refine plant38_ok (by omega) fun s10 v10 m10 l10 => ?_
  refine ⟨.inl m10, ?_⟩
  have M10 := M9.trans m10
  have n10 := m10.next
  have f10 := (m10.heap (s5.next + 1) (by omega)).trans f9
  have r10 := (m10.heap s.next (by omega)).trans r9
  have g10 := (m10.heap (s7.next + 1) (by omega)).trans g9
  have l60 := l69.mild m10
  simp (disch := first | omega | ((simp only [nxBScrLive]) <;> omega) | decide) only [↓stepPre, stepPost, ↓W_cond, ↓W_block, ↓reduceIte, Nat.reduceEqDiff, Nat.reduceLT, Nat.reduceLeDiff, ret0, stVar, isTup, Value.cells, Nat.le_refl, Nat.reduceAdd, Nat.reduceMul, Nat.reduceSub, env0, binV, intV, reduceCtorEq, pickV, nilCheckV, ptrV, unV, true_and, and_true, Nat.add_zero, Nat.zero_add, Rt, resultsV, allV, resV, Bool.not_true, Bool.not_false, calleeV, builtinV, eqV, fieldAddrV, ldVar, stN_own, stN_ownL, Int.fdiv_eq_ediv_of_nonneg, Int.reduceToNat, Int.reducePow, IntKind.bits, convV, ne_eq, not_false_eq_true, not_true_eq_false, Int.reduceNeg, Int.reduceAdd, Int.reduceSub, Int.reduceLT, Int.reduceLE, extractV, decide_true, decide_false, Int.reduceEq, mkFuncV, stBScrLive, beq_self_eq_true, tyB0ScrLive, getL_take, glBScrLive]
  refine same38_ok (p := plP) (l59.mild m10) l10 (by simp [plP]) (by omega) fun s11 m11 => ?_
  refine ⟨.inl m11, ?_⟩
  have M11 := M10.trans m11
  have n11 := m11.next
  have r11 := (m11.heap s.next (by omega)).trans r10
  have g11 := (m11.heap (s7.next + 1) (by omega)).trans g10
  have l61 := l60.mild m11
  have hlen := l61.len (P := Tryd.prog) (ts := []) Ty.elem27 Ty.arr27
  rw [acL_len] at hlen
  have hix := l61.index (P := Tryd.prog) (k := .i64) (i := 0) Ty.elem27 Ty.siz45 (by omega) (by rw [acL_len]; simp)
  have hld := l61.loadA (i := 0) (l := [.int .i64 3, .int .i64 1, .int .i64 3, .int .u8 5, .int .u8 0, .int .u8 0, .int .u8 0, .int .u8 0, .int .u8 0, .int .u8 0, .int .u8 0]) rfl Ty.agg45 Ty.siz45
  have heq := eqV_same (P := Tryd.prog) (t := 45) (l := [.int .i64 3, .int .i64 1, .int .i64 3, .int .u8 5, .int .u8 0, .int .u8 0, .int .u8 0, .int .u8 0, .int .u8 0, .int .u8 0, .int .u8 0]) Ty.kd45 Ty.eqg45 Ty.agg45 rfl
  have hl2 : (([acP, acQ].length : Nat) : Int) = 2 := rfl
  simp only [hl2] at hlen
  simp (disch := first | omega | ((simp only [nxBScrLive]) <;> omega) | decide) only [↓stepPre, stepPost, ↓W_cond, ↓W_block, ↓reduceIte, Nat.reduceEqDiff, Nat.reduceLT, Nat.reduceLeDiff, ret0, stVar, isTup, Value.cells, Nat.le_refl, Nat.reduceAdd, Nat.reduceMul, Nat.reduceSub, env0, binV, intV, reduceCtorEq, pickV, nilCheckV, ptrV, unV, true_and, and_true, Nat.add_zero, Nat.zero_add, Rt, resultsV, allV, resV, Bool.not_true, Bool.not_false, calleeV, builtinV, eqV, fieldAddrV, ldVar, stN_own, stN_ownL, Int.fdiv_eq_ediv_of_nonneg, Int.reduceToNat, Int.reducePow, IntKind.bits, convV, ne_eq, not_false_eq_true, not_true_eq_false, Int.reduceNeg, Int.reduceAdd, Int.reduceSub, Int.reduceLT, Int.reduceLE, extractV, decide_true, decide_false, Int.reduceEq, mkFuncV, stBScrLive, beq_self_eq_true, -eqV, tyB0ScrLive, getL_take, glBScrLive, hlen, hix, hld, r11, g11, heq, hF1, buildV, fillL, setL, eq_self, Tryd.results5]
  exact hR _ M11
end Go.Proofs.YthjpfllmecpliaaDoor
