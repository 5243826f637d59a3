/- Texts of our own, one behind the other: ScrLive, ScrPrintR. -/
import Derived.Test.YthjpfllmecpliaaGreatDoorMg4
import Derived.Test.YthjpfllmecpliaaGreatDoorMg3
import Derived.Test.YthjpfllmecpliaaGreatDoorMg10
import Derived.Test.YthjpfllmecpliaaGreatDoorMg14
/- live(): what must be, whatever is asked (the laws of the package script). -/
set_option linter.all false
set_option maxRecDepth 20000
namespace Go.Proofs.YthjpfllmecpliaaGreatDoor
open Go Go.Ab
def spBScrLive := And.intro @Nat.le_refl (And.intro @true_and (And.intro @and_true (And.intro @Nat.add_zero (And.intro @Nat.zero_add (And.intro @Bool.not_true (And.intro @Bool.not_false (And.intro @ne_eq.{1} (And.intro @not_false_eq_true (And.intro @not_true_eq_false (And.intro @decide_true (And.intro @decide_false (@Int.fdiv_eq_ediv_of_nonneg))))))))))))
def nxBScrLive := And.intro @Ab.next_alloc (And.intro @Ab.next_upd (And.intro @List.length_cons.{0} (And.intro @List.length_nil.{0} (And.intro @ne_eq.{1} (And.intro not_true_eq_false not_false_eq_true)))))
def tyB0ScrLive := And.intro @Ty.t9 (And.intro @Tryz.underlying9 (And.intro @Ty.t58 (And.intro @Tryz.underlying58 (And.intro @Ty.t22 (And.intro @Tryz.underlying22 (And.intro @Ty.t33 (And.intro @Tryz.underlying33 (And.intro @Ty.t27 (And.intro @Tryz.underlying27 (And.intro @Ty.t30 (And.intro @Tryz.underlying30 (And.intro @Ty.t31 (And.intro @Tryz.underlying31 (And.intro @Ty.t5 (And.intro @Tryz.underlying5 (And.intro @Ty.t56 (And.intro @Tryz.underlying56 (And.intro @Ty.t26 (And.intro @Tryz.underlying26 (And.intro @Ty.t41 (And.intro @Tryz.underlying41 (And.intro @Ty.t24 (And.intro @Tryz.underlying24 (And.intro @Ty.t3 (And.intro @Tryz.underlying3 (And.intro @Ty.t2 (And.intro @Tryz.underlying2 (And.intro @Ty.t4 (And.intro @Tryz.underlying4 (And.intro @Ty.t35 @Tryz.underlying35))))))))))))))))))))))))))))))
def stBScrLive := And.intro @List.size_toArray.{0} (And.intro @List.length_cons.{0} (And.intro @List.length_nil.{0} (And.intro @List.set_cons_zero.{0} (And.intro @List.set_cons_succ.{0} (And.intro @List.getD_cons_zero.{0} (And.intro @List.getD_cons_succ.{0} (And.intro @List.getElem?_cons_succ.{0} (And.intro @List.getElem?_cons_zero.{0} (And.intro @List.map_cons.{0,0} (And.intro @List.map_nil.{0,0} (And.intro @Option.isNone_none.{0} (And.intro @Option.isNone_some.{0} (And.intro @Option.map_some.{0,0} (And.intro @Option.map_none.{0,0} (And.intro @List.cons_append.{0} (And.intro @List.nil_append.{0} (And.intro @List.append_nil.{0} (And.intro @Array.toList_append.{0} (And.intro @List.toList_toArray.{0} (And.intro @Int.cast_ofNat_Int (And.intro @Option.isSome_some.{0} (And.intro @List.getElem?_toArray.{0} (And.intro @List.map_toArray.{0,0} (@Nat.min_eq_left))))))))))))))))))))))))
def glBScrLive := And.intro @List.drop_zero.{0} (And.intro @List.drop_succ_cons.{0} (And.intro @List.take_succ_cons.{0} (And.intro @List.take_zero.{0} (@List.take_nil.{0}))))
variable {base : Nat} [Bok base] {s : St} {R : Value → St → Prop}
def plP : Pl := ⟨2, 1000, 4, 10, 1, 100, 900, 100, 800, [⟨1, 0, 1, 90000, 80000, 0, 2⟩]⟩
def acP : Ac := ⟨3, 1, 3, [5, 0, 0, 0, 0, 0, 0, 0]⟩
def acQ : Ac := ⟨1, 0, 50, [0, 0, 0, 0, 0, 0, 0, 0]⟩
theorem live_print : printE plP [acP, acQ] = 0 := by decide +kernel
theorem live_parse : parseF (printT plP [acP, acQ]) = (0, 9, plP, [acP, acQ]) := by kernel_rfl
theorem live_len : (printT plP [acP, acQ]).length ≤ 131072 := by decide +kernel
theorem live_cut : (parseF [110, 111, 100, 101, 115, 32, 50, 10]).1 = 12 ∧ (parseF [110, 111, 100, 101, 115, 32, 50, 10]).2.1 = 1 := by decide +kernel
theorem live_line : lineA 3 1 3 [5, 0, 0, 0, 0, 0, 0, 0] = [114, 101, 108, 101, 97, 115, 101, 32, 49, 32, 51, 32, 48, 53, 48, 48, 48, 48, 48, 48, 48, 48, 48, 48, 48, 48, 48, 48] := by decide +kernel
theorem live_right : rightA 3 1 3 [5, 0, 0, 0, 0, 0, 0, 0] = true ∧ rightA 0 0 0 [0, 0, 0, 0, 0, 0, 0, 0] = false := by decide +kernel
theorem plant38_ok (hbn : base ≤ s.next) (hR : ∀ s' v, Mild s s' → Sl base s' 7 v (smL plP.xs) → R (.agg (plP.c v).toArray) s') : WC Tryz.prog base 11 [] s R := by
  refine WC_open Tryz.func11 rfl ?_
  have hb := fun (s : St) => build1 (P := Tryz.prog) (s := s) (l := [.int .i64 1, .int .i64 0, .int .i64 1, .int .i64 90000, .int .i64 80000, .int .i64 0, .int .i64 2]) (zr := [.int .i64 0, .int .i64 0, .int .i64 0, .int .i64 0, .int .i64 0, .int .i64 0, .int .i64 0]) Ty.elem22 Ty.siz58 Ty.zer58 rfl rfl (by omega) (by omega)
  simp only [List.toArray] at hb
  simp (disch := first | omega | ((simp only [nxBScrLive]) <;> omega) | decide) only [↓stepPre, stepPost, ↓W_cond, ↓W_block, ↓reduceIte, Nat.reduceEqDiff, Nat.reduceLT, Nat.reduceLeDiff, ret0, stVar, isTup, Value.cells, Nat.reduceAdd, Nat.reduceMul, Nat.reduceSub, env0, binV, intV, reduceCtorEq, pickV, nilCheckV, ptrV, unV, Rt, resultsV, allV, resV, calleeV, builtinV, eqV, fieldAddrV, ldVar, stN_own, stN_ownL, Int.reduceToNat, Int.reducePow, IntKind.bits, convV, Int.reduceNeg, Int.reduceAdd, Int.reduceSub, Int.reduceLT, Int.reduceLE, extractV, Int.reduceEq, mkFuncV, stBScrLive, spBScrLive, beq_self_eq_true, tyB0ScrLive, getL_take, glBScrLive, buildV, fillL, setL, hb, putAt_row, Tryz.results11]
  refine hR _ (.slice (some ⟨s.next + 1, 0, none⟩) 1 1) ?_ (.newRow (L := smL plP.xs) ((Ab.heap_upd_ne _ _ (by omega)).trans (Ab.heap_alloc_new (s.alloc _) _)) rfl rfl (by simp [smL]) (by omega) (by show s.next + 1 < s.next + 1 + 1; omega))
  (repeat first | exact Mild.refl _ | assumption | apply Mild.alloc' | (refine Mild.upd' ?_ (by omega)) | (refine Mild.upd' ?_ (by simp only [Ab.next_alloc, Ab.next_upd] at *; omega)))
theorem buildA {s : St} : buildSliceV Tryz.prog s 27 2 [(0, .agg #[.int .i64 3, .int .i64 1, .int .i64 3, .int .u8 5, .int .u8 0, .int .u8 0, .int .u8 0, .int .u8 0, .int .u8 0, .int .u8 0, .int .u8 0]), (1, .agg #[.int .i64 1, .int .i64 0, .int .i64 50, .int .u8 0, .int .u8 0, .int .u8 0, .int .u8 0, .int .u8 0, .int .u8 0, .int .u8 0, .int .u8 0])] = some (.slice (some ⟨s.next, 0, none⟩) 2 2, s.alloc (.row [.int .i64 3, .int .i64 1, .int .i64 3, .int .u8 5, .int .u8 0, .int .u8 0, .int .u8 0, .int .u8 0, .int .u8 0, .int .u8 0, .int .u8 0, .int .i64 1, .int .i64 0, .int .i64 50, .int .u8 0, .int .u8 0, .int .u8 0, .int .u8 0, .int .u8 0, .int .u8 0, .int .u8 0, .int .u8 0])) := by kernel_rfl
theorem live38_ok (hL : LaidOk base s) (hbn : base ≤ s.next) (hR : ∀ s', Mild s s' → R (.bool true) s') : WC Tryz.prog base 4 [] s R := by
  refine WC_open Tryz.func4 rfl ?_
  simp (disch := first | omega | ((simp only [nxBScrLive]) <;> omega) | decide) only [↓stepPre, stepPost, ↓W_cond, ↓W_block, ↓reduceIte, Nat.reduceEqDiff, Nat.reduceLT, Nat.reduceLeDiff, ret0, stVar, isTup, Value.cells, Nat.reduceAdd, Nat.reduceMul, Nat.reduceSub, env0, binV, intV, reduceCtorEq, pickV, nilCheckV, ptrV, unV, Rt, resultsV, allV, resV, calleeV, builtinV, eqV, fieldAddrV, ldVar, stN_own, stN_ownL, Int.reduceToNat, Int.reducePow, IntKind.bits, convV, Int.reduceNeg, Int.reduceAdd, Int.reduceSub, Int.reduceLT, Int.reduceLE, extractV, Int.reduceEq, mkFuncV, stBScrLive, spBScrLive, beq_self_eq_true, tyB0ScrLive, getL_take, glBScrLive, buildV, fillL, setL]
  have m1 := Mild.alloc s (.row [.int .i64 3, .int .i64 1, .int .i64 3, .int .u8 5, .int .u8 0, .int .u8 0, .int .u8 0, .int .u8 0, .int .u8 0, .int .u8 0, .int .u8 0])
  have r1 := Ab.heap_alloc_new s (.row [.int .i64 3, .int .i64 1, .int .i64 3, .int .u8 5, .int .u8 0, .int .u8 0, .int .u8 0, .int .u8 0, .int .u8 0, .int .u8 0, .int .u8 0])
  have n1 := Ab.next_alloc s (.row [.int .i64 3, .int .i64 1, .int .i64 3, .int .u8 5, .int .u8 0, .int .u8 0, .int .u8 0, .int .u8 0, .int .u8 0, .int .u8 0, .int .u8 0])
  generalize s.alloc (.row [.int .i64 3, .int .i64 1, .int .i64 3, .int .u8 5, .int .u8 0, .int .u8 0, .int .u8 0, .int .u8 0, .int .u8 0, .int .u8 0, .int .u8 0]) = s1 at m1 r1 n1 ⊢
  refine W_draw (fun _ => false) (fun _ => false) (fun _ => false) (by kernel_rfl) (by kernel_rfl) ?_
  simp (disch := first | omega | ((simp only [nxBScrLive]) <;> omega) | decide) only [↓stepPre, stepPost, ↓W_cond, ↓W_block, ↓reduceIte, Nat.reduceEqDiff, Nat.reduceLT, Nat.reduceLeDiff, ret0, stVar, isTup, Value.cells, Nat.reduceAdd, Nat.reduceMul, Nat.reduceSub, env0, binV, intV, reduceCtorEq, pickV, nilCheckV, ptrV, unV, Rt, resultsV, allV, resV, calleeV, builtinV, eqV, fieldAddrV, ldVar, stN_own, stN_ownL, Int.reduceToNat, Int.reducePow, IntKind.bits, convV, Int.reduceNeg, Int.reduceAdd, Int.reduceSub, Int.reduceLT, Int.reduceLE, extractV, Int.reduceEq, mkFuncV, stBScrLive, spBScrLive, beq_self_eq_true, tyB0ScrLive, getL_take, glBScrLive]
  refine plant38_ok (by omega) fun s2 v m2 l2 => ?_
  have n2 := m2.next
  have r2 := (m2.heap s.next (by omega)).trans r1
  refine ⟨.inl m2, ?_⟩
  simp (disch := first | omega | ((simp only [nxBScrLive]) <;> omega) | decide) only [↓stepPre, stepPost, ↓W_cond, ↓W_block, ↓reduceIte, Nat.reduceEqDiff, Nat.reduceLT, Nat.reduceLeDiff, ret0, stVar, isTup, Value.cells, Nat.reduceAdd, Nat.reduceMul, Nat.reduceSub, env0, binV, intV, reduceCtorEq, pickV, nilCheckV, ptrV, unV, Rt, resultsV, allV, resV, calleeV, builtinV, eqV, fieldAddrV, ldVar, stN_own, stN_ownL, Int.reduceToNat, Int.reducePow, IntKind.bits, convV, Int.reduceNeg, Int.reduceAdd, Int.reduceSub, Int.reduceLT, Int.reduceLE, extractV, Int.reduceEq, mkFuncV, stBScrLive, spBScrLive, beq_self_eq_true, tyB0ScrLive, getL_take, glBScrLive, r2, buildV, fillL, setL, buildA]
  have l3 : Sl base (s2.alloc (.row [.int .i64 3, .int .i64 1, .int .i64 3, .int .u8 5, .int .u8 0, .int .u8 0, .int .u8 0, .int .u8 0, .int .u8 0, .int .u8 0, .int .u8 0, .int .i64 1, .int .i64 0, .int .i64 50, .int .u8 0, .int .u8 0, .int .u8 0, .int .u8 0, .int .u8 0, .int .u8 0, .int .u8 0, .int .u8 0])) 11 (.slice (some ⟨s2.next, 0, none⟩) 2 2) (acL [acP, acQ]) := .newRow (L := acL [acP, acQ]) (Ab.heap_alloc_new _ _) rfl rfl (by simp [acL, acP, acQ, bC]) (by omega) (by simp only [Ab.next_alloc]; omega)
  have m3 := (m1.trans m2).alloc' (o := .row [.int .i64 3, .int .i64 1, .int .i64 3, .int .u8 5, .int .u8 0, .int .u8 0, .int .u8 0, .int .u8 0, .int .u8 0, .int .u8 0, .int .u8 0, .int .i64 1, .int .i64 0, .int .i64 50, .int .u8 0, .int .u8 0, .int .u8 0, .int .u8 0, .int .u8 0, .int .u8 0, .int .u8 0, .int .u8 0])
  have n3 := Ab.next_alloc s2 (.row [.int .i64 3, .int .i64 1, .int .i64 3, .int .u8 5, .int .u8 0, .int .u8 0, .int .u8 0, .int .u8 0, .int .u8 0, .int .u8 0, .int .u8 0, .int .i64 1, .int .i64 0, .int .i64 50, .int .u8 0, .int .u8 0, .int .u8 0, .int .u8 0, .int .u8 0, .int .u8 0, .int .u8 0, .int .u8 0])
  refine print38_ok (p := plP) (l := [acP, acQ]) (l2.mild (Mild.alloc _ _)) l3 (by simp [acP, acQ, Ac.good]) (by simp [plP]) (by simp) (by simp [plP]) (by simp) (by simp [plP]) (hL.mild m3 hbn) (by omega) fun s4 m4 => ?_
  refine ⟨.inl m4, ?_⟩
  rw [live_print]
  have M4 := m3.trans m4
  have n4 := m4.next
  have r4 := (m4.heap s.next (by omega)).trans ((Ab.heap_alloc_ne s2 (.row [.int .i64 3, .int .i64 1, .int .i64 3, .int .u8 5, .int .u8 0, .int .u8 0, .int .u8 0, .int .u8 0, .int .u8 0, .int .u8 0, .int .u8 0, .int .i64 1, .int .i64 0, .int .i64 50, .int .u8 0, .int .u8 0, .int .u8 0, .int .u8 0, .int .u8 0, .int .u8 0, .int .u8 0, .int .u8 0]) (by omega)).trans r2)
  simp (disch := first | omega | ((simp only [nxBScrLive]) <;> omega) | decide) only [↓stepPre, stepPost, ↓W_cond, ↓W_block, ↓reduceIte, Nat.reduceEqDiff, Nat.reduceLT, Nat.reduceLeDiff, ret0, stVar, isTup, Value.cells, Nat.reduceAdd, Nat.reduceMul, Nat.reduceSub, env0, binV, intV, reduceCtorEq, pickV, nilCheckV, ptrV, unV, Rt, resultsV, allV, resV, calleeV, builtinV, eqV, fieldAddrV, ldVar, stN_own, stN_ownL, Int.reduceToNat, Int.reducePow, IntKind.bits, convV, Int.reduceNeg, Int.reduceAdd, Int.reduceSub, Int.reduceLT, Int.reduceLE, extractV, Int.reduceEq, mkFuncV, stBScrLive, spBScrLive, beq_self_eq_true, tyB0ScrLive, getL_take, glBScrLive]
  refine parse38_ok (x := printT plP [acP, acQ]) live_len (hL.mild M4 hbn) (by omega) (fun _ s5 w u m5 l5 l6 => ?_) (fun h => absurd (by rw [live_parse]) h)
  simp only [live_parse] at l5 l6 ⊢
  obtain ⟨wa, wn, wc, rfl⟩ := l5.shape
  have M5 := M4.trans m5
  have n5 := m5.next
  have r5 := (m5.heap s.next (by omega)).trans r4
  simp (disch := first | omega | ((simp only [nxBScrLive]) <;> omega) | decide) only [↓stepPre, stepPost, ↓W_cond, ↓W_block, ↓reduceIte, Nat.reduceEqDiff, Nat.reduceLT, Nat.reduceLeDiff, ret0, stVar, isTup, Value.cells, Nat.reduceAdd, Nat.reduceMul, Nat.reduceSub, env0, binV, intV, reduceCtorEq, pickV, nilCheckV, ptrV, unV, Rt, resultsV, allV, resV, calleeV, builtinV, eqV, fieldAddrV, ldVar, stN_own, stN_ownL, Int.reduceToNat, Int.reducePow, IntKind.bits, convV, Int.reduceNeg, Int.reduceAdd, Int.reduceSub, Int.reduceLT, Int.reduceLE, extractV, Int.reduceEq, mkFuncV, stBScrLive, spBScrLive, beq_self_eq_true, tyB0ScrLive, getL_take, glBScrLive, putAt_row]
  have M56 : Mild s5 ((((s5.alloc (.row [.int .i64 0, .slice none 0 0, .int .i64 0, .int .i64 0, .int .i64 0, .int .i64 0, .int .i64 0, .int .i64 0, .int .i64 0, .int .i64 0])).alloc (.row [.int .i64 0, .int .i64 0])).upd s5.next (.row [.int .i64 plP.no, .slice wa wn wc, .int .i64 plP.len, .int .i64 plP.rm, .int .i64 plP.nm, .int .i64 plP.dr, .int .i64 plP.tu, .int .i64 plP.ba, .int .i64 plP.st, .int .i64 plP.pe])).upd (s5.next + 1) (.row [.int .i64 0, .int .i64 0])) := ((((Mild.alloc s5 _).alloc').upd' (Nat.le_refl _)).upd' (by omega))
  have M6 := M5.trans M56
  have q6 : ((((s5.alloc (.row [.int .i64 0, .slice none 0 0, .int .i64 0, .int .i64 0, .int .i64 0, .int .i64 0, .int .i64 0, .int .i64 0, .int .i64 0, .int .i64 0])).alloc (.row [.int .i64 0, .int .i64 0])).upd s5.next (.row [.int .i64 plP.no, .slice wa wn wc, .int .i64 plP.len, .int .i64 plP.rm, .int .i64 plP.nm, .int .i64 plP.dr, .int .i64 plP.tu, .int .i64 plP.ba, .int .i64 plP.st, .int .i64 plP.pe])).upd (s5.next + 1) (.row [.int .i64 0, .int .i64 0])).heap s5.next = .row [.int .i64 plP.no, .slice wa wn wc, .int .i64 plP.len, .int .i64 plP.rm, .int .i64 plP.nm, .int .i64 plP.dr, .int .i64 plP.tu, .int .i64 plP.ba, .int .i64 plP.st, .int .i64 plP.pe] := by rw [Ab.heap_upd_ne _ _ (by omega)]; exact Ab.heap_upd_same _ _ _
  have f6 : ((((s5.alloc (.row [.int .i64 0, .slice none 0 0, .int .i64 0, .int .i64 0, .int .i64 0, .int .i64 0, .int .i64 0, .int .i64 0, .int .i64 0, .int .i64 0])).alloc (.row [.int .i64 0, .int .i64 0])).upd s5.next (.row [.int .i64 plP.no, .slice wa wn wc, .int .i64 plP.len, .int .i64 plP.rm, .int .i64 plP.nm, .int .i64 plP.dr, .int .i64 plP.tu, .int .i64 plP.ba, .int .i64 plP.st, .int .i64 plP.pe])).upd (s5.next + 1) (.row [.int .i64 0, .int .i64 0])).heap (s5.next + 1) = .row [.int .i64 0, .int .i64 0] := Ab.heap_upd_same _ _ _
  have r6 : ((((s5.alloc (.row [.int .i64 0, .slice none 0 0, .int .i64 0, .int .i64 0, .int .i64 0, .int .i64 0, .int .i64 0, .int .i64 0, .int .i64 0, .int .i64 0])).alloc (.row [.int .i64 0, .int .i64 0])).upd s5.next (.row [.int .i64 plP.no, .slice wa wn wc, .int .i64 plP.len, .int .i64 plP.rm, .int .i64 plP.nm, .int .i64 plP.dr, .int .i64 plP.tu, .int .i64 plP.ba, .int .i64 plP.st, .int .i64 plP.pe])).upd (s5.next + 1) (.row [.int .i64 0, .int .i64 0])).heap s.next = .row [.int .i64 3, .int .i64 1, .int .i64 3, .int .u8 5, .int .u8 0, .int .u8 0, .int .u8 0, .int .u8 0, .int .u8 0, .int .u8 0, .int .u8 0] := by rw [Ab.heap_upd_ne _ _ (by omega), Ab.heap_upd_ne _ _ (by omega), Ab.heap_alloc_ne _ _ (by simp only [Ab.next_alloc]; omega), Ab.heap_alloc_ne _ _ (by omega)]; exact r5
  have n6 : ((((s5.alloc (.row [.int .i64 0, .slice none 0 0, .int .i64 0, .int .i64 0, .int .i64 0, .int .i64 0, .int .i64 0, .int .i64 0, .int .i64 0, .int .i64 0])).alloc (.row [.int .i64 0, .int .i64 0])).upd s5.next (.row [.int .i64 plP.no, .slice wa wn wc, .int .i64 plP.len, .int .i64 plP.rm, .int .i64 plP.nm, .int .i64 plP.dr, .int .i64 plP.tu, .int .i64 plP.ba, .int .i64 plP.st, .int .i64 plP.pe])).upd (s5.next + 1) (.row [.int .i64 0, .int .i64 0])).next = s5.next + 2 := rfl
  have l5' := l5.mild M56
  have l6' := l6.mild M56
  generalize (((s5.alloc (.row [.int .i64 0, .slice none 0 0, .int .i64 0, .int .i64 0, .int .i64 0, .int .i64 0, .int .i64 0, .int .i64 0, .int .i64 0, .int .i64 0])).alloc (.row [.int .i64 0, .int .i64 0])).upd s5.next (.row [.int .i64 plP.no, .slice wa wn wc, .int .i64 plP.len, .int .i64 plP.rm, .int .i64 plP.nm, .int .i64 plP.dr, .int .i64 plP.tu, .int .i64 plP.ba, .int .i64 plP.st, .int .i64 plP.pe])).upd (s5.next + 1) (.row [.int .i64 0, .int .i64 0]) = s6 at M56 M6 q6 f6 r6 n6 l5' l6' ⊢
  refine parse38_ok (x := [110, 111, 100, 101, 115, 32, 50, 10]) (by decide) (hL.mild M6 hbn) (by omega) (fun h => absurd h (by rw [live_cut.1]; decide)) (fun _ s7 m7 => ?_)
  rw [live_cut.1, live_cut.2]
  have M7 := M6.trans m7
  have n7 := m7.next
  have q7 := (m7.heap s5.next (by omega)).trans q6
  have f7 := (m7.heap (s5.next + 1) (by omega)).trans f6
  have r7 := (m7.heap s.next (by omega)).trans r6
  have l5'' := l5'.mild m7
  have l6'' := l6'.mild m7
  simp (disch := first | omega | ((simp only [nxBScrLive]) <;> omega) | decide) only [↓stepPre, stepPost, ↓W_cond, ↓W_block, ↓reduceIte, Nat.reduceEqDiff, Nat.reduceLT, Nat.reduceLeDiff, ret0, stVar, isTup, Value.cells, Nat.reduceAdd, Nat.reduceMul, Nat.reduceSub, env0, binV, intV, reduceCtorEq, pickV, nilCheckV, ptrV, unV, Rt, resultsV, allV, resV, calleeV, builtinV, eqV, fieldAddrV, ldVar, stN_own, stN_ownL, Int.reduceToNat, Int.reducePow, IntKind.bits, convV, Int.reduceNeg, Int.reduceAdd, Int.reduceSub, Int.reduceLT, Int.reduceLE, extractV, Int.reduceEq, mkFuncV, stBScrLive, spBScrLive, beq_self_eq_true, tyB0ScrLive, getL_take, glBScrLive, putAt_row]
  have M78 : Mild s7 ((((s7.alloc (.row [.int .i64 0, .slice none 0 0, .int .i64 0, .int .i64 0, .int .i64 0, .int .i64 0, .int .i64 0, .int .i64 0, .int .i64 0, .int .i64 0])).alloc (.row [.int .i64 0, .int .i64 0])).upd s7.next (.row [.int .i64 pl0.no, .slice none 0 0, .int .i64 pl0.len, .int .i64 pl0.rm, .int .i64 pl0.nm, .int .i64 pl0.dr, .int .i64 pl0.tu, .int .i64 pl0.ba, .int .i64 pl0.st, .int .i64 pl0.pe])).upd (s7.next + 1) (.row [.int .i64 12, .int .i64 1])) := ((((Mild.alloc s7 _).alloc').upd' (Nat.le_refl _)).upd' (by omega))
  have M8 := M7.trans M78
  have q8 := (M78.heap s5.next (by omega)).trans q7
  have f8 := (M78.heap (s5.next + 1) (by omega)).trans f7
  have r8 := (M78.heap s.next (by omega)).trans r7
  have g8 : ((((s7.alloc (.row [.int .i64 0, .slice none 0 0, .int .i64 0, .int .i64 0, .int .i64 0, .int .i64 0, .int .i64 0, .int .i64 0, .int .i64 0, .int .i64 0])).alloc (.row [.int .i64 0, .int .i64 0])).upd s7.next (.row [.int .i64 pl0.no, .slice none 0 0, .int .i64 pl0.len, .int .i64 pl0.rm, .int .i64 pl0.nm, .int .i64 pl0.dr, .int .i64 pl0.tu, .int .i64 pl0.ba, .int .i64 pl0.st, .int .i64 pl0.pe])).upd (s7.next + 1) (.row [.int .i64 12, .int .i64 1])).heap (s7.next + 1) = .row [.int .i64 12, .int .i64 1] := Ab.heap_upd_same _ _ _
  have n8 : ((((s7.alloc (.row [.int .i64 0, .slice none 0 0, .int .i64 0, .int .i64 0, .int .i64 0, .int .i64 0, .int .i64 0, .int .i64 0, .int .i64 0, .int .i64 0])).alloc (.row [.int .i64 0, .int .i64 0])).upd s7.next (.row [.int .i64 pl0.no, .slice none 0 0, .int .i64 pl0.len, .int .i64 pl0.rm, .int .i64 pl0.nm, .int .i64 pl0.dr, .int .i64 pl0.tu, .int .i64 pl0.ba, .int .i64 pl0.st, .int .i64 pl0.pe])).upd (s7.next + 1) (.row [.int .i64 12, .int .i64 1])).next = s7.next + 2 := rfl
  have l58 := l5''.mild M78
  have l68 := l6''.mild M78
  generalize (((s7.alloc (.row [.int .i64 0, .slice none 0 0, .int .i64 0, .int .i64 0, .int .i64 0, .int .i64 0, .int .i64 0, .int .i64 0, .int .i64 0, .int .i64 0])).alloc (.row [.int .i64 0, .int .i64 0])).upd s7.next (.row [.int .i64 pl0.no, .slice none 0 0, .int .i64 pl0.len, .int .i64 pl0.rm, .int .i64 pl0.nm, .int .i64 pl0.dr, .int .i64 pl0.tu, .int .i64 pl0.ba, .int .i64 pl0.st, .int .i64 pl0.pe])).upd (s7.next + 1) (.row [.int .i64 12, .int .i64 1]) = s8 at M78 M8 q8 f8 r8 g8 n8 l58 l68 ⊢
  refine W_draw (fun _ => false) (fun _ => false) (fun _ => false) (by kernel_rfl) (by kernel_rfl) ?_
  simp (disch := first | omega | ((simp only [nxBScrLive]) <;> omega) | decide) only [↓stepPre, stepPost, ↓W_cond, ↓W_block, ↓reduceIte, Nat.reduceEqDiff, Nat.reduceLT, Nat.reduceLeDiff, ret0, stVar, isTup, Value.cells, Nat.reduceAdd, Nat.reduceMul, Nat.reduceSub, env0, binV, intV, reduceCtorEq, pickV, nilCheckV, ptrV, unV, Rt, resultsV, allV, resV, calleeV, builtinV, eqV, fieldAddrV, ldVar, stN_own, stN_ownL, Int.reduceToNat, Int.reducePow, IntKind.bits, convV, Int.reduceNeg, Int.reduceAdd, Int.reduceSub, Int.reduceLT, Int.reduceLE, extractV, Int.reduceEq, mkFuncV, stBScrLive, spBScrLive, beq_self_eq_true, tyB0ScrLive, getL_take, glBScrLive, r8]
  refine line38_ok (k := 3) (K := 1) (N := 3) (ds := [5, 0, 0, 0, 0, 0, 0, 0]) rfl (by simp) (hL.mild M8 hbn) (by omega) fun s9 m9 => ?_
  refine ⟨.inl m9, ?_⟩
  rw [live_line]
  have M9 := M8.trans m9
  have n9 := m9.next
  have q9 := (m9.heap s5.next (by omega)).trans q8
  have f9 := (m9.heap (s5.next + 1) (by omega)).trans f8
  have r9 := (m9.heap s.next (by omega)).trans r8
  have g9 := (m9.heap (s7.next + 1) (by omega)).trans g8
  have l59 := l58.mild m9
  have l69 := l68.mild m9
  simp (disch := first | omega | ((simp only [nxBScrLive]) <;> omega) | decide) only [↓stepPre, stepPost, ↓W_cond, ↓W_block, ↓reduceIte, Nat.reduceEqDiff, Nat.reduceLT, Nat.reduceLeDiff, ret0, stVar, isTup, Value.cells, Nat.reduceAdd, Nat.reduceMul, Nat.reduceSub, env0, binV, intV, reduceCtorEq, pickV, nilCheckV, ptrV, unV, Rt, resultsV, allV, resV, calleeV, builtinV, eqV, fieldAddrV, ldVar, stN_own, stN_ownL, Int.reduceToNat, Int.reducePow, IntKind.bits, convV, Int.reduceNeg, Int.reduceAdd, Int.reduceSub, Int.reduceLT, Int.reduceLE, extractV, Int.reduceEq, mkFuncV, stBScrLive, spBScrLive, beq_self_eq_true, tyB0ScrLive, getL_take, glBScrLive, r9, eqlStrV, eq_self]
  refine right38_p (k := 3) (K := 1) (N := 3) (ds := [5, 0, 0, 0, 0, 0, 0, 0]) rfl ?_
  rw [live_right.1]
  simp (disch := first | omega | ((simp only [nxBScrLive]) <;> omega) | decide) only [↓stepPre, stepPost, ↓W_cond, ↓W_block, ↓reduceIte, Nat.reduceEqDiff, Nat.reduceLT, Nat.reduceLeDiff, ret0, stVar, isTup, Value.cells, Nat.reduceAdd, Nat.reduceMul, Nat.reduceSub, env0, binV, intV, reduceCtorEq, pickV, nilCheckV, ptrV, unV, Rt, resultsV, allV, resV, calleeV, builtinV, eqV, fieldAddrV, ldVar, stN_own, stN_ownL, Int.reduceToNat, Int.reducePow, IntKind.bits, convV, Int.reduceNeg, Int.reduceAdd, Int.reduceSub, Int.reduceLT, Int.reduceLE, extractV, Int.reduceEq, mkFuncV, stBScrLive, spBScrLive, beq_self_eq_true, tyB0ScrLive, getL_take, glBScrLive, Dok_same, r9, buildV, fillL, setL]
  refine right38_p (k := 0) (K := 0) (N := 0) (ds := [0, 0, 0, 0, 0, 0, 0, 0]) rfl ?_
  rw [live_right.2]
  have hF0 := eqV_same (P := Tryz.prog) (t := 41) (l := [.int .i64 0, .int .i64 0]) Ty.kd41 Ty.eqg41 Ty.agg41 rfl
  have hF1 := eqV_same (P := Tryz.prog) (t := 41) (l := [.int .i64 12, .int .i64 1]) Ty.kd41 Ty.eqg41 Ty.agg41 rfl
  simp (disch := first | omega | ((simp only [nxBScrLive]) <;> omega) | decide) only [↓stepPre, stepPost, ↓W_cond, ↓W_block, ↓reduceIte, Nat.reduceEqDiff, Nat.reduceLT, Nat.reduceLeDiff, ret0, stVar, isTup, Value.cells, Nat.reduceAdd, Nat.reduceMul, Nat.reduceSub, env0, binV, intV, reduceCtorEq, pickV, nilCheckV, ptrV, unV, Rt, resultsV, allV, resV, calleeV, builtinV, eqV, fieldAddrV, ldVar, stN_own, stN_ownL, Int.reduceToNat, Int.reducePow, IntKind.bits, convV, Int.reduceNeg, Int.reduceAdd, Int.reduceSub, Int.reduceLT, Int.reduceLE, extractV, Int.reduceEq, mkFuncV, stBScrLive, spBScrLive, beq_self_eq_true, -eqV, tyB0ScrLive, getL_take, glBScrLive, Dok_same, q9, f9, eq_self, buildV, fillL, setL, hF0]
  refine plant38_ok (by omega) fun s10 v10 m10 l10 => ?_
  refine ⟨.inl m10, ?_⟩
  have M10 := M9.trans m10
  have n10 := m10.next
  have f10 := (m10.heap (s5.next + 1) (by omega)).trans f9
  have r10 := (m10.heap s.next (by omega)).trans r9
  have g10 := (m10.heap (s7.next + 1) (by omega)).trans g9
  have l60 := l69.mild m10
  simp (disch := first | omega | ((simp only [nxBScrLive]) <;> omega) | decide) only [↓stepPre, stepPost, ↓W_cond, ↓W_block, ↓reduceIte, Nat.reduceEqDiff, Nat.reduceLT, Nat.reduceLeDiff, ret0, stVar, isTup, Value.cells, Nat.reduceAdd, Nat.reduceMul, Nat.reduceSub, env0, binV, intV, reduceCtorEq, pickV, nilCheckV, ptrV, unV, Rt, resultsV, allV, resV, calleeV, builtinV, eqV, fieldAddrV, ldVar, stN_own, stN_ownL, Int.reduceToNat, Int.reducePow, IntKind.bits, convV, Int.reduceNeg, Int.reduceAdd, Int.reduceSub, Int.reduceLT, Int.reduceLE, extractV, Int.reduceEq, mkFuncV, stBScrLive, spBScrLive, beq_self_eq_true, tyB0ScrLive, getL_take, glBScrLive]
  refine same38_ok (p := plP) (l59.mild m10) l10 (by simp [plP]) (by omega) fun s11 m11 => ?_
  refine ⟨.inl m11, ?_⟩
  have M11 := M10.trans m11
  have n11 := m11.next
  have r11 := (m11.heap s.next (by omega)).trans r10
  have g11 := (m11.heap (s7.next + 1) (by omega)).trans g10
  have l61 := l60.mild m11
  have hlen := l61.len (P := Tryz.prog) (ts := []) Ty.elem27 Ty.arr27
  rw [acL_len] at hlen
  have hix := l61.index (P := Tryz.prog) (k := .i64) (i := 0) Ty.elem27 Ty.siz33 (by omega) (by rw [acL_len]; simp)
  have hld := l61.loadA (i := 0) (l := [.int .i64 3, .int .i64 1, .int .i64 3, .int .u8 5, .int .u8 0, .int .u8 0, .int .u8 0, .int .u8 0, .int .u8 0, .int .u8 0, .int .u8 0]) rfl Ty.agg33 Ty.siz33
  have heq := eqV_same (P := Tryz.prog) (t := 33) (l := [.int .i64 3, .int .i64 1, .int .i64 3, .int .u8 5, .int .u8 0, .int .u8 0, .int .u8 0, .int .u8 0, .int .u8 0, .int .u8 0, .int .u8 0]) Ty.kd33 Ty.eqg33 Ty.agg33 rfl
  have hl2 : (([acP, acQ].length : Nat) : Int) = 2 := rfl
  simp only [hl2] at hlen
  simp (disch := first | omega | ((simp only [nxBScrLive]) <;> omega) | decide) only [↓stepPre, stepPost, ↓W_cond, ↓W_block, ↓reduceIte, Nat.reduceEqDiff, Nat.reduceLT, Nat.reduceLeDiff, ret0, stVar, isTup, Value.cells, Nat.reduceAdd, Nat.reduceMul, Nat.reduceSub, env0, binV, intV, reduceCtorEq, pickV, nilCheckV, ptrV, unV, Rt, resultsV, allV, resV, calleeV, builtinV, eqV, fieldAddrV, ldVar, stN_own, stN_ownL, Int.reduceToNat, Int.reducePow, IntKind.bits, convV, Int.reduceNeg, Int.reduceAdd, Int.reduceSub, Int.reduceLT, Int.reduceLE, extractV, Int.reduceEq, mkFuncV, stBScrLive, spBScrLive, beq_self_eq_true, -eqV, tyB0ScrLive, getL_take, glBScrLive, hlen, hix, hld, r11, g11, heq, hF1, buildV, fillL, setL, eq_self, Tryz.results4]
  exact hR _ M11
end Go.Proofs.YthjpfllmecpliaaGreatDoor
/- A network's script, the document's, as a contract. -/
set_option linter.all false
set_option maxRecDepth 20000
namespace Go.Proofs.YthjpfllmecpliaaGreatDoor
open Go Go.Ab
def spBScrPrintR := And.intro @Nat.le_refl (And.intro @true_and (And.intro @and_true (And.intro @Nat.add_zero (And.intro @Nat.zero_add (And.intro @Bool.not_true (And.intro @Bool.not_false (And.intro @ne_eq.{1} (And.intro @not_false_eq_true (And.intro @not_true_eq_false (And.intro @decide_true (And.intro @decide_false (@Int.fdiv_eq_ediv_of_nonneg))))))))))))
def nxBScrPrintR := And.intro @Ab.next_alloc (And.intro @Ab.next_upd (And.intro @List.length_cons.{0} (And.intro @List.length_nil.{0} (And.intro @ne_eq.{1} (And.intro not_true_eq_false not_false_eq_true)))))
def tyB0ScrPrintR := And.intro @Ty.t26 (And.intro @Tryz.underlying26 (And.intro @Ty.t24 (And.intro @Tryz.underlying24 (And.intro @Ty.t58 (And.intro @Tryz.underlying58 (And.intro @Ty.t22 (And.intro @Tryz.underlying22 (And.intro @Ty.t33 (And.intro @Tryz.underlying33 (And.intro @Ty.t27 (And.intro @Tryz.underlying27 (And.intro @Ty.t56 (And.intro @Tryz.underlying56 (And.intro @Ty.t9 (And.intro @Tryz.underlying9 (And.intro @Ty.t50 (And.intro @Tryz.underlying50 (And.intro @Ty.t48 (And.intro @Tryz.underlying48 (And.intro @Ty.t2 (And.intro @Tryz.underlying2 (And.intro @Ty.t3 (And.intro @Tryz.underlying3 (And.intro @Ty.t4 (And.intro @Tryz.underlying4 (And.intro @Ty.t35 @Tryz.underlying35))))))))))))))))))))))))))
def stBScrPrintR := And.intro @List.size_toArray.{0} (And.intro @List.length_cons.{0} (And.intro @List.length_nil.{0} (And.intro @List.set_cons_zero.{0} (And.intro @List.set_cons_succ.{0} (And.intro @List.getD_cons_zero.{0} (And.intro @List.getD_cons_succ.{0} (And.intro @List.getElem?_cons_succ.{0} (And.intro @List.getElem?_cons_zero.{0} (And.intro @List.map_cons.{0,0} (And.intro @List.map_nil.{0,0} (And.intro @Option.isNone_none.{0} (And.intro @Option.isNone_some.{0} (And.intro @Option.map_some.{0,0} (And.intro @Option.map_none.{0,0} (And.intro @List.cons_append.{0} (And.intro @List.nil_append.{0} (And.intro @List.append_nil.{0} (And.intro @Array.toList_append.{0} (And.intro @List.toList_toArray.{0} (And.intro @Int.cast_ofNat_Int (And.intro @Option.isSome_some.{0} (And.intro @List.getElem?_toArray.{0} (And.intro @List.map_toArray.{0,0} (@Nat.min_eq_left))))))))))))))))))))))))
def glBScrPrintR := And.intro @List.drop_zero.{0} (And.intro @List.drop_succ_cons.{0} (And.intro @List.take_succ_cons.{0} (And.intro @List.take_zero.{0} (@List.take_nil.{0}))))
variable {base : Nat} [Bok base] {s : St} {R : Value → St → Prop}
theorem rclass_p {c : Int} (hR : R (.string (strB (classL c))) s) : WC Tryz.prog base 29 [.int .i64 c] s R := by
  refine WC_open Tryz.func29 rfl ?_
  unfold classL at hR
  by_cases h1 : c = 1
  · subst h1; simp (disch := first | omega | ((simp only [nxBScrPrintR]) <;> omega) | decide) only [↓stepPre, stepPost, ↓W_cond, ↓W_block, ↓reduceIte, Nat.reduceEqDiff, Nat.reduceLT, Nat.reduceLeDiff, ret0, stVar, isTup, Value.cells, Nat.reduceAdd, Nat.reduceMul, Nat.reduceSub, env0, binV, intV, reduceCtorEq, pickV, nilCheckV, ptrV, unV, Rt, resultsV, allV, resV, calleeV, builtinV, eqV, fieldAddrV, ldVar, stN_own, stN_ownL, Int.reduceToNat, Int.reducePow, IntKind.bits, convV, Int.reduceNeg, Int.reduceAdd, Int.reduceSub, Int.reduceLT, Int.reduceLE, extractV, Int.reduceEq, mkFuncV, stBScrPrintR, spBScrPrintR, beq_self_eq_true, tyB0ScrPrintR, eq_self, Tryz.results29]; exact hR
  by_cases h2 : c = 2
  · subst h2; simp (disch := first | omega | ((simp only [nxBScrPrintR]) <;> omega) | decide) only [↓stepPre, stepPost, ↓W_cond, ↓W_block, ↓reduceIte, Nat.reduceEqDiff, Nat.reduceLT, Nat.reduceLeDiff, ret0, stVar, isTup, Value.cells, Nat.reduceAdd, Nat.reduceMul, Nat.reduceSub, env0, binV, intV, reduceCtorEq, pickV, nilCheckV, ptrV, unV, Rt, resultsV, allV, resV, calleeV, builtinV, eqV, fieldAddrV, ldVar, stN_own, stN_ownL, Int.reduceToNat, Int.reducePow, IntKind.bits, convV, Int.reduceNeg, Int.reduceAdd, Int.reduceSub, Int.reduceLT, Int.reduceLE, extractV, Int.reduceEq, mkFuncV, stBScrPrintR, spBScrPrintR, beq_self_eq_true, tyB0ScrPrintR, eq_self, Tryz.results29]; exact hR
  rw [if_neg h1, if_neg h2] at hR
  simp (disch := first | omega | ((simp only [nxBScrPrintR]) <;> omega) | decide) only [↓stepPre, stepPost, ↓W_cond, ↓W_block, ↓reduceIte, Nat.reduceEqDiff, Nat.reduceLT, Nat.reduceLeDiff, ret0, stVar, isTup, Value.cells, Nat.reduceAdd, Nat.reduceMul, Nat.reduceSub, env0, binV, intV, reduceCtorEq, pickV, nilCheckV, ptrV, unV, Rt, resultsV, allV, resV, calleeV, builtinV, eqV, fieldAddrV, ldVar, stN_own, stN_ownL, Int.reduceToNat, Int.reducePow, IntKind.bits, convV, Int.reduceNeg, Int.reduceAdd, Int.reduceSub, Int.reduceLT, Int.reduceLE, extractV, Int.reduceEq, mkFuncV, stBScrPrintR, spBScrPrintR, beq_self_eq_true, tyB0ScrPrintR, h1, h2, Tryz.results29]
  exact hR
theorem rnum_ok {w : List UInt8} {v : Value} {ns : List Nat} (hs : Sl base s 1 v (i64L ns)) (hw : w.length ≤ 100) (hn : ns.length ≤ 100) (hns : ∀ n ∈ ns, n < 2 ^ 63) (hR : R (.string (strB (rowL w ns ++ [10]))) s) :
    WC Tryz.prog base 28 [.string (strB w), v] s R := by
  refine WC_open Tryz.func28 rfl ?_
  have hlen := hs.len (P := Tryz.prog) (ts := []) Ty.elem48 Ty.arr48
  rw [i64L_len] at hlen
  have hlb : ∀ i, (rowL w (ns.take i)).length ≤ 2300 := fun i => by
    have := rowL_len w (ns.take i) fun n hm => hns n (List.mem_of_mem_take hm)
    have : (ns.take i).length ≤ 100 := by rw [List.length_take]; omega
    omega
  simp (disch := first | omega | ((simp only [nxBScrPrintR]) <;> omega) | decide) only [↓stepPre, stepPost, ↓W_cond, ↓W_block, ↓reduceIte, Nat.reduceEqDiff, Nat.reduceLT, Nat.reduceLeDiff, ret0, stVar, isTup, Value.cells, Nat.reduceAdd, Nat.reduceMul, Nat.reduceSub, env0, binV, intV, reduceCtorEq, pickV, nilCheckV, ptrV, unV, Rt, resultsV, allV, resV, calleeV, builtinV, eqV, fieldAddrV, ldVar, stN_own, stN_ownL, Int.reduceToNat, Int.reducePow, IntKind.bits, convV, Int.reduceNeg, Int.reduceAdd, Int.reduceSub, Int.reduceLT, Int.reduceLE, extractV, Int.reduceEq, mkFuncV, stBScrPrintR, spBScrPrintR, beq_self_eq_true, tyB0ScrPrintR, getL_take, glBScrPrintR, hlen]
  refine W_loop_inv ns.length (fun i e1 s1 => s1 = s ∧ e1 0 = .string (strB (rowL w (ns.take i))) ∧ e1 1 = v ∧ e1 5 = .int .i64 (i : Int)) (fun x e1 s1 => x = .exit 0 ∧ s1 = s ∧ e1 0 = .string (strB (rowL w ns))) ?_ ?_ ?_
  rotate_left
  · exact ⟨rfl, (rfl : _ = Value.string (strB w)).trans (by simp [rowL]), rfl, rfl⟩
  · rintro x e1 s1 ⟨rfl, rfl, h0⟩
    have a1 := addStrV (l := rowL w ns) (m := [10]) (by have := hlb ns.length; rw [List.take_length] at this; simp; omega)
    simp (disch := first | omega | ((simp only [nxBScrPrintR]) <;> omega) | decide) only [↓stepPre, stepPost, ↓W_cond, ↓W_block, ↓reduceIte, Nat.reduceEqDiff, Nat.reduceLT, Nat.reduceLeDiff, ret0, stVar, isTup, Value.cells, Nat.reduceAdd, Nat.reduceMul, Nat.reduceSub, env0, binV, intV, reduceCtorEq, pickV, nilCheckV, ptrV, unV, Rt, resultsV, allV, resV, calleeV, builtinV, eqV, fieldAddrV, ldVar, stN_own, stN_ownL, Int.reduceToNat, Int.reducePow, IntKind.bits, convV, Int.reduceNeg, Int.reduceAdd, Int.reduceSub, Int.reduceLT, Int.reduceLE, extractV, Int.reduceEq, mkFuncV, stBScrPrintR, spBScrPrintR, beq_self_eq_true, tyB0ScrPrintR, getL_take, glBScrPrintR, h0, a1, Tryz.results28]
    exact hR
  rintro i e1 s1 hi ⟨rfl, h0, h1, h5⟩
  by_cases hil : i < ns.length
  rotate_left
  · have g1 : ¬ (i : Int) < (ns.length : Int) := by omega
    rw [List.take_of_length_le (by omega)] at h0
    simp (disch := first | omega | ((simp only [nxBScrPrintR]) <;> omega) | decide) only [↓stepPre, stepPost, ↓W_cond, ↓W_block, ↓reduceIte, Nat.reduceEqDiff, Nat.reduceLT, Nat.reduceLeDiff, ret0, stVar, isTup, Value.cells, Nat.reduceAdd, Nat.reduceMul, Nat.reduceSub, env0, binV, intV, reduceCtorEq, pickV, nilCheckV, ptrV, unV, Rt, resultsV, allV, resV, calleeV, builtinV, eqV, fieldAddrV, ldVar, stN_own, stN_ownL, Int.reduceToNat, Int.reducePow, IntKind.bits, convV, Int.reduceNeg, Int.reduceAdd, Int.reduceSub, Int.reduceLT, Int.reduceLE, extractV, Int.reduceEq, mkFuncV, stBScrPrintR, spBScrPrintR, beq_self_eq_true, tyB0ScrPrintR, getL_take, glBScrPrintR, h0, h1, h5, hlen, g1]
  have g1 : (i : Int) < (ns.length : Int) := by omega
  have p1 := hs.index (P := Tryz.prog) (k := .i64) (i := (i : Int)) Ty.elem48 Ty.siz2 (by omega) (by rw [i64L_len]; omega)
  rw [Int.toNat_natCast] at p1
  have p2 := hs.load1 (P := Tryz.prog) (i64L_at hil) Ty.agg2 Ty.siz2
  have hd := digL_len 19 ns[i] (by have := hns _ (List.getElem_mem hil); omega)
  have a1 := addStrV (l := [32]) (m := digL ns[i]) (by simp; omega)
  have a2 := addStrV (l := rowL w (ns.take i)) (m := 32 :: digL ns[i]) (by have := hlb i; simp; omega)
  simp (disch := first | omega | ((simp only [nxBScrPrintR]) <;> omega) | decide) only [↓stepPre, stepPost, ↓W_cond, ↓W_block, ↓reduceIte, Nat.reduceEqDiff, Nat.reduceLT, Nat.reduceLeDiff, ret0, stVar, isTup, Value.cells, Nat.reduceAdd, Nat.reduceMul, Nat.reduceSub, env0, binV, intV, reduceCtorEq, pickV, nilCheckV, ptrV, unV, Rt, resultsV, allV, resV, calleeV, builtinV, eqV, fieldAddrV, ldVar, stN_own, stN_ownL, Int.reduceToNat, Int.reducePow, IntKind.bits, convV, Int.reduceNeg, Int.reduceAdd, Int.reduceSub, Int.reduceLT, Int.reduceLE, extractV, Int.reduceEq, mkFuncV, stBScrPrintR, spBScrPrintR, beq_self_eq_true, tyB0ScrPrintR, getL_take, glBScrPrintR, h0, h1, h5, hlen, g1, p1, p2]
  refine rdigits_p (hns _ (List.getElem_mem hil)) ?_
  simp (disch := first | omega | ((simp only [nxBScrPrintR]) <;> omega) | decide) only [↓stepPre, stepPost, ↓W_cond, ↓W_block, ↓reduceIte, Nat.reduceEqDiff, Nat.reduceLT, Nat.reduceLeDiff, ret0, stVar, isTup, Value.cells, Nat.reduceAdd, Nat.reduceMul, Nat.reduceSub, env0, binV, intV, reduceCtorEq, pickV, nilCheckV, ptrV, unV, Rt, resultsV, allV, resV, calleeV, builtinV, eqV, fieldAddrV, ldVar, stN_own, stN_ownL, Int.reduceToNat, Int.reducePow, IntKind.bits, convV, Int.reduceNeg, Int.reduceAdd, Int.reduceSub, Int.reduceLT, Int.reduceLE, extractV, Int.reduceEq, mkFuncV, stBScrPrintR, spBScrPrintR, beq_self_eq_true, tyB0ScrPrintR, getL_take, glBScrPrintR, h0, h1, h5, a1, a2]
  exact ⟨hil, by rw [List.take_succ_eq_append_getElem hil, rowL_snoc], by simp⟩
theorem rprint38_ok {v u : Value} {p : Pl} {l : List Ac} (hs : Sl base s 7 v (smL p.xs)) (ha : Sl base s 11 u (acL l)) (hg : ∀ a ∈ l, a.good) (hn : p.xs.length ≤ 2 ^ 63 - 1) (hln : l.length ≤ 2 ^ 63 - 1) (hx : p.xs.length ≤ 12 ∨ 64 < p.xs.length) (hl : l.length ≤ 100 ∨ 1024 < l.length)
    (hbn : base ≤ s.next) (hR : ∀ s', Mild s s' → R (.tuple #[.string (strB (printT p l)), .int .i64 (printE p l)]) s') :
    WC Tryz.prog base 10 [.agg (p.c v).toArray, u] s R := by
  refine WC_open Tryz.func10 rfl ?_
  have m0 := Mild.alloc s (.row (p.c v))
  have c0 := Ab.heap_alloc_new s (.row (p.c v))
  have n0 := Ab.next_alloc s (.row (p.c v))
  have hlen := ha.len (P := Tryz.prog) (ts := []) Ty.elem27 Ty.arr27
  rw [acL_len] at hlen
  have hbad : ∀ r, printE p l = r → r ≠ 0 → ∀ s', Mild s s' → R (.tuple #[.string ⟨#[]⟩, .int .i64 r]) s' := fun r h h0 s' m => by
    have := hR s' m
    rw [printT, if_neg (by rw [h]; exact h0), h] at this
    exact this
  simp (disch := first | omega | ((simp only [nxBScrPrintR]) <;> omega) | decide) only [↓stepPre, stepPost, ↓W_cond, ↓W_block, ↓reduceIte, Nat.reduceEqDiff, Nat.reduceLT, Nat.reduceLeDiff, ret0, stVar, isTup, Value.cells, Nat.reduceAdd, Nat.reduceMul, Nat.reduceSub, env0, binV, intV, reduceCtorEq, pickV, nilCheckV, ptrV, unV, Rt, resultsV, allV, resV, calleeV, builtinV, eqV, fieldAddrV, ldVar, stN_own, stN_ownL, Int.reduceToNat, Int.reducePow, IntKind.bits, convV, Int.reduceNeg, Int.reduceAdd, Int.reduceSub, Int.reduceLT, Int.reduceLE, extractV, Int.reduceEq, mkFuncV, stBScrPrintR, spBScrPrintR, beq_self_eq_true, tyB0ScrPrintR, getL_take, glBScrPrintR]
  generalize s.alloc (.row (p.c v)) = s1 at m0 c0 n0 ⊢
  refine rcheck29_ok (hs.mild m0) hn (by omega) fun s2 m2 => ?_
  have n2 := m2.next
  have c2 := (m2.heap s.next (by omega)).trans c0
  have M2 := m0.trans m2
  by_cases h1 : plChk p = 0
  rotate_left
  · have hE : printE p l = plChk p := if_pos h1
    have key := hbad _ hE h1 _ M2
    generalize plChk p = r at h1 key
    simp (disch := first | omega | ((simp only [nxBScrPrintR]) <;> omega) | decide) only [↓stepPre, stepPost, ↓W_cond, ↓W_block, ↓reduceIte, Nat.reduceEqDiff, Nat.reduceLT, Nat.reduceLeDiff, ret0, stVar, isTup, Value.cells, Nat.reduceAdd, Nat.reduceMul, Nat.reduceSub, env0, binV, intV, reduceCtorEq, pickV, nilCheckV, ptrV, unV, Rt, resultsV, allV, resV, calleeV, builtinV, eqV, fieldAddrV, ldVar, stN_own, stN_ownL, Int.reduceToNat, Int.reducePow, IntKind.bits, convV, Int.reduceNeg, Int.reduceAdd, Int.reduceSub, Int.reduceLT, Int.reduceLE, extractV, Int.reduceEq, mkFuncV, stBScrPrintR, spBScrPrintR, beq_self_eq_true, tyB0ScrPrintR, getL_take, glBScrPrintR, h1, Tryz.results10]
    exact key
  have hfi := plChk_fine h1
  rw [h1]
  by_cases h2 : 1024 < l.length
  · have hE : printE p l = 11 := by unfold printE; rw [if_neg (fun h => h h1), if_pos h2]
    have g1 : (l.length : Int) > 1024 := by omega
    have g1' : 1024 < (l.length : Int) := by omega
    simp (disch := first | omega | ((simp only [nxBScrPrintR]) <;> omega) | decide) only [↓stepPre, stepPost, ↓W_cond, ↓W_block, ↓reduceIte, Nat.reduceEqDiff, Nat.reduceLT, Nat.reduceLeDiff, ret0, stVar, isTup, Value.cells, Nat.reduceAdd, Nat.reduceMul, Nat.reduceSub, env0, binV, intV, reduceCtorEq, pickV, nilCheckV, ptrV, unV, Rt, resultsV, allV, resV, calleeV, builtinV, eqV, fieldAddrV, ldVar, stN_own, stN_ownL, Int.reduceToNat, Int.reducePow, IntKind.bits, convV, Int.reduceNeg, Int.reduceAdd, Int.reduceSub, Int.reduceLT, Int.reduceLE, extractV, Int.reduceEq, mkFuncV, stBScrPrintR, spBScrPrintR, beq_self_eq_true, tyB0ScrPrintR, getL_take, glBScrPrintR, eq_self, hlen, g1, g1', Tryz.results10]
    exact hbad _ hE (by omega) _ M2
  have hl100 : l.length ≤ 100 := by omega
  have hx12 : p.xs.length ≤ 12 := by have := hfi.xs; omega
  have g1 : ¬ (l.length : Int) > 1024 := by omega
  have g1' : ¬ 1024 < (l.length : Int) := by omega
  simp (disch := first | omega | ((simp only [nxBScrPrintR]) <;> omega) | decide) only [↓stepPre, stepPost, ↓W_cond, ↓W_block, ↓reduceIte, Nat.reduceEqDiff, Nat.reduceLT, Nat.reduceLeDiff, ret0, stVar, isTup, Value.cells, Nat.reduceAdd, Nat.reduceMul, Nat.reduceSub, env0, binV, intV, reduceCtorEq, pickV, nilCheckV, ptrV, unV, Rt, resultsV, allV, resV, calleeV, builtinV, eqV, fieldAddrV, ldVar, stN_own, stN_ownL, Int.reduceToNat, Int.reducePow, IntKind.bits, convV, Int.reduceNeg, Int.reduceAdd, Int.reduceSub, Int.reduceLT, Int.reduceLE, extractV, Int.reduceEq, mkFuncV, stBScrPrintR, spBScrPrintR, beq_self_eq_true, tyB0ScrPrintR, getL_take, glBScrPrintR, eq_self, hlen, g1, g1']
  refine W_loop_inv l.length (fun i e1 t => t = s2 ∧ e1 1 = u ∧ e1 2 = .pointer (some ⟨s.next, 0, none⟩) ∧ e1 7 = .int .i64 (i : Int) ∧ fwd (badI l) 0 l.length = fwd (badI l) i (l.length - i))
    (fun x e1 t => t = s2 ∧ ((x = .exit 0 ∧ e1 1 = u ∧ e1 2 = .pointer (some ⟨s.next, 0, none⟩) ∧ fwd (badI l) 0 l.length = none) ∨ (x = .ret ∧ e1 4 = .string ⟨#[]⟩ ∧ e1 5 = .int .i64 10 ∧ (fwd (badI l) 0 l.length).isSome = true))) ?_ ?_ ?_
  rotate_left
  · exact ⟨rfl, rfl, rfl, rfl, rfl⟩
  rotate_left
  · rintro i e1 t hi ⟨rfl, q1, q2, q7, hf⟩
    by_cases hil : i < l.length
    rotate_left
    · have k1 : ¬ (i : Int) < (l.length : Int) := by omega
      rw [show l.length - i = 0 by omega] at hf
      simp (disch := first | omega | ((simp only [nxBScrPrintR]) <;> omega) | decide) only [↓stepPre, stepPost, ↓W_cond, ↓W_block, ↓reduceIte, Nat.reduceEqDiff, Nat.reduceLT, Nat.reduceLeDiff, ret0, stVar, isTup, Value.cells, Nat.reduceAdd, Nat.reduceMul, Nat.reduceSub, env0, binV, intV, reduceCtorEq, pickV, nilCheckV, ptrV, unV, Rt, resultsV, allV, resV, calleeV, builtinV, eqV, fieldAddrV, ldVar, stN_own, stN_ownL, Int.reduceToNat, Int.reducePow, IntKind.bits, convV, Int.reduceNeg, Int.reduceAdd, Int.reduceSub, Int.reduceLT, Int.reduceLE, extractV, Int.reduceEq, mkFuncV, stBScrPrintR, spBScrPrintR, beq_self_eq_true, tyB0ScrPrintR, getL_take, glBScrPrintR, q1, q2, q7, hlen, k1]
      exact .inl hf
    have k1 : (i : Int) < (l.length : Int) := by omega
    have hix := (ha.mild M2).index (P := Tryz.prog) (k := .i64) (i := (i : Int)) Ty.elem27 Ty.siz33 (by omega) (by rw [acL_len]; omega)
    rw [Int.toNat_natCast] at hix
    have hld := (ha.mild M2).loadA (acL_at hil) Ty.agg33 Ty.siz33
    have hgi := hg _ (List.getElem_mem hil)
    have hb := badI_eq hil
    simp (disch := first | omega | ((simp only [nxBScrPrintR]) <;> omega) | decide) only [↓stepPre, stepPost, ↓W_cond, ↓W_block, ↓reduceIte, Nat.reduceEqDiff, Nat.reduceLT, Nat.reduceLeDiff, ret0, stVar, isTup, Value.cells, Nat.reduceAdd, Nat.reduceMul, Nat.reduceSub, env0, binV, intV, reduceCtorEq, pickV, nilCheckV, ptrV, unV, Rt, resultsV, allV, resV, calleeV, builtinV, eqV, fieldAddrV, ldVar, stN_own, stN_ownL, Int.reduceToNat, Int.reducePow, IntKind.bits, convV, Int.reduceNeg, Int.reduceAdd, Int.reduceSub, Int.reduceLT, Int.reduceLE, extractV, Int.reduceEq, mkFuncV, stBScrPrintR, spBScrPrintR, beq_self_eq_true, tyB0ScrPrintR, getL_take, glBScrPrintR, q1, q2, q7, hlen, k1, hix, hld]
    refine rright38_p hgi.1 ?_
    rw [show rightA l[i].k l[i].K l[i].N l[i].ds = l[i].right from rfl]
    cases hk : l[i].right
    · rw [hk] at hb
      rw [fwd_hit hil (by rw [hb]; decide)] at hf
      simp (disch := first | omega | ((simp only [nxBScrPrintR]) <;> omega) | decide) only [↓stepPre, stepPost, ↓W_cond, ↓W_block, ↓reduceIte, Nat.reduceEqDiff, Nat.reduceLT, Nat.reduceLeDiff, ret0, stVar, isTup, Value.cells, Nat.reduceAdd, Nat.reduceMul, Nat.reduceSub, env0, binV, intV, reduceCtorEq, pickV, nilCheckV, ptrV, unV, Rt, resultsV, allV, resV, calleeV, builtinV, eqV, fieldAddrV, ldVar, stN_own, stN_ownL, Int.reduceToNat, Int.reducePow, IntKind.bits, convV, Int.reduceNeg, Int.reduceAdd, Int.reduceSub, Int.reduceLT, Int.reduceLE, extractV, Int.reduceEq, mkFuncV, stBScrPrintR, spBScrPrintR, beq_self_eq_true, tyB0ScrPrintR, getL_take, glBScrPrintR, q1, q2, q7]
      exact .inr (by rw [hf]; rfl)
    · rw [hk] at hb
      rw [fwd_skip hil hb] at hf
      simp (disch := first | omega | ((simp only [nxBScrPrintR]) <;> omega) | decide) only [↓stepPre, stepPost, ↓W_cond, ↓W_block, ↓reduceIte, Nat.reduceEqDiff, Nat.reduceLT, Nat.reduceLeDiff, ret0, stVar, isTup, Value.cells, Nat.reduceAdd, Nat.reduceMul, Nat.reduceSub, env0, binV, intV, reduceCtorEq, pickV, nilCheckV, ptrV, unV, Rt, resultsV, allV, resV, calleeV, builtinV, eqV, fieldAddrV, ldVar, stN_own, stN_ownL, Int.reduceToNat, Int.reducePow, IntKind.bits, convV, Int.reduceNeg, Int.reduceAdd, Int.reduceSub, Int.reduceLT, Int.reduceLE, extractV, Int.reduceEq, mkFuncV, stBScrPrintR, spBScrPrintR, beq_self_eq_true, tyB0ScrPrintR, getL_take, glBScrPrintR, q1, q2, q7]
      exact ⟨hil, by simp, hf⟩
  rintro x e0 t ⟨rfl, ⟨rfl, q1, q2, hf⟩ | ⟨rfl, q4, q5, hf⟩⟩
  rotate_left
  · have hE : printE p l = 10 := by unfold printE; rw [if_neg (fun h => h h1), if_neg h2, if_pos hf]
    simp (disch := first | omega | ((simp only [nxBScrPrintR]) <;> omega) | decide) only [↓stepPre, stepPost, ↓W_cond, ↓W_block, ↓reduceIte, Nat.reduceEqDiff, Nat.reduceLT, Nat.reduceLeDiff, ret0, stVar, isTup, Value.cells, Nat.reduceAdd, Nat.reduceMul, Nat.reduceSub, env0, binV, intV, reduceCtorEq, pickV, nilCheckV, ptrV, unV, Rt, resultsV, allV, resV, calleeV, builtinV, eqV, fieldAddrV, ldVar, stN_own, stN_ownL, Int.reduceToNat, Int.reducePow, IntKind.bits, convV, Int.reduceNeg, Int.reduceAdd, Int.reduceSub, Int.reduceLT, Int.reduceLE, extractV, Int.reduceEq, mkFuncV, stBScrPrintR, spBScrPrintR, beq_self_eq_true, tyB0ScrPrintR, getL_take, glBScrPrintR, q4, q5, Tryz.results10]
    exact hbad _ hE (by omega) _ M2
  have hE : printE p l = 0 := by unfold printE; rw [if_neg (fun h => h h1), if_neg h2, hf]; rfl
  rw [printT, if_pos hE, hE] at hR
  simp only [allL] at hR
  have f1 := hfi.no; have f2 := hfi.len; have f3 := hfi.rm; have f4 := hfi.nm; have f5 := hfi.dr; have f6 := hfi.tu; have f7 := hfi.ba; have f8 := hfi.st; have f9 := hfi.pe
  obtain ⟨no, eno⟩ : ∃ n : Nat, p.no = n := ⟨p.no.toNat, by omega⟩
  obtain ⟨len, elen⟩ : ∃ n : Nat, p.len = n := ⟨p.len.toNat, by omega⟩
  obtain ⟨rm, erm⟩ : ∃ n : Nat, p.rm = n := ⟨p.rm.toNat, by omega⟩
  obtain ⟨nm, enm⟩ : ∃ n : Nat, p.nm = n := ⟨p.nm.toNat, by omega⟩
  obtain ⟨dr, edr⟩ : ∃ n : Nat, p.dr = n := ⟨p.dr.toNat, by omega⟩
  obtain ⟨tu, etu⟩ : ∃ n : Nat, p.tu = n := ⟨p.tu.toNat, by omega⟩
  obtain ⟨ba, eba⟩ : ∃ n : Nat, p.ba = n := ⟨p.ba.toNat, by omega⟩
  obtain ⟨st, est⟩ : ∃ n : Nat, p.st = n := ⟨p.st.toNat, by omega⟩
  obtain ⟨pe, epe⟩ : ∃ n : Nat, p.pe = n := ⟨p.pe.toNat, by omega⟩
  have hrow6 : row6 p = [rowL [110, 111, 100, 101, 115] [no], rowL [108, 101, 110, 103, 116, 104] [len], rowL [114, 111, 111, 109] [rm], rowL [98, 101, 97, 116] [nm, dr], rowL [116, 117, 110, 101] [tu], rowL [116, 117, 114, 110, 115] [ba, st, pe]] := by
    unfold row6; rw [eno, elen, erm, enm, edr, etu, eba, est, epe]; simp only [Int.toNat_natCast]
  have hpc : p.c v = [.int .i64 (no : Int), v, .int .i64 (len : Int), .int .i64 (rm : Int), .int .i64 (nm : Int), .int .i64 (dr : Int), .int .i64 (tu : Int), .int .i64 (ba : Int), .int .i64 (st : Int), .int .i64 (pe : Int)] := by
    unfold Pl.c; rw [eno, elen, erm, enm, edr, etu, eba, est, epe]
  rw [hpc] at c2
  have b1 : no < 2 ^ 63 ∧ len < 2 ^ 63 ∧ rm < 2 ^ 63 ∧ nm < 2 ^ 63 ∧ dr < 2 ^ 63 ∧ tu < 2 ^ 63 ∧ ba < 2 ^ 63 ∧ st < 2 ^ 63 ∧ pe < 2 ^ 63 := by omega
  obtain ⟨b1, b2, b3, b4, b5, b6, b7, b8, b9⟩ := b1
  have h6s := row6_len hfi
  rw [hrow6] at h6s
  simp only [List.mem_cons, List.not_mem_nil, or_false, forall_eq_or_imp, forall_eq] at h6s
  obtain ⟨z1, z2, z3, z4, z5, z6⟩ := h6s
  have aA := addStrV (l := rowL [110, 111, 100, 101, 115] [no] ++ [10]) (m := rowL [108, 101, 110, 103, 116, 104] [len] ++ [10]) (by simp only [List.length_append, List.length_singleton] at *; omega)
  have aB := addStrV (l := rowL [110, 111, 100, 101, 115] [no] ++ [10] ++ (rowL [108, 101, 110, 103, 116, 104] [len] ++ [10])) (m := rowL [114, 111, 111, 109] [rm] ++ [10]) (by simp only [List.length_append, List.length_singleton] at *; omega)
  have aC := addStrV (l := rowL [98, 101, 97, 116] [nm, dr] ++ [10]) (m := rowL [116, 117, 110, 101] [tu] ++ [10]) (by simp only [List.length_append, List.length_singleton] at *; omega)
  have aD := addStrV (l := (rowL [110, 111, 100, 101, 115] [no] ++ [10] ++ (rowL [108, 101, 110, 103, 116, 104] [len] ++ [10])) ++ (rowL [114, 111, 111, 109] [rm] ++ [10])) (m := rowL [98, 101, 97, 116] [nm, dr] ++ [10] ++ (rowL [116, 117, 110, 101] [tu] ++ [10])) (by simp only [List.length_append, List.length_singleton] at *; omega)
  have aE := addStrV (l := (rowL [110, 111, 100, 101, 115] [no] ++ [10] ++ (rowL [108, 101, 110, 103, 116, 104] [len] ++ [10])) ++ (rowL [114, 111, 111, 109] [rm] ++ [10]) ++ (rowL [98, 101, 97, 116] [nm, dr] ++ [10] ++ (rowL [116, 117, 110, 101] [tu] ++ [10]))) (m := rowL [116, 117, 114, 110, 115] [ba, st, pe] ++ [10]) (by simp only [List.length_append, List.length_singleton] at *; omega)
  have hS6 : (rowL [110, 111, 100, 101, 115] [no] ++ [10] ++ (rowL [108, 101, 110, 103, 116, 104] [len] ++ [10])) ++ (rowL [114, 111, 111, 109] [rm] ++ [10]) ++ (rowL [98, 101, 97, 116] [nm, dr] ++ [10] ++ (rowL [116, 117, 110, 101] [tu] ++ [10])) ++ (rowL [116, 117, 114, 110, 115] [ba, st, pe] ++ [10]) = lfT (row6 p) := by rw [hrow6]; simp [lfT]
  simp (disch := first | omega | ((simp only [nxBScrPrintR]) <;> omega) | decide) only [↓stepPre, stepPost, ↓W_cond, ↓W_block, ↓reduceIte, Nat.reduceEqDiff, Nat.reduceLT, Nat.reduceLeDiff, ret0, stVar, isTup, Value.cells, Nat.reduceAdd, Nat.reduceMul, Nat.reduceSub, env0, binV, intV, reduceCtorEq, pickV, nilCheckV, ptrV, unV, Rt, resultsV, allV, resV, calleeV, builtinV, eqV, fieldAddrV, ldVar, stN_own, stN_ownL, Int.reduceToNat, Int.reducePow, IntKind.bits, convV, Int.reduceNeg, Int.reduceAdd, Int.reduceSub, Int.reduceLT, Int.reduceLE, extractV, Int.reduceEq, mkFuncV, stBScrPrintR, spBScrPrintR, beq_self_eq_true, tyB0ScrPrintR, getL_take, glBScrPrintR, q1, q2]
  refine W_draw (fun _ => false) (fun _ => false) (fun _ => false) (by kernel_rfl) (by kernel_rfl) ?_
  have l1 : Sl base (t.alloc (.row [.int .i64 (no : Int)])) 1 (.slice (some ⟨t.next, 0, none⟩) 1 1) (i64L [no]) := i64_new (ns := [no]) (Ab.heap_alloc_new _ _) (by omega) (by simp only [Ab.next_alloc]; omega)
  have M_1 := M2.alloc' (o := .row [.int .i64 (no : Int)])
  have c_1 := (Ab.heap_alloc_ne t (.row [.int .i64 (no : Int)]) (b := s.next) (by omega)).trans c2
  have n_1 := Ab.next_alloc t (.row [.int .i64 (no : Int)])
  simp (disch := first | omega | ((simp only [nxBScrPrintR]) <;> omega) | decide) only [↓stepPre, stepPost, ↓W_cond, ↓W_block, ↓reduceIte, Nat.reduceEqDiff, Nat.reduceLT, Nat.reduceLeDiff, ret0, stVar, isTup, Value.cells, Nat.reduceAdd, Nat.reduceMul, Nat.reduceSub, env0, binV, intV, reduceCtorEq, pickV, nilCheckV, ptrV, unV, Rt, resultsV, allV, resV, calleeV, builtinV, eqV, fieldAddrV, ldVar, stN_own, stN_ownL, Int.reduceToNat, Int.reducePow, IntKind.bits, convV, Int.reduceNeg, Int.reduceAdd, Int.reduceSub, Int.reduceLT, Int.reduceLE, extractV, Int.reduceEq, mkFuncV, stBScrPrintR, spBScrPrintR, beq_self_eq_true, tyB0ScrPrintR, getL_take, glBScrPrintR, Dok_same, q1, q2, c2, build1i Ty.elem48 Ty.siz2 Ty.zer2]
  generalize t.alloc (.row [.int .i64 (no : Int)]) = t1 at l1 M_1 c_1 n_1 ⊢
  refine rnum_ok (w := [110, 111, 100, 101, 115]) l1 (by decide) (by simp) (by simp; omega) ?_
  have l2 : Sl base (t1.alloc (.row [.int .i64 (len : Int)])) 1 (.slice (some ⟨t1.next, 0, none⟩) 1 1) (i64L [len]) := i64_new (ns := [len]) (Ab.heap_alloc_new _ _) (by omega) (by simp only [Ab.next_alloc]; omega)
  have M_2 := M_1.alloc' (o := .row [.int .i64 (len : Int)])
  have c_2 := (Ab.heap_alloc_ne t1 (.row [.int .i64 (len : Int)]) (b := s.next) (by omega)).trans c_1
  have n_2 := Ab.next_alloc t1 (.row [.int .i64 (len : Int)])
  simp (disch := first | omega | ((simp only [nxBScrPrintR]) <;> omega) | decide) only [↓stepPre, stepPost, ↓W_cond, ↓W_block, ↓reduceIte, Nat.reduceEqDiff, Nat.reduceLT, Nat.reduceLeDiff, ret0, stVar, isTup, Value.cells, Nat.reduceAdd, Nat.reduceMul, Nat.reduceSub, env0, binV, intV, reduceCtorEq, pickV, nilCheckV, ptrV, unV, Rt, resultsV, allV, resV, calleeV, builtinV, eqV, fieldAddrV, ldVar, stN_own, stN_ownL, Int.reduceToNat, Int.reducePow, IntKind.bits, convV, Int.reduceNeg, Int.reduceAdd, Int.reduceSub, Int.reduceLT, Int.reduceLE, extractV, Int.reduceEq, mkFuncV, stBScrPrintR, spBScrPrintR, beq_self_eq_true, tyB0ScrPrintR, getL_take, glBScrPrintR, Dok_same, q1, q2, c_1, build1i Ty.elem48 Ty.siz2 Ty.zer2]
  generalize t1.alloc (.row [.int .i64 (len : Int)]) = t2 at l2 M_2 c_2 n_2 ⊢
  refine rnum_ok (w := [108, 101, 110, 103, 116, 104]) l2 (by decide) (by simp) (by simp; omega) ?_
  have l3 : Sl base (t2.alloc (.row [.int .i64 (rm : Int)])) 1 (.slice (some ⟨t2.next, 0, none⟩) 1 1) (i64L [rm]) := i64_new (ns := [rm]) (Ab.heap_alloc_new _ _) (by omega) (by simp only [Ab.next_alloc]; omega)
  have M_3 := M_2.alloc' (o := .row [.int .i64 (rm : Int)])
  have c_3 := (Ab.heap_alloc_ne t2 (.row [.int .i64 (rm : Int)]) (b := s.next) (by omega)).trans c_2
  have n_3 := Ab.next_alloc t2 (.row [.int .i64 (rm : Int)])
  simp (disch := first | omega | ((simp only [nxBScrPrintR]) <;> omega) | decide) only [↓stepPre, stepPost, ↓W_cond, ↓W_block, ↓reduceIte, Nat.reduceEqDiff, Nat.reduceLT, Nat.reduceLeDiff, ret0, stVar, isTup, Value.cells, Nat.reduceAdd, Nat.reduceMul, Nat.reduceSub, env0, binV, intV, reduceCtorEq, pickV, nilCheckV, ptrV, unV, Rt, resultsV, allV, resV, calleeV, builtinV, eqV, fieldAddrV, ldVar, stN_own, stN_ownL, Int.reduceToNat, Int.reducePow, IntKind.bits, convV, Int.reduceNeg, Int.reduceAdd, Int.reduceSub, Int.reduceLT, Int.reduceLE, extractV, Int.reduceEq, mkFuncV, stBScrPrintR, spBScrPrintR, beq_self_eq_true, tyB0ScrPrintR, getL_take, glBScrPrintR, Dok_same, q1, q2, c_2, build1i Ty.elem48 Ty.siz2 Ty.zer2, aA]
  generalize t2.alloc (.row [.int .i64 (rm : Int)]) = t3 at l3 M_3 c_3 n_3 ⊢
  refine rnum_ok (w := [114, 111, 111, 109]) l3 (by decide) (by simp) (by simp; omega) ?_
  simp (disch := first | omega | ((simp only [nxBScrPrintR]) <;> omega) | decide) only [↓stepPre, stepPost, ↓W_cond, ↓W_block, ↓reduceIte, Nat.reduceEqDiff, Nat.reduceLT, Nat.reduceLeDiff, ret0, stVar, isTup, Value.cells, Nat.reduceAdd, Nat.reduceMul, Nat.reduceSub, env0, binV, intV, reduceCtorEq, pickV, nilCheckV, ptrV, unV, Rt, resultsV, allV, resV, calleeV, builtinV, eqV, fieldAddrV, ldVar, stN_own, stN_ownL, Int.reduceToNat, Int.reducePow, IntKind.bits, convV, Int.reduceNeg, Int.reduceAdd, Int.reduceSub, Int.reduceLT, Int.reduceLE, extractV, Int.reduceEq, mkFuncV, stBScrPrintR, spBScrPrintR, beq_self_eq_true, tyB0ScrPrintR, getL_take, glBScrPrintR, Dok_same, q1, q2, c_3, aA, aB]
  refine W_draw (fun _ => false) (fun _ => false) (fun _ => false) (by kernel_rfl) (by kernel_rfl) ?_
  have l4 : Sl base (t3.alloc (.row [.int .i64 (nm : Int), .int .i64 (dr : Int)])) 1 (.slice (some ⟨t3.next, 0, none⟩) 2 2) (i64L [nm, dr]) := i64_new (ns := [nm, dr]) (Ab.heap_alloc_new _ _) (by omega) (by simp only [Ab.next_alloc]; omega)
  have M_4 := M_3.alloc' (o := .row [.int .i64 (nm : Int), .int .i64 (dr : Int)])
  have c_4 := (Ab.heap_alloc_ne t3 (.row [.int .i64 (nm : Int), .int .i64 (dr : Int)]) (b := s.next) (by omega)).trans c_3
  have n_4 := Ab.next_alloc t3 (.row [.int .i64 (nm : Int), .int .i64 (dr : Int)])
  simp (disch := first | omega | ((simp only [nxBScrPrintR]) <;> omega) | decide) only [↓stepPre, stepPost, ↓W_cond, ↓W_block, ↓reduceIte, Nat.reduceEqDiff, Nat.reduceLT, Nat.reduceLeDiff, ret0, stVar, isTup, Value.cells, Nat.reduceAdd, Nat.reduceMul, Nat.reduceSub, env0, binV, intV, reduceCtorEq, pickV, nilCheckV, ptrV, unV, Rt, resultsV, allV, resV, calleeV, builtinV, eqV, fieldAddrV, ldVar, stN_own, stN_ownL, Int.reduceToNat, Int.reducePow, IntKind.bits, convV, Int.reduceNeg, Int.reduceAdd, Int.reduceSub, Int.reduceLT, Int.reduceLE, extractV, Int.reduceEq, mkFuncV, stBScrPrintR, spBScrPrintR, beq_self_eq_true, tyB0ScrPrintR, getL_take, glBScrPrintR, Dok_same, q1, q2, c_3, build2i Ty.elem48 Ty.siz2 Ty.zer2]
  generalize t3.alloc (.row [.int .i64 (nm : Int), .int .i64 (dr : Int)]) = t4 at l4 M_4 c_4 n_4 ⊢
  refine rnum_ok (w := [98, 101, 97, 116]) l4 (by decide) (by simp) (by simp; omega) ?_
  have l5 : Sl base (t4.alloc (.row [.int .i64 (tu : Int)])) 1 (.slice (some ⟨t4.next, 0, none⟩) 1 1) (i64L [tu]) := i64_new (ns := [tu]) (Ab.heap_alloc_new _ _) (by omega) (by simp only [Ab.next_alloc]; omega)
  have M_5 := M_4.alloc' (o := .row [.int .i64 (tu : Int)])
  have c_5 := (Ab.heap_alloc_ne t4 (.row [.int .i64 (tu : Int)]) (b := s.next) (by omega)).trans c_4
  have n_5 := Ab.next_alloc t4 (.row [.int .i64 (tu : Int)])
  simp (disch := first | omega | ((simp only [nxBScrPrintR]) <;> omega) | decide) only [↓stepPre, stepPost, ↓W_cond, ↓W_block, ↓reduceIte, Nat.reduceEqDiff, Nat.reduceLT, Nat.reduceLeDiff, ret0, stVar, isTup, Value.cells, Nat.reduceAdd, Nat.reduceMul, Nat.reduceSub, env0, binV, intV, reduceCtorEq, pickV, nilCheckV, ptrV, unV, Rt, resultsV, allV, resV, calleeV, builtinV, eqV, fieldAddrV, ldVar, stN_own, stN_ownL, Int.reduceToNat, Int.reducePow, IntKind.bits, convV, Int.reduceNeg, Int.reduceAdd, Int.reduceSub, Int.reduceLT, Int.reduceLE, extractV, Int.reduceEq, mkFuncV, stBScrPrintR, spBScrPrintR, beq_self_eq_true, tyB0ScrPrintR, getL_take, glBScrPrintR, Dok_same, q1, q2, c_4, build1i Ty.elem48 Ty.siz2 Ty.zer2]
  generalize t4.alloc (.row [.int .i64 (tu : Int)]) = t5 at l5 M_5 c_5 n_5 ⊢
  refine rnum_ok (w := [116, 117, 110, 101]) l5 (by decide) (by simp) (by simp; omega) ?_
  have M5 := M_5
  have l6 : Sl base (t5.alloc (.row [.int .i64 (ba : Int), .int .i64 (st : Int), .int .i64 (pe : Int)])) 1 (.slice (some ⟨t5.next, 0, none⟩) 3 3) (i64L [ba, st, pe]) := i64_new (ns := [ba, st, pe]) (Ab.heap_alloc_new _ _) (by omega) (by simp only [Ab.next_alloc]; omega)
  have M_6 := M_5.alloc' (o := .row [.int .i64 (ba : Int), .int .i64 (st : Int), .int .i64 (pe : Int)])
  have c_6 := (Ab.heap_alloc_ne t5 (.row [.int .i64 (ba : Int), .int .i64 (st : Int), .int .i64 (pe : Int)]) (b := s.next) (by omega)).trans c_5
  have n_6 := Ab.next_alloc t5 (.row [.int .i64 (ba : Int), .int .i64 (st : Int), .int .i64 (pe : Int)])
  simp (disch := first | omega | ((simp only [nxBScrPrintR]) <;> omega) | decide) only [↓stepPre, stepPost, ↓W_cond, ↓W_block, ↓reduceIte, Nat.reduceEqDiff, Nat.reduceLT, Nat.reduceLeDiff, ret0, stVar, isTup, Value.cells, Nat.reduceAdd, Nat.reduceMul, Nat.reduceSub, env0, binV, intV, reduceCtorEq, pickV, nilCheckV, ptrV, unV, Rt, resultsV, allV, resV, calleeV, builtinV, eqV, fieldAddrV, ldVar, stN_own, stN_ownL, Int.reduceToNat, Int.reducePow, IntKind.bits, convV, Int.reduceNeg, Int.reduceAdd, Int.reduceSub, Int.reduceLT, Int.reduceLE, extractV, Int.reduceEq, mkFuncV, stBScrPrintR, spBScrPrintR, beq_self_eq_true, tyB0ScrPrintR, getL_take, glBScrPrintR, Dok_same, q1, q2, c_5, build3i, aC, aD]
  generalize t5.alloc (.row [.int .i64 (ba : Int), .int .i64 (st : Int), .int .i64 (pe : Int)]) = t6 at l6 M_6 c_6 n_6 ⊢
  refine rnum_ok (w := [116, 117, 114, 110, 115]) l6 (by decide) (by simp) (by simp; omega) ?_
  have hlenS := (hs.mild M_6).len (P := Tryz.prog) (ts := []) Ty.elem22 Ty.arr22
  rw [smL_len] at hlenS
  have h6l : (row6 p).length = 6 := rfl
  have h6r := row6_len hfi
  have hlf : ∀ xs : List (List UInt8), lfT (xs) = lfT xs := fun _ => rfl
  have lf_app : ∀ xs ys : List (List UInt8), lfT (xs ++ ys) = lfT xs ++ lfT ys := fun xs ys => by simp [lfT]
  have lf_one : ∀ x : List UInt8, lfT [x] = x ++ [10] := fun x => by simp [lfT]
  simp (disch := first | omega | ((simp only [nxBScrPrintR]) <;> omega) | decide) only [↓stepPre, stepPost, ↓W_cond, ↓W_block, ↓reduceIte, Nat.reduceEqDiff, Nat.reduceLT, Nat.reduceLeDiff, ret0, stVar, isTup, Value.cells, Nat.reduceAdd, Nat.reduceMul, Nat.reduceSub, env0, binV, intV, reduceCtorEq, pickV, nilCheckV, ptrV, unV, Rt, resultsV, allV, resV, calleeV, builtinV, eqV, fieldAddrV, ldVar, stN_own, stN_ownL, Int.reduceToNat, Int.reducePow, IntKind.bits, convV, Int.reduceNeg, Int.reduceAdd, Int.reduceSub, Int.reduceLT, Int.reduceLE, extractV, Int.reduceEq, mkFuncV, stBScrPrintR, spBScrPrintR, beq_self_eq_true, tyB0ScrPrintR, getL_take, glBScrPrintR, Dok_same, q1, q2, c_6, aE]
  rw [hS6]
  generalize row6 p = rw6 at h6l h6r hR
  clear aA aB aC aD aE hS6 hrow6 z1 z2 z3 z4 z5 z6 l1 l2 l3 l4 l5 l6
  refine W_loop_inv p.xs.length (fun i e1 t => e1 1 = u ∧ e1 2 = .pointer (some ⟨s.next, 0, none⟩) ∧ e1 8 = .string (strB (lfT (rw6 ++ (p.xs.take i).map streamL))) ∧ e1 9 = .int .i64 (i : Int) ∧ Mild s t ∧ t.heap s.next = .row [.int .i64 (no : Int), v, .int .i64 (len : Int), .int .i64 (rm : Int), .int .i64 (nm : Int), .int .i64 (dr : Int), .int .i64 (tu : Int), .int .i64 (ba : Int), .int .i64 (st : Int), .int .i64 (pe : Int)] ∧ s.next < t.next)
    (fun x e1 t => x = .exit 2 ∧ e1 1 = u ∧ e1 8 = .string (strB (lfT (rw6 ++ p.xs.map streamL))) ∧ Mild s t) ?_ ?_ ?_
  rotate_left
  · exact ⟨q1, q2, (rfl : _ = Value.string (strB (lfT rw6))).trans (by simp), rfl, M_6, c_6, by omega⟩
  rotate_left
  · clear q1 q2
    rintro i e1 t' hi ⟨q1, q2, q8, q9, M, ct, nt⟩
    have hlenS := (hs.mild M).len (P := Tryz.prog) (ts := []) Ty.elem22 Ty.arr22
    rw [smL_len] at hlenS
    by_cases hil : i < p.xs.length
    rotate_left
    · have k1 : ¬ (i : Int) < (p.xs.length : Int) := by omega
      rw [List.take_of_length_le (by omega)] at q8
      simp (disch := first | omega | ((simp only [nxBScrPrintR]) <;> omega) | decide) only [↓stepPre, stepPost, ↓W_cond, ↓W_block, ↓reduceIte, Nat.reduceEqDiff, Nat.reduceLT, Nat.reduceLeDiff, ret0, stVar, isTup, Value.cells, Nat.reduceAdd, Nat.reduceMul, Nat.reduceSub, env0, binV, intV, reduceCtorEq, pickV, nilCheckV, ptrV, unV, Rt, resultsV, allV, resV, calleeV, builtinV, eqV, fieldAddrV, ldVar, stN_own, stN_ownL, Int.reduceToNat, Int.reducePow, IntKind.bits, convV, Int.reduceNeg, Int.reduceAdd, Int.reduceSub, Int.reduceLT, Int.reduceLE, extractV, Int.reduceEq, mkFuncV, stBScrPrintR, spBScrPrintR, beq_self_eq_true, tyB0ScrPrintR, getL_take, glBScrPrintR, q1, q2, q8, q9, ct, hlenS, k1]
      exact M
    have k1 : (i : Int) < (p.xs.length : Int) := by omega
    have hix := (hs.mild M).index (P := Tryz.prog) (k := .i64) (i := (i : Int)) Ty.elem22 Ty.siz58 (by omega) (by rw [smL_len]; omega)
    rw [Int.toNat_natCast] at hix
    have hld := (hs.mild M).loadA (smL_at hil) Ty.agg58 Ty.siz58
    have hfx := hfi.fine _ (List.getElem_mem hil)
    have hsl := streamL_len hfx
    have htk : p.xs.take (i + 1) = p.xs.take i ++ [p.xs[i]] := List.take_succ_eq_append_getElem hil
    generalize p.xs[i] = xx at hld hfx hsl htk
    obtain ⟨x1, x2, x3, x4, x5, x6, x7, x8, y1, y2, y5, y6, y7, y8⟩ := hfx
    obtain ⟨id, nd, cl, pe', de, sl, by_⟩ := xx
    simp only at x1 x2 x3 x4 x5 x6 x7 x8 y1 y2 y5 y6 y7 y8
    obtain ⟨id, rfl⟩ : ∃ n : Nat, id = n := ⟨id.toNat, by omega⟩
    obtain ⟨nd, rfl⟩ : ∃ n : Nat, nd = n := ⟨nd.toNat, by omega⟩
    obtain ⟨pe', rfl⟩ : ∃ n : Nat, pe' = n := ⟨pe'.toNat, by omega⟩
    obtain ⟨de, rfl⟩ : ∃ n : Nat, de = n := ⟨de.toNat, by omega⟩
    obtain ⟨sl, rfl⟩ : ∃ n : Nat, sl = n := ⟨sl.toNat, by omega⟩
    obtain ⟨by_, rfl⟩ : ∃ n : Nat, by_ = n := ⟨by_.toNat, by omega⟩
    have hSl : (lfT (rw6 ++ (p.xs.take i).map streamL)).length ≤ 10000 := by
      have h1 := lfT_len (rw6 ++ (p.xs.take i).map streamL) (fun x hx => by
        rcases List.mem_append.1 hx with hx | hx
        · exact h6r x hx
        · obtain ⟨y, hy, rfl⟩ := List.mem_map.1 hx; exact streamL_len (hfi.fine y (List.mem_of_mem_take hy)))
      have h2 : (rw6 ++ (p.xs.take i).map streamL).length ≤ 20 := by simp; omega
      omega
    have hnext : lfT (rw6 ++ (p.xs.take (i + 1)).map streamL) = lfT (rw6 ++ (p.xs.take i).map streamL) ++ ([115, 116, 114, 101, 97, 109, 32] ++ digL id ++ [32] ++ digL nd ++ [32]) ++ (rowL (classL cl) [pe', de, sl, by_] ++ [10]) := by
      rw [htk, List.map_append, ← List.append_assoc, lf_app]
      simp [lfT, streamL, rowL, streamW]
    rw [hnext]
    generalize lfT (rw6 ++ (p.xs.take i).map streamL) = S at q8 hSl
    have d1 := digL_len 19 id (by omega)
    have d2 := digL_len 19 nd (by omega)
    have hcl := classL_len cl
    have hrl := rowL_len (classL cl) [pe', de, sl, by_] (by simp; omega)
    have hrl : (rowL (classL cl) [pe', de, sl, by_]).length ≤ 100 := by simp only [List.length_cons, List.length_nil] at hrl; omega
    have a1 := addStrV (l := [115, 116, 114, 101, 97, 109, 32]) (m := digL id) (by simp; omega)
    have a2 := addStrV (l := [115, 116, 114, 101, 97, 109, 32] ++ digL id) (m := [32]) (by simp; omega)
    have a3 := addStrV (l := [115, 116, 114, 101, 97, 109, 32] ++ digL id ++ [32]) (m := digL nd) (by simp; omega)
    have a4 := addStrV (l := [115, 116, 114, 101, 97, 109, 32] ++ digL id ++ [32] ++ digL nd) (m := [32]) (by simp; omega)
    have a5 := addStrV (l := S) (m := [115, 116, 114, 101, 97, 109, 32] ++ digL id ++ [32] ++ digL nd ++ [32]) (by simp; omega)
    have a6 := addStrV (l := S ++ ([115, 116, 114, 101, 97, 109, 32] ++ digL id ++ [32] ++ digL nd ++ [32])) (m := rowL (classL cl) [pe', de, sl, by_] ++ [10]) (by simp; omega)
    simp (disch := first | omega | ((simp only [nxBScrPrintR]) <;> omega) | decide) only [↓stepPre, stepPost, ↓W_cond, ↓W_block, ↓reduceIte, Nat.reduceEqDiff, Nat.reduceLT, Nat.reduceLeDiff, ret0, stVar, isTup, Value.cells, Nat.reduceAdd, Nat.reduceMul, Nat.reduceSub, env0, binV, intV, reduceCtorEq, pickV, nilCheckV, ptrV, unV, Rt, resultsV, allV, resV, calleeV, builtinV, eqV, fieldAddrV, ldVar, stN_own, stN_ownL, Int.reduceToNat, Int.reducePow, IntKind.bits, convV, Int.reduceNeg, Int.reduceAdd, Int.reduceSub, Int.reduceLT, Int.reduceLE, extractV, Int.reduceEq, mkFuncV, stBScrPrintR, spBScrPrintR, beq_self_eq_true, tyB0ScrPrintR, getL_take, glBScrPrintR, q1, q2, q8, q9, ct, hlenS, k1, hix, hld]
    refine W_draw (fun _ => false) (fun _ => false) (fun _ => false) (by kernel_rfl) (by kernel_rfl) ?_
    simp (disch := first | omega | ((simp only [nxBScrPrintR]) <;> omega) | decide) only [↓stepPre, stepPost, ↓W_cond, ↓W_block, ↓reduceIte, Nat.reduceEqDiff, Nat.reduceLT, Nat.reduceLeDiff, ret0, stVar, isTup, Value.cells, Nat.reduceAdd, Nat.reduceMul, Nat.reduceSub, env0, binV, intV, reduceCtorEq, pickV, nilCheckV, ptrV, unV, Rt, resultsV, allV, resV, calleeV, builtinV, eqV, fieldAddrV, ldVar, stN_own, stN_ownL, Int.reduceToNat, Int.reducePow, IntKind.bits, convV, Int.reduceNeg, Int.reduceAdd, Int.reduceSub, Int.reduceLT, Int.reduceLE, extractV, Int.reduceEq, mkFuncV, stBScrPrintR, spBScrPrintR, beq_self_eq_true, tyB0ScrPrintR, getL_take, glBScrPrintR, q1, q2, q8, q9]
    refine rdigits_p (by omega) ?_
    simp only [List.cons_append, List.nil_append] at a1 a2 a3 a4 a5 a6
    simp (disch := first | omega | ((simp only [nxBScrPrintR]) <;> omega) | decide) only [↓stepPre, stepPost, ↓W_cond, ↓W_block, ↓reduceIte, Nat.reduceEqDiff, Nat.reduceLT, Nat.reduceLeDiff, ret0, stVar, isTup, Value.cells, Nat.reduceAdd, Nat.reduceMul, Nat.reduceSub, env0, binV, intV, reduceCtorEq, pickV, nilCheckV, ptrV, unV, Rt, resultsV, allV, resV, calleeV, builtinV, eqV, fieldAddrV, ldVar, stN_own, stN_ownL, Int.reduceToNat, Int.reducePow, IntKind.bits, convV, Int.reduceNeg, Int.reduceAdd, Int.reduceSub, Int.reduceLT, Int.reduceLE, extractV, Int.reduceEq, mkFuncV, stBScrPrintR, spBScrPrintR, beq_self_eq_true, tyB0ScrPrintR, getL_take, glBScrPrintR, Dok_same, q1, q2, q8, a1, a2]
    refine rdigits_p (by omega) ?_
    simp (disch := first | omega | ((simp only [nxBScrPrintR]) <;> omega) | decide) only [↓stepPre, stepPost, ↓W_cond, ↓W_block, ↓reduceIte, Nat.reduceEqDiff, Nat.reduceLT, Nat.reduceLeDiff, ret0, stVar, isTup, Value.cells, Nat.reduceAdd, Nat.reduceMul, Nat.reduceSub, env0, binV, intV, reduceCtorEq, pickV, nilCheckV, ptrV, unV, Rt, resultsV, allV, resV, calleeV, builtinV, eqV, fieldAddrV, ldVar, stN_own, stN_ownL, Int.reduceToNat, Int.reducePow, IntKind.bits, convV, Int.reduceNeg, Int.reduceAdd, Int.reduceSub, Int.reduceLT, Int.reduceLE, extractV, Int.reduceEq, mkFuncV, stBScrPrintR, spBScrPrintR, beq_self_eq_true, tyB0ScrPrintR, getL_take, glBScrPrintR, Dok_same, q1, q2, q8, a3, a4, a5]
    refine W_draw (fun _ => false) (fun _ => false) (fun _ => false) (by kernel_rfl) (by kernel_rfl) ?_
    simp (disch := first | omega | ((simp only [nxBScrPrintR]) <;> omega) | decide) only [↓stepPre, stepPost, ↓W_cond, ↓W_block, ↓reduceIte, Nat.reduceEqDiff, Nat.reduceLT, Nat.reduceLeDiff, ret0, stVar, isTup, Value.cells, Nat.reduceAdd, Nat.reduceMul, Nat.reduceSub, env0, binV, intV, reduceCtorEq, pickV, nilCheckV, ptrV, unV, Rt, resultsV, allV, resV, calleeV, builtinV, eqV, fieldAddrV, ldVar, stN_own, stN_ownL, Int.reduceToNat, Int.reducePow, IntKind.bits, convV, Int.reduceNeg, Int.reduceAdd, Int.reduceSub, Int.reduceLT, Int.reduceLE, extractV, Int.reduceEq, mkFuncV, stBScrPrintR, spBScrPrintR, beq_self_eq_true, tyB0ScrPrintR, getL_take, glBScrPrintR, Dok_same, q1, q2]
    refine rclass_p ?_
    simp (disch := first | omega | ((simp only [nxBScrPrintR]) <;> omega) | decide) only [↓stepPre, stepPost, ↓W_cond, ↓W_block, ↓reduceIte, Nat.reduceEqDiff, Nat.reduceLT, Nat.reduceLeDiff, ret0, stVar, isTup, Value.cells, Nat.reduceAdd, Nat.reduceMul, Nat.reduceSub, env0, binV, intV, reduceCtorEq, pickV, nilCheckV, ptrV, unV, Rt, resultsV, allV, resV, calleeV, builtinV, eqV, fieldAddrV, ldVar, stN_own, stN_ownL, Int.reduceToNat, Int.reducePow, IntKind.bits, convV, Int.reduceNeg, Int.reduceAdd, Int.reduceSub, Int.reduceLT, Int.reduceLE, extractV, Int.reduceEq, mkFuncV, stBScrPrintR, spBScrPrintR, beq_self_eq_true, tyB0ScrPrintR, getL_take, glBScrPrintR, Dok_same, q1, q2, build4i]
    have T0 := M.alloc' (o := .row [.int .i64 (id : Int), .int .i64 (nd : Int), .int .i64 cl, .int .i64 (pe' : Int), .int .i64 (de : Int), .int .i64 (sl : Int), .int .i64 (by_ : Int)])
    have e0 := (Ab.heap_alloc_ne t' (.row [.int .i64 (id : Int), .int .i64 (nd : Int), .int .i64 cl, .int .i64 (pe' : Int), .int .i64 (de : Int), .int .i64 (sl : Int), .int .i64 (by_ : Int)]) (b := s.next) (by omega)).trans ct
    have o0 := Ab.next_alloc t' (.row [.int .i64 (id : Int), .int .i64 (nd : Int), .int .i64 cl, .int .i64 (pe' : Int), .int .i64 (de : Int), .int .i64 (sl : Int), .int .i64 (by_ : Int)])
    have hx1 : t'.next + 1 = (t'.alloc (.row [.int .i64 (id : Int), .int .i64 (nd : Int), .int .i64 cl, .int .i64 (pe' : Int), .int .i64 (de : Int), .int .i64 (sl : Int), .int .i64 (by_ : Int)])).next := o0.symm
    rw [hx1]
    generalize t'.alloc (.row [.int .i64 (id : Int), .int .i64 (nd : Int), .int .i64 cl, .int .i64 (pe' : Int), .int .i64 (de : Int), .int .i64 (sl : Int), .int .i64 (by_ : Int)]) = t8 at T0 e0 o0 ⊢
    have l7 : Sl base (t8.alloc (.row [.int .i64 (pe' : Int), .int .i64 (de : Int), .int .i64 (sl : Int), .int .i64 (by_ : Int)])) 1 (.slice (some ⟨t8.next, 0, none⟩) 4 4) (i64L [pe', de, sl, by_]) := i64_new (ns := [pe', de, sl, by_]) (Ab.heap_alloc_new _ _) (by omega) (by simp only [Ab.next_alloc]; omega)
    have T1 := T0.alloc' (o := .row [.int .i64 (pe' : Int), .int .i64 (de : Int), .int .i64 (sl : Int), .int .i64 (by_ : Int)])
    have e1' := (Ab.heap_alloc_ne t8 (.row [.int .i64 (pe' : Int), .int .i64 (de : Int), .int .i64 (sl : Int), .int .i64 (by_ : Int)]) (b := s.next) (by omega)).trans e0
    have o1 := Ab.next_alloc t8 (.row [.int .i64 (pe' : Int), .int .i64 (de : Int), .int .i64 (sl : Int), .int .i64 (by_ : Int)])
    refine rnum_ok (w := classL cl) l7 (by omega) (by simp) (by simp; omega) ?_
    simp (disch := first | omega | ((simp only [nxBScrPrintR]) <;> omega) | decide) only [↓stepPre, stepPost, ↓W_cond, ↓W_block, ↓reduceIte, Nat.reduceEqDiff, Nat.reduceLT, Nat.reduceLeDiff, ret0, stVar, isTup, Value.cells, Nat.reduceAdd, Nat.reduceMul, Nat.reduceSub, env0, binV, intV, reduceCtorEq, pickV, nilCheckV, ptrV, unV, Rt, resultsV, allV, resV, calleeV, builtinV, eqV, fieldAddrV, ldVar, stN_own, stN_ownL, Int.reduceToNat, Int.reducePow, IntKind.bits, convV, Int.reduceNeg, Int.reduceAdd, Int.reduceSub, Int.reduceLT, Int.reduceLE, extractV, Int.reduceEq, mkFuncV, stBScrPrintR, spBScrPrintR, beq_self_eq_true, tyB0ScrPrintR, getL_take, glBScrPrintR, Dok_same, q1, q2, q9, a6]
    exact ⟨hil, by simp, T1, e0, by omega⟩
  rintro x e1 t' ⟨rfl, q1, q8, M⟩
  clear q2
  have hlp : ((p.xs.take p.xs.length).map streamL).length ≤ 12 := by simp; omega
  have hpre : ∀ x ∈ rw6 ++ p.xs.map streamL, x.length ≤ 200 := fun x hx => by
    rcases List.mem_append.1 hx with hx | hx
    · exact h6r x hx
    · obtain ⟨y, hy, rfl⟩ := List.mem_map.1 hx; exact streamL_len (hfi.fine y hy)
  have hprl : (rw6 ++ p.xs.map streamL).length ≤ 20 := by simp; omega
  generalize rw6 ++ p.xs.map streamL = pre at hR q8 hpre hprl
  simp (disch := first | omega | ((simp only [nxBScrPrintR]) <;> omega) | decide) only [↓stepPre, stepPost, ↓W_cond, ↓W_block, ↓reduceIte, Nat.reduceEqDiff, Nat.reduceLT, Nat.reduceLeDiff, ret0, stVar, isTup, Value.cells, Nat.reduceAdd, Nat.reduceMul, Nat.reduceSub, env0, binV, intV, reduceCtorEq, pickV, nilCheckV, ptrV, unV, Rt, resultsV, allV, resV, calleeV, builtinV, eqV, fieldAddrV, ldVar, stN_own, stN_ownL, Int.reduceToNat, Int.reducePow, IntKind.bits, convV, Int.reduceNeg, Int.reduceAdd, Int.reduceSub, Int.reduceLT, Int.reduceLE, extractV, Int.reduceEq, mkFuncV, stBScrPrintR, spBScrPrintR, beq_self_eq_true, tyB0ScrPrintR, getL_take, glBScrPrintR, q1, q8]
  refine W_loop_inv l.length (fun i e1 t => e1 1 = u ∧ e1 8 = .string (strB (lfT (pre ++ (l.take i).map Ac.line))) ∧ e1 11 = .int .i64 (i : Int) ∧ Mild s t)
    (fun x e1 t => x = .exit 4 ∧ e1 8 = .string (strB (lfT (pre ++ l.map Ac.line))) ∧ Mild s t) ?_ ?_ ?_
  rotate_left
  · exact ⟨q1, q8.trans (by simp), rfl, M⟩
  rotate_left
  · clear q1 q8 M
    rintro i e1 t' hi ⟨q1, q8, q11, M⟩
    have hlen := (ha.mild M).len (P := Tryz.prog) (ts := []) Ty.elem27 Ty.arr27
    rw [acL_len] at hlen
    by_cases hil : i < l.length
    rotate_left
    · have k1 : ¬ (i : Int) < (l.length : Int) := by omega
      rw [List.take_of_length_le (by omega)] at q8
      simp (disch := first | omega | ((simp only [nxBScrPrintR]) <;> omega) | decide) only [↓stepPre, stepPost, ↓W_cond, ↓W_block, ↓reduceIte, Nat.reduceEqDiff, Nat.reduceLT, Nat.reduceLeDiff, ret0, stVar, isTup, Value.cells, Nat.reduceAdd, Nat.reduceMul, Nat.reduceSub, env0, binV, intV, reduceCtorEq, pickV, nilCheckV, ptrV, unV, Rt, resultsV, allV, resV, calleeV, builtinV, eqV, fieldAddrV, ldVar, stN_own, stN_ownL, Int.reduceToNat, Int.reducePow, IntKind.bits, convV, Int.reduceNeg, Int.reduceAdd, Int.reduceSub, Int.reduceLT, Int.reduceLE, extractV, Int.reduceEq, mkFuncV, stBScrPrintR, spBScrPrintR, beq_self_eq_true, tyB0ScrPrintR, getL_take, glBScrPrintR, q1, q8, q11, hlen, k1]
      exact M
    have k1 : (i : Int) < (l.length : Int) := by omega
    have hix := (ha.mild M).index (P := Tryz.prog) (k := .i64) (i := (i : Int)) Ty.elem27 Ty.siz33 (by omega) (by rw [acL_len]; omega)
    rw [Int.toNat_natCast] at hix
    have hld := (ha.mild M).loadA (acL_at hil) Ty.agg33 Ty.siz33
    have hgi := hg _ (List.getElem_mem hil)
    have hln := line_len hgi
    have htk : l.take (i + 1) = l.take i ++ [l[i]] := List.take_succ_eq_append_getElem hil
    have hSl : (lfT (pre ++ (l.take i).map Ac.line)).length ≤ 201 * 120 := by
      have h1 := lfT_len (pre ++ (l.take i).map Ac.line) (fun x hx => by
        rcases List.mem_append.1 hx with hx | hx
        · exact hpre x hx
        · obtain ⟨y, hy, rfl⟩ := List.mem_map.1 hx; exact line_len (hg y (List.mem_of_mem_take hy)))
      have h2 : (pre ++ (l.take i).map Ac.line).length ≤ 120 := by simp; omega
      omega
    have hnext : lfT (pre ++ (l.take (i + 1)).map Ac.line) = lfT (pre ++ (l.take i).map Ac.line) ++ (l[i].line ++ [10]) := by
      rw [htk, List.map_append, ← List.append_assoc, lf_app]
      simp [lfT]
    have a1 := addStrV (l := l[i].line) (m := [10]) (by simp; omega)
    have a2 := addStrV (l := lfT (pre ++ (l.take i).map Ac.line)) (m := l[i].line ++ [10]) (by simp only [List.length_append, List.length_singleton]; omega)
    rw [hnext]
    simp (disch := first | omega | ((simp only [nxBScrPrintR]) <;> omega) | decide) only [↓stepPre, stepPost, ↓W_cond, ↓W_block, ↓reduceIte, Nat.reduceEqDiff, Nat.reduceLT, Nat.reduceLeDiff, ret0, stVar, isTup, Value.cells, Nat.reduceAdd, Nat.reduceMul, Nat.reduceSub, env0, binV, intV, reduceCtorEq, pickV, nilCheckV, ptrV, unV, Rt, resultsV, allV, resV, calleeV, builtinV, eqV, fieldAddrV, ldVar, stN_own, stN_ownL, Int.reduceToNat, Int.reducePow, IntKind.bits, convV, Int.reduceNeg, Int.reduceAdd, Int.reduceSub, Int.reduceLT, Int.reduceLE, extractV, Int.reduceEq, mkFuncV, stBScrPrintR, spBScrPrintR, beq_self_eq_true, tyB0ScrPrintR, getL_take, glBScrPrintR, q1, q8, q11, hlen, k1, hix, hld]
    refine rline38_ok hgi.1 hgi.2 (by have := M.next; omega) fun s3 m3 => ?_
    rw [show lineA l[i].k l[i].K l[i].N l[i].ds = l[i].line from rfl]
    simp (disch := first | omega | ((simp only [nxBScrPrintR]) <;> omega) | decide) only [↓stepPre, stepPost, ↓W_cond, ↓W_block, ↓reduceIte, Nat.reduceEqDiff, Nat.reduceLT, Nat.reduceLeDiff, ret0, stVar, isTup, Value.cells, Nat.reduceAdd, Nat.reduceMul, Nat.reduceSub, env0, binV, intV, reduceCtorEq, pickV, nilCheckV, ptrV, unV, Rt, resultsV, allV, resV, calleeV, builtinV, eqV, fieldAddrV, ldVar, stN_own, stN_ownL, Int.reduceToNat, Int.reducePow, IntKind.bits, convV, Int.reduceNeg, Int.reduceAdd, Int.reduceSub, Int.reduceLT, Int.reduceLE, extractV, Int.reduceEq, mkFuncV, stBScrPrintR, spBScrPrintR, beq_self_eq_true, tyB0ScrPrintR, getL_take, glBScrPrintR, q1, q8, q11, a1, a2]
    exact ⟨hil, by simp, M.trans m3⟩
  rintro x e1 t' ⟨rfl, q8, M⟩
  simp (disch := first | omega | ((simp only [nxBScrPrintR]) <;> omega) | decide) only [↓stepPre, stepPost, ↓W_cond, ↓W_block, ↓reduceIte, Nat.reduceEqDiff, Nat.reduceLT, Nat.reduceLeDiff, ret0, stVar, isTup, Value.cells, Nat.reduceAdd, Nat.reduceMul, Nat.reduceSub, env0, binV, intV, reduceCtorEq, pickV, nilCheckV, ptrV, unV, Rt, resultsV, allV, resV, calleeV, builtinV, eqV, fieldAddrV, ldVar, stN_own, stN_ownL, Int.reduceToNat, Int.reducePow, IntKind.bits, convV, Int.reduceNeg, Int.reduceAdd, Int.reduceSub, Int.reduceLT, Int.reduceLE, extractV, Int.reduceEq, mkFuncV, stBScrPrintR, spBScrPrintR, beq_self_eq_true, tyB0ScrPrintR, getL_take, glBScrPrintR, q8, Tryz.results10]
  exact hR _ M
end Go.Proofs.YthjpfllmecpliaaGreatDoor
