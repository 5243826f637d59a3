/- The law ClassWire, as a run of the abstract machine. -/
import Derived.Test.YtobajpopkmmkjaaLawIs
import Derived.Test.YtobajpopkmmkjaaRefFive
set_option linter.unusedSimpArgs false
set_option linter.unusedVariables false
namespace Go.Proofs.Ytobajpopkmmkjaa
open Go Go.Ab
/-- A label's identifier, as a natural number. -/
def idnN (c a b d : Int) : Nat := (idn c a b d).toNat
theorem key_mono {n n' : Nat} (h : n < 536870912) (h' : n' < 536870912) : key5 true n < key5 true n' ↔ n < n' := by
  unfold key5; rw [if_pos rfl, if_pos rfl]; omega
theorem key_low {n n' : Nat} (h : n < 256) (h' : 134217728 ≤ n') (h2 : n' < 536870912) : key5 false n < key5 true n' := by
  unfold key5; rw [if_neg (by decide), if_pos rfl]
  have h3 : n' / 262144 < 2048 := by omega
  have h4 : 512 ≤ n' / 262144 := by omega
  rw [Nat.mod_eq_of_lt h3, Nat.mod_eq_of_lt (by omega : n * 2 * 2 < 8192)]
  generalize n' / 262144 = q at *
  generalize n' % 262144 = r at *
  omega
theorem idn_lt {c a b d c' a' b' d' : Int} (h : rt c a b d = true) (h' : rt c' a' b' d' = true) : bef (c, a, b, d) (c', a', b', d') = decide (idn c a b d < idn c' a' b' d') := by
  rw [rt_iff] at h h'
  unfold bef idn
  rw [decide_eq_decide]
  dsimp only
  omega
theorem idn_bd {c a b d : Int} (h : rt c a b d = true) : 134217728 ≤ idn c a b d ∧ idn c a b d < 536870912 := by
  rw [rt_iff] at h
  unfold idn
  omega
theorem wire_law {c a b d c' a' b' d' : Int} (h : rt c a b d = true) (h' : rt c' a' b' d' = true) : bef (c, a, b, d) (c', a', b', d') = decide (key5 true (idnN c a b d) < key5 true (idnN c' a' b' d')) := by
  have b1 := idn_bd h
  have b2 := idn_bd h'
  rw [idn_lt h h', decide_eq_decide, key_mono (by unfold idnN; omega) (by unfold idnN; omega)]
  unfold idnN; omega
theorem wire_low {c a b d : Int} {n : Nat} (h : rt c a b d = true) (hn : n < 256) : key5 false n < key5 true (idnN c a b d) := by
  have b1 := idn_bd h
  exact key_low hn (by unfold idnN; omega) (by unfold idnN; omega)
theorem classWire_law (W : World) (args : List Value) (hsh : W.ShapedOpen Try.prog) (ha : ArgsR Try.prog W Try.f5.params.toList args) : WC Try.prog W.heap.size 5 args (St0 W) (fun v _ => v = .bool true) := by
  obtain ⟨v1, _, rfl, a1, ha⟩ := args_cons (show ArgsR Try.prog W [24, 24, 5] args from ha)
  obtain ⟨v2, _, rfl, a2, ha⟩ := args_cons ha
  obtain ⟨v3, _, rfl, a3, ha⟩ := args_cons ha
  obtain rfl := args_nil ha
  obtain ⟨l, rfl, f1, -⟩ := arg_agg a1 flatLabel (by kernel_rfl)
  obtain ⟨m, rfl, f2, -⟩ := arg_agg a2 flatLabel (by kernel_rfl)
  obtain ⟨c, a, b, d, rfl⟩ := label_of f1
  obtain ⟨c', a', b', d', rfl⟩ := label_of f2
  obtain ⟨r1, -⟩ := arg_one a3 (k := .int .u8) (by kernel_rfl) (by kernel_rfl)
  obtain ⟨r, rfl, hr⟩ := (by simpa only [okCell] using r1 : ∃ n, v3 = .int .u8 n ∧ _)
  have hr := wf_int hr
  simp only [IntKind.min, IntKind.max, IntKind.signed, IntKind.bits] at hr
  have hr0 : 0 ≤ r ∧ r ≤ 255 := by simpa using hr
  obtain ⟨n, rfl, hn⟩ : ∃ n : Nat, r = n ∧ n < 256 := ⟨r.toNat, by omega, by omega⟩
  have hnx : (St0 W).next = W.heap.size := rfl
  refine WC_open Try.func5 rfl ?_
  have hin : idOk false (n : Int) = true := by simp [idOk]; omega
  have big : ∀ {c a b d : Int}, rt c a b d = true → idn c a b d = (idnN c a b d : Nat) ∧ idnN c a b d < 2 ^ 32 ∧ idOk true (idnN c a b d : Nat) = true := fun h => by
    obtain ⟨-, -, -, -, g5, g6, -⟩ := back_of h
    have e : idn _ _ _ _ = ((idnN _ _ _ _ : Nat) : Int) := (Int.toNat_of_nonneg g5).symm
    exact ⟨e, by rw [e] at g6; omega, by simp only [idOk, if_true, decide_eq_true_eq]; rw [← e]; exact g6⟩
  cases h1 : rt c a b d <;> cases h2 : rt c' a' b' d'
  case true.true =>
    obtain ⟨x1, x2, x3⟩ := big h1
    obtain ⟨y1, y2, y3⟩ := big h2
    have hw := wire_law h1 h2
    have hl : decide (key5 false n < key5 true (idnN c a b d)) = true := decide_eq_true (wire_low h1 hn)
    repeat first | (refine id_p ?_) | (refine before_p ?_) | (refine wins_p (n := idnN c a b d) (n' := idnN c' a' b' d') x2 x3 y2 y3 ?_) | (refine wins_p (n := n) (n' := idnN c a b d) (by omega) hin x2 x3 ?_) | (refine WC_live okProg live_ok ?_) | (refine W_draw (fun _ => false) (fun _ => false) (fun _ => false) (by kernel_rfl) (by kernel_rfl) ?_) | simp (disch := first | omega | ((simp only [Ab.next_alloc, Ab.next_upd, List.length_cons, List.length_nil, ne_eq, not_true_eq_false, not_false_eq_true]) <;> omega) | decide) only [↓W_seq, ↓W_region, ↓W_cond, ↓W_block, ↓W_skip, ↓W_exit, ↓W_ret, ↓W_label, ↓Th_normal, ↓Th_ret, ↓Th_exit, ↓Bk_normal, ↓Bk_ret, ↓Bk_exit, ↓WO_nil, ↓WO_move, ↓WO_assign, ↓WO_binOp, ↓WO_unOp, ↓WO_pick, ↓WO_guardL, ↓WO_makeSlice, ↓WO_builtin, ↓WO_convert, ↓WO_indexAddr, ↓WO_index, ↓WO_field, ↓WO_fieldAddr, ↓WO_store, ↓WO_load, ↓WO_alloc, ↓WO_box, ↓WO_build, ↓WO_buildSlice, ↓WO_slice, ↓WO_extract, ↓WO_nilCheck, ↓WO_makeFunc, ↓WO_callv, ↓WF_func, Wif_true, Wif_false, Gif_same, Gif_tf, Gif_ft, Q2_some, Qv_some, Qc_some, Qv_ite, Q2_ite, Q2_ret1, ev_tmp, ev_const, ev_func, put_at, put_none, ↓reduceIte, Nat.reduceEqDiff, Nat.reduceLT, Nat.reduceLeDiff, List.size_toArray, List.length_cons, List.length_nil, ret0, stVar, isTup, Value.cells, List.set_cons_zero, List.set_cons_succ, Nat.le_refl, Nat.reduceAdd, Nat.reduceMul, Nat.reduceSub, env0, List.getD_cons_zero, List.getD_cons_succ, binV, intV, reduceCtorEq, List.getElem?_cons_succ, List.getElem?_cons_zero, boolV?, pickV, nilCheckV, ptrV, unV, add_lit, Lok_none, Dok_none, true_and, and_true, List.map_cons, List.map_nil, Nat.add_zero, Nat.zero_add, Option.isNone_none, Option.isNone_some, Rt, resultsV, allV, resV, Bool.not_true, Bool.not_false, calleeV, builtinV, Option.map_some, Option.map_none, List.cons_append, List.nil_append, List.append_nil, Array.toList_append, List.toList_toArray, eqV, fieldAddrV, loadV_ptr, ldVar, ld1_own, ldN_own, stN_own, stN_ownL, cellAt_row, cellAt_grown, cellsAt_row, cellsAt_grown, putAt_row, putAt_grown, updO_some, Ab.heap_alloc_ne, heapAt_alloc, Ab.heap_upd_same, Ab.heap_upd_ne, Ab.next_alloc, Ab.next_upd, getL_all, setL_all, setL_cons, setL_nil, IntWalk.i64_in, IntWalk.u32_in, IntWalk.u8_in, IntWalk.i32_in, IntWalk.u16_in, IntWalk.u64_in, allocUpd, upd_upd, Lok_ff, Dok_upd, Dok_same, Int.cast_ofNat_Int, Int.fdiv_eq_ediv_of_nonneg, Int.reduceToNat, Nat.min_eq_left, Int.reducePow, IntKind.bits, convV, ne_eq, not_false_eq_true, not_true_eq_false, Int.reduceNeg, Int.reduceAdd, Int.reduceSub, Int.reduceLT, Int.reduceLE, Option.isSome_some, extractV, decide_true, decide_false, Int.reduceEq, List.getElem?_toArray, mkFuncV, List.map_toArray, bitV_and, bitV_or, bitV_xor, bitV_andNot, beq_self_eq_true, beq_tf, beq_ft, Ty.agg24, Ty.siz24, Ty.byt24, Ty.elem24, Ty.arr24, Ty.int24, Ty.zer24, Ty.kd24, Ty.eqg24, Ty.szs24, Ty.plc24_0, Ty.plc24_1, Ty.plc24_2, Ty.plc24_3, Ty.str24, Ty.fld24_0, Ty.fld24_1, Ty.fld24_2, Ty.fld24_3, Ty.und24, Try.underlying24, Ty.agg22, Ty.siz22, Ty.byt22, Ty.elem22, Ty.arr22, Ty.int22, Ty.zer22, Ty.str22, Ty.und22, Try.underlying22, Ty.agg3, Ty.siz3, Ty.byt3, Ty.elem3, Ty.arr3, Ty.int3, Ty.zer3, Ty.str3, Ty.und3, Try.underlying3, Ty.agg4, Ty.siz4, Ty.byt4, Ty.elem4, Ty.arr4, Ty.int4, Ty.zer4, Ty.str4, Ty.und4, Try.underlying4, Ty.agg25, Ty.siz25, Ty.byt25, Ty.elem25, Ty.arr25, Ty.int25, Ty.zer25, Ty.str25, Ty.und25, Try.underlying25, Ty.agg27, Ty.siz27, Ty.byt27, Ty.elem27, Ty.arr27, Ty.int27, Ty.zer27, Ty.kd27, Ty.eqg27, Ty.szs27, Ty.plc27_0, Ty.plc27_1, Ty.str27, Ty.fld27_0, Ty.fld27_1, Ty.und27, Try.underlying27, Ty.agg49, Ty.siz49, Ty.byt49, Ty.elem49, Ty.arr49, Ty.int49, Ty.zer49, Ty.str49, Ty.und49, Try.underlying49, Ty.agg5, Ty.siz5, Ty.byt5, Ty.elem5, Ty.arr5, Ty.int5, Ty.zer5, Ty.str5, Ty.und5, Try.underlying5, Ty.agg28, Ty.siz28, Ty.byt28, Ty.elem28, Ty.arr28, Ty.int28, Ty.zer28, Ty.str28, Ty.und28, Try.underlying28, getL_take, List.drop_zero, List.drop_succ_cons, List.take_succ_cons, List.take_zero, List.take_nil, hnx, h1, h2, x1, y1, hw, hl, buildV, fillL, idV, Bool.false_eq_true, fitsAll, Kd.fits, eqCells, eqCell, Bool.and_self, and_self, eq_self, decide_true, Bool.and_true, Bool.true_and, Try.results5]
  all_goals
    repeat first | (refine id_p ?_) | (refine rright_p ?_) | (refine WC_live okProg live_ok ?_) | (refine W_draw (fun _ => false) (fun _ => false) (fun _ => false) (by kernel_rfl) (by kernel_rfl) ?_) | simp (disch := first | omega | ((simp only [Ab.next_alloc, Ab.next_upd, List.length_cons, List.length_nil, ne_eq, not_true_eq_false, not_false_eq_true]) <;> omega) | decide) only [↓W_seq, ↓W_region, ↓W_cond, ↓W_block, ↓W_skip, ↓W_exit, ↓W_ret, ↓W_label, ↓Th_normal, ↓Th_ret, ↓Th_exit, ↓Bk_normal, ↓Bk_ret, ↓Bk_exit, ↓WO_nil, ↓WO_move, ↓WO_assign, ↓WO_binOp, ↓WO_unOp, ↓WO_pick, ↓WO_guardL, ↓WO_makeSlice, ↓WO_builtin, ↓WO_convert, ↓WO_indexAddr, ↓WO_index, ↓WO_field, ↓WO_fieldAddr, ↓WO_store, ↓WO_load, ↓WO_alloc, ↓WO_box, ↓WO_build, ↓WO_buildSlice, ↓WO_slice, ↓WO_extract, ↓WO_nilCheck, ↓WO_makeFunc, ↓WO_callv, ↓WF_func, Wif_true, Wif_false, Gif_same, Gif_tf, Gif_ft, Q2_some, Qv_some, Qc_some, Qv_ite, Q2_ite, Q2_ret1, ev_tmp, ev_const, ev_func, put_at, put_none, ↓reduceIte, Nat.reduceEqDiff, Nat.reduceLT, Nat.reduceLeDiff, List.size_toArray, List.length_cons, List.length_nil, ret0, stVar, isTup, Value.cells, List.set_cons_zero, List.set_cons_succ, Nat.le_refl, Nat.reduceAdd, Nat.reduceMul, Nat.reduceSub, env0, List.getD_cons_zero, List.getD_cons_succ, binV, intV, reduceCtorEq, List.getElem?_cons_succ, List.getElem?_cons_zero, boolV?, pickV, nilCheckV, ptrV, unV, add_lit, Lok_none, Dok_none, true_and, and_true, List.map_cons, List.map_nil, Nat.add_zero, Nat.zero_add, Option.isNone_none, Option.isNone_some, Rt, resultsV, allV, resV, Bool.not_true, Bool.not_false, calleeV, builtinV, Option.map_some, Option.map_none, List.cons_append, List.nil_append, List.append_nil, Array.toList_append, List.toList_toArray, eqV, fieldAddrV, loadV_ptr, ldVar, ld1_own, ldN_own, stN_own, stN_ownL, cellAt_row, cellAt_grown, cellsAt_row, cellsAt_grown, putAt_row, putAt_grown, updO_some, Ab.heap_alloc_ne, heapAt_alloc, Ab.heap_upd_same, Ab.heap_upd_ne, Ab.next_alloc, Ab.next_upd, getL_all, setL_all, setL_cons, setL_nil, IntWalk.i64_in, IntWalk.u32_in, IntWalk.u8_in, IntWalk.i32_in, IntWalk.u16_in, IntWalk.u64_in, allocUpd, upd_upd, Lok_ff, Dok_upd, Dok_same, Int.cast_ofNat_Int, Int.fdiv_eq_ediv_of_nonneg, Int.reduceToNat, Nat.min_eq_left, Int.reducePow, IntKind.bits, convV, ne_eq, not_false_eq_true, not_true_eq_false, Int.reduceNeg, Int.reduceAdd, Int.reduceSub, Int.reduceLT, Int.reduceLE, Option.isSome_some, extractV, decide_true, decide_false, Int.reduceEq, List.getElem?_toArray, mkFuncV, List.map_toArray, bitV_and, bitV_or, bitV_xor, bitV_andNot, beq_self_eq_true, beq_tf, beq_ft, Ty.agg24, Ty.siz24, Ty.byt24, Ty.elem24, Ty.arr24, Ty.int24, Ty.zer24, Ty.kd24, Ty.eqg24, Ty.szs24, Ty.plc24_0, Ty.plc24_1, Ty.plc24_2, Ty.plc24_3, Ty.str24, Ty.fld24_0, Ty.fld24_1, Ty.fld24_2, Ty.fld24_3, Ty.und24, Try.underlying24, Ty.agg22, Ty.siz22, Ty.byt22, Ty.elem22, Ty.arr22, Ty.int22, Ty.zer22, Ty.str22, Ty.und22, Try.underlying22, Ty.agg3, Ty.siz3, Ty.byt3, Ty.elem3, Ty.arr3, Ty.int3, Ty.zer3, Ty.str3, Ty.und3, Try.underlying3, Ty.agg4, Ty.siz4, Ty.byt4, Ty.elem4, Ty.arr4, Ty.int4, Ty.zer4, Ty.str4, Ty.und4, Try.underlying4, Ty.agg25, Ty.siz25, Ty.byt25, Ty.elem25, Ty.arr25, Ty.int25, Ty.zer25, Ty.str25, Ty.und25, Try.underlying25, Ty.agg27, Ty.siz27, Ty.byt27, Ty.elem27, Ty.arr27, Ty.int27, Ty.zer27, Ty.kd27, Ty.eqg27, Ty.szs27, Ty.plc27_0, Ty.plc27_1, Ty.str27, Ty.fld27_0, Ty.fld27_1, Ty.und27, Try.underlying27, Ty.agg49, Ty.siz49, Ty.byt49, Ty.elem49, Ty.arr49, Ty.int49, Ty.zer49, Ty.str49, Ty.und49, Try.underlying49, Ty.agg5, Ty.siz5, Ty.byt5, Ty.elem5, Ty.arr5, Ty.int5, Ty.zer5, Ty.str5, Ty.und5, Try.underlying5, Ty.agg28, Ty.siz28, Ty.byt28, Ty.elem28, Ty.arr28, Ty.int28, Ty.zer28, Ty.str28, Ty.und28, Try.underlying28, getL_take, List.drop_zero, List.drop_succ_cons, List.take_succ_cons, List.take_zero, List.take_nil, hnx, h1, h2, idV, Bool.false_eq_true, fitsAll, Kd.fits, eqCells, eqCell, Bool.and_self, and_self, eq_self, decide_true, Bool.and_true, Bool.true_and, Try.results5]
end Go.Proofs.Ytobajpopkmmkjaa
