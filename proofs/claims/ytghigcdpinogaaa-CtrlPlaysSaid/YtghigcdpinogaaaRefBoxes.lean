import Derived.Test.YtghigcdpinogaaaTypes
import Derived.Test.YtghigcdpinogaaaRow0
import Derived.Test.YtghigcdpinogaaaAbC
import Derived.Test.YtghigcdpinogaaaPure
import Derived.Test.YtghigcdpinogaaaRight
import Derived.Test.YtghigcdpinogaaaFive
import Derived.Test.YtghigcdpinogaaaBoxes
/- Mailboxes, as the document says them (bellbuoyref13), as contracts. -/
set_option linter.all false
set_option maxRecDepth 20000
namespace Go.Proofs.Ytghigcdpinogaaa
open Go Go.Ab
def stBRefBoxes := And.intro @List.size_toArray.{0} (And.intro @List.length_cons.{0} (And.intro @List.length_nil.{0} (And.intro @List.set_cons_zero.{0} (And.intro @List.set_cons_succ.{0} (And.intro @List.getD_cons_zero.{0} (And.intro @List.getD_cons_succ.{0} (And.intro @List.getElem?_cons_succ.{0} (And.intro @List.getElem?_cons_zero.{0} (And.intro @List.map_cons.{0,0} (And.intro @List.map_nil.{0,0} (And.intro @Option.isNone_none.{0} (And.intro @Option.isNone_some.{0} (And.intro @Option.map_some.{0,0} (And.intro @Option.map_none.{0,0} (And.intro @List.cons_append.{0} (And.intro @List.nil_append.{0} (And.intro @List.append_nil.{0} (And.intro @Array.toList_append.{0} (And.intro @List.toList_toArray.{0} (And.intro @Int.cast_ofNat_Int (And.intro @Option.isSome_some.{0} (And.intro @List.getElem?_toArray.{0} (And.intro @List.map_toArray.{0,0} (@Nat.min_eq_left))))))))))))))))))))))))
def glBRefBoxes := And.intro @List.drop_zero.{0} (And.intro @List.drop_succ_cons.{0} (And.intro @List.take_succ_cons.{0} (And.intro @List.take_zero.{0} (@List.take_nil.{0}))))
def tyB0RefBoxes := And.intro @Ty.t34 (And.intro @Try.underlying34 (And.intro @Ty.t129 (And.intro @Try.underlying129 (And.intro @Ty.t130 (And.intro @Try.underlying130 (And.intro @Ty.t132 (And.intro @Try.underlying132 (And.intro @Ty.t93 (And.intro @Try.underlying93 (And.intro @Ty.t32 (And.intro @Try.underlying32 (And.intro @Ty.t29 (And.intro @Try.underlying29 (And.intro @Ty.t3 (And.intro @Try.underlying3 (And.intro @Ty.t4 (And.intro @Try.underlying4 (And.intro @Ty.t27 (And.intro @Try.underlying27 (And.intro @Ty.t121 (And.intro @Try.underlying121 (And.intro @Ty.t5 (And.intro @Try.underlying5 (And.intro @Ty.t30 (And.intro @Try.underlying30 (And.intro @Ty.t135 (And.intro @Try.underlying135 (And.intro @Ty.t24 @Try.underlying24))))))))))))))))))))))))))))
variable {base : Nat} [Bok base] {s : St} {R : Value → St → Prop}
abbrev hasC (L : Bx) : List Value := L.map fun o => .bool o.isSome
structure RefB (base : Nat) (s : St) (r : Nat) (L : Bx) (bP bH : Nat) (Lp : List (List Value)) : Prop where
  low : base ≤ r ∧ base ≤ bP ∧ base ≤ bH
  lt : r < s.next ∧ bP < s.next ∧ bH < s.next
  ne : r ≠ bP ∧ r ≠ bH ∧ bP ≠ bH
  room : 1 ≤ L.length ∧ L.length ≤ 8
  good : ∀ po, some po ∈ L → po.good
  k1 : s.heap r = .row [.slice (some ⟨bP, 0, none⟩) L.length L.length, .slice (some ⟨bH, 0, none⟩) L.length L.length]
  k2 : s.heap bP = .row Lp.flatten
  k3 : s.heap bH = .row (hasC L)
  len : Lp.length = L.length
  all : ∀ l ∈ Lp, l.length = 14
  at_ : ∀ i p, L.getD i none = some p → Lp[i]? = some p.c
theorem RefB.ch {r : Nat} {L : Bx} {bP bH : Nat} {Lp : List (List Value)} {Y : Nat → Prop} {s s' : St} (h : RefB base s r L bP bH Lp) (hc : Ch s s' Y) (hd : ∀ b, Y b → b ≠ r ∧ b ≠ bP ∧ b ≠ bH) : RefB base s' r L bP bH Lp := by
  have hn := hc.next
  have hlt := h.lt
  refine ⟨h.low, by omega, h.ne, h.room, h.good, ?_, ?_, ?_, h.len, h.all, h.at_⟩
  · rw [hc.heap _ hlt.1 fun hy => (hd _ hy).1 rfl]; exact h.k1
  · rw [hc.heap _ hlt.2.1 fun hy => (hd _ hy).2.1 rfl]; exact h.k2
  · rw [hc.heap _ hlt.2.2 fun hy => (hd _ hy).2.2 rfl]; exact h.k3
theorem RefB.mild {r : Nat} {L : Bx} {bP bH : Nat} {Lp : List (List Value)} {s s' : St} (h : RefB base s r L bP bH Lp) (hm : Mild s s') : RefB base s' r L bP bH Lp := h.ch (Ch.of_mild hm (fun _ => False)) fun _ h => h.elim
theorem hasC_at {L : Bx} {i : Nat} (hi : i < L.length) : (hasC L)[i * 1]? = some (.bool (L.getD i none).isSome) := by
  rw [Nat.mul_one]; simp [hasC, hi]
theorem rbnew_bad {n : Int} (hn : n < 1 ∨ 8 < n) (hR : R (.tuple #[.pointer none, .int .i64 1]) s) : WC Try.prog base 35 [.int .i64 n] s R := by
  refine WC_open Try.func35 rfl ?_
  (repeat' (first | (simp (disch := first | omega | ((simp only [Ab.next_alloc, Ab.next_upd, List.length_cons, List.length_nil, ne_eq, not_true_eq_false, not_false_eq_true]) <;> omega) | decide) only [↓stepPre, stepPost, ↓W_cond, ↓W_block, ↓reduceIte, Nat.reduceEqDiff, Nat.reduceLT, Nat.reduceLeDiff, ret0, stVar, isTup, Value.cells, Nat.le_refl, Nat.reduceAdd, Nat.reduceMul, Nat.reduceSub, env0, binV, intV, reduceCtorEq, pickV, nilCheckV, ptrV, unV, true_and, and_true, Nat.add_zero, Nat.zero_add, Rt, resultsV, allV, resV, Bool.not_true, Bool.not_false, calleeV, builtinV, eqV, fieldAddrV, ldVar, stN_own, stN_ownL, Int.fdiv_eq_ediv_of_nonneg, Int.reduceToNat, Int.reducePow, IntKind.bits, convV, ne_eq, not_false_eq_true, not_true_eq_false, Int.reduceNeg, Int.reduceAdd, Int.reduceSub, Int.reduceLT, Int.reduceLE, extractV, decide_true, decide_false, Int.reduceEq, mkFuncV, stBRefBoxes, beq_self_eq_true, tyB0RefBoxes, getL_take, glBRefBoxes, Try.results35, Dok_free, Dok_alloc, eq_self, Int.toNat_natCast, *]) | (refine Gif_dt (fun _ => ?_) (fun _ => ?_)) | (refine Gif_df (fun _ => ?_) (fun _ => ?_)) | (refine Wif_dec (fun _ => ?_) (fun _ => ?_)) | (refine Gif_bt (fun _ => ?_) (fun _ => ?_)) | (refine Gif_bf (fun _ => ?_) (fun _ => ?_)) | (refine Wif_bool (fun _ => ?_) (fun _ => ?_)) | (exfalso; omega)))
theorem make_posts {n : Nat} (hn : n ≤ 8) : makeV Try.prog s 129 (.int .i64 (n : Int)) (.int .i64 (n : Int)) = some (.slice (some ⟨s.next, 0, none⟩) n n, s.alloc (.row (List.replicate n Po.zero.c).flatten)) := by
  simp only [makeV, Ty.elem129, Ty.siz34, Ty.zer34, Ty.byt34]
  rw [if_pos ⟨rfl, by omega, by omega, by omega, by omega, by omega⟩]
  rfl
theorem make_bools {n : Nat} (hn : n ≤ 8) : makeV Try.prog s 130 (.int .i64 (n : Int)) (.int .i64 (n : Int)) = some (.slice (some ⟨s.next, 0, none⟩) n n, s.alloc (.row (hasC (List.replicate n none)))) := by
  simp only [makeV, Ty.elem130, Ty.siz4, Ty.zer4, Ty.byt4]
  rw [if_pos ⟨rfl, by omega, by omega, by omega, by omega, by omega⟩]
  have : ∀ n, repL [Value.bool false] n = hasC (List.replicate n none) := fun n => by
    induction n with
    | zero => rfl
    | succ n ih => simp only [repL, hasC, List.replicate_succ, List.flatten_cons, List.map_cons] at *; rw [ih]; rfl
  rw [Int.toNat_natCast, this]
theorem rbnew_ok {n : Nat} (hn : 1 ≤ n ∧ n ≤ 8) (hbn : base ≤ s.next) (hR : ∀ s' r bP bH Lp, Mild s s' → RefB base s' r (List.replicate n none) bP bH Lp → s.next ≤ r → s.next ≤ bP → s.next ≤ bH → R (.tuple #[.pointer (some ⟨r, 0, none⟩), .int .i64 0]) s') : WC Try.prog base 35 [.int .i64 (n : Int)] s R := by
  refine WC_open Try.func35 rfl ?_
  (repeat' (first | (simp (disch := first | omega | ((simp only [Ab.next_alloc, Ab.next_upd, List.length_cons, List.length_nil, ne_eq, not_true_eq_false, not_false_eq_true]) <;> omega) | decide) only [↓stepPre, stepPost, ↓W_cond, ↓W_block, ↓reduceIte, Nat.reduceEqDiff, Nat.reduceLT, Nat.reduceLeDiff, ret0, stVar, isTup, Value.cells, Nat.le_refl, Nat.reduceAdd, Nat.reduceMul, Nat.reduceSub, env0, binV, intV, reduceCtorEq, pickV, nilCheckV, ptrV, unV, true_and, and_true, Nat.add_zero, Nat.zero_add, Rt, resultsV, allV, resV, Bool.not_true, Bool.not_false, calleeV, builtinV, eqV, fieldAddrV, ldVar, stN_own, stN_ownL, Int.fdiv_eq_ediv_of_nonneg, Int.reduceToNat, Int.reducePow, IntKind.bits, convV, ne_eq, not_false_eq_true, not_true_eq_false, Int.reduceNeg, Int.reduceAdd, Int.reduceSub, Int.reduceLT, Int.reduceLE, extractV, decide_true, decide_false, Int.reduceEq, mkFuncV, stBRefBoxes, beq_self_eq_true, tyB0RefBoxes, getL_take, glBRefBoxes, make_posts hn.2, make_bools hn.2, buildV, fillL, Try.results35, Dok_free, Dok_alloc, eq_self, Int.toNat_natCast, *]) | (refine Gif_dt (fun _ => ?_) (fun _ => ?_)) | (refine Gif_df (fun _ => ?_) (fun _ => ?_)) | (refine Wif_dec (fun _ => ?_) (fun _ => ?_)) | (refine Gif_bt (fun _ => ?_) (fun _ => ?_)) | (refine Gif_bf (fun _ => ?_) (fun _ => ?_)) | (refine Wif_bool (fun _ => ?_) (fun _ => ?_)) | (refine W_draw (fun _ => false) (fun _ => false) (fun _ => false) (by kernel_rfl) (by kernel_rfl) ?_) | (exfalso; omega)))
  refine hR _ (s.next + 1 + 1) s.next (s.next + 1) (List.replicate n Po.zero.c) ((Mild.alloc _ _).alloc'.alloc') ⟨by omega, by simp only [Ab.next_alloc]; omega, by omega, by simp; omega, fun po h => by simp at h, ?_, ?_, ?_, by simp, fun l hl => by rw [List.eq_of_mem_replicate hl]; rfl, fun i p h => ?_⟩ (by omega) (by omega) (by omega)
  · rw [Ab.heapAt_alloc _ _ (by simp only [Ab.next_alloc]; omega)]; simp
  · rw [Ab.heap_alloc_ne _ _ (by simp only [Ab.next_alloc]; omega), Ab.heap_alloc_ne _ _ (by simp only [Ab.next_alloc]; omega), Ab.heap_alloc_new]
  · rw [Ab.heap_alloc_ne _ _ (by simp only [Ab.next_alloc]; omega), Ab.heapAt_alloc _ _ (by simp only [Ab.next_alloc]; omega)]
  · rw [List.getD_eq_getElem?_getD, List.getElem?_replicate] at h
    split at h <;> cases h
theorem keyAt_some {L : Bx} {i : Nat} {p : Po} (h : L.getD i none = some p) : keyAt L i = p.key := by unfold keyAt; rw [h]; rfl
theorem keyAt_none {L : Bx} {i : Nat} (h : L.getD i none = none) : keyAt L i = 4294967296 := by unfold keyAt; rw [h]; rfl
theorem keyAt_le {L : Bx} {i : Nat} : keyAt L i ≤ 4294967296 := by
  cases h : L.getD i none with
  | none => rw [keyAt_none h]; exact Nat.le_refl _
  | some p => rw [keyAt_some h]; have := keyN_lt p.e p.n p.r; simp only [Po.key]; omega
theorem keyAt_lt {L : Bx} {i : Nat} (h : (L.getD i none).isSome = true) : keyAt L i < 4294967296 := by
  obtain ⟨p, hp⟩ := Option.isSome_iff_exists.1 h
  rw [keyAt_some hp]; exact keyN_lt p.e p.n p.r
theorem BestAt.more_none {L : Bx} {i : Nat} {a : Int} (h : BestAt L i a) (ho : L.getD i none = none) : BestAt L (i + 1) a := by
  rcases h with ⟨rfl, h⟩ | ⟨m, m1, rfl, m2, m3, m4⟩
  · refine .inl ⟨rfl, fun j hj => ?_⟩
    by_cases hji : j = i
    · rw [hji]; exact ho
    · exact h j (by omega)
  · refine .inr ⟨m, by omega, rfl, m2, fun j hj => ?_, m4⟩
    by_cases hji : j = i
    · rw [hji, keyAt_none ho]; exact keyAt_le
    · exact m3 j (by omega)
theorem BestAt.more_new {L : Bx} {i : Nat} {a : Int} (h : BestAt L i a) {p : Po} (ho : L.getD i none = some p) (hl : ∀ m : Nat, a = (m : Int) → keyAt L i < keyAt L m) : BestAt L (i + 1) (i : Int) := by
  have hs : (L.getD i none).isSome = true := by rw [ho]; rfl
  rcases h with ⟨rfl, h⟩ | ⟨m, m1, rfl, m2, m3, m4⟩
  · refine .inr ⟨i, by omega, rfl, hs, fun j hj => ?_, fun j hj => ?_⟩
    · by_cases hji : j = i
      · rw [hji]; exact Nat.le_refl _
      · rw [keyAt_none (h j (by omega))]; exact keyAt_le
    · rw [keyAt_none (h j (by omega))]; exact keyAt_lt hs
  · have := hl m rfl
    refine .inr ⟨i, by omega, rfl, hs, fun j hj => ?_, fun j hj => ?_⟩
    · by_cases hji : j = i
      · rw [hji]; exact Nat.le_refl _
      · have := m3 j (by omega); omega
    · have := m3 j (by omega); omega
theorem BestAt.more_old {L : Bx} {i : Nat} {m : Nat} (h : BestAt L i (m : Int)) (hl : ¬ keyAt L i < keyAt L m) : BestAt L (i + 1) (m : Int) := by
  rcases h with ⟨h, -⟩ | ⟨k, m1, hk, m2, m3, m4⟩
  · omega
  · have hkm : k = m := by omega
    subst hkm
    refine .inr ⟨k, by omega, rfl, m2, fun j hj => ?_, m4⟩
    by_cases hji : j = i
    · rw [hji]; omega
    · exact m3 j (by omega)
theorem rfind_p {r : Nat} {L : Bx} {bP bH : Nat} {Lp : List (List Value)} {t : Int} (h : RefB base s r L bP bH Lp) (hR : R (.int .i64 (findT L t)) s) : WC Try.prog base 63 [.pointer (some ⟨r, 0, none⟩), .int .i64 t] s R := by
  refine WC_open Try.func63 rfl ?_
  have k1 := h.k1
  have k2 := h.k2
  have k3 := h.k3
  have hlow := h.low
  have hroom := h.room
  have hall := h.all
  have hf := hR
  simp (disch := first | omega | ((simp only [Ab.next_alloc, Ab.next_upd, List.length_cons, List.length_nil, ne_eq, not_true_eq_false, not_false_eq_true]) <;> omega) | decide) only [↓stepPre, stepPost, ↓W_cond, ↓W_block, ↓reduceIte, Nat.reduceEqDiff, Nat.reduceLT, Nat.reduceLeDiff, ret0, stVar, isTup, Value.cells, Nat.le_refl, Nat.reduceAdd, Nat.reduceMul, Nat.reduceSub, env0, binV, intV, reduceCtorEq, pickV, nilCheckV, ptrV, unV, true_and, and_true, Nat.add_zero, Nat.zero_add, Rt, resultsV, allV, resV, Bool.not_true, Bool.not_false, calleeV, builtinV, eqV, fieldAddrV, ldVar, stN_own, stN_ownL, Int.fdiv_eq_ediv_of_nonneg, Int.reduceToNat, Int.reducePow, IntKind.bits, convV, ne_eq, not_false_eq_true, not_true_eq_false, Int.reduceNeg, Int.reduceAdd, Int.reduceSub, Int.reduceLT, Int.reduceLE, extractV, decide_true, decide_false, Int.reduceEq, mkFuncV, stBRefBoxes, beq_self_eq_true, tyB0RefBoxes]
  refine W_loop_ind L.length (fun i e s1 => s1 = s ∧ e 0 = .pointer (some ⟨r, 0, none⟩) ∧ e 1 = .int .i64 t ∧ e 5 = .int .i64 i ∧ ∀ j, j < i → tagAt L t j = false) ?_ ⟨rfl, rfl, rfl, rfl, fun j hj => by omega⟩
  rintro i e s1 hi ⟨rfl, h0, h1, h5, hq⟩
  by_cases hlt : i < L.length
  · have hc := hasC_at hlt
    cases ho : L.getD i none with
    | none =>
      rw [ho] at hc
      (repeat' (first | (simp (disch := first | omega | ((simp only [Ab.next_alloc, Ab.next_upd, List.length_cons, List.length_nil, ne_eq, not_true_eq_false, not_false_eq_true]) <;> omega) | decide) only [↓stepPre, stepPost, ↓W_cond, ↓W_block, ↓reduceIte, Nat.reduceEqDiff, Nat.reduceLT, Nat.reduceLeDiff, ret0, stVar, isTup, Value.cells, Nat.le_refl, Nat.reduceAdd, Nat.reduceMul, Nat.reduceSub, env0, binV, intV, reduceCtorEq, pickV, nilCheckV, ptrV, unV, true_and, and_true, Nat.add_zero, Nat.zero_add, Rt, resultsV, allV, resV, Bool.not_true, Bool.not_false, calleeV, builtinV, eqV, fieldAddrV, ldVar, stN_own, stN_ownL, Int.fdiv_eq_ediv_of_nonneg, Int.reduceToNat, Int.reducePow, IntKind.bits, convV, ne_eq, not_false_eq_true, not_true_eq_false, Int.reduceNeg, Int.reduceAdd, Int.reduceSub, Int.reduceLT, Int.reduceLE, extractV, decide_true, decide_false, Int.reduceEq, mkFuncV, stBRefBoxes, beq_self_eq_true, tyB0RefBoxes, getL_take, glBRefBoxes, lenB, Option.isNone_some, Option.isSome_none, idxSl Ty.elem130 Ty.siz4, Try.results63, Dok_free, Dok_alloc, eq_self, Int.toNat_natCast, *]) | (refine Gif_dt (fun _ => ?_) (fun _ => ?_)) | (refine Gif_df (fun _ => ?_) (fun _ => ?_)) | (refine Wif_dec (fun _ => ?_) (fun _ => ?_)) | (refine Gif_bt (fun _ => ?_) (fun _ => ?_)) | (refine Gif_bf (fun _ => ?_) (fun _ => ?_)) | (refine Wif_bool (fun _ => ?_) (fun _ => ?_)) | (exfalso; omega)))
      refine ⟨rfl, fun j hj => ?_⟩
      by_cases hji : j = i
      · rw [hji]; simp only [tagAt, ho, tagO]
      · exact hq j (by omega)
    | some po =>
      rw [ho] at hc
      have hLi := h.at_ i po ho
      have h13 : Lp.flatten[i * 14 + 13]? = some (.int .i64 po.t) := by rw [flat_at hall hLi (by omega)]; rfl
      have ht : tagAt L t i = decide (po.t = t) := by simp only [tagAt, ho, tagO]
      (repeat' (first | (simp (disch := first | omega | ((simp only [Ab.next_alloc, Ab.next_upd, List.length_cons, List.length_nil, ne_eq, not_true_eq_false, not_false_eq_true]) <;> omega) | decide) only [↓stepPre, stepPost, ↓W_cond, ↓W_block, ↓reduceIte, Nat.reduceEqDiff, Nat.reduceLT, Nat.reduceLeDiff, ret0, stVar, isTup, Value.cells, Nat.le_refl, Nat.reduceAdd, Nat.reduceMul, Nat.reduceSub, env0, binV, intV, reduceCtorEq, pickV, nilCheckV, ptrV, unV, true_and, and_true, Nat.add_zero, Nat.zero_add, Rt, resultsV, allV, resV, Bool.not_true, Bool.not_false, calleeV, builtinV, eqV, fieldAddrV, ldVar, stN_own, stN_ownL, Int.fdiv_eq_ediv_of_nonneg, Int.reduceToNat, Int.reducePow, IntKind.bits, convV, ne_eq, not_false_eq_true, not_true_eq_false, Int.reduceNeg, Int.reduceAdd, Int.reduceSub, Int.reduceLT, Int.reduceLE, extractV, decide_true, decide_false, Int.reduceEq, mkFuncV, stBRefBoxes, beq_self_eq_true, tyB0RefBoxes, getL_take, glBRefBoxes, lenB, Option.isNone_some, Option.isSome_some, idxSl Ty.elem130 Ty.siz4, idxSl Ty.elem129 Ty.siz34, Try.results63, Dok_free, Dok_alloc, eq_self, Int.toNat_natCast, *]) | (refine Gif_dt (fun _ => ?_) (fun _ => ?_)) | (refine Gif_df (fun _ => ?_) (fun _ => ?_)) | (refine Wif_dec (fun _ => ?_) (fun _ => ?_)) | (refine Gif_bt (fun _ => ?_) (fun _ => ?_)) | (refine Gif_bf (fun _ => ?_) (fun _ => ?_)) | (refine Wif_bool (fun _ => ?_) (fun _ => ?_)) | (exfalso; omega)))
      · rename_i hx
        rw [findT, fidx_some hlt (by rw [ht]; exact decide_eq_true hx) hq] at hf; exact hf
      · rename_i hx
        refine ⟨rfl, fun j hj => ?_⟩
        by_cases hji : j = i
        · rw [hji, ht]; exact decide_eq_false hx
        · exact hq j (by omega)
  · have hge : ¬ ((i : Int) < (L.length : Int)) := by omega
    rw [findT, fidx_none fun j hj => hq j (by omega)] at hf
    (repeat' (first | (simp (disch := first | omega | ((simp only [Ab.next_alloc, Ab.next_upd, List.length_cons, List.length_nil, ne_eq, not_true_eq_false, not_false_eq_true]) <;> omega) | decide) only [↓stepPre, stepPost, ↓W_cond, ↓W_block, ↓reduceIte, Nat.reduceEqDiff, Nat.reduceLT, Nat.reduceLeDiff, ret0, stVar, isTup, Value.cells, Nat.le_refl, Nat.reduceAdd, Nat.reduceMul, Nat.reduceSub, env0, binV, intV, reduceCtorEq, pickV, nilCheckV, ptrV, unV, true_and, and_true, Nat.add_zero, Nat.zero_add, Rt, resultsV, allV, resV, Bool.not_true, Bool.not_false, calleeV, builtinV, eqV, fieldAddrV, ldVar, stN_own, stN_ownL, Int.fdiv_eq_ediv_of_nonneg, Int.reduceToNat, Int.reducePow, IntKind.bits, convV, ne_eq, not_false_eq_true, not_true_eq_false, Int.reduceNeg, Int.reduceAdd, Int.reduceSub, Int.reduceLT, Int.reduceLE, extractV, decide_true, decide_false, Int.reduceEq, mkFuncV, stBRefBoxes, beq_self_eq_true, tyB0RefBoxes, getL_take, glBRefBoxes, lenB, Option.isNone_some, Try.results63, Dok_free, Dok_alloc, eq_self, Int.toNat_natCast, *]) | (refine Gif_dt (fun _ => ?_) (fun _ => ?_)) | (refine Gif_df (fun _ => ?_) (fun _ => ?_)) | (refine Wif_dec (fun _ => ?_) (fun _ => ?_)) | (refine Gif_bt (fun _ => ?_) (fun _ => ?_)) | (refine Gif_bf (fun _ => ?_) (fun _ => ?_)) | (refine Wif_bool (fun _ => ?_) (fun _ => ?_)) | (exfalso; omega)))
theorem rget_ok {r : Nat} {L : Bx} {bP bH : Nat} {Lp : List (List Value)} {i : Int} (h : RefB base s r L bP bH Lp) (hbn : base ≤ s.next) (hR : ∀ s', Mild s s' → R (.tuple #[poV (atO L i), .bool (atO L i).isSome]) s') : WC Try.prog base 70 [.pointer (some ⟨r, 0, none⟩), .int .i64 i] s R := by
  refine WC_open Try.func70 rfl ?_
  have hm := Mild.alloc s (.row Po.zero.c)
  have k1 := h.k1
  have k2 := h.k2
  have k3 := h.k3
  have hlow := h.low
  have hlt := h.lt
  have hroom := h.room
  by_cases hi : i < 0 ∨ L.length ≤ i
  · have key := hR _ hm
    rw [atO_big hi] at key
    have hif : (L.length : Int) ≤ i ↔ ¬ i < 0 := by omega
    (repeat' (first | (simp (disch := first | omega | ((simp only [Ab.next_alloc, Ab.next_upd, List.length_cons, List.length_nil, ne_eq, not_true_eq_false, not_false_eq_true]) <;> omega) | decide) only [↓stepPre, stepPost, ↓W_cond, ↓W_block, ↓reduceIte, Nat.reduceEqDiff, Nat.reduceLT, Nat.reduceLeDiff, ret0, stVar, isTup, Value.cells, Nat.le_refl, Nat.reduceAdd, Nat.reduceMul, Nat.reduceSub, env0, binV, intV, reduceCtorEq, pickV, nilCheckV, ptrV, unV, true_and, and_true, Nat.add_zero, Nat.zero_add, Rt, resultsV, allV, resV, Bool.not_true, Bool.not_false, calleeV, builtinV, eqV, fieldAddrV, ldVar, stN_own, stN_ownL, Int.fdiv_eq_ediv_of_nonneg, Int.reduceToNat, Int.reducePow, IntKind.bits, convV, ne_eq, not_false_eq_true, not_true_eq_false, Int.reduceNeg, Int.reduceAdd, Int.reduceSub, Int.reduceLT, Int.reduceLE, extractV, decide_true, decide_false, Int.reduceEq, mkFuncV, stBRefBoxes, beq_self_eq_true, tyB0RefBoxes, getL_take, glBRefBoxes, lenB, buildV, fillL, Option.isNone_some, Try.results70, Dok_free, Dok_alloc, eq_self, Int.toNat_natCast, *]) | (refine Gif_dt (fun _ => ?_) (fun _ => ?_)) | (refine Gif_df (fun _ => ?_) (fun _ => ?_)) | (refine Wif_dec (fun _ => ?_) (fun _ => ?_)) | (refine Gif_bt (fun _ => ?_) (fun _ => ?_)) | (refine Gif_bf (fun _ => ?_) (fun _ => ?_)) | (refine Wif_bool (fun _ => ?_) (fun _ => ?_)) | (exfalso; omega)))
    all_goals exact key
  obtain ⟨j, rfl⟩ : ∃ j : Nat, i = j := ⟨i.toNat, by omega⟩
  have hj : j < L.length := by omega
  have ha := atO_nat L j
  have hc := hasC_at hj
  cases ho : L.getD j none with
  | none =>
    rw [ho] at ha hc
    have key := hR _ hm
    rw [ha] at key
    (repeat' (first | (simp (disch := first | omega | ((simp only [Ab.next_alloc, Ab.next_upd, List.length_cons, List.length_nil, ne_eq, not_true_eq_false, not_false_eq_true]) <;> omega) | decide) only [↓stepPre, stepPost, ↓W_cond, ↓W_block, ↓reduceIte, Nat.reduceEqDiff, Nat.reduceLT, Nat.reduceLeDiff, ret0, stVar, isTup, Value.cells, Nat.le_refl, Nat.reduceAdd, Nat.reduceMul, Nat.reduceSub, env0, binV, intV, reduceCtorEq, pickV, nilCheckV, ptrV, unV, true_and, and_true, Nat.add_zero, Nat.zero_add, Rt, resultsV, allV, resV, Bool.not_true, Bool.not_false, calleeV, builtinV, eqV, fieldAddrV, ldVar, stN_own, stN_ownL, Int.fdiv_eq_ediv_of_nonneg, Int.reduceToNat, Int.reducePow, IntKind.bits, convV, ne_eq, not_false_eq_true, not_true_eq_false, Int.reduceNeg, Int.reduceAdd, Int.reduceSub, Int.reduceLT, Int.reduceLE, extractV, decide_true, decide_false, Int.reduceEq, mkFuncV, stBRefBoxes, beq_self_eq_true, tyB0RefBoxes, getL_take, glBRefBoxes, lenB, buildV, fillL, Option.isNone_some, Option.isSome_none, idxSl Ty.elem130 Ty.siz4, Try.results70, Dok_free, Dok_alloc, eq_self, Int.toNat_natCast, *]) | (refine Gif_dt (fun _ => ?_) (fun _ => ?_)) | (refine Gif_df (fun _ => ?_) (fun _ => ?_)) | (refine Wif_dec (fun _ => ?_) (fun _ => ?_)) | (refine Gif_bt (fun _ => ?_) (fun _ => ?_)) | (refine Gif_bf (fun _ => ?_) (fun _ => ?_)) | (refine Wif_bool (fun _ => ?_) (fun _ => ?_)) | (exfalso; omega)))
    exact key
  | some po =>
    rw [ho] at ha hc
    have hLi := h.at_ j po ho
    have hg : getL Lp.flatten (j * 14) 14 = some po.c := getL_flat0 h.all hLi (by omega)
    have key := hR _ (Mild.alloc s (.row po.c))
    rw [ha] at key
    (repeat' (first | (simp (disch := first | omega | ((simp only [Ab.next_alloc, Ab.next_upd, List.length_cons, List.length_nil, ne_eq, not_true_eq_false, not_false_eq_true]) <;> omega) | decide) only [↓stepPre, stepPost, ↓W_cond, ↓W_block, ↓reduceIte, Nat.reduceEqDiff, Nat.reduceLT, Nat.reduceLeDiff, ret0, stVar, isTup, Value.cells, Nat.le_refl, Nat.reduceAdd, Nat.reduceMul, Nat.reduceSub, env0, binV, intV, reduceCtorEq, pickV, nilCheckV, ptrV, unV, true_and, and_true, Nat.add_zero, Nat.zero_add, Rt, resultsV, allV, resV, Bool.not_true, Bool.not_false, calleeV, builtinV, eqV, fieldAddrV, ldVar, stN_own, stN_ownL, Int.fdiv_eq_ediv_of_nonneg, Int.reduceToNat, Int.reducePow, IntKind.bits, convV, ne_eq, not_false_eq_true, not_true_eq_false, Int.reduceNeg, Int.reduceAdd, Int.reduceSub, Int.reduceLT, Int.reduceLE, extractV, decide_true, decide_false, Int.reduceEq, mkFuncV, stBRefBoxes, beq_self_eq_true, tyB0RefBoxes, getL_take, glBRefBoxes, lenB, buildV, fillL, Option.isNone_some, Option.isSome_some, idxSl Ty.elem130 Ty.siz4, idxSl Ty.elem129 Ty.siz34, Try.results70, Dok_free, Dok_alloc, eq_self, Int.toNat_natCast, *]) | (refine Gif_dt (fun _ => ?_) (fun _ => ?_)) | (refine Gif_df (fun _ => ?_) (fun _ => ?_)) | (refine Wif_dec (fun _ => ?_) (fun _ => ?_)) | (refine Gif_bt (fun _ => ?_) (fun _ => ?_)) | (refine Gif_bf (fun _ => ?_) (fun _ => ?_)) | (refine Wif_bool (fun _ => ?_) (fun _ => ?_)) | (exfalso; omega)))
    exact key
/-- What there is when a place was written. -/
theorem RefB.put {r : Nat} {L : Bx} {bP bH : Nat} {Lp : List (List Value)} {i : Nat} {o : Option Po} {l : List Value} {s' : St} (h : RefB base s r L bP bH Lp) (hi : i < L.length) (hl : l.length = 14) (ho : ∀ p, o = some p → p.good ∧ l = p.c)
    (hc : Ch s s' (fun b => b = bP ∨ b = bH)) (e2 : s'.heap bP = .row (Lp.set i l).flatten) (e3 : s'.heap bH = .row ((hasC L).set i (.bool o.isSome))) : RefB base s' r (L.set i o) bP bH (Lp.set i l) := by
  have hn := hc.next
  have hlt := h.lt
  have hne := h.ne
  have hlen := h.len
  refine ⟨h.low, by omega, h.ne, by simpa using h.room, fun po hpo => ?_, ?_, e2, ?_, by simpa using h.len, fun x hx => ?_, fun j p hp => ?_⟩
  · rcases List.mem_or_eq_of_mem_set hpo with h' | h'
    · exact h.good _ h'
    · exact (ho po h'.symm).1
  · rw [hc.heap _ hlt.1 fun hy => by rcases hy with hy | hy <;> omega, h.k1]; simp
  · rw [e3]; simp [hasC, List.map_set]
  · rcases List.mem_or_eq_of_mem_set hx with h' | h'
    · exact h.all _ h'
    · rw [h']; exact hl
  · by_cases hji : j = i
    · subst hji
      rw [List.getD_eq_getElem?_getD, List.getElem?_set_self hi] at hp
      rw [List.getElem?_set_self (by omega), (ho p hp).2]
    · rw [List.getD_eq_getElem?_getD, List.getElem?_set_ne (Ne.symm hji), ← List.getD_eq_getElem?_getD] at hp
      rw [List.getElem?_set_ne (Ne.symm hji)]
      exact h.at_ j p hp
theorem hasPut {L : Bx} {i : Nat} {b : Bool} (hi : i < L.length) : putAt (.row (hasC L)) (i * 1) [.bool b] = some (.row ((hasC L).set i (.bool b))) := by
  simp only [putAt, AObj.cells?, AObj.withCells, Nat.mul_one, setL, List.length_cons, List.length_nil]
  rw [if_pos (by simp [hasC]; omega)]
theorem rtake_ok {r : Nat} {L : Bx} {bP bH : Nat} {Lp : List (List Value)} {i : Int} (h : RefB base s r L bP bH Lp) (hbn : base ≤ s.next) (hR : ∀ s' Lp', Ch s s' (fun b => b = bP ∨ b = bH) → RefB base s' r (takeL L i) bP bH Lp' → R (.tuple #[poV (atO L i), .int .i64 (takeE L i)]) s') : WC Try.prog base 82 [.pointer (some ⟨r, 0, none⟩), .int .i64 i] s R := by
  refine WC_open Try.func82 rfl ?_
  have hm := Mild.alloc s (.row Po.zero.c)
  have h1 := h.mild hm
  have k1 := h.k1
  have k2 := h.k2
  have k3 := h.k3
  have hlow := h.low
  have hlt := h.lt
  have hne := h.ne
  have hroom := h.room
  have hlen := h.len
  by_cases hi : i < 0 ∨ L.length ≤ i
  · have ha := atO_big hi
    have hE : takeE L i = 1 := by simp only [takeE, hi, if_true]
    have hL : takeL L i = L := by simp [takeL, ha]
    have key := hR _ _ (Ch.of_mild hm _) (by rw [hL]; exact h1)
    rw [ha, hE] at key
    have hif : (L.length : Int) ≤ i ↔ ¬ i < 0 := by omega
    (repeat' (first | (simp (disch := first | omega | ((simp only [Ab.next_alloc, Ab.next_upd, List.length_cons, List.length_nil, ne_eq, not_true_eq_false, not_false_eq_true]) <;> omega) | decide) only [↓stepPre, stepPost, ↓W_cond, ↓W_block, ↓reduceIte, Nat.reduceEqDiff, Nat.reduceLT, Nat.reduceLeDiff, ret0, stVar, isTup, Value.cells, Nat.le_refl, Nat.reduceAdd, Nat.reduceMul, Nat.reduceSub, env0, binV, intV, reduceCtorEq, pickV, nilCheckV, ptrV, unV, true_and, and_true, Nat.add_zero, Nat.zero_add, Rt, resultsV, allV, resV, Bool.not_true, Bool.not_false, calleeV, builtinV, eqV, fieldAddrV, ldVar, stN_own, stN_ownL, Int.fdiv_eq_ediv_of_nonneg, Int.reduceToNat, Int.reducePow, IntKind.bits, convV, ne_eq, not_false_eq_true, not_true_eq_false, Int.reduceNeg, Int.reduceAdd, Int.reduceSub, Int.reduceLT, Int.reduceLE, extractV, decide_true, decide_false, Int.reduceEq, mkFuncV, stBRefBoxes, beq_self_eq_true, tyB0RefBoxes, getL_take, glBRefBoxes, lenB, buildV, fillL, Option.isNone_some, Try.results82, Dok_free, Dok_alloc, eq_self, Int.toNat_natCast, *]) | (refine Gif_dt (fun _ => ?_) (fun _ => ?_)) | (refine Gif_df (fun _ => ?_) (fun _ => ?_)) | (refine Wif_dec (fun _ => ?_) (fun _ => ?_)) | (refine Gif_bt (fun _ => ?_) (fun _ => ?_)) | (refine Gif_bf (fun _ => ?_) (fun _ => ?_)) | (refine Wif_bool (fun _ => ?_) (fun _ => ?_)) | (exfalso; omega)))
    all_goals exact key
  obtain ⟨j, rfl⟩ : ∃ j : Nat, i = j := ⟨i.toNat, by omega⟩
  have hj : j < L.length := by omega
  have ha := atO_nat L j
  simp (disch := first | omega | ((simp only [Ab.next_alloc, Ab.next_upd, List.length_cons, List.length_nil, ne_eq, not_true_eq_false, not_false_eq_true]) <;> omega) | decide) only [↓stepPre, stepPost, ↓W_cond, ↓W_block, ↓reduceIte, Nat.reduceEqDiff, Nat.reduceLT, Nat.reduceLeDiff, ret0, stVar, isTup, Value.cells, Nat.le_refl, Nat.reduceAdd, Nat.reduceMul, Nat.reduceSub, env0, binV, intV, reduceCtorEq, pickV, nilCheckV, ptrV, unV, true_and, and_true, Nat.add_zero, Nat.zero_add, Rt, resultsV, allV, resV, Bool.not_true, Bool.not_false, calleeV, builtinV, eqV, fieldAddrV, ldVar, stN_own, stN_ownL, Int.fdiv_eq_ediv_of_nonneg, Int.reduceToNat, Int.reducePow, IntKind.bits, convV, ne_eq, not_false_eq_true, not_true_eq_false, Int.reduceNeg, Int.reduceAdd, Int.reduceSub, Int.reduceLT, Int.reduceLE, extractV, decide_true, decide_false, Int.reduceEq, mkFuncV, stBRefBoxes, beq_self_eq_true, tyB0RefBoxes, getL_take, glBRefBoxes, lenB, k1, Option.isNone_some]
  have n0 : ¬ ((j : Int) < 0) := by omega
  have n1 : ¬ ((L.length : Int) ≤ (j : Int)) := by omega
  simp (disch := first | omega | ((simp only [Ab.next_alloc, Ab.next_upd, List.length_cons, List.length_nil, ne_eq, not_true_eq_false, not_false_eq_true]) <;> omega) | decide) only [↓stepPre, stepPost, ↓W_cond, ↓W_block, ↓reduceIte, Nat.reduceEqDiff, Nat.reduceLT, Nat.reduceLeDiff, ret0, stVar, isTup, Value.cells, Nat.le_refl, Nat.reduceAdd, Nat.reduceMul, Nat.reduceSub, env0, binV, intV, reduceCtorEq, pickV, nilCheckV, ptrV, unV, true_and, and_true, Nat.add_zero, Nat.zero_add, Rt, resultsV, allV, resV, Bool.not_true, Bool.not_false, calleeV, builtinV, eqV, fieldAddrV, ldVar, stN_own, stN_ownL, Int.fdiv_eq_ediv_of_nonneg, Int.reduceToNat, Int.reducePow, IntKind.bits, convV, ne_eq, not_false_eq_true, not_true_eq_false, Int.reduceNeg, Int.reduceAdd, Int.reduceSub, Int.reduceLT, Int.reduceLE, extractV, decide_true, decide_false, Int.reduceEq, mkFuncV, stBRefBoxes, beq_self_eq_true, tyB0RefBoxes, getL_take, glBRefBoxes, lenB, k1, Option.isNone_some, n0, n1]
  refine rget_ok h1 (by simp only [Ab.next_alloc]; omega) fun s1 m1 => ?_
  have h2 := h1.mild m1
  have m01 := hm.trans m1
  have n1' := m1.next
  simp only [Ab.next_alloc] at n1'
  have kz : s1.heap s.next = .row Po.zero.c := (m1.heap _ (by simp only [Ab.next_alloc]; omega)).trans (Ab.heap_alloc_new _ _)
  have q1 := h2.k1
  have q2 := h2.k2
  have q3 := h2.k3
  cases ho : L.getD j none with
  | none =>
    rw [ho] at ha
    have hE : takeE L j = 7 := by simp only [takeE, hi, if_false, ha]; rfl
    have hL : takeL L j = L := by simp [takeL, ha]
    rw [ha]
    have hm2 : Mild s ((s1.alloc (.row Po.zero.c)).upd s.next (.row Po.zero.c)) := Mild.upd' m01.alloc' (by omega)
    have key := hR _ _ (Ch.of_mild hm2 _) (by rw [hL]; exact h.mild hm2)
    rw [ha, hE] at key
    simp only [poV, Option.getD_none] at key ⊢
    (repeat' (first | (simp (disch := first | omega | ((simp only [Ab.next_alloc, Ab.next_upd, List.length_cons, List.length_nil, ne_eq, not_true_eq_false, not_false_eq_true]) <;> omega) | decide) only [↓stepPre, stepPost, ↓W_cond, ↓W_block, ↓reduceIte, Nat.reduceEqDiff, Nat.reduceLT, Nat.reduceLeDiff, ret0, stVar, isTup, Value.cells, Nat.le_refl, Nat.reduceAdd, Nat.reduceMul, Nat.reduceSub, env0, binV, intV, reduceCtorEq, pickV, nilCheckV, ptrV, unV, true_and, and_true, Nat.add_zero, Nat.zero_add, Rt, resultsV, allV, resV, Bool.not_true, Bool.not_false, calleeV, builtinV, eqV, fieldAddrV, ldVar, stN_own, stN_ownL, Int.fdiv_eq_ediv_of_nonneg, Int.reduceToNat, Int.reducePow, IntKind.bits, convV, ne_eq, not_false_eq_true, not_true_eq_false, Int.reduceNeg, Int.reduceAdd, Int.reduceSub, Int.reduceLT, Int.reduceLE, extractV, decide_true, decide_false, Int.reduceEq, mkFuncV, stBRefBoxes, beq_self_eq_true, tyB0RefBoxes, getL_take, glBRefBoxes, lenB, buildV, fillL, Option.isNone_some, Option.isSome_none, Try.results82, Dok_free, Dok_alloc, eq_self, Int.toNat_natCast, *]) | (refine Gif_dt (fun _ => ?_) (fun _ => ?_)) | (refine Gif_df (fun _ => ?_) (fun _ => ?_)) | (refine Wif_dec (fun _ => ?_) (fun _ => ?_)) | (refine Gif_bt (fun _ => ?_) (fun _ => ?_)) | (refine Gif_bf (fun _ => ?_) (fun _ => ?_)) | (refine Wif_bool (fun _ => ?_) (fun _ => ?_)) | (exfalso; omega)))
    exact key
  | some po =>
    rw [ho] at ha
    have hE : takeE L j = 0 := by simp only [takeE, hi, if_false, ha]; rfl
    have hL : takeL L j = L.set j none := by simp [takeL, ha]
    rw [ha]
    simp only [poV, Option.getD_some]
    have hpz : putAt (.row Lp.flatten) (j * 14) [.bool false, .int .u32 0, .bool false, .int .i64 0, .int .u8 0, .int .u8 0, .int .u8 0, .int .u8 0, .int .u8 0, .int .u8 0, .int .u8 0, .int .u8 0, .bool false, .int .i64 0] = some (.row (Lp.set j Po.zero.c).flatten) := putAt_flat h.all (by omega) rfl
    have hR2 := hR
    simp only [ha, hE, hL] at hR2
    (repeat' (first | (simp (disch := first | omega | ((simp only [Ab.next_alloc, Ab.next_upd, List.length_cons, List.length_nil, ne_eq, not_true_eq_false, not_false_eq_true]) <;> omega) | decide) only [↓stepPre, stepPost, ↓W_cond, ↓W_block, ↓reduceIte, Nat.reduceEqDiff, Nat.reduceLT, Nat.reduceLeDiff, ret0, stVar, isTup, Value.cells, Nat.le_refl, Nat.reduceAdd, Nat.reduceMul, Nat.reduceSub, env0, binV, intV, reduceCtorEq, pickV, nilCheckV, ptrV, unV, true_and, and_true, Nat.add_zero, Nat.zero_add, Rt, resultsV, allV, resV, Bool.not_true, Bool.not_false, calleeV, builtinV, eqV, fieldAddrV, ldVar, stN_own, stN_ownL, Int.fdiv_eq_ediv_of_nonneg, Int.reduceToNat, Int.reducePow, IntKind.bits, convV, ne_eq, not_false_eq_true, not_true_eq_false, Int.reduceNeg, Int.reduceAdd, Int.reduceSub, Int.reduceLT, Int.reduceLE, extractV, decide_true, decide_false, Int.reduceEq, mkFuncV, stBRefBoxes, beq_self_eq_true, tyB0RefBoxes, getL_take, glBRefBoxes, lenB, buildV, fillL, Option.isNone_some, Option.isSome_some, hasPut hj, idxSl Ty.elem130 Ty.siz4, idxSl Ty.elem129 Ty.siz34, Try.results82, Dok_free, Dok_alloc, eq_self, Int.toNat_natCast, *]) | (refine Gif_dt (fun _ => ?_) (fun _ => ?_)) | (refine Gif_df (fun _ => ?_) (fun _ => ?_)) | (refine Wif_dec (fun _ => ?_) (fun _ => ?_)) | (refine Gif_bt (fun _ => ?_) (fun _ => ?_)) | (refine Gif_bf (fun _ => ?_) (fun _ => ?_)) | (refine Wif_bool (fun _ => ?_) (fun _ => ?_)) | (exfalso; omega)))
    have hch : Ch s ((((s1.alloc (.row po.c)).upd bH (.row ((hasC L).set j (.bool false)))).upd bP (.row (Lp.set j Po.zero.c).flatten)).upd s.next (.row po.c)) (fun b => b = bP ∨ b = bH) :=
      Ch.upd' (Ch.upd' (Ch.upd' (.of_mild m01.alloc' _) fun _ => .inr rfl) fun _ => .inl rfl) fun hlt => absurd hlt (Nat.lt_irrefl _)
    refine hR2 _ (Lp.set j Po.zero.c) hch (h.put hj rfl (fun p hp => by cases hp) hch ?_ ?_)
    · rw [Ab.heap_upd_ne _ _ (by omega), Ab.heap_upd_same]
    · rw [Ab.heap_upd_ne _ _ (by omega), Ab.heap_upd_ne _ _ (by omega), Ab.heap_upd_same]; rfl
theorem rput_ok {r : Nat} {L : Bx} {bP bH : Nat} {Lp : List (List Value)} {po : Po} (h : RefB base s r L bP bH Lp) (hn : po.n < 2 ^ 32) (hbn : base ≤ s.next) (hR : ∀ s' Lp', Ch s s' (fun b => b = bP ∨ b = bH) → RefB base s' r (putL L po) bP bH Lp' → R (.tuple #[.int .i64 (putI L po), .int .i64 (putE L po)]) s') : WC Try.prog base 62 [.pointer (some ⟨r, 0, none⟩), .agg po.c.toArray] s R := by
  refine WC_open Try.func62 rfl ?_
  have hm := Mild.alloc s (.row po.c)
  have h1 := h.mild hm
  have k1 := h.k1
  have k2 := h.k2
  have k3 := h.k3
  have hlow := h.low
  have hlt := h.lt
  have hne := h.ne
  have hroom := h.room
  have hlen := h.len
  simp (disch := first | omega | ((simp only [Ab.next_alloc, Ab.next_upd, List.length_cons, List.length_nil, ne_eq, not_true_eq_false, not_false_eq_true]) <;> omega) | decide) only [↓stepPre, stepPost, ↓W_cond, ↓W_block, ↓reduceIte, Nat.reduceEqDiff, Nat.reduceLT, Nat.reduceLeDiff, ret0, stVar, isTup, Value.cells, Nat.le_refl, Nat.reduceAdd, Nat.reduceMul, Nat.reduceSub, env0, binV, intV, reduceCtorEq, pickV, nilCheckV, ptrV, unV, true_and, and_true, Nat.add_zero, Nat.zero_add, Rt, resultsV, allV, resV, Bool.not_true, Bool.not_false, calleeV, builtinV, eqV, fieldAddrV, ldVar, stN_own, stN_ownL, Int.fdiv_eq_ediv_of_nonneg, Int.reduceToNat, Int.reducePow, IntKind.bits, convV, ne_eq, not_false_eq_true, not_true_eq_false, Int.reduceNeg, Int.reduceAdd, Int.reduceSub, Int.reduceLT, Int.reduceLE, extractV, decide_true, decide_false, Int.reduceEq, mkFuncV, stBRefBoxes, beq_self_eq_true, tyB0RefBoxes, getL_take, glBRefBoxes, Option.isNone_some]
  refine rframeRight_p (ds := po.ds) rfl ?_
  by_cases hr : po.right = 0
  rotate_left
  · have hr' : ¬ rightF po.e po.n po.r po.l po.ds = 0 := hr
    (repeat' (first | (simp (disch := first | omega | ((simp only [Ab.next_alloc, Ab.next_upd, List.length_cons, List.length_nil, ne_eq, not_true_eq_false, not_false_eq_true]) <;> omega) | decide) only [↓stepPre, stepPost, ↓W_cond, ↓W_block, ↓reduceIte, Nat.reduceEqDiff, Nat.reduceLT, Nat.reduceLeDiff, ret0, stVar, isTup, Value.cells, Nat.le_refl, Nat.reduceAdd, Nat.reduceMul, Nat.reduceSub, env0, binV, intV, reduceCtorEq, pickV, nilCheckV, ptrV, unV, true_and, and_true, Nat.add_zero, Nat.zero_add, Rt, resultsV, allV, resV, Bool.not_true, Bool.not_false, calleeV, builtinV, eqV, fieldAddrV, ldVar, stN_own, stN_ownL, Int.fdiv_eq_ediv_of_nonneg, Int.reduceToNat, Int.reducePow, IntKind.bits, convV, ne_eq, not_false_eq_true, not_true_eq_false, Int.reduceNeg, Int.reduceAdd, Int.reduceSub, Int.reduceLT, Int.reduceLE, extractV, decide_true, decide_false, Int.reduceEq, mkFuncV, stBRefBoxes, beq_self_eq_true, tyB0RefBoxes, getL_take, glBRefBoxes, Try.results62, Dok_free, Dok_alloc, eq_self, Int.toNat_natCast, *]) | (refine Gif_dt (fun _ => ?_) (fun _ => ?_)) | (refine Gif_df (fun _ => ?_) (fun _ => ?_)) | (refine Wif_dec (fun _ => ?_) (fun _ => ?_)) | (refine Gif_bt (fun _ => ?_) (fun _ => ?_)) | (refine Gif_bf (fun _ => ?_) (fun _ => ?_)) | (refine Wif_bool (fun _ => ?_) (fun _ => ?_)) | (exfalso; omega)))
    have := hR _ Lp (.of_mild hm _) (by simpa only [putL, hr, false_and, if_false] using h1)
    simp only [putI, putE, hr, false_and, if_false] at this
    exact this
  have hr' : rightF po.e po.n po.r po.l po.ds = 0 := hr
  simp (disch := first | omega | ((simp only [Ab.next_alloc, Ab.next_upd, List.length_cons, List.length_nil, ne_eq, not_true_eq_false, not_false_eq_true]) <;> omega) | decide) only [↓stepPre, stepPost, ↓W_cond, ↓W_block, ↓reduceIte, Nat.reduceEqDiff, Nat.reduceLT, Nat.reduceLeDiff, ret0, stVar, isTup, Value.cells, Nat.le_refl, Nat.reduceAdd, Nat.reduceMul, Nat.reduceSub, env0, binV, intV, reduceCtorEq, pickV, nilCheckV, ptrV, unV, true_and, and_true, Nat.add_zero, Nat.zero_add, Rt, resultsV, allV, resV, Bool.not_true, Bool.not_false, calleeV, builtinV, eqV, fieldAddrV, ldVar, stN_own, stN_ownL, Int.fdiv_eq_ediv_of_nonneg, Int.reduceToNat, Int.reducePow, IntKind.bits, convV, ne_eq, not_false_eq_true, not_true_eq_false, Int.reduceNeg, Int.reduceAdd, Int.reduceSub, Int.reduceLT, Int.reduceLE, extractV, decide_true, decide_false, Int.reduceEq, mkFuncV, stBRefBoxes, beq_self_eq_true, tyB0RefBoxes, getL_take, glBRefBoxes, hr']
  refine rfind_p h1 ?_
  by_cases hf : 0 ≤ findT L po.t
  · simp (disch := first | omega | ((simp only [Ab.next_alloc, Ab.next_upd, List.length_cons, List.length_nil, ne_eq, not_true_eq_false, not_false_eq_true]) <;> omega) | decide) only [↓stepPre, stepPost, ↓W_cond, ↓W_block, ↓reduceIte, Nat.reduceEqDiff, Nat.reduceLT, Nat.reduceLeDiff, ret0, stVar, isTup, Value.cells, Nat.le_refl, Nat.reduceAdd, Nat.reduceMul, Nat.reduceSub, env0, binV, intV, reduceCtorEq, pickV, nilCheckV, ptrV, unV, true_and, and_true, Nat.add_zero, Nat.zero_add, Rt, resultsV, allV, resV, Bool.not_true, Bool.not_false, calleeV, builtinV, eqV, fieldAddrV, ldVar, stN_own, stN_ownL, Int.fdiv_eq_ediv_of_nonneg, Int.reduceToNat, Int.reducePow, IntKind.bits, convV, ne_eq, not_false_eq_true, not_true_eq_false, Int.reduceNeg, Int.reduceAdd, Int.reduceSub, Int.reduceLT, Int.reduceLE, extractV, decide_true, decide_false, Int.reduceEq, mkFuncV, stBRefBoxes, beq_self_eq_true, tyB0RefBoxes, getL_take, glBRefBoxes, hf, Try.results62]
    have := hR _ Lp (.of_mild hm _) (by simpa only [putL, Int.not_lt.2 hf, and_false, false_and, if_false] using h1)
    simpa only [putI, putE, hr, hf, if_true, Int.not_lt.2 hf, and_false, if_false] using this
  have hf' : findT L po.t < 0 := by omega
  simp (disch := first | omega | ((simp only [Ab.next_alloc, Ab.next_upd, List.length_cons, List.length_nil, ne_eq, not_true_eq_false, not_false_eq_true]) <;> omega) | decide) only [↓stepPre, stepPost, ↓W_cond, ↓W_block, ↓reduceIte, Nat.reduceEqDiff, Nat.reduceLT, Nat.reduceLeDiff, ret0, stVar, isTup, Value.cells, Nat.le_refl, Nat.reduceAdd, Nat.reduceMul, Nat.reduceSub, env0, binV, intV, reduceCtorEq, pickV, nilCheckV, ptrV, unV, true_and, and_true, Nat.add_zero, Nat.zero_add, Rt, resultsV, allV, resV, Bool.not_true, Bool.not_false, calleeV, builtinV, eqV, fieldAddrV, ldVar, stN_own, stN_ownL, Int.fdiv_eq_ediv_of_nonneg, Int.reduceToNat, Int.reducePow, IntKind.bits, convV, ne_eq, not_false_eq_true, not_true_eq_false, Int.reduceNeg, Int.reduceAdd, Int.reduceSub, Int.reduceLT, Int.reduceLE, extractV, decide_true, decide_false, Int.reduceEq, mkFuncV, stBRefBoxes, beq_self_eq_true, tyB0RefBoxes, getL_take, glBRefBoxes, hf]
  refine W_loop_ind L.length (fun i e s1 => s1 = s.alloc (.row po.c) ∧ e 0 = .pointer (some ⟨r, 0, none⟩) ∧ e 3 = .pointer (some ⟨s.next, 0, none⟩) ∧ e 7 = .int .i64 i ∧ ∀ j, j < i → freeAt L j = false) ?_ ⟨rfl, rfl, rfl, rfl, fun j hj => by omega⟩
  rintro i e s1 hi ⟨rfl, h0, h3, h7, hq⟩
  by_cases hil : i < L.length
  · have hc := hasC_at hil
    cases ho : L.getD i none with
    | some po' =>
      rw [ho] at hc
      (repeat' (first | (simp (disch := first | omega | ((simp only [Ab.next_alloc, Ab.next_upd, List.length_cons, List.length_nil, ne_eq, not_true_eq_false, not_false_eq_true]) <;> omega) | decide) only [↓stepPre, stepPost, ↓W_cond, ↓W_block, ↓reduceIte, Nat.reduceEqDiff, Nat.reduceLT, Nat.reduceLeDiff, ret0, stVar, isTup, Value.cells, Nat.le_refl, Nat.reduceAdd, Nat.reduceMul, Nat.reduceSub, env0, binV, intV, reduceCtorEq, pickV, nilCheckV, ptrV, unV, true_and, and_true, Nat.add_zero, Nat.zero_add, Rt, resultsV, allV, resV, Bool.not_true, Bool.not_false, calleeV, builtinV, eqV, fieldAddrV, ldVar, stN_own, stN_ownL, Int.fdiv_eq_ediv_of_nonneg, Int.reduceToNat, Int.reducePow, IntKind.bits, convV, ne_eq, not_false_eq_true, not_true_eq_false, Int.reduceNeg, Int.reduceAdd, Int.reduceSub, Int.reduceLT, Int.reduceLE, extractV, decide_true, decide_false, Int.reduceEq, mkFuncV, stBRefBoxes, beq_self_eq_true, tyB0RefBoxes, getL_take, glBRefBoxes, lenB, Option.isNone_some, Option.isSome_some, idxSl Ty.elem130 Ty.siz4, Dok_free, Dok_alloc, eq_self, Int.toNat_natCast, *]) | (refine Gif_dt (fun _ => ?_) (fun _ => ?_)) | (refine Gif_df (fun _ => ?_) (fun _ => ?_)) | (refine Wif_dec (fun _ => ?_) (fun _ => ?_)) | (refine Gif_bt (fun _ => ?_) (fun _ => ?_)) | (refine Gif_bf (fun _ => ?_) (fun _ => ?_)) | (refine Wif_bool (fun _ => ?_) (fun _ => ?_)) | (exfalso; omega)))
      refine ⟨rfl, fun j hj => ?_⟩
      by_cases hji : j = i
      · rw [hji]; simp only [freeAt, ho, Option.isNone_some]
      · exact hq j (by omega)
    | none =>
      rw [ho] at hc
      have hfi : freeI L = i := fidx_some hil (by simp only [freeAt, ho, Option.isNone_none]) hq
      have hni : ¬ ((i : Int) < 0) := by omega
      have hpp : putAt (.row Lp.flatten) (i * 14) po.c = some (.row (Lp.set i po.c).flatten) := putAt_flat h.all (by omega) rfl
      simp only [Po.c] at hpp
      (repeat' (first | (simp (disch := first | omega | ((simp only [Ab.next_alloc, Ab.next_upd, List.length_cons, List.length_nil, ne_eq, not_true_eq_false, not_false_eq_true]) <;> omega) | decide) only [↓stepPre, stepPost, ↓W_cond, ↓W_block, ↓reduceIte, Nat.reduceEqDiff, Nat.reduceLT, Nat.reduceLeDiff, ret0, stVar, isTup, Value.cells, Nat.le_refl, Nat.reduceAdd, Nat.reduceMul, Nat.reduceSub, env0, binV, intV, reduceCtorEq, pickV, nilCheckV, ptrV, unV, true_and, and_true, Nat.add_zero, Nat.zero_add, Rt, resultsV, allV, resV, Bool.not_true, Bool.not_false, calleeV, builtinV, eqV, fieldAddrV, ldVar, stN_own, stN_ownL, Int.fdiv_eq_ediv_of_nonneg, Int.reduceToNat, Int.reducePow, IntKind.bits, convV, ne_eq, not_false_eq_true, not_true_eq_false, Int.reduceNeg, Int.reduceAdd, Int.reduceSub, Int.reduceLT, Int.reduceLE, extractV, decide_true, decide_false, Int.reduceEq, mkFuncV, stBRefBoxes, beq_self_eq_true, tyB0RefBoxes, getL_take, glBRefBoxes, lenB, Option.isNone_some, Option.isSome_none, hasPut hil, idxSl Ty.elem130 Ty.siz4, idxSl Ty.elem129 Ty.siz34, Try.results62, Dok_free, Dok_alloc, eq_self, Int.toNat_natCast, *]) | (refine Gif_dt (fun _ => ?_) (fun _ => ?_)) | (refine Gif_df (fun _ => ?_) (fun _ => ?_)) | (refine Wif_dec (fun _ => ?_) (fun _ => ?_)) | (refine Gif_bt (fun _ => ?_) (fun _ => ?_)) | (refine Gif_bf (fun _ => ?_) (fun _ => ?_)) | (refine Wif_bool (fun _ => ?_) (fun _ => ?_)) | (refine W_draw (fun k => k == 7) (fun _ => false) (fun _ => false) (by kernel_rfl) (by kernel_rfl) ?_) | (exfalso; omega)))
      have hch : Ch s (((s.alloc (.row po.c)).upd bP (.row (Lp.set i po.c).flatten)).upd bH (.row ((hasC L).set i (.bool true)))) (fun b => b = bP ∨ b = bH) :=
        Ch.upd' (Ch.upd' (.of_mild hm _) fun _ => .inl rfl) fun _ => .inr rfl
      have := hR _ (Lp.set i po.c) hch (by
        simp only [putL, hr, hf', hfi, true_and]
        rw [if_pos (by omega), Int.toNat_natCast]
        refine h.put hil rfl (fun p hp => by cases hp; exact ⟨⟨hn, hr⟩, rfl⟩) hch ?_ ?_
        · rw [Ab.heap_upd_ne _ _ (by omega), Ab.heap_upd_same]
        · rw [Ab.heap_upd_same]; rfl)
      simp only [putI, putE, hr, hf, hf', hfi, hni, and_self, if_true, if_false] at this
      exact this
  · have hge : ¬ ((i : Int) < (L.length : Int)) := by omega
    have hfi : freeI L = -1 := fidx_none fun j hj => hq j (by omega)
    have := hR _ Lp (.of_mild hm _) (by rw [putL, hfi, if_neg (by omega)]; exact h1)
    simp only [putI, putE, hr, hf, hf', hfi, and_self, if_true, if_false] at this
    rw [if_pos (by omega)] at this
    (repeat' (first | (simp (disch := first | omega | ((simp only [Ab.next_alloc, Ab.next_upd, List.length_cons, List.length_nil, ne_eq, not_true_eq_false, not_false_eq_true]) <;> omega) | decide) only [↓stepPre, stepPost, ↓W_cond, ↓W_block, ↓reduceIte, Nat.reduceEqDiff, Nat.reduceLT, Nat.reduceLeDiff, ret0, stVar, isTup, Value.cells, Nat.le_refl, Nat.reduceAdd, Nat.reduceMul, Nat.reduceSub, env0, binV, intV, reduceCtorEq, pickV, nilCheckV, ptrV, unV, true_and, and_true, Nat.add_zero, Nat.zero_add, Rt, resultsV, allV, resV, Bool.not_true, Bool.not_false, calleeV, builtinV, eqV, fieldAddrV, ldVar, stN_own, stN_ownL, Int.fdiv_eq_ediv_of_nonneg, Int.reduceToNat, Int.reducePow, IntKind.bits, convV, ne_eq, not_false_eq_true, not_true_eq_false, Int.reduceNeg, Int.reduceAdd, Int.reduceSub, Int.reduceLT, Int.reduceLE, extractV, decide_true, decide_false, Int.reduceEq, mkFuncV, stBRefBoxes, beq_self_eq_true, tyB0RefBoxes, getL_take, glBRefBoxes, lenB, Option.isNone_some, Try.results62, Dok_free, Dok_alloc, eq_self, Int.toNat_natCast, *]) | (refine Gif_dt (fun _ => ?_) (fun _ => ?_)) | (refine Gif_df (fun _ => ?_) (fun _ => ?_)) | (refine Wif_dec (fun _ => ?_) (fun _ => ?_)) | (refine Gif_bt (fun _ => ?_) (fun _ => ?_)) | (refine Gif_bf (fun _ => ?_) (fun _ => ?_)) | (refine Wif_bool (fun _ => ?_) (fun _ => ?_)) | (exfalso; omega)))
theorem rbest_p {r : Nat} {L : Bx} {bP bH : Nat} {Lp : List (List Value)} (h : RefB base s r L bP bH Lp) (hR : ∀ a, BestAt L L.length a → R (.int .i64 a) s) : WC Try.prog base 68 [.pointer (some ⟨r, 0, none⟩)] s R := by
  refine WC_open Try.func68 rfl ?_
  have k1 := h.k1
  have k2 := h.k2
  have k3 := h.k3
  have hlow := h.low
  have hroom := h.room
  have hall := h.all
  have hg := good_at h.good
  simp (disch := first | omega | ((simp only [Ab.next_alloc, Ab.next_upd, List.length_cons, List.length_nil, ne_eq, not_true_eq_false, not_false_eq_true]) <;> omega) | decide) only [↓stepPre, stepPost, ↓W_cond, ↓W_block, ↓reduceIte, Nat.reduceEqDiff, Nat.reduceLT, Nat.reduceLeDiff, ret0, stVar, isTup, Value.cells, Nat.le_refl, Nat.reduceAdd, Nat.reduceMul, Nat.reduceSub, env0, binV, intV, reduceCtorEq, pickV, nilCheckV, ptrV, unV, true_and, and_true, Nat.add_zero, Nat.zero_add, Rt, resultsV, allV, resV, Bool.not_true, Bool.not_false, calleeV, builtinV, eqV, fieldAddrV, ldVar, stN_own, stN_ownL, Int.fdiv_eq_ediv_of_nonneg, Int.reduceToNat, Int.reducePow, IntKind.bits, convV, ne_eq, not_false_eq_true, not_true_eq_false, Int.reduceNeg, Int.reduceAdd, Int.reduceSub, Int.reduceLT, Int.reduceLE, extractV, decide_true, decide_false, Int.reduceEq, mkFuncV, stBRefBoxes, beq_self_eq_true, tyB0RefBoxes]
  refine W_loop_ind L.length (fun i e s1 => s1 = s ∧ e 0 = .pointer (some ⟨r, 0, none⟩) ∧ e 4 = .int .i64 i ∧ ∃ a, e 3 = .int .i64 a ∧ BestAt L i a) ?_ ⟨rfl, rfl, rfl, -1, rfl, .inl ⟨rfl, fun j hj => by omega⟩⟩
  rintro i e s1 hi ⟨rfl, h0, h4, a, h3, hb⟩
  by_cases hil : i < L.length
  · have hc := hasC_at hil
    cases ho : L.getD i none with
    | none =>
      rw [ho] at hc
      (repeat' (first | (simp (disch := first | omega | ((simp only [Ab.next_alloc, Ab.next_upd, List.length_cons, List.length_nil, ne_eq, not_true_eq_false, not_false_eq_true]) <;> omega) | decide) only [↓stepPre, stepPost, ↓W_cond, ↓W_block, ↓reduceIte, Nat.reduceEqDiff, Nat.reduceLT, Nat.reduceLeDiff, ret0, stVar, isTup, Value.cells, Nat.le_refl, Nat.reduceAdd, Nat.reduceMul, Nat.reduceSub, env0, binV, intV, reduceCtorEq, pickV, nilCheckV, ptrV, unV, true_and, and_true, Nat.add_zero, Nat.zero_add, Rt, resultsV, allV, resV, Bool.not_true, Bool.not_false, calleeV, builtinV, eqV, fieldAddrV, ldVar, stN_own, stN_ownL, Int.fdiv_eq_ediv_of_nonneg, Int.reduceToNat, Int.reducePow, IntKind.bits, convV, ne_eq, not_false_eq_true, not_true_eq_false, Int.reduceNeg, Int.reduceAdd, Int.reduceSub, Int.reduceLT, Int.reduceLE, extractV, decide_true, decide_false, Int.reduceEq, mkFuncV, stBRefBoxes, beq_self_eq_true, tyB0RefBoxes, getL_take, glBRefBoxes, lenB, Option.isNone_some, Option.isSome_none, idxSl Ty.elem130 Ty.siz4, Dok_free, Dok_alloc, eq_self, Int.toNat_natCast, *]) | (refine Gif_dt (fun _ => ?_) (fun _ => ?_)) | (refine Gif_df (fun _ => ?_) (fun _ => ?_)) | (refine Wif_dec (fun _ => ?_) (fun _ => ?_)) | (refine Gif_bt (fun _ => ?_) (fun _ => ?_)) | (refine Gif_bf (fun _ => ?_) (fun _ => ?_)) | (refine Wif_bool (fun _ => ?_) (fun _ => ?_)) | (refine W_draw (fun _ => false) (fun _ => false) (fun _ => false) (by kernel_rfl) (by kernel_rfl) ?_) | (exfalso; omega)))
      refine ⟨rfl, a, rfl, hb.more_none ho⟩
    | some po =>
      rw [ho] at hc
      have hLi := h.at_ i po ho
      have hgp := hg i po ho
      have e2 : getL Lp.flatten (i * 14) 2 = some [.bool po.e, .int .u32 (po.n : Int)] := by rw [getL_flat0 hall hLi (by omega)]; rfl
      have e3 : Lp.flatten[i * 14 + 2]? = some (.bool po.r) := by rw [flat_at hall hLi (by omega)]; rfl
      rcases hb with ⟨rfl, hb⟩ | ⟨m, m1, rfl, m2, m3, m4⟩
      · (repeat' (first | (simp (disch := first | omega | ((simp only [Ab.next_alloc, Ab.next_upd, List.length_cons, List.length_nil, ne_eq, not_true_eq_false, not_false_eq_true]) <;> omega) | decide) only [↓stepPre, stepPost, ↓W_cond, ↓W_block, ↓reduceIte, Nat.reduceEqDiff, Nat.reduceLT, Nat.reduceLeDiff, ret0, stVar, isTup, Value.cells, Nat.le_refl, Nat.reduceAdd, Nat.reduceMul, Nat.reduceSub, env0, binV, intV, reduceCtorEq, pickV, nilCheckV, ptrV, unV, true_and, and_true, Nat.add_zero, Nat.zero_add, Rt, resultsV, allV, resV, Bool.not_true, Bool.not_false, calleeV, builtinV, eqV, fieldAddrV, ldVar, stN_own, stN_ownL, Int.fdiv_eq_ediv_of_nonneg, Int.reduceToNat, Int.reducePow, IntKind.bits, convV, ne_eq, not_false_eq_true, not_true_eq_false, Int.reduceNeg, Int.reduceAdd, Int.reduceSub, Int.reduceLT, Int.reduceLE, extractV, decide_true, decide_false, Int.reduceEq, mkFuncV, stBRefBoxes, beq_self_eq_true, tyB0RefBoxes, getL_take, glBRefBoxes, lenB, Option.isNone_some, Option.isSome_some, idxSl Ty.elem130 Ty.siz4, idxSl Ty.elem129 Ty.siz34, Dok_free, Dok_alloc, eq_self, Int.toNat_natCast, *]) | (refine Gif_dt (fun _ => ?_) (fun _ => ?_)) | (refine Gif_df (fun _ => ?_) (fun _ => ?_)) | (refine Wif_dec (fun _ => ?_) (fun _ => ?_)) | (refine Gif_bt (fun _ => ?_) (fun _ => ?_)) | (refine Gif_bf (fun _ => ?_) (fun _ => ?_)) | (refine Wif_bool (fun _ => ?_) (fun _ => ?_)) | (refine W_draw (fun _ => false) (fun _ => false) (fun _ => false) (by kernel_rfl) (by kernel_rfl) ?_) | (exfalso; omega)))
        exact ⟨rfl, _, rfl, BestAt.more_new (.inl ⟨rfl, hb⟩) ho fun m h => by omega⟩
      · obtain ⟨pm, hm⟩ := Option.isSome_iff_exists.1 m2
        have hLm := h.at_ m pm hm
        have hgm := hg m pm hm
        have f2 : getL Lp.flatten (m * 14) 2 = some [.bool pm.e, .int .u32 (pm.n : Int)] := by rw [getL_flat0 hall hLm (by omega)]; rfl
        have f3 : Lp.flatten[m * 14 + 2]? = some (.bool pm.r) := by rw [flat_at hall hLm (by omega)]; rfl
        (repeat' (first | (simp (disch := first | omega | ((simp only [Ab.next_alloc, Ab.next_upd, List.length_cons, List.length_nil, ne_eq, not_true_eq_false, not_false_eq_true]) <;> omega) | decide) only [↓stepPre, stepPost, ↓W_cond, ↓W_block, ↓reduceIte, Nat.reduceEqDiff, Nat.reduceLT, Nat.reduceLeDiff, ret0, stVar, isTup, Value.cells, Nat.le_refl, Nat.reduceAdd, Nat.reduceMul, Nat.reduceSub, env0, binV, intV, reduceCtorEq, pickV, nilCheckV, ptrV, unV, true_and, and_true, Nat.add_zero, Nat.zero_add, Rt, resultsV, allV, resV, Bool.not_true, Bool.not_false, calleeV, builtinV, eqV, fieldAddrV, ldVar, stN_own, stN_ownL, Int.fdiv_eq_ediv_of_nonneg, Int.reduceToNat, Int.reducePow, IntKind.bits, convV, ne_eq, not_false_eq_true, not_true_eq_false, Int.reduceNeg, Int.reduceAdd, Int.reduceSub, Int.reduceLT, Int.reduceLE, extractV, decide_true, decide_false, Int.reduceEq, mkFuncV, stBRefBoxes, beq_self_eq_true, tyB0RefBoxes, getL_take, glBRefBoxes, lenB, Option.isNone_some, Option.isSome_some, idxSl Ty.elem130 Ty.siz4, idxSl Ty.elem129 Ty.siz34, Dok_free, Dok_alloc, eq_self, Int.toNat_natCast, *]) | (refine Gif_dt (fun _ => ?_) (fun _ => ?_)) | (refine Gif_df (fun _ => ?_) (fun _ => ?_)) | (refine Wif_dec (fun _ => ?_) (fun _ => ?_)) | (refine Gif_bt (fun _ => ?_) (fun _ => ?_)) | (refine Gif_bf (fun _ => ?_) (fun _ => ?_)) | (refine Wif_bool (fun _ => ?_) (fun _ => ?_)) | (refine W_draw (fun _ => false) (fun _ => false) (fun _ => false) (by kernel_rfl) (by kernel_rfl) ?_) | (refine key5_p hgp.1 hgp.id ?_) | (refine key5_p hgm.1 hgm.id ?_) | (exfalso; omega)))
        · rename_i _ hx
          refine ⟨rfl, _, rfl, BestAt.more_new (.inr ⟨m, m1, rfl, m2, m3, m4⟩) ho fun m' h => ?_⟩
          obtain rfl : m' = m := by omega
          rw [keyAt_some ho, keyAt_some hm]; simp only [Po.key]; omega
        · rename_i _ hx
          refine ⟨rfl, _, rfl, BestAt.more_old (.inr ⟨m, m1, rfl, m2, m3, m4⟩) ?_⟩
          rw [keyAt_some ho, keyAt_some hm]; simp only [Po.key]; omega
  · have hge : ¬ ((i : Int) < (L.length : Int)) := by omega
    have hiL : i = L.length := by omega
    subst hiL
    have := hR a hb
    (repeat' (first | (simp (disch := first | omega | ((simp only [Ab.next_alloc, Ab.next_upd, List.length_cons, List.length_nil, ne_eq, not_true_eq_false, not_false_eq_true]) <;> omega) | decide) only [↓stepPre, stepPost, ↓W_cond, ↓W_block, ↓reduceIte, Nat.reduceEqDiff, Nat.reduceLT, Nat.reduceLeDiff, ret0, stVar, isTup, Value.cells, Nat.le_refl, Nat.reduceAdd, Nat.reduceMul, Nat.reduceSub, env0, binV, intV, reduceCtorEq, pickV, nilCheckV, ptrV, unV, true_and, and_true, Nat.add_zero, Nat.zero_add, Rt, resultsV, allV, resV, Bool.not_true, Bool.not_false, calleeV, builtinV, eqV, fieldAddrV, ldVar, stN_own, stN_ownL, Int.fdiv_eq_ediv_of_nonneg, Int.reduceToNat, Int.reducePow, IntKind.bits, convV, ne_eq, not_false_eq_true, not_true_eq_false, Int.reduceNeg, Int.reduceAdd, Int.reduceSub, Int.reduceLT, Int.reduceLE, extractV, decide_true, decide_false, Int.reduceEq, mkFuncV, stBRefBoxes, beq_self_eq_true, tyB0RefBoxes, getL_take, glBRefBoxes, lenB, Option.isNone_some, Try.results68, Dok_free, Dok_alloc, eq_self, Int.toNat_natCast, *]) | (refine Gif_dt (fun _ => ?_) (fun _ => ?_)) | (refine Gif_df (fun _ => ?_) (fun _ => ?_)) | (refine Wif_dec (fun _ => ?_) (fun _ => ?_)) | (refine Gif_bt (fun _ => ?_) (fun _ => ?_)) | (refine Gif_bf (fun _ => ?_) (fun _ => ?_)) | (refine Wif_bool (fun _ => ?_) (fun _ => ?_)) | (exfalso; omega)))
end Go.Proofs.Ytghigcdpinogaaa
