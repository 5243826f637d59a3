/- strings.Split at blanks (the package script): as a contract. -/
import Derived.Test.YthjpfllmecpliaaDoorTypes
import Derived.Test.YthjpfllmecpliaaDoorRow0
import Derived.Test.YthjpfllmecpliaaDoorAbC
import Derived.Test.YthjpfllmecpliaaDoorPure
import Derived.Test.YthjpfllmecpliaaDoorBoxes
import Derived.Test.YthjpfllmecpliaaDoorScrNum
import Derived.Test.YthjpfllmecpliaaDoorScrJoin
import Derived.Lib.IndexBytes
set_option linter.all false
set_option maxRecDepth 20000
namespace Go.Proofs.YthjpfllmecpliaaDoor
open Go Go.Ab
def nxBScrSplit := And.intro @Ab.next_alloc (And.intro @Ab.next_upd (And.intro @List.length_cons.{0} (And.intro @List.length_nil.{0} (And.intro @ne_eq.{1} (And.intro not_true_eq_false not_false_eq_true)))))
def tyB0ScrSplit := And.intro @Ty.t9 (And.intro @Tryd.underlying9 (And.intro @Ty.t52 (And.intro @Tryd.underlying52 (And.intro @Ty.t5 (And.intro @Tryd.underlying5 (And.intro @Ty.t2 (And.intro @Tryd.underlying2 (And.intro @Ty.t3 (And.intro @Tryd.underlying3 (And.intro @Ty.t4 @Tryd.underlying4))))))))))
def stBScrSplit := And.intro @List.size_toArray.{0} (And.intro @List.length_cons.{0} (And.intro @List.length_nil.{0} (And.intro @List.set_cons_zero.{0} (And.intro @List.set_cons_succ.{0} (And.intro @List.getD_cons_zero.{0} (And.intro @List.getD_cons_succ.{0} (And.intro @List.getElem?_cons_succ.{0} (And.intro @List.getElem?_cons_zero.{0} (And.intro @List.map_cons.{0,0} (And.intro @List.map_nil.{0,0} (And.intro @Option.isNone_none.{0} (And.intro @Option.isNone_some.{0} (And.intro @Option.map_some.{0,0} (And.intro @Option.map_none.{0,0} (And.intro @List.cons_append.{0} (And.intro @List.nil_append.{0} (And.intro @List.append_nil.{0} (And.intro @Array.toList_append.{0} (And.intro @List.toList_toArray.{0} (And.intro @Int.cast_ofNat_Int (And.intro @Option.isSome_some.{0} (And.intro @List.getElem?_toArray.{0} (And.intro @List.map_toArray.{0,0} (@Nat.min_eq_left))))))))))))))))))))))))
def glBScrSplit := And.intro @List.drop_zero.{0} (And.intro @List.drop_succ_cons.{0} (And.intro @List.take_succ_cons.{0} (And.intro @List.take_zero.{0} (@List.take_nil.{0}))))
variable {base : Nat} [Bok base] {s : St} {R : Value → St → Prop}
/-- What lies between the bytes c. -/
def partW (c : UInt8) : List UInt8 → List (List UInt8)
  | [] => [[]]
  | d :: l => if d = c then [] :: partW c l else match partW c l with | w :: ws => (d :: w) :: ws | [] => [[d]]
theorem partW_ne (c : UInt8) (l : List UInt8) : partW c l ≠ [] := by
  cases l with
  | nil => simp [partW]
  | cons d l => unfold partW; split
                · simp
                · split <;> simp
theorem cut_at (c : UInt8) : ∀ r : List UInt8, 0 < r.count c → ∃ m : Nat, Lib.indexByte r c = (m : Int) ∧ m < r.length ∧ partW c r = r.take m :: partW c (r.drop (m + 1)) ∧ (r.drop (m + 1)).count c + 1 = r.count c ∧ (r.take m).count c = 0 ∧ r = r.take m ++ c :: r.drop (m + 1) := by
  intro r
  induction r with
  | nil => simp
  | cons d r ih =>
    intro h
    by_cases hd : d = c
    · subst hd
      exact ⟨0, by simp [Lib.indexByte], by simp, by simp [partW], by simp, by simp, by simp⟩
    · have hc : List.count c (d :: r) = r.count c := List.count_cons_of_ne (by simpa using hd)
      rw [hc] at h
      obtain ⟨m, h1, h2, h3, h4, h5, h6⟩ := ih h
      refine ⟨m + 1, ?_, by simp only [List.length_cons]; omega, ?_, by rw [hc]; simpa using h4, ?_, ?_⟩
      · unfold Lib.indexByte
        rw [if_neg (by simpa using hd), if_neg (by rw [h1]; simp), h1]; rfl
      · rw [partW, if_neg hd, h3]; simp
      · rw [List.take_succ_cons, List.count_cons_of_ne (by simpa using hd)]; exact h5
      · rw [List.take_succ_cons, List.drop_succ_cons, List.cons_append, ← h6]
theorem partW_none {c : UInt8} : ∀ {r : List UInt8}, r.count c = 0 → partW c r = [r] := by
  intro r
  induction r with
  | nil => simp [partW]
  | cons d r ih =>
    intro h
    by_cases hd : d = c
    · subst hd; simp at h
    · rw [List.count_cons_of_ne (by simpa using hd)] at h
      rw [partW, if_neg hd, ih h]
theorem body_count : ∃ fn c, Tryd.prog.funcs[91]? = some fn ∧ fn.body = some c ∧ fn.name ≠ "runtime.NumGoroutine" := by
  refine ⟨_, _, Tryd.func91, rfl, ?_⟩
  decide
theorem count_p {l : List UInt8} {c : UInt8} (hR : R (.int .i64 (l.count c : Nat)) s) : WC Tryd.prog base 91 [.string (strB l), .string (strB [c])] s R := by
  refine ⟨_, _, given_ev body_count rfl rfl (fun w hw => ?_), hR⟩
  have := Tryd.strings_Count_one (strB l) c w
  intro cs
  obtain ⟨e, w', fr, ⟨h1, h2⟩, rest⟩ := this cs
  exact ⟨e, w', fr, ⟨h1, 0, h2⟩, rest⟩
theorem body_index1 : ∃ fn c, Tryd.prog.funcs[92]? = some fn ∧ fn.body = some c ∧ fn.name ≠ "runtime.NumGoroutine" := by
  refine ⟨_, _, Tryd.func92, rfl, ?_⟩
  decide
theorem index1_p {l : List UInt8} {c : UInt8} (hR : R (.int .i64 (Lib.indexByte l c)) s) : WC Tryd.prog base 92 [.string (strB l), .string (strB [c])] s R := by
  refine ⟨_, _, given_ev body_index1 rfl rfl (fun w hw => ?_), hR⟩
  have := Tryd.strings_Index_one (strB l) c w
  intro cs
  obtain ⟨e, w', fr, ⟨h1, h2⟩, rest⟩ := this cs
  exact ⟨e, w', fr, ⟨h1, 0, h2⟩, rest⟩
theorem make_strs {n : Nat} (hn : n ≤ 1000001) : makeV Tryd.prog s 52 (.int .i64 (n : Int)) (.int .i64 (n : Int)) = some (.slice (some ⟨s.next, 0, none⟩) n n, s.alloc (.row (strL (List.replicate n [])).flatten)) := by
  simp only [makeV, Ty.elem52, Ty.siz9, Ty.zer9, Ty.byt9]
  rw [if_pos ⟨rfl, by omega, by omega, Int.le_refl _, by omega, by omega⟩]
  simp only [Int.toNat_natCast, repL, strL, List.map_replicate]
  rfl
theorem strL_one (xs : List (List UInt8)) : ∀ l ∈ strL xs, l.length = 1 := fun l hl => by obtain ⟨n, -, rfl⟩ := List.mem_map.1 hl; rfl
theorem gensplit_ok {l : List UInt8} (hl : l.length ≤ 1000000) (hbn : base ≤ s.next) (hR : ∀ s' v, Mild s s' → (∀ b, inB v b → s.next ≤ b) → Sl base s' 1 v (strL (partW 32 l)) → R v s') :
    WC Tryd.prog base 89 [.string (strB l), .string (strB [32]), .int .i64 0, .int .i64 (-1)] s R := by
  refine WC_open Tryd.func89 rfl ?_
  have hlen : ∀ (l : List UInt8) ts, lenB Tryd.prog (9 :: ts) [.string (strB l)] = some (.int .i64 (l.length : Int)) := fun l ts => lenStr Ty.str9 Ty.arr9
  have hcl : l.count 32 ≤ l.length := List.count_le_length
  simp (disch := first | omega | ((simp only [nxBScrSplit]) <;> omega) | decide) only [↓stepPre, stepPost, ↓W_cond, ↓W_block, ↓reduceIte, Nat.reduceEqDiff, Nat.reduceLT, Nat.reduceLeDiff, ret0, stVar, isTup, Value.cells, Nat.le_refl, Nat.reduceAdd, Nat.reduceMul, Nat.reduceSub, env0, binV, intV, reduceCtorEq, pickV, nilCheckV, ptrV, unV, true_and, and_true, Nat.add_zero, Nat.zero_add, Rt, resultsV, allV, resV, Bool.not_true, Bool.not_false, calleeV, builtinV, eqV, fieldAddrV, ldVar, stN_own, stN_ownL, Int.fdiv_eq_ediv_of_nonneg, Int.reduceToNat, Int.reducePow, IntKind.bits, convV, ne_eq, not_false_eq_true, not_true_eq_false, Int.reduceNeg, Int.reduceAdd, Int.reduceSub, Int.reduceLT, Int.reduceLE, extractV, decide_true, decide_false, Int.reduceEq, mkFuncV, stBScrSplit, beq_self_eq_true, tyB0ScrSplit, getL_take, glBScrSplit, eqlStr, eqlStrV, List.cons_ne_nil]
  refine count_p ?_
  generalize hc : l.count 32 = c at hcl
  have hmin : minB [.int .i64 ((c : Int) + 1), .int .i64 ((l.length : Int) + 1)] = some (.int .i64 ((c + 1 : Nat) : Int)) := by
    simp only [minB, foldV, minV]
    rw [if_neg (by omega)]; simp
  have hmk := make_strs (s := s) (n := c + 1) (by omega)
  simp (disch := first | omega | ((simp only [nxBScrSplit]) <;> omega) | decide) only [↓stepPre, stepPost, ↓W_cond, ↓W_block, ↓reduceIte, Nat.reduceEqDiff, Nat.reduceLT, Nat.reduceLeDiff, ret0, stVar, isTup, Value.cells, Nat.le_refl, Nat.reduceAdd, Nat.reduceMul, Nat.reduceSub, env0, binV, intV, reduceCtorEq, pickV, nilCheckV, ptrV, unV, true_and, and_true, Nat.add_zero, Nat.zero_add, Rt, resultsV, allV, resV, Bool.not_true, Bool.not_false, calleeV, builtinV, eqV, fieldAddrV, ldVar, stN_own, stN_ownL, Int.fdiv_eq_ediv_of_nonneg, Int.reduceToNat, Int.reducePow, IntKind.bits, convV, ne_eq, not_false_eq_true, not_true_eq_false, Int.reduceNeg, Int.reduceAdd, Int.reduceSub, Int.reduceLT, Int.reduceLE, extractV, decide_true, decide_false, Int.reduceEq, mkFuncV, stBScrSplit, beq_self_eq_true, tyB0ScrSplit, getL_take, glBScrSplit, hlen, hmin, hmk]
  refine W_loop_inv c (fun i e1 t => ∃ ws r, Mild s t ∧ s.next < t.next ∧ t.heap s.next = .row (strL (ws ++ List.replicate (c + 1 - i) [])).flatten ∧ ws.length = i ∧ partW 32 l = ws ++ partW 32 r ∧ r.count 32 = c - i ∧ r.length ≤ l.length ∧ e1 0 = .string (strB r) ∧ e1 1 = .string (strB [32]) ∧ e1 2 = .int .i64 0 ∧ e1 3 = .int .i64 (c : Int) ∧ e1 9 = .slice (some ⟨s.next, 0, none⟩) (c + 1) (c + 1) ∧ e1 10 = .int .i64 (i : Int))
    (fun x e1 t => x = .exit 0 ∧ ∃ ws r, Mild s t ∧ s.next < t.next ∧ t.heap s.next = .row (strL (ws ++ [[]])).flatten ∧ ws.length = c ∧ partW 32 l = ws ++ [r] ∧ e1 0 = .string (strB r) ∧ e1 9 = .slice (some ⟨s.next, 0, none⟩) (c + 1) (c + 1) ∧ e1 10 = .int .i64 (c : Int)) ?_ ?_ ?_
  rotate_left
  · refine ⟨[], l, Mild.alloc _ _, by simp only [Ab.next_alloc]; omega, Ab.heap_alloc_new _ _, rfl, rfl, hc, Nat.le_refl _, rfl, rfl, rfl, congrArg (Value.int IntKind.i64) (by omega : ((c + 1 : Nat) : Int) - 1 = c), rfl, rfl⟩
  · rintro x e1 t ⟨rfl, ws, r, M, hn, hh, hws, hpl, q0, q9, q10⟩
    have lS : Sl base t 1 (.slice (some ⟨s.next, 0, none⟩) (c + 1) (c + 1)) (strL (ws ++ [[]])) := .newRow hh rfl (by rw [strL_len]; simp [hws]) (strL_one _) (by omega) (by omega)
    have hix := lS.index (P := Tryd.prog) (k := .i64) (i := (c : Int)) Ty.elem52 Ty.siz9 (by omega) (by rw [strL_len]; simp; omega)
    rw [Int.toNat_natCast] at hix
    simp only [atP, add_lit, Nat.zero_add] at hix
    have hput := putAt_flat (z := 1) (strL_one (ws ++ [[]])) (i := c) (by rw [strL_len]; simp; omega) (l := [.string (strB r)]) rfl
    have hset : (strL (ws ++ [[]])).set c [.string (strB r)] = strL (ws ++ [r]) := by rw [strL_app, strL_app, List.set_append_right _ _ (by rw [strL_len]; omega), strL_len, hws]; simp [strL]
    rw [hset] at hput
    have lT : Sl base (t.upd s.next (.row (strL (ws ++ [r])).flatten)) 1 (.slice (some ⟨s.next, 0, none⟩) (c + 1) (c + 1)) (strL (ws ++ [r])) := .newRow (Ab.heap_upd_same _ _ _) rfl (by rw [strL_len]; simp [hws]) (strL_one _) (by omega) hn
    obtain ⟨v', z3, z4, z5, z6⟩ := lT.cut (P := Tryd.prog) (lo := none) (hi := some (.int .i64 ((c : Int) + 1))) (mx := none) (l := 0) (h := c + 1) (m := c + 1) Ty.elem52 Ty.siz9 (fun a len cap hv => by
      cases hv
      simp only [cutV, intOf?]
      rw [if_pos ⟨by omega, by omega, by omega, by omega⟩]; simp; try omega) (by omega) (by rw [strL_len]; simp [hws]) (by omega)
    rw [List.drop_zero, List.take_of_length_le (by rw [strL_len]; simp [hws])] at z4
    simp (disch := first | omega | ((simp only [nxBScrSplit]) <;> omega) | decide) only [↓stepPre, stepPost, ↓W_cond, ↓W_block, ↓reduceIte, Nat.reduceEqDiff, Nat.reduceLT, Nat.reduceLeDiff, ret0, stVar, isTup, Value.cells, Nat.le_refl, Nat.reduceAdd, Nat.reduceMul, Nat.reduceSub, env0, binV, intV, reduceCtorEq, pickV, nilCheckV, ptrV, unV, true_and, and_true, Nat.add_zero, Nat.zero_add, Rt, resultsV, allV, resV, Bool.not_true, Bool.not_false, calleeV, builtinV, eqV, fieldAddrV, ldVar, stN_own, stN_ownL, Int.fdiv_eq_ediv_of_nonneg, Int.reduceToNat, Int.reducePow, IntKind.bits, convV, ne_eq, not_false_eq_true, not_true_eq_false, Int.reduceNeg, Int.reduceAdd, Int.reduceSub, Int.reduceLT, Int.reduceLE, extractV, decide_true, decide_false, Int.reduceEq, mkFuncV, stBScrSplit, beq_self_eq_true, tyB0ScrSplit, getL_take, glBScrSplit, q0, q9, q10, hix, hh, hput, z3, Tryd.results89]
    refine hR _ _ (M.upd' (Nat.le_refl _)) (fun b hb => ?_) (hpl ▸ z4)
    have := z5 b hb
    simp only [inB] at this; omega
  rintro i e1 t hi ⟨ws, r, M, hn, hh, hws, hpl, hrc, hrl, q0, q1, q2, q3, q9, q10⟩
  by_cases hil : i < c
  rotate_left
  · have g1 : ¬ (i : Int) < (c : Int) := by omega
    obtain rfl : i = c := by omega
    simp (disch := first | omega | ((simp only [nxBScrSplit]) <;> omega) | decide) only [↓stepPre, stepPost, ↓W_cond, ↓W_block, ↓reduceIte, Nat.reduceEqDiff, Nat.reduceLT, Nat.reduceLeDiff, ret0, stVar, isTup, Value.cells, Nat.le_refl, Nat.reduceAdd, Nat.reduceMul, Nat.reduceSub, env0, binV, intV, reduceCtorEq, pickV, nilCheckV, ptrV, unV, true_and, and_true, Nat.add_zero, Nat.zero_add, Rt, resultsV, allV, resV, Bool.not_true, Bool.not_false, calleeV, builtinV, eqV, fieldAddrV, ldVar, stN_own, stN_ownL, Int.fdiv_eq_ediv_of_nonneg, Int.reduceToNat, Int.reducePow, IntKind.bits, convV, ne_eq, not_false_eq_true, not_true_eq_false, Int.reduceNeg, Int.reduceAdd, Int.reduceSub, Int.reduceLT, Int.reduceLE, extractV, decide_true, decide_false, Int.reduceEq, mkFuncV, stBScrSplit, beq_self_eq_true, tyB0ScrSplit, getL_take, glBScrSplit, q0, q1, q2, q3, q9, q10, g1]
    refine ⟨ws, r, M, hn, ?_, hws, by rw [hpl, partW_none (by omega)], rfl⟩
    rw [hh, show i + 1 - i = 1 by omega]; rfl
  have g1 : (i : Int) < (c : Int) := by omega
  obtain ⟨m, k1, k2, k3, k4, k5, k6⟩ := cut_at 32 r (by omega)
  have s1 := slcStrHi (P := Tryd.prog) (s := t) (l := r) (k' := .i64) (b := (m : Int)) Ty.str9 (by omega) (by omega)
  have s2 := fun (t : St) => slcStrLo (P := Tryd.prog) (s := t) (l := r) (k := .i64) (a := (m : Int) + 1) Ty.str9 (by omega) (by omega)
  rw [Int.toNat_natCast] at s1
  simp only [show ((m : Int) + 1).toNat = m + 1 by omega] at s2
  have g2 : ¬ (m : Int) < 0 := by omega
  have lS : Sl base t 1 (.slice (some ⟨s.next, 0, none⟩) (c + 1) (c + 1)) (strL (ws ++ List.replicate (c + 1 - i) [])) := .newRow hh rfl (by rw [strL_len]; simp [hws]; omega) (strL_one _) (by omega) (by omega)
  have hix := lS.index (P := Tryd.prog) (k := .i64) (i := (i : Int)) Ty.elem52 Ty.siz9 (by omega) (by rw [strL_len]; simp; omega)
  rw [Int.toNat_natCast] at hix
  simp only [atP, add_lit, Nat.zero_add] at hix
  have hput := putAt_flat (z := 1) (strL_one (ws ++ List.replicate (c + 1 - i) [])) (i := i) (by rw [strL_len]; simp; omega) (l := [.string (strB (r.take m))]) rfl
  have hset : (strL (ws ++ List.replicate (c + 1 - i) [])).set i [.string (strB (r.take m))] = strL ((ws ++ [r.take m]) ++ List.replicate (c + 1 - (i + 1)) []) := by
    rw [show c + 1 - i = (c + 1 - (i + 1)) + 1 by omega, List.replicate_succ, strL_app, strL_app, strL_app, List.set_append_right _ _ (by rw [strL_len]; omega), strL_len, hws]; simp [strL]
  rw [hset] at hput
  simp (disch := first | omega | ((simp only [nxBScrSplit]) <;> omega) | decide) only [↓stepPre, stepPost, ↓W_cond, ↓W_block, ↓reduceIte, Nat.reduceEqDiff, Nat.reduceLT, Nat.reduceLeDiff, ret0, stVar, isTup, Value.cells, Nat.le_refl, Nat.reduceAdd, Nat.reduceMul, Nat.reduceSub, env0, binV, intV, reduceCtorEq, pickV, nilCheckV, ptrV, unV, true_and, and_true, Nat.add_zero, Nat.zero_add, Rt, resultsV, allV, resV, Bool.not_true, Bool.not_false, calleeV, builtinV, eqV, fieldAddrV, ldVar, stN_own, stN_ownL, Int.fdiv_eq_ediv_of_nonneg, Int.reduceToNat, Int.reducePow, IntKind.bits, convV, ne_eq, not_false_eq_true, not_true_eq_false, Int.reduceNeg, Int.reduceAdd, Int.reduceSub, Int.reduceLT, Int.reduceLE, extractV, decide_true, decide_false, Int.reduceEq, mkFuncV, stBScrSplit, beq_self_eq_true, tyB0ScrSplit, getL_take, glBScrSplit, q0, q1, q2, q3, q9, q10, g1]
  refine index1_p ?_
  rw [k1]
  simp (disch := first | omega | ((simp only [nxBScrSplit]) <;> omega) | decide) only [↓stepPre, stepPost, ↓W_cond, ↓W_block, ↓reduceIte, Nat.reduceEqDiff, Nat.reduceLT, Nat.reduceLeDiff, ret0, stVar, isTup, Value.cells, Nat.le_refl, Nat.reduceAdd, Nat.reduceMul, Nat.reduceSub, env0, binV, intV, reduceCtorEq, pickV, nilCheckV, ptrV, unV, true_and, and_true, Nat.add_zero, Nat.zero_add, Rt, resultsV, allV, resV, Bool.not_true, Bool.not_false, calleeV, builtinV, eqV, fieldAddrV, ldVar, stN_own, stN_ownL, Int.fdiv_eq_ediv_of_nonneg, Int.reduceToNat, Int.reducePow, IntKind.bits, convV, ne_eq, not_false_eq_true, not_true_eq_false, Int.reduceNeg, Int.reduceAdd, Int.reduceSub, Int.reduceLT, Int.reduceLE, extractV, decide_true, decide_false, Int.reduceEq, mkFuncV, stBScrSplit, beq_self_eq_true, tyB0ScrSplit, getL_take, glBScrSplit, q0, q1, q2, q3, q9, q10, g2, Int.add_zero, s1, s2, hix, hlen, hh, hput]
  exact ⟨hil, ws ++ [r.take m], r.drop (m + 1), M.upd' (Nat.le_refl _), hn, rfl, by simp [hws], by rw [hpl, k3]; simp, by omega, by simp; omega, rfl, by simp⟩
theorem split38_ok {l : List UInt8} (hl : l.length ≤ 1000000) (hbn : base ≤ s.next) (hR : ∀ s' v, Mild s s' → (∀ b, inB v b → s.next ≤ b) → Sl base s' 1 v (strL (partW 32 l)) → R v s') :
    WC Tryd.prog base 84 [.string (strB l), .string (strB [32])] s R := by
  refine WC_open Tryd.func84 rfl ?_
  simp (disch := first | omega | ((simp only [nxBScrSplit]) <;> omega) | decide) only [↓stepPre, stepPost, ↓W_cond, ↓W_block, ↓reduceIte, Nat.reduceEqDiff, Nat.reduceLT, Nat.reduceLeDiff, ret0, stVar, isTup, Value.cells, Nat.le_refl, Nat.reduceAdd, Nat.reduceMul, Nat.reduceSub, env0, binV, intV, reduceCtorEq, pickV, nilCheckV, ptrV, unV, true_and, and_true, Nat.add_zero, Nat.zero_add, Rt, resultsV, allV, resV, Bool.not_true, Bool.not_false, calleeV, builtinV, eqV, fieldAddrV, ldVar, stN_own, stN_ownL, Int.fdiv_eq_ediv_of_nonneg, Int.reduceToNat, Int.reducePow, IntKind.bits, convV, ne_eq, not_false_eq_true, not_true_eq_false, Int.reduceNeg, Int.reduceAdd, Int.reduceSub, Int.reduceLT, Int.reduceLE, extractV, decide_true, decide_false, Int.reduceEq, mkFuncV, stBScrSplit, beq_self_eq_true, tyB0ScrSplit, getL_take, glBScrSplit]
  refine gensplit_ok hl hbn fun s' v m hv hs => ?_
  simp (disch := first | omega | ((simp only [nxBScrSplit]) <;> omega) | decide) only [↓stepPre, stepPost, ↓W_cond, ↓W_block, ↓reduceIte, Nat.reduceEqDiff, Nat.reduceLT, Nat.reduceLeDiff, ret0, stVar, isTup, Value.cells, Nat.le_refl, Nat.reduceAdd, Nat.reduceMul, Nat.reduceSub, env0, binV, intV, reduceCtorEq, pickV, nilCheckV, ptrV, unV, true_and, and_true, Nat.add_zero, Nat.zero_add, Rt, resultsV, allV, resV, Bool.not_true, Bool.not_false, calleeV, builtinV, eqV, fieldAddrV, ldVar, stN_own, stN_ownL, Int.fdiv_eq_ediv_of_nonneg, Int.reduceToNat, Int.reducePow, IntKind.bits, convV, ne_eq, not_false_eq_true, not_true_eq_false, Int.reduceNeg, Int.reduceAdd, Int.reduceSub, Int.reduceLT, Int.reduceLE, extractV, decide_true, decide_false, Int.reduceEq, mkFuncV, stBScrSplit, beq_self_eq_true, tyB0ScrSplit, getL_take, glBScrSplit, Tryd.results84]
  exact hR s' v m hv hs
end Go.Proofs.YthjpfllmecpliaaDoor
