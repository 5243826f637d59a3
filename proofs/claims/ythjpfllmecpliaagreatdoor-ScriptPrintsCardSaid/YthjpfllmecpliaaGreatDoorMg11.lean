/- Texts of our own, one behind the other: ScrSplit, ScrRead, ScrNums. -/
import Derived.Test.YthjpfllmecpliaaGreatDoorMg4
import Derived.Test.YthjpfllmecpliaaGreatDoorMg3
import Derived.Test.YthjpfllmecpliaaGreatDoorMg10
import Derived.Test.YthjpfllmecpliaaGreatDoorMg9
import Derived.Lib.IndexBytes
/- strings.Split at blanks (the package script): as a contract. -/
set_option linter.all false
set_option maxRecDepth 20000
namespace Go.Proofs.YthjpfllmecpliaaGreatDoor
open Go Go.Ab
def spBScrSplit := And.intro @Nat.le_refl (And.intro @true_and (And.intro @and_true (And.intro @Nat.add_zero (And.intro @Nat.zero_add (And.intro @Bool.not_true (And.intro @Bool.not_false (And.intro @ne_eq.{1} (And.intro @not_false_eq_true (And.intro @not_true_eq_false (And.intro @decide_true (And.intro @decide_false (@Int.fdiv_eq_ediv_of_nonneg))))))))))))
def nxBScrSplit := And.intro @Ab.next_alloc (And.intro @Ab.next_upd (And.intro @List.length_cons.{0} (And.intro @List.length_nil.{0} (And.intro @ne_eq.{1} (And.intro not_true_eq_false not_false_eq_true)))))
def tyB0ScrSplit := And.intro @Ty.t9 (And.intro @Tryz.underlying9 (And.intro @Ty.t50 (And.intro @Tryz.underlying50 (And.intro @Ty.t5 (And.intro @Tryz.underlying5 (And.intro @Ty.t2 (And.intro @Tryz.underlying2 (And.intro @Ty.t3 (And.intro @Tryz.underlying3 (And.intro @Ty.t4 @Tryz.underlying4))))))))))
def stBScrSplit := And.intro @List.size_toArray.{0} (And.intro @List.length_cons.{0} (And.intro @List.length_nil.{0} (And.intro @List.set_cons_zero.{0} (And.intro @List.set_cons_succ.{0} (And.intro @List.getD_cons_zero.{0} (And.intro @List.getD_cons_succ.{0} (And.intro @List.getElem?_cons_succ.{0} (And.intro @List.getElem?_cons_zero.{0} (And.intro @List.map_cons.{0,0} (And.intro @List.map_nil.{0,0} (And.intro @Option.isNone_none.{0} (And.intro @Option.isNone_some.{0} (And.intro @Option.map_some.{0,0} (And.intro @Option.map_none.{0,0} (And.intro @List.cons_append.{0} (And.intro @List.nil_append.{0} (And.intro @List.append_nil.{0} (And.intro @Array.toList_append.{0} (And.intro @List.toList_toArray.{0} (And.intro @Int.cast_ofNat_Int (And.intro @Option.isSome_some.{0} (And.intro @List.getElem?_toArray.{0} (And.intro @List.map_toArray.{0,0} (@Nat.min_eq_left))))))))))))))))))))))))
def glBScrSplit := And.intro @List.drop_zero.{0} (And.intro @List.drop_succ_cons.{0} (And.intro @List.take_succ_cons.{0} (And.intro @List.take_zero.{0} (@List.take_nil.{0}))))
variable {base : Nat} [Bok base] {s : St} {R : Value → St → Prop}
/-- What lies between the bytes c. -/
def partW (c : UInt8) : List UInt8 → List (List UInt8)
  | [] => [[]]
  | d :: l => if d = c then [] :: partW c l else match partW c l with | w :: ws => (d :: w) :: ws | [] => [[d]]
theorem partW_ne (c : UInt8) (l : List UInt8) : partW c l ≠ [] := by
  cases l with
  | nil => simp [partW]
  | cons d l => unfold partW; split
                · simp
                · split <;> simp
theorem cut_at (c : UInt8) : ∀ r : List UInt8, 0 < r.count c → ∃ m : Nat, Lib.indexByte r c = (m : Int) ∧ m < r.length ∧ partW c r = r.take m :: partW c (r.drop (m + 1)) ∧ (r.drop (m + 1)).count c + 1 = r.count c ∧ (r.take m).count c = 0 ∧ r = r.take m ++ c :: r.drop (m + 1) := by
  intro r
  induction r with
  | nil => simp
  | cons d r ih =>
    intro h
    by_cases hd : d = c
    · subst hd
      exact ⟨0, by simp [Lib.indexByte], by simp, by simp [partW], by simp, by simp, by simp⟩
    · have hc : List.count c (d :: r) = r.count c := List.count_cons_of_ne (by simpa using hd)
      rw [hc] at h
      obtain ⟨m, h1, h2, h3, h4, h5, h6⟩ := ih h
      refine ⟨m + 1, ?_, by simp only [List.length_cons]; omega, ?_, by rw [hc]; simpa using h4, ?_, ?_⟩
      · unfold Lib.indexByte
        rw [if_neg (by simpa using hd), if_neg (by rw [h1]; simp), h1]; rfl
      · rw [partW, if_neg hd, h3]; simp
      · rw [List.take_succ_cons, List.count_cons_of_ne (by simpa using hd)]; exact h5
      · rw [List.take_succ_cons, List.drop_succ_cons, List.cons_append, ← h6]
theorem partW_none {c : UInt8} : ∀ {r : List UInt8}, r.count c = 0 → partW c r = [r] := by
  intro r
  induction r with
  | nil => simp [partW]
  | cons d r ih =>
    intro h
    by_cases hd : d = c
    · subst hd; simp at h
    · rw [List.count_cons_of_ne (by simpa using hd)] at h
      rw [partW, if_neg hd, ih h]
theorem body_count : ∃ fn c, Tryz.prog.funcs[99]? = some fn ∧ fn.body = some c ∧ fn.name ≠ "runtime.NumGoroutine" := by
  refine ⟨_, _, Tryz.func99, rfl, ?_⟩
  decide
theorem count_p {l : List UInt8} {c : UInt8} (hR : R (.int .i64 (l.count c : Nat)) s) : WC Tryz.prog base 99 [.string (strB l), .string (strB [c])] s R := by
  refine ⟨_, _, given_ev body_count rfl rfl (fun w hw => ?_), hR⟩
  have := Tryz.strings_Count_one (strB l) c w
  intro cs
  obtain ⟨e, w', fr, ⟨h1, h2⟩, rest⟩ := this cs
  exact ⟨e, w', fr, ⟨h1, 0, h2⟩, rest⟩
theorem body_index1 : ∃ fn c, Tryz.prog.funcs[100]? = some fn ∧ fn.body = some c ∧ fn.name ≠ "runtime.NumGoroutine" := by
  refine ⟨_, _, Tryz.func100, rfl, ?_⟩
  decide
theorem index1_p {l : List UInt8} {c : UInt8} (hR : R (.int .i64 (Lib.indexByte l c)) s) : WC Tryz.prog base 100 [.string (strB l), .string (strB [c])] s R := by
  refine ⟨_, _, given_ev body_index1 rfl rfl (fun w hw => ?_), hR⟩
  have := Tryz.strings_Index_one (strB l) c w
  intro cs
  obtain ⟨e, w', fr, ⟨h1, h2⟩, rest⟩ := this cs
  exact ⟨e, w', fr, ⟨h1, 0, h2⟩, rest⟩
theorem make_strs {n : Nat} (hn : n ≤ 1000001) : makeV Tryz.prog s 50 (.int .i64 (n : Int)) (.int .i64 (n : Int)) = some (.slice (some ⟨s.next, 0, none⟩) n n, s.alloc (.row (strL (List.replicate n [])).flatten)) := by
  simp only [makeV, Ty.elem50, Ty.siz9, Ty.zer9, Ty.byt9]
  rw [if_pos ⟨rfl, by omega, by omega, Int.le_refl _, by omega, by omega⟩]
  simp only [Int.toNat_natCast, repL, strL, List.map_replicate]
  rfl
theorem strL_one (xs : List (List UInt8)) : ∀ l ∈ strL xs, l.length = 1 := fun l hl => by obtain ⟨n, -, rfl⟩ := List.mem_map.1 hl; rfl
theorem gensplit_ok {l : List UInt8} (hl : l.length ≤ 1000000) (hbn : base ≤ s.next) (hR : ∀ s' v, Mild s s' → (∀ b, inB v b → s.next ≤ b) → Sl base s' 1 v (strL (partW 32 l)) → R v s') :
    WC Tryz.prog base 97 [.string (strB l), .string (strB [32]), .int .i64 0, .int .i64 (-1)] s R := by
  refine WC_open Tryz.func97 rfl ?_
  have hlen : ∀ (l : List UInt8) ts, lenB Tryz.prog (9 :: ts) [.string (strB l)] = some (.int .i64 (l.length : Int)) := fun l ts => lenStr Ty.str9 Ty.arr9
  have hcl : l.count 32 ≤ l.length := List.count_le_length
  simp (disch := first | omega | ((simp only [nxBScrSplit]) <;> omega) | decide) only [↓stepPre, stepPost, ↓W_cond, ↓W_block, ↓reduceIte, Nat.reduceEqDiff, Nat.reduceLT, Nat.reduceLeDiff, ret0, stVar, isTup, Value.cells, Nat.reduceAdd, Nat.reduceMul, Nat.reduceSub, env0, binV, intV, reduceCtorEq, pickV, nilCheckV, ptrV, unV, Rt, resultsV, allV, resV, calleeV, builtinV, eqV, fieldAddrV, ldVar, stN_own, stN_ownL, Int.reduceToNat, Int.reducePow, IntKind.bits, convV, Int.reduceNeg, Int.reduceAdd, Int.reduceSub, Int.reduceLT, Int.reduceLE, extractV, Int.reduceEq, mkFuncV, stBScrSplit, spBScrSplit, beq_self_eq_true, tyB0ScrSplit, getL_take, glBScrSplit, eqlStr, eqlStrV, List.cons_ne_nil]
  refine count_p ?_
  generalize hc : l.count 32 = c at hcl
  have hmin : minB [.int .i64 ((c : Int) + 1), .int .i64 ((l.length : Int) + 1)] = some (.int .i64 ((c + 1 : Nat) : Int)) := by
    simp only [minB, foldV, minV]
    rw [if_neg (by omega)]; simp
  have hmk := make_strs (s := s) (n := c + 1) (by omega)
  simp (disch := first | omega | ((simp only [nxBScrSplit]) <;> omega) | decide) only [↓stepPre, stepPost, ↓W_cond, ↓W_block, ↓reduceIte, Nat.reduceEqDiff, Nat.reduceLT, Nat.reduceLeDiff, ret0, stVar, isTup, Value.cells, Nat.reduceAdd, Nat.reduceMul, Nat.reduceSub, env0, binV, intV, reduceCtorEq, pickV, nilCheckV, ptrV, unV, Rt, resultsV, allV, resV, calleeV, builtinV, eqV, fieldAddrV, ldVar, stN_own, stN_ownL, Int.reduceToNat, Int.reducePow, IntKind.bits, convV, Int.reduceNeg, Int.reduceAdd, Int.reduceSub, Int.reduceLT, Int.reduceLE, extractV, Int.reduceEq, mkFuncV, stBScrSplit, spBScrSplit, beq_self_eq_true, tyB0ScrSplit, getL_take, glBScrSplit, hlen, hmin, hmk]
  refine W_loop_inv c (fun i e1 t => ∃ ws r, Mild s t ∧ s.next < t.next ∧ t.heap s.next = .row (strL (ws ++ List.replicate (c + 1 - i) [])).flatten ∧ ws.length = i ∧ partW 32 l = ws ++ partW 32 r ∧ r.count 32 = c - i ∧ r.length ≤ l.length ∧ e1 0 = .string (strB r) ∧ e1 1 = .string (strB [32]) ∧ e1 2 = .int .i64 0 ∧ e1 3 = .int .i64 (c : Int) ∧ e1 9 = .slice (some ⟨s.next, 0, none⟩) (c + 1) (c + 1) ∧ e1 10 = .int .i64 (i : Int))
    (fun x e1 t => x = .exit 0 ∧ ∃ ws r, Mild s t ∧ s.next < t.next ∧ t.heap s.next = .row (strL (ws ++ [[]])).flatten ∧ ws.length = c ∧ partW 32 l = ws ++ [r] ∧ e1 0 = .string (strB r) ∧ e1 9 = .slice (some ⟨s.next, 0, none⟩) (c + 1) (c + 1) ∧ e1 10 = .int .i64 (c : Int)) ?_ ?_ ?_
  rotate_left
  · refine ⟨[], l, Mild.alloc _ _, by simp only [Ab.next_alloc]; omega, Ab.heap_alloc_new _ _, rfl, rfl, hc, Nat.le_refl _, rfl, rfl, rfl, congrArg (Value.int IntKind.i64) (by omega : ((c + 1 : Nat) : Int) - 1 = c), rfl, rfl⟩
  · rintro x e1 t ⟨rfl, ws, r, M, hn, hh, hws, hpl, q0, q9, q10⟩
    have lS : Sl base t 1 (.slice (some ⟨s.next, 0, none⟩) (c + 1) (c + 1)) (strL (ws ++ [[]])) := .newRow hh rfl (by rw [strL_len]; simp [hws]) (strL_one _) (by omega) (by omega)
    have hix := lS.index (P := Tryz.prog) (k := .i64) (i := (c : Int)) Ty.elem50 Ty.siz9 (by omega) (by rw [strL_len]; simp; omega)
    rw [Int.toNat_natCast] at hix
    simp only [atP, add_lit, Nat.zero_add] at hix
    have hput := putAt_flat (z := 1) (strL_one (ws ++ [[]])) (i := c) (by rw [strL_len]; simp; omega) (l := [.string (strB r)]) rfl
    have hset : (strL (ws ++ [[]])).set c [.string (strB r)] = strL (ws ++ [r]) := by rw [strL_app, strL_app, List.set_append_right _ _ (by rw [strL_len]; omega), strL_len, hws]; simp [strL]
    rw [hset] at hput
    have lT : Sl base (t.upd s.next (.row (strL (ws ++ [r])).flatten)) 1 (.slice (some ⟨s.next, 0, none⟩) (c + 1) (c + 1)) (strL (ws ++ [r])) := .newRow (Ab.heap_upd_same _ _ _) rfl (by rw [strL_len]; simp [hws]) (strL_one _) (by omega) hn
    obtain ⟨v', z3, z4, z5, z6⟩ := lT.cut (P := Tryz.prog) (lo := none) (hi := some (.int .i64 ((c : Int) + 1))) (mx := none) (l := 0) (h := c + 1) (m := c + 1) Ty.elem50 Ty.siz9 (fun a len cap hv => by
      cases hv
      simp only [cutV, intOf?]
      rw [if_pos ⟨by omega, by omega, by omega, by omega⟩]; simp; try omega) (by omega) (by rw [strL_len]; simp [hws]) (by omega)
    rw [List.drop_zero, List.take_of_length_le (by rw [strL_len]; simp [hws])] at z4
    simp (disch := first | omega | ((simp only [nxBScrSplit]) <;> omega) | decide) only [↓stepPre, stepPost, ↓W_cond, ↓W_block, ↓reduceIte, Nat.reduceEqDiff, Nat.reduceLT, Nat.reduceLeDiff, ret0, stVar, isTup, Value.cells, Nat.reduceAdd, Nat.reduceMul, Nat.reduceSub, env0, binV, intV, reduceCtorEq, pickV, nilCheckV, ptrV, unV, Rt, resultsV, allV, resV, calleeV, builtinV, eqV, fieldAddrV, ldVar, stN_own, stN_ownL, Int.reduceToNat, Int.reducePow, IntKind.bits, convV, Int.reduceNeg, Int.reduceAdd, Int.reduceSub, Int.reduceLT, Int.reduceLE, extractV, Int.reduceEq, mkFuncV, stBScrSplit, spBScrSplit, beq_self_eq_true, tyB0ScrSplit, getL_take, glBScrSplit, q0, q9, q10, hix, hh, hput, z3, Tryz.results97]
    refine hR _ _ (M.upd' (Nat.le_refl _)) (fun b hb => ?_) (hpl ▸ z4)
    have := z5 b hb
    simp only [inB] at this; omega
  rintro i e1 t hi ⟨ws, r, M, hn, hh, hws, hpl, hrc, hrl, q0, q1, q2, q3, q9, q10⟩
  by_cases hil : i < c
  rotate_left
  · have g1 : ¬ (i : Int) < (c : Int) := by omega
    obtain rfl : i = c := by omega
    simp (disch := first | omega | ((simp only [nxBScrSplit]) <;> omega) | decide) only [↓stepPre, stepPost, ↓W_cond, ↓W_block, ↓reduceIte, Nat.reduceEqDiff, Nat.reduceLT, Nat.reduceLeDiff, ret0, stVar, isTup, Value.cells, Nat.reduceAdd, Nat.reduceMul, Nat.reduceSub, env0, binV, intV, reduceCtorEq, pickV, nilCheckV, ptrV, unV, Rt, resultsV, allV, resV, calleeV, builtinV, eqV, fieldAddrV, ldVar, stN_own, stN_ownL, Int.reduceToNat, Int.reducePow, IntKind.bits, convV, Int.reduceNeg, Int.reduceAdd, Int.reduceSub, Int.reduceLT, Int.reduceLE, extractV, Int.reduceEq, mkFuncV, stBScrSplit, spBScrSplit, beq_self_eq_true, tyB0ScrSplit, getL_take, glBScrSplit, q0, q1, q2, q3, q9, q10, g1]
    refine ⟨ws, r, M, hn, ?_, hws, by rw [hpl, partW_none (by omega)], rfl⟩
    rw [hh, show i + 1 - i = 1 by omega]; rfl
  have g1 : (i : Int) < (c : Int) := by omega
  obtain ⟨m, k1, k2, k3, k4, k5, k6⟩ := cut_at 32 r (by omega)
  have s1 := slcStrHi (P := Tryz.prog) (s := t) (l := r) (k' := .i64) (b := (m : Int)) Ty.str9 (by omega) (by omega)
  have s2 := fun (t : St) => slcStrLo (P := Tryz.prog) (s := t) (l := r) (k := .i64) (a := (m : Int) + 1) Ty.str9 (by omega) (by omega)
  rw [Int.toNat_natCast] at s1
  simp only [show ((m : Int) + 1).toNat = m + 1 by omega] at s2
  have g2 : ¬ (m : Int) < 0 := by omega
  have lS : Sl base t 1 (.slice (some ⟨s.next, 0, none⟩) (c + 1) (c + 1)) (strL (ws ++ List.replicate (c + 1 - i) [])) := .newRow hh rfl (by rw [strL_len]; simp [hws]; omega) (strL_one _) (by omega) (by omega)
  have hix := lS.index (P := Tryz.prog) (k := .i64) (i := (i : Int)) Ty.elem50 Ty.siz9 (by omega) (by rw [strL_len]; simp; omega)
  rw [Int.toNat_natCast] at hix
  simp only [atP, add_lit, Nat.zero_add] at hix
  have hput := putAt_flat (z := 1) (strL_one (ws ++ List.replicate (c + 1 - i) [])) (i := i) (by rw [strL_len]; simp; omega) (l := [.string (strB (r.take m))]) rfl
  have hset : (strL (ws ++ List.replicate (c + 1 - i) [])).set i [.string (strB (r.take m))] = strL ((ws ++ [r.take m]) ++ List.replicate (c + 1 - (i + 1)) []) := by
    rw [show c + 1 - i = (c + 1 - (i + 1)) + 1 by omega, List.replicate_succ, strL_app, strL_app, strL_app, List.set_append_right _ _ (by rw [strL_len]; omega), strL_len, hws]; simp [strL]
  rw [hset] at hput
  simp (disch := first | omega | ((simp only [nxBScrSplit]) <;> omega) | decide) only [↓stepPre, stepPost, ↓W_cond, ↓W_block, ↓reduceIte, Nat.reduceEqDiff, Nat.reduceLT, Nat.reduceLeDiff, ret0, stVar, isTup, Value.cells, Nat.reduceAdd, Nat.reduceMul, Nat.reduceSub, env0, binV, intV, reduceCtorEq, pickV, nilCheckV, ptrV, unV, Rt, resultsV, allV, resV, calleeV, builtinV, eqV, fieldAddrV, ldVar, stN_own, stN_ownL, Int.reduceToNat, Int.reducePow, IntKind.bits, convV, Int.reduceNeg, Int.reduceAdd, Int.reduceSub, Int.reduceLT, Int.reduceLE, extractV, Int.reduceEq, mkFuncV, stBScrSplit, spBScrSplit, beq_self_eq_true, tyB0ScrSplit, getL_take, glBScrSplit, q0, q1, q2, q3, q9, q10, g1]
  refine index1_p ?_
  rw [k1]
  simp (disch := first | omega | ((simp only [nxBScrSplit]) <;> omega) | decide) only [↓stepPre, stepPost, ↓W_cond, ↓W_block, ↓reduceIte, Nat.reduceEqDiff, Nat.reduceLT, Nat.reduceLeDiff, ret0, stVar, isTup, Value.cells, Nat.reduceAdd, Nat.reduceMul, Nat.reduceSub, env0, binV, intV, reduceCtorEq, pickV, nilCheckV, ptrV, unV, Rt, resultsV, allV, resV, calleeV, builtinV, eqV, fieldAddrV, ldVar, stN_own, stN_ownL, Int.reduceToNat, Int.reducePow, IntKind.bits, convV, Int.reduceNeg, Int.reduceAdd, Int.reduceSub, Int.reduceLT, Int.reduceLE, extractV, Int.reduceEq, mkFuncV, stBScrSplit, spBScrSplit, beq_self_eq_true, tyB0ScrSplit, getL_take, glBScrSplit, q0, q1, q2, q3, q9, q10, g2, Int.add_zero, s1, s2, hix, hlen, hh, hput]
  exact ⟨hil, ws ++ [r.take m], r.drop (m + 1), M.upd' (Nat.le_refl _), hn, rfl, by simp [hws], by rw [hpl, k3]; simp, by omega, by simp; omega, rfl, by simp⟩
theorem split38_ok {l : List UInt8} (hl : l.length ≤ 1000000) (hbn : base ≤ s.next) (hR : ∀ s' v, Mild s s' → (∀ b, inB v b → s.next ≤ b) → Sl base s' 1 v (strL (partW 32 l)) → R v s') :
    WC Tryz.prog base 92 [.string (strB l), .string (strB [32])] s R := by
  refine WC_open Tryz.func92 rfl ?_
  simp (disch := first | omega | ((simp only [nxBScrSplit]) <;> omega) | decide) only [↓stepPre, stepPost, ↓W_cond, ↓W_block, ↓reduceIte, Nat.reduceEqDiff, Nat.reduceLT, Nat.reduceLeDiff, ret0, stVar, isTup, Value.cells, Nat.reduceAdd, Nat.reduceMul, Nat.reduceSub, env0, binV, intV, reduceCtorEq, pickV, nilCheckV, ptrV, unV, Rt, resultsV, allV, resV, calleeV, builtinV, eqV, fieldAddrV, ldVar, stN_own, stN_ownL, Int.reduceToNat, Int.reducePow, IntKind.bits, convV, Int.reduceNeg, Int.reduceAdd, Int.reduceSub, Int.reduceLT, Int.reduceLE, extractV, Int.reduceEq, mkFuncV, stBScrSplit, spBScrSplit, beq_self_eq_true, tyB0ScrSplit, getL_take, glBScrSplit]
  refine gensplit_ok hl hbn fun s' v m hv hs => ?_
  simp (disch := first | omega | ((simp only [nxBScrSplit]) <;> omega) | decide) only [↓stepPre, stepPost, ↓W_cond, ↓W_block, ↓reduceIte, Nat.reduceEqDiff, Nat.reduceLT, Nat.reduceLeDiff, ret0, stVar, isTup, Value.cells, Nat.reduceAdd, Nat.reduceMul, Nat.reduceSub, env0, binV, intV, reduceCtorEq, pickV, nilCheckV, ptrV, unV, Rt, resultsV, allV, resV, calleeV, builtinV, eqV, fieldAddrV, ldVar, stN_own, stN_ownL, Int.reduceToNat, Int.reducePow, IntKind.bits, convV, Int.reduceNeg, Int.reduceAdd, Int.reduceSub, Int.reduceLT, Int.reduceLE, extractV, Int.reduceEq, mkFuncV, stBScrSplit, spBScrSplit, beq_self_eq_true, tyB0ScrSplit, getL_take, glBScrSplit, Tryz.results92]
  exact hR s' v m hv hs
end Go.Proofs.YthjpfllmecpliaaGreatDoor
/- A line, read word by word (the package script): as contracts. -/
set_option linter.all false
set_option maxRecDepth 20000
namespace Go.Proofs.YthjpfllmecpliaaGreatDoor
open Go Go.Ab
def spBScrRead := And.intro @Nat.le_refl (And.intro @true_and (And.intro @and_true (And.intro @Nat.add_zero (And.intro @Nat.zero_add (And.intro @Bool.not_true (And.intro @Bool.not_false (And.intro @ne_eq.{1} (And.intro @not_false_eq_true (And.intro @not_true_eq_false (And.intro @decide_true (And.intro @decide_false (@Int.fdiv_eq_ediv_of_nonneg))))))))))))
def nxBScrRead := And.intro @Ab.next_alloc (And.intro @Ab.next_upd (And.intro @List.length_cons.{0} (And.intro @List.length_nil.{0} (And.intro @ne_eq.{1} (And.intro not_true_eq_false not_false_eq_true)))))
def tyB0ScrRead := And.intro @Ty.t9 (And.intro @Tryz.underlying9 (And.intro @Ty.t50 (And.intro @Tryz.underlying50 (And.intro @Ty.t128 (And.intro @Tryz.underlying128 (And.intro @Ty.t118 (And.intro @Tryz.underlying118 (And.intro @Ty.t140 (And.intro @Tryz.underlying140 (And.intro @Ty.t143 (And.intro @Tryz.underlying143 (And.intro @Ty.t122 (And.intro @Tryz.underlying122 (And.intro @Ty.t124 (And.intro @Tryz.underlying124 (And.intro @Ty.t5 (And.intro @Tryz.underlying5 (And.intro @Ty.t2 (And.intro @Tryz.underlying2 (And.intro @Ty.t3 (And.intro @Tryz.underlying3 (And.intro @Ty.t4 @Tryz.underlying4))))))))))))))))))))))
def stBScrRead := And.intro @List.size_toArray.{0} (And.intro @List.length_cons.{0} (And.intro @List.length_nil.{0} (And.intro @List.set_cons_zero.{0} (And.intro @List.set_cons_succ.{0} (And.intro @List.getD_cons_zero.{0} (And.intro @List.getD_cons_succ.{0} (And.intro @List.getElem?_cons_succ.{0} (And.intro @List.getElem?_cons_zero.{0} (And.intro @List.map_cons.{0,0} (And.intro @List.map_nil.{0,0} (And.intro @Option.isNone_none.{0} (And.intro @Option.isNone_some.{0} (And.intro @Option.map_some.{0,0} (And.intro @Option.map_none.{0,0} (And.intro @List.cons_append.{0} (And.intro @List.nil_append.{0} (And.intro @List.append_nil.{0} (And.intro @Array.toList_append.{0} (And.intro @List.toList_toArray.{0} (And.intro @Int.cast_ofNat_Int (And.intro @Option.isSome_some.{0} (And.intro @List.getElem?_toArray.{0} (And.intro @List.map_toArray.{0,0} (@Nat.min_eq_left))))))))))))))))))))))))
def glBScrRead := And.intro @List.drop_zero.{0} (And.intro @List.drop_succ_cons.{0} (And.intro @List.take_succ_cons.{0} (And.intro @List.take_zero.{0} (@List.take_nil.{0}))))
variable {base : Nat} [Bok base] {s : St} {R : Value → St → Prop}
theorem strl_cap {z : Nat} {a : Option Addr} {n c : Nat} {L : List (List Value)} (h : Sl base s z (.slice a n c) L) : n = L.length ∧ n ≤ c := by
  cases h with
  | nil => exact ⟨rfl, Nat.le_refl _⟩
  | mk h1 h2 => exact ⟨h1.symm, h2⟩
/-- A reader: where it lies, what is left of its words, whether something was wrong. -/
def Rd (base lo hi : Nat) (s : St) (b : Nat) (ws : List (List UInt8)) (wr : Bool) : Prop :=
  ∃ v, s.heap b = .row [v, .bool wr] ∧ Sl base s 1 v (strL ws) ∧ base ≤ lo ∧ lo ≤ b ∧ b < hi ∧ hi ≤ s.next ∧ (∀ k, inB v k → lo ≤ k ∧ k < hi ∧ k ≠ b) ∧ ∀ w ∈ ws, w.length ≤ 1000000
theorem Rd.keep {lo hi : Nat} {s s' : St} {b : Nat} {ws : List (List UInt8)} {wr : Bool} (h : Rd base lo hi s b ws wr) (hk : ∀ k, lo ≤ k → k < hi → s'.heap k = s.heap k) (hn : s.next ≤ s'.next) : Rd base lo hi s' b ws wr := by
  obtain ⟨v, h1, h2, h3, h4, h5, h6, h7, h8⟩ := h
  refine ⟨v, (hk b h4 h5).trans h1, h2.frame (fun a n c e => ?_) hn, h3, h4, h5, by omega, h7, h8⟩
  subst e
  have := h7 a.block rfl
  exact hk _ this.1 this.2.1
theorem next38_ok {lo hi b : Nat} {ws : List (List UInt8)} {wr : Bool} (h : Rd base lo hi s b ws wr)
    (hR : ∀ s', s'.next = s.next → (∀ k, k ≠ b → s'.heap k = s.heap k) → Rd base lo hi s' b ws.tail (wr || ws.isEmpty) → R (.string (strB (ws.headD []))) s') :
    WC Tryz.prog base 77 [.pointer (some ⟨b, 0, none⟩)] s R := by
  refine WC_open Tryz.func77 rfl ?_
  obtain ⟨v, h1, h2, h3, h4, h5, h6, h7, h8⟩ := h
  have hlen := h2.len (P := Tryz.prog) (ts := []) Ty.elem50 Ty.arr50
  rw [strL_len] at hlen
  cases ws with
  | nil =>
    have g0 : ((List.length ([] : List (List UInt8)) : Nat) : Int) = 0 := rfl
    simp (disch := first | omega | ((simp only [nxBScrRead]) <;> omega) | decide) only [↓stepPre, stepPost, ↓W_cond, ↓W_block, ↓reduceIte, Nat.reduceEqDiff, Nat.reduceLT, Nat.reduceLeDiff, ret0, stVar, isTup, Value.cells, Nat.reduceAdd, Nat.reduceMul, Nat.reduceSub, env0, binV, intV, reduceCtorEq, pickV, nilCheckV, ptrV, unV, Rt, resultsV, allV, resV, calleeV, builtinV, eqV, fieldAddrV, ldVar, stN_own, stN_ownL, Int.reduceToNat, Int.reducePow, IntKind.bits, convV, Int.reduceNeg, Int.reduceAdd, Int.reduceSub, Int.reduceLT, Int.reduceLE, extractV, Int.reduceEq, mkFuncV, stBScrRead, spBScrRead, beq_self_eq_true, tyB0ScrRead, getL_take, glBScrRead, h1, hlen, g0, eq_self, List.length_nil, Int.ofNat_zero, putAt_row, setL, Tryz.results77]
    refine hR _ rfl (fun k hk => Ab.heap_upd_ne _ _ hk) ⟨v, ?_, h2.frame (fun a n c e => ?_) (Nat.le_refl _), h3, h4, h5, h6, h7, h8⟩
    · rw [Ab.heap_upd_same]; simp
    · subst e; exact Ab.heap_upd_ne _ _ (h7 a.block rfl).2.2
  | cons w ws =>
    have g0 : ¬ ((ws.length + 1 : Nat) : Int) = 0 := by omega
    have hix := h2.index (P := Tryz.prog) (k := .i64) (i := 0) Ty.elem50 Ty.siz9 (by omega) (by rw [strL_len]; simp)
    have hld := h2.load1 (P := Tryz.prog) (i := 0) (x := .string (strB w)) rfl Ty.agg9 Ty.siz9
    obtain ⟨va, vn, vc, rfl⟩ := h2.shape
    obtain ⟨c1, c2⟩ := strl_cap h2
    rw [strL_len] at c1
    obtain ⟨v', z3, z4, z5, z6⟩ := h2.cut (P := Tryz.prog) (lo := some (.int .i64 1)) (hi := none) (mx := none) (l := 1) (h := ws.length + 1) (m := vc) Ty.elem50 Ty.siz9 (fun a len cap hv => by
      cases hv
      simp only [cutV, intOf?, Option.isSome_none, Bool.false_eq_true, if_false]
      rw [if_pos ⟨by omega, by simp at c1; omega, by omega, by omega⟩]; simp at c1 ⊢; try omega) (by omega) (by rw [strL_len]; simp) (by simp at c1; omega)
    have z4 : Sl base s 1 v' (strL ws) := by rw [List.take_of_length_le (by rw [strL_len]; simp)] at z4; simpa [strL] using z4
    obtain ⟨va', vn', vc', rfl⟩ := z4.shape
    simp (disch := first | omega | ((simp only [nxBScrRead]) <;> omega) | decide) only [↓stepPre, stepPost, ↓W_cond, ↓W_block, ↓reduceIte, Nat.reduceEqDiff, Nat.reduceLT, Nat.reduceLeDiff, ret0, stVar, isTup, Value.cells, Nat.reduceAdd, Nat.reduceMul, Nat.reduceSub, env0, binV, intV, reduceCtorEq, pickV, nilCheckV, ptrV, unV, Rt, resultsV, allV, resV, calleeV, builtinV, eqV, fieldAddrV, ldVar, stN_own, stN_ownL, Int.reduceToNat, Int.reducePow, IntKind.bits, convV, Int.reduceNeg, Int.reduceAdd, Int.reduceSub, Int.reduceLT, Int.reduceLE, extractV, Int.reduceEq, mkFuncV, stBScrRead, spBScrRead, beq_self_eq_true, tyB0ScrRead, getL_take, glBScrRead, h1, hlen, g0, hix, hld, z3, putAt_row, setL, Tryz.results77]
    refine hR _ rfl (fun k hk => Ab.heap_upd_ne _ _ hk) ⟨_, ?_, z4.frame (fun a n c e => ?_) (Nat.le_refl _), h3, h4, h5, h6, fun k hk => h7 k (z5 k hk), fun x hx => h8 x (List.mem_cons_of_mem _ hx)⟩
    · rw [Ab.heap_upd_same]; simp
    · rw [e] at z5; exact Ab.heap_upd_ne _ _ (h7 a.block (z5 _ rfl)).2.2
theorem fine38_ok {lo hi b : Nat} {ws : List (List UInt8)} {wr : Bool} (h : Rd base lo hi s b ws wr) (hR : R (.bool (!wr && ws.isEmpty)) s) :
    WC Tryz.prog base 75 [.pointer (some ⟨b, 0, none⟩)] s R := by
  refine WC_open Tryz.func75 rfl ?_
  obtain ⟨v, h1, h2, h3, h4, h5, h6, h7, h8⟩ := h
  have hlen := h2.len (P := Tryz.prog) (ts := []) Ty.elem50 Ty.arr50
  rw [strL_len] at hlen
  cases wr with
  | true => simp (disch := first | omega | ((simp only [nxBScrRead]) <;> omega) | decide) only [↓stepPre, stepPost, ↓W_cond, ↓W_block, ↓reduceIte, Nat.reduceEqDiff, Nat.reduceLT, Nat.reduceLeDiff, ret0, stVar, isTup, Value.cells, Nat.reduceAdd, Nat.reduceMul, Nat.reduceSub, env0, binV, intV, reduceCtorEq, pickV, nilCheckV, ptrV, unV, Rt, resultsV, allV, resV, calleeV, builtinV, eqV, fieldAddrV, ldVar, stN_own, stN_ownL, Int.reduceToNat, Int.reducePow, IntKind.bits, convV, Int.reduceNeg, Int.reduceAdd, Int.reduceSub, Int.reduceLT, Int.reduceLE, extractV, Int.reduceEq, mkFuncV, stBScrRead, spBScrRead, beq_self_eq_true, tyB0ScrRead, getL_take, glBScrRead, h1, hlen, Tryz.results75]; exact hR
  | false =>
    cases ws with
    | nil =>
      have g0 : ((List.length ([] : List (List UInt8)) : Nat) : Int) = 0 := rfl
      simp (disch := first | omega | ((simp only [nxBScrRead]) <;> omega) | decide) only [↓stepPre, stepPost, ↓W_cond, ↓W_block, ↓reduceIte, Nat.reduceEqDiff, Nat.reduceLT, Nat.reduceLeDiff, ret0, stVar, isTup, Value.cells, Nat.reduceAdd, Nat.reduceMul, Nat.reduceSub, env0, binV, intV, reduceCtorEq, pickV, nilCheckV, ptrV, unV, Rt, resultsV, allV, resV, calleeV, builtinV, eqV, fieldAddrV, ldVar, stN_own, stN_ownL, Int.reduceToNat, Int.reducePow, IntKind.bits, convV, Int.reduceNeg, Int.reduceAdd, Int.reduceSub, Int.reduceLT, Int.reduceLE, extractV, Int.reduceEq, mkFuncV, stBScrRead, spBScrRead, beq_self_eq_true, tyB0ScrRead, getL_take, glBScrRead, h1, hlen, g0, eq_self, List.length_nil, Int.ofNat_zero, Tryz.results75]; exact hR
    | cons w ws =>
      have g0 : ¬ ((ws.length + 1 : Nat) : Int) = 0 := by omega
      simp (disch := first | omega | ((simp only [nxBScrRead]) <;> omega) | decide) only [↓stepPre, stepPost, ↓W_cond, ↓W_block, ↓reduceIte, Nat.reduceEqDiff, Nat.reduceLT, Nat.reduceLeDiff, ret0, stVar, isTup, Value.cells, Nat.reduceAdd, Nat.reduceMul, Nat.reduceSub, env0, binV, intV, reduceCtorEq, pickV, nilCheckV, ptrV, unV, Rt, resultsV, allV, resV, calleeV, builtinV, eqV, fieldAddrV, ldVar, stN_own, stN_ownL, Int.reduceToNat, Int.reducePow, IntKind.bits, convV, Int.reduceNeg, Int.reduceAdd, Int.reduceSub, Int.reduceLT, Int.reduceLE, extractV, Int.reduceEq, mkFuncV, stBScrRead, spBScrRead, beq_self_eq_true, tyB0ScrRead, getL_take, glBScrRead, h1, hlen, g0, Tryz.results75]; exact hR
theorem neqStrV38 {l m : List UInt8} : strV .neq (strB l) (strB m) = some (.bool (decide (¬ l = m))) := neqStr (P := Tryz.prog) (t := 9)
theorem partW_lenle (c : UInt8) : ∀ l : List UInt8, ∀ w ∈ partW c l, w.length ≤ l.length := by
  intro l
  induction l with
  | nil => simp [partW]
  | cons d l ih =>
    intro w hw
    unfold partW at hw
    split at hw
    · rcases List.mem_cons.1 hw with rfl | hw
      · simp
      · have := ih w hw; simp; omega
    · split at hw
      · rename_i w1 ws he
        rcases List.mem_cons.1 hw with rfl | hw
        · have := ih w1 (by rw [he]; simp); simp; omega
        · have := ih w (by rw [he]; exact List.mem_cons_of_mem _ hw); simp; omega
      · rename_i he; exact absurd he (partW_ne c l)
theorem open38_ok {x word : List UInt8} (hx : x.length ≤ 1000000) (hbn : base ≤ s.next)
    (hR : ∀ s' b, Mild s s' → Rd base s.next s'.next s' b (partW 32 x).tail (decide (¬ (partW 32 x).headD [] = word)) → R (.pointer (some ⟨b, 0, none⟩)) s') :
    WC Tryz.prog base 72 [.string (strB x), .string (strB word)] s R := by
  refine WC_open Tryz.func72 rfl ?_
  simp (disch := first | omega | ((simp only [nxBScrRead]) <;> omega) | decide) only [↓stepPre, stepPost, ↓W_cond, ↓W_block, ↓reduceIte, Nat.reduceEqDiff, Nat.reduceLT, Nat.reduceLeDiff, ret0, stVar, isTup, Value.cells, Nat.reduceAdd, Nat.reduceMul, Nat.reduceSub, env0, binV, intV, reduceCtorEq, pickV, nilCheckV, ptrV, unV, Rt, resultsV, allV, resV, calleeV, builtinV, eqV, fieldAddrV, ldVar, stN_own, stN_ownL, Int.reduceToNat, Int.reducePow, IntKind.bits, convV, Int.reduceNeg, Int.reduceAdd, Int.reduceSub, Int.reduceLT, Int.reduceLE, extractV, Int.reduceEq, mkFuncV, stBScrRead, spBScrRead, beq_self_eq_true, tyB0ScrRead, getL_take, glBScrRead]
  refine split38_ok hx hbn fun s1 v m1 hv hs => ?_
  obtain ⟨va, vn, vc, rfl⟩ := hs.shape
  simp (disch := first | omega | ((simp only [nxBScrRead]) <;> omega) | decide) only [↓stepPre, stepPost, ↓W_cond, ↓W_block, ↓reduceIte, Nat.reduceEqDiff, Nat.reduceLT, Nat.reduceLeDiff, ret0, stVar, isTup, Value.cells, Nat.reduceAdd, Nat.reduceMul, Nat.reduceSub, env0, binV, intV, reduceCtorEq, pickV, nilCheckV, ptrV, unV, Rt, resultsV, allV, resV, calleeV, builtinV, eqV, fieldAddrV, ldVar, stN_own, stN_ownL, Int.reduceToNat, Int.reducePow, IntKind.bits, convV, Int.reduceNeg, Int.reduceAdd, Int.reduceSub, Int.reduceLT, Int.reduceLE, extractV, Int.reduceEq, mkFuncV, stBScrRead, spBScrRead, beq_self_eq_true, tyB0ScrRead, getL_take, glBScrRead, buildV, fillL]
  have n1 := m1.next
  have hlt := hs.lt
  have rd : Rd base s.next (s1.next + 1) (s1.alloc (.row [.slice va vn vc, .bool false])) s1.next (partW 32 x) false := ⟨_, Ab.heap_alloc_new _ _, hs.mild (Mild.alloc _ _), hbn, n1, by omega, by simp only [Ab.next_alloc]; omega, fun k hk => ⟨hv k hk, by have := hlt k hk; omega, by have := hlt k hk; omega⟩, fun w hw => Nat.le_trans (partW_lenle 32 x w hw) hx⟩
  refine next38_ok rd fun s2 n2 k2 r2 => ?_
  obtain ⟨v2, z1, z2, z3, z4, z5, z6, z7, z8⟩ := r2
  simp only [Ab.next_alloc] at n2 z6
  simp (disch := first | omega | ((simp only [nxBScrRead]) <;> omega) | decide) only [↓stepPre, stepPost, ↓W_cond, ↓W_block, ↓reduceIte, Nat.reduceEqDiff, Nat.reduceLT, Nat.reduceLeDiff, ret0, stVar, isTup, Value.cells, Nat.reduceAdd, Nat.reduceMul, Nat.reduceSub, env0, binV, intV, reduceCtorEq, pickV, nilCheckV, ptrV, unV, Rt, resultsV, allV, resV, calleeV, builtinV, eqV, fieldAddrV, ldVar, stN_own, stN_ownL, Int.reduceToNat, Int.reducePow, IntKind.bits, convV, Int.reduceNeg, Int.reduceAdd, Int.reduceSub, Int.reduceLT, Int.reduceLE, extractV, Int.reduceEq, mkFuncV, stBScrRead, spBScrRead, beq_self_eq_true, tyB0ScrRead, getL_take, glBScrRead, neqStrV38, z1, putAt_row, setL, Tryz.results72]
  refine hR _ _ ⟨by show s.next ≤ s2.next; omega, fun k hk => ?_⟩ ⟨v2, Ab.heap_upd_same _ _ _, z2.frame (fun a n c e => ?_) (Nat.le_refl _), z3, z4, by show _ < s2.next; omega, Nat.le_refl _, fun k hk => ⟨(z7 k hk).1, by show _ < s2.next; have := z7 k hk; omega, (z7 k hk).2.2⟩, z8⟩
  · rw [Ab.heap_upd_ne _ _ (by omega), k2 k (by omega), Ab.heap_alloc_ne _ _ (by omega)]
    exact m1.heap k hk
  · subst e; exact Ab.heap_upd_ne _ _ (z7 a.block rfl).2.2
end Go.Proofs.YthjpfllmecpliaaGreatDoor
/- Numbers read into places (the package script): as contracts. -/
set_option linter.all false
set_option maxRecDepth 20000
namespace Go.Proofs.YthjpfllmecpliaaGreatDoor
open Go Go.Ab
def spBScrNums := And.intro @Nat.le_refl (And.intro @true_and (And.intro @and_true (And.intro @Nat.add_zero (And.intro @Nat.zero_add (And.intro @Bool.not_true (And.intro @Bool.not_false (And.intro @ne_eq.{1} (And.intro @not_false_eq_true (And.intro @not_true_eq_false (And.intro @decide_true (And.intro @decide_false (@Int.fdiv_eq_ediv_of_nonneg))))))))))))
def nxBScrNums := And.intro @Ab.next_alloc (And.intro @Ab.next_upd (And.intro @List.length_cons.{0} (And.intro @List.length_nil.{0} (And.intro @ne_eq.{1} (And.intro not_true_eq_false not_false_eq_true)))))
def tyB0ScrNums := And.intro @Ty.t9 (And.intro @Tryz.underlying9 (And.intro @Ty.t50 (And.intro @Tryz.underlying50 (And.intro @Ty.t128 (And.intro @Tryz.underlying128 (And.intro @Ty.t118 (And.intro @Tryz.underlying118 (And.intro @Ty.t140 (And.intro @Tryz.underlying140 (And.intro @Ty.t143 (And.intro @Tryz.underlying143 (And.intro @Ty.t122 (And.intro @Tryz.underlying122 (And.intro @Ty.t124 (And.intro @Tryz.underlying124 (And.intro @Ty.t5 (And.intro @Tryz.underlying5 (And.intro @Ty.t2 (And.intro @Tryz.underlying2 (And.intro @Ty.t3 (And.intro @Tryz.underlying3 (And.intro @Ty.t4 @Tryz.underlying4))))))))))))))))))))))
def stBScrNums := And.intro @List.size_toArray.{0} (And.intro @List.length_cons.{0} (And.intro @List.length_nil.{0} (And.intro @List.set_cons_zero.{0} (And.intro @List.set_cons_succ.{0} (And.intro @List.getD_cons_zero.{0} (And.intro @List.getD_cons_succ.{0} (And.intro @List.getElem?_cons_succ.{0} (And.intro @List.getElem?_cons_zero.{0} (And.intro @List.map_cons.{0,0} (And.intro @List.map_nil.{0,0} (And.intro @Option.isNone_none.{0} (And.intro @Option.isNone_some.{0} (And.intro @Option.map_some.{0,0} (And.intro @Option.map_none.{0,0} (And.intro @List.cons_append.{0} (And.intro @List.nil_append.{0} (And.intro @List.append_nil.{0} (And.intro @Array.toList_append.{0} (And.intro @List.toList_toArray.{0} (And.intro @Int.cast_ofNat_Int (And.intro @Option.isSome_some.{0} (And.intro @List.getElem?_toArray.{0} (And.intro @List.map_toArray.{0,0} (@Nat.min_eq_left))))))))))))))))))))))))
def glBScrNums := And.intro @List.drop_zero.{0} (And.intro @List.drop_succ_cons.{0} (And.intro @List.take_succ_cons.{0} (And.intro @List.take_zero.{0} (@List.take_nil.{0}))))
variable {base : Nat} [Bok base] {s : St} {R : Value → St → Prop}
def okW (ws : List (List UInt8)) (i : Nat) : Bool := decide (i ≤ ws.length) && (ws.take i).all isNum
theorem isNum_nil : isNum [] = false := by decide
theorem okW_succ (ws : List (List UInt8)) (i : Nat) : okW ws (i + 1) = (okW ws i && isNum ((ws.drop i).headD [])) := by
  unfold okW
  by_cases h : i < ws.length
  · rw [List.take_succ_eq_append_getElem h, List.all_append, List.drop_eq_getElem_cons h]
    have : decide (i + 1 ≤ ws.length) = decide (i ≤ ws.length) := by simp; omega
    rw [this, List.headD_cons]; simp [Bool.and_assoc]
  · rw [List.drop_of_length_le (by omega), List.headD_nil, isNum_nil]
    simp; omega
def setAll : List Value → List Nat → List Nat → List Value
  | L, o :: os, n :: ns => setAll (L.set o (.int .i64 (n : Int))) os ns
  | L, _, _ => L
theorem setAll_snoc : ∀ (os ns : List Nat) (L : List Value) (o n : Nat), os.length = ns.length → setAll L (os ++ [o]) (ns ++ [n]) = (setAll L os ns).set o (.int .i64 (n : Int)) := by
  intro os
  induction os with
  | nil => intro ns L o n h; cases ns with
    | nil => rfl
    | cons => cases h
  | cons a os ih => intro ns L o n h; cases ns with
    | nil => cases h
    | cons m ns => exact ih ns _ o n (by simpa using h)
theorem setAll_len : ∀ (os ns : List Nat) (L : List Value), (setAll L os ns).length = L.length := by
  intro os
  induction os with
  | nil => intro ns L; cases ns <;> rfl
  | cons a os ih => intro ns L; cases ns with
    | nil => rfl
    | cons m ns => rw [setAll, ih]; simp
def ptrL (c : Nat) (offs : List Nat) : List (List Value) := offs.map fun o => [.pointer (some ⟨c, o, none⟩)]
theorem ptrL_len (c : Nat) (offs : List Nat) : (ptrL c offs).length = offs.length := by simp [ptrL]
theorem ptrL_at {c : Nat} {offs : List Nat} {i : Nat} (h : i < offs.length) : (ptrL c offs)[i]? = some [.pointer (some ⟨c, offs[i], none⟩)] := by simp [ptrL, h]
theorem headD_mem {ws : List (List UInt8)} (h : ∀ w ∈ ws, w.length ≤ 1000000) : (ws.headD []).length ≤ 1000000 := by
  cases ws with
  | nil => simp
  | cons w ws => exact h w (by simp)
theorem put1 {M : List Value} {o : Nat} {x : Value} (h : o < M.length) : putAt (.row M) o [x] = some (.row (M.set o x)) := by
  rw [putAt_row (by simp; omega)]; rfl
theorem read38_ok {lo hi b c : Nat} {ws : List (List UInt8)} {wr : Bool} {L : List Value} {offs : List Nat} {v : Value}
    (hr : Rd base lo hi s b ws wr) (hc : base ≤ c) (hcn : c < s.next) (hcF : c < lo ∨ hi ≤ c) (hL : s.heap c = .row L) (ho : ∀ o ∈ offs, o < L.length) (hlo : offs.length ≤ 1000000)
    (hto : Sl base s 1 v (ptrL c offs)) (hv : ∀ k, inB v k → k ≠ c ∧ (k < lo ∨ hi ≤ k))
    (hR : ∀ s' ns, s'.next = s.next → (∀ k, k ≠ b → k ≠ c → s'.heap k = s.heap k) → Rd base lo hi s' b (ws.drop offs.length) (wr || !okW ws offs.length) → s'.heap c = .row (setAll L offs ns) → ns.length = offs.length → (∀ n ∈ ns, n ≤ 2147483647) → (okW ws offs.length = true → ns = (ws.take offs.length).map valL) → R (.tuple #[]) s') :
    WC Tryz.prog base 73 [.pointer (some ⟨b, 0, none⟩), v] s R := by
  refine WC_open Tryz.func73 rfl ?_
  have hb2 : lo ≤ b ∧ b < hi ∧ base ≤ lo := by obtain ⟨v, h1, h2, h3, h4, h5, h6, h7, h8⟩ := hr; exact ⟨h4, h5, h3⟩
  have hbc : b ≠ c := by omega
  have hlen := hto.len (P := Tryz.prog) (ts := []) Ty.elem140 Ty.arr140
  rw [ptrL_len] at hlen
  simp (disch := first | omega | ((simp only [nxBScrNums]) <;> omega) | decide) only [↓stepPre, stepPost, ↓W_cond, ↓W_block, ↓reduceIte, Nat.reduceEqDiff, Nat.reduceLT, Nat.reduceLeDiff, ret0, stVar, isTup, Value.cells, Nat.reduceAdd, Nat.reduceMul, Nat.reduceSub, env0, binV, intV, reduceCtorEq, pickV, nilCheckV, ptrV, unV, Rt, resultsV, allV, resV, calleeV, builtinV, eqV, fieldAddrV, ldVar, stN_own, stN_ownL, Int.reduceToNat, Int.reducePow, IntKind.bits, convV, Int.reduceNeg, Int.reduceAdd, Int.reduceSub, Int.reduceLT, Int.reduceLE, extractV, Int.reduceEq, mkFuncV, stBScrNums, spBScrNums, beq_self_eq_true, tyB0ScrNums, getL_take, glBScrNums, hlen]
  refine W_loop_inv offs.length (fun i e1 t => ∃ ns, t.next = s.next ∧ (∀ k, k ≠ b → k ≠ c → t.heap k = s.heap k) ∧ Rd base lo hi t b (ws.drop i) (wr || !okW ws i) ∧ t.heap c = .row (setAll L (offs.take i) ns) ∧ ns.length = i ∧ (∀ n ∈ ns, n ≤ 2147483647) ∧ (okW ws i = true → ns = (ws.take i).map valL) ∧ e1 0 = .pointer (some ⟨b, 0, none⟩) ∧ e1 8 = v ∧ e1 9 = .int .i64 (offs.length : Int) ∧ e1 10 = .int .i64 (i : Int))
    (fun x e1 t => x = .exit 0 ∧ ∃ ns, t.next = s.next ∧ (∀ k, k ≠ b → k ≠ c → t.heap k = s.heap k) ∧ Rd base lo hi t b (ws.drop offs.length) (wr || !okW ws offs.length) ∧ t.heap c = .row (setAll L offs ns) ∧ ns.length = offs.length ∧ (∀ n ∈ ns, n ≤ 2147483647) ∧ (okW ws offs.length = true → ns = (ws.take offs.length).map valL)) ?_ ?_ ?_
  rotate_left
  · exact ⟨[], rfl, fun _ _ _ => rfl, by simpa [okW] using hr, by rw [hL]; rfl, rfl, by simp, fun _ => rfl, rfl, rfl, rfl, rfl⟩
  · rintro x e1 t ⟨rfl, ns, k1, k2, k3, k4, k5, k6, k7⟩
    simp (disch := first | omega | ((simp only [nxBScrNums]) <;> omega) | decide) only [↓stepPre, stepPost, ↓W_cond, ↓W_block, ↓reduceIte, Nat.reduceEqDiff, Nat.reduceLT, Nat.reduceLeDiff, ret0, stVar, isTup, Value.cells, Nat.reduceAdd, Nat.reduceMul, Nat.reduceSub, env0, binV, intV, reduceCtorEq, pickV, nilCheckV, ptrV, unV, Rt, resultsV, allV, resV, calleeV, builtinV, eqV, fieldAddrV, ldVar, stN_own, stN_ownL, Int.reduceToNat, Int.reducePow, IntKind.bits, convV, Int.reduceNeg, Int.reduceAdd, Int.reduceSub, Int.reduceLT, Int.reduceLE, extractV, Int.reduceEq, mkFuncV, stBScrNums, spBScrNums, beq_self_eq_true, tyB0ScrNums, getL_take, glBScrNums, Tryz.results73]
    exact hR t ns k1 k2 k3 k4 k5 k6 k7
  rintro i e1 t hi' ⟨ns, k1, k2, k3, k4, k5, k6, k7, q0, q8, q9, q10⟩
  by_cases hil : i < offs.length
  rotate_left
  · have g1 : ¬ (i : Int) < (offs.length : Int) := by omega
    obtain rfl : i = offs.length := by omega
    rw [List.take_length] at k4
    simp (disch := first | omega | ((simp only [nxBScrNums]) <;> omega) | decide) only [↓stepPre, stepPost, ↓W_cond, ↓W_block, ↓reduceIte, Nat.reduceEqDiff, Nat.reduceLT, Nat.reduceLeDiff, ret0, stVar, isTup, Value.cells, Nat.reduceAdd, Nat.reduceMul, Nat.reduceSub, env0, binV, intV, reduceCtorEq, pickV, nilCheckV, ptrV, unV, Rt, resultsV, allV, resV, calleeV, builtinV, eqV, fieldAddrV, ldVar, stN_own, stN_ownL, Int.reduceToNat, Int.reducePow, IntKind.bits, convV, Int.reduceNeg, Int.reduceAdd, Int.reduceSub, Int.reduceLT, Int.reduceLE, extractV, Int.reduceEq, mkFuncV, stBScrNums, spBScrNums, beq_self_eq_true, tyB0ScrNums, getL_take, glBScrNums, q0, q8, q9, q10, g1]
    exact ⟨ns, k1, k2, k3, k4, k5, k6, k7⟩
  have g1 : (i : Int) < (offs.length : Int) := by omega
  have hto' : Sl base t 1 v (ptrL c offs) := hto.frame (fun a n cc e => by subst e; have := hv a.block rfl; exact k2 _ (by omega) this.1) (by omega)
  have hix := hto'.index (P := Tryz.prog) (k := .i64) (i := (i : Int)) Ty.elem140 Ty.siz122 (by omega) (by rw [ptrL_len]; omega)
  rw [Int.toNat_natCast] at hix
  have hld := hto'.load1 (P := Tryz.prog) (ptrL_at hil) Ty.agg122 Ty.siz122
  have hoi := ho _ (List.getElem_mem hil)
  have htk : offs.take (i + 1) = offs.take i ++ [offs[i]] := List.take_succ_eq_append_getElem hil
  generalize offs[i] = o at hld hoi htk
  simp (disch := first | omega | ((simp only [nxBScrNums]) <;> omega) | decide) only [↓stepPre, stepPost, ↓W_cond, ↓W_block, ↓reduceIte, Nat.reduceEqDiff, Nat.reduceLT, Nat.reduceLeDiff, ret0, stVar, isTup, Value.cells, Nat.reduceAdd, Nat.reduceMul, Nat.reduceSub, env0, binV, intV, reduceCtorEq, pickV, nilCheckV, ptrV, unV, Rt, resultsV, allV, resV, calleeV, builtinV, eqV, fieldAddrV, ldVar, stN_own, stN_ownL, Int.reduceToNat, Int.reducePow, IntKind.bits, convV, Int.reduceNeg, Int.reduceAdd, Int.reduceSub, Int.reduceLT, Int.reduceLE, extractV, Int.reduceEq, mkFuncV, stBScrNums, spBScrNums, beq_self_eq_true, tyB0ScrNums, getL_take, glBScrNums, q0, q8, q9, q10, g1, hix, hld]
  have hwl := k3.choose_spec.2.2.2.2.2.2.2
  refine next38_ok k3 fun t1 n1 f1 r1 => ?_
  simp (disch := first | omega | ((simp only [nxBScrNums]) <;> omega) | decide) only [↓stepPre, stepPost, ↓W_cond, ↓W_block, ↓reduceIte, Nat.reduceEqDiff, Nat.reduceLT, Nat.reduceLeDiff, ret0, stVar, isTup, Value.cells, Nat.reduceAdd, Nat.reduceMul, Nat.reduceSub, env0, binV, intV, reduceCtorEq, pickV, nilCheckV, ptrV, unV, Rt, resultsV, allV, resV, calleeV, builtinV, eqV, fieldAddrV, ldVar, stN_own, stN_ownL, Int.reduceToNat, Int.reducePow, IntKind.bits, convV, Int.reduceNeg, Int.reduceAdd, Int.reduceSub, Int.reduceLT, Int.reduceLE, extractV, Int.reduceEq, mkFuncV, stBScrNums, spBScrNums, beq_self_eq_true, tyB0ScrNums, getL_take, glBScrNums]
  refine num38_ok (headD_mem hwl) fun n hn hnv => ?_
  obtain ⟨v', z1, z2, z3, z4, z5, z6, z7, z8⟩ := r1
  have hflag : ((wr || !okW ws i) || (ws.drop i).isEmpty || !isNum ((ws.drop i).headD [])) = (wr || !okW ws (i + 1)) := by
    rw [okW_succ]
    cases hd : ws.drop i with
    | nil => rw [List.headD_nil, isNum_nil]; simp
    | cons w r => cases wr <;> cases okW ws i <;> simp
  have hheap : t1.heap c = .row (setAll L (offs.take i) ns) := (f1 c (by omega)).trans k4
  have hput := put1 (M := setAll L (offs.take i) ns) (o := o) (x := .int .i64 (n : Int)) (by rw [setAll_len]; exact hoi)
  have hsn := setAll_snoc (offs.take i) ns L o n (by rw [List.length_take]; omega)
  rw [← htk] at hsn
  rw [← hsn] at hput
  have hval : okW ws (i + 1) = true → ns ++ [n] = (ws.take (i + 1)).map valL := fun h => by
    have h' := h
    rw [okW_succ, Bool.and_eq_true] at h
    unfold okW at h'
    simp only [Bool.and_eq_true, decide_eq_true_eq] at h'
    have hi2 : i < ws.length := by omega
    have e : (ws.drop i).headD [] = ws[i] := by rw [List.drop_eq_getElem_cons hi2]; rfl
    rw [k7 h.1, hnv h.2, e, List.take_succ_eq_append_getElem hi2]; simp only [List.map_append, List.map_cons, List.map_nil]
  have hall : ∀ x ∈ ns ++ [n], x ≤ 2147483647 := fun x hx => by
    rcases List.mem_append.1 hx with hx | hx
    · exact k6 x hx
    · obtain rfl := List.mem_singleton.1 hx; exact hn
  have fin : ∀ B, B = (wr || !okW ws (i + 1)) → ∀ t3, t3 = ((t1.upd b (.row [v', .bool B])).upd c (.row (setAll L (offs.take (i + 1)) (ns ++ [n])))) → t3.next = s.next ∧ (∀ k, k ≠ b → k ≠ c → t3.heap k = s.heap k) ∧ Rd base lo hi t3 b (ws.drop (i + 1)) (wr || !okW ws (i + 1)) ∧ t3.heap c = .row (setAll L (offs.take (i + 1)) (ns ++ [n])) := by
    rintro B rfl t3 rfl
    refine ⟨by show t1.next = _; omega, fun k hk1 hk2 => ?_, ⟨v', ?_, ?_, z3, z4, z5, z6, z7, ?_⟩, Ab.heap_upd_same _ _ _⟩
    · rw [Ab.heap_upd_ne _ _ hk2, Ab.heap_upd_ne _ _ hk1, f1 k hk1, k2 k hk1 hk2]
    · rw [Ab.heap_upd_ne _ _ hbc, Ab.heap_upd_same]
    · rw [← List.tail_drop]
      refine z2.frame (fun a m cc e => ?_) (Nat.le_refl _)
      subst e
      have := z7 a.block rfl
      rw [Ab.heap_upd_ne _ _ (by omega), Ab.heap_upd_ne _ _ this.2.2]
    · rw [← List.tail_drop]; exact z8
  generalize ((wr || !okW ws i) || (ws.drop i).isEmpty) = B at z1 hflag
  generalize isNum ((ws.drop i).headD []) = N at hflag hnv
  have cne : c ≠ b := fun e => hbc e.symm
  cases B with
  | true =>
    obtain ⟨y1, y2, y3, y4⟩ := fin true (by rw [← hflag]; rfl) _ rfl
    simp (disch := first | omega | ((simp only [nxBScrNums]) <;> omega) | decide) only [↓stepPre, stepPost, ↓W_cond, ↓W_block, ↓reduceIte, Nat.reduceEqDiff, Nat.reduceLT, Nat.reduceLeDiff, ret0, stVar, isTup, Value.cells, Nat.reduceAdd, Nat.reduceMul, Nat.reduceSub, env0, binV, intV, reduceCtorEq, pickV, nilCheckV, ptrV, unV, Rt, resultsV, allV, resV, calleeV, builtinV, eqV, fieldAddrV, ldVar, stN_own, stN_ownL, Int.reduceToNat, Int.reducePow, IntKind.bits, convV, Int.reduceNeg, Int.reduceAdd, Int.reduceSub, Int.reduceLT, Int.reduceLE, extractV, Int.reduceEq, mkFuncV, stBScrNums, spBScrNums, beq_self_eq_true, tyB0ScrNums, getL_take, glBScrNums, q0, q8, q9, q10, z1, hheap, hput, putAt_row, setL]
    exact ⟨hil, ns ++ [n], y1, y2, y3, rfl, by simp [k5], hall, hval, by simp⟩
  | false =>
    cases N with
    | true =>
      obtain ⟨y1, y2, y3, y4⟩ := fin false (by rw [← hflag]; rfl) _ rfl
      simp (disch := first | omega | ((simp only [nxBScrNums]) <;> omega) | decide) only [↓stepPre, stepPost, ↓W_cond, ↓W_block, ↓reduceIte, Nat.reduceEqDiff, Nat.reduceLT, Nat.reduceLeDiff, ret0, stVar, isTup, Value.cells, Nat.reduceAdd, Nat.reduceMul, Nat.reduceSub, env0, binV, intV, reduceCtorEq, pickV, nilCheckV, ptrV, unV, Rt, resultsV, allV, resV, calleeV, builtinV, eqV, fieldAddrV, ldVar, stN_own, stN_ownL, Int.reduceToNat, Int.reducePow, IntKind.bits, convV, Int.reduceNeg, Int.reduceAdd, Int.reduceSub, Int.reduceLT, Int.reduceLE, extractV, Int.reduceEq, mkFuncV, stBScrNums, spBScrNums, beq_self_eq_true, tyB0ScrNums, getL_take, glBScrNums, q0, q8, q9, q10, z1, hheap, hput, putAt_row, setL]
      exact ⟨hil, ns ++ [n], y1, y2, y3, rfl, by simp [k5], hall, hval, by simp⟩
    | false =>
      obtain ⟨y1, y2, y3, y4⟩ := fin true (by rw [← hflag]; rfl) _ rfl
      simp (disch := first | omega | ((simp only [nxBScrNums]) <;> omega) | decide) only [↓stepPre, stepPost, ↓W_cond, ↓W_block, ↓reduceIte, Nat.reduceEqDiff, Nat.reduceLT, Nat.reduceLeDiff, ret0, stVar, isTup, Value.cells, Nat.reduceAdd, Nat.reduceMul, Nat.reduceSub, env0, binV, intV, reduceCtorEq, pickV, nilCheckV, ptrV, unV, Rt, resultsV, allV, resV, calleeV, builtinV, eqV, fieldAddrV, ldVar, stN_own, stN_ownL, Int.reduceToNat, Int.reducePow, IntKind.bits, convV, Int.reduceNeg, Int.reduceAdd, Int.reduceSub, Int.reduceLT, Int.reduceLE, extractV, Int.reduceEq, mkFuncV, stBScrNums, spBScrNums, beq_self_eq_true, tyB0ScrNums, getL_take, glBScrNums, q0, q8, q9, q10, z1, hheap, hput, putAt_row, setL]
      exact ⟨hil, ns ++ [n], y1, y2, y3, rfl, by simp [k5], hall, hval, by simp⟩
theorem build1p {s : St} {a : Addr} : buildSliceV Tryz.prog s 140 1 [(0, .pointer (some a))] = some (.slice (some ⟨s.next, 0, none⟩) 1 1, s.alloc (.row [.pointer (some a)])) := by
  simp [buildSliceV, Ty.elem140, Ty.siz122, Ty.zer122, fillL, isTup, Value.cells, repL, setL]
theorem long38_ok {lo hi b c : Nat} {ws : List (List UInt8)} {wr : Bool} {L : List Value} {offs : List Nat} {v : Value}
    (hr : Rd base lo hi s b ws wr) (hc : base ≤ c) (hcn : c < s.next) (hcF : c < lo ∨ hi ≤ c) (hL : s.heap c = .row L) (ho : ∀ o ∈ offs, o < L.length) (hlo : offs.length ≤ 1000000)
    (hto : Sl base s 1 v (ptrL c offs)) (hv : ∀ k, inB v k → k ≠ c ∧ (k < lo ∨ hi ≤ k))
    (hR : ∀ s' ns, s.next ≤ s'.next → (∀ k, k < s.next → k ≠ b → k ≠ c → s'.heap k = s.heap k) → Rd base lo hi s' b (ws.drop offs.length) (wr || !okW ws offs.length) → s'.heap c = .row (setAll L offs ns) → ns.length = offs.length → (∀ n ∈ ns, n ≤ 2147483647) → (okW ws offs.length = true → ns = (ws.take offs.length).map valL) → R (.tuple #[]) s') :
    WC Tryz.prog base 74 [.pointer (some ⟨b, 0, none⟩), v] s R := by
  refine WC_open Tryz.func74 rfl ?_
  have hb2 : lo ≤ b ∧ b < hi ∧ base ≤ lo ∧ hi ≤ s.next := by obtain ⟨v, h1, h2, h3, h4, h5, h6, h7, h8⟩ := hr; exact ⟨h4, h5, h3, h6⟩
  have hbc : b ≠ c := by omega
  have hvn := hto.lt
  have hlen := hto.len (P := Tryz.prog) (ts := []) Ty.elem143 Ty.arr143
  rw [ptrL_len] at hlen
  simp (disch := first | omega | ((simp only [nxBScrNums]) <;> omega) | decide) only [↓stepPre, stepPost, ↓W_cond, ↓W_block, ↓reduceIte, Nat.reduceEqDiff, Nat.reduceLT, Nat.reduceLeDiff, ret0, stVar, isTup, Value.cells, Nat.reduceAdd, Nat.reduceMul, Nat.reduceSub, env0, binV, intV, reduceCtorEq, pickV, nilCheckV, ptrV, unV, Rt, resultsV, allV, resV, calleeV, builtinV, eqV, fieldAddrV, ldVar, stN_own, stN_ownL, Int.reduceToNat, Int.reducePow, IntKind.bits, convV, Int.reduceNeg, Int.reduceAdd, Int.reduceSub, Int.reduceLT, Int.reduceLE, extractV, Int.reduceEq, mkFuncV, stBScrNums, spBScrNums, beq_self_eq_true, tyB0ScrNums, getL_take, glBScrNums, hlen]
  refine W_loop_inv offs.length (fun i e1 t => ∃ ns, s.next ≤ t.next ∧ (∀ k, k < s.next → k ≠ b → k ≠ c → t.heap k = s.heap k) ∧ Rd base lo hi t b (ws.drop i) (wr || !okW ws i) ∧ t.heap c = .row (setAll L (offs.take i) ns) ∧ ns.length = i ∧ (∀ n ∈ ns, n ≤ 2147483647) ∧ (okW ws i = true → ns = (ws.take i).map valL) ∧ e1 0 = .pointer (some ⟨b, 0, none⟩) ∧ e1 7 = v ∧ e1 8 = .int .i64 (offs.length : Int) ∧ e1 9 = .int .i64 (i : Int))
    (fun x e1 t => x = .exit 0 ∧ ∃ ns, s.next ≤ t.next ∧ (∀ k, k < s.next → k ≠ b → k ≠ c → t.heap k = s.heap k) ∧ Rd base lo hi t b (ws.drop offs.length) (wr || !okW ws offs.length) ∧ t.heap c = .row (setAll L offs ns) ∧ ns.length = offs.length ∧ (∀ n ∈ ns, n ≤ 2147483647) ∧ (okW ws offs.length = true → ns = (ws.take offs.length).map valL)) ?_ ?_ ?_
  rotate_left
  · exact ⟨[], Nat.le_refl _, fun _ _ _ _ => rfl, by simpa [okW] using hr, by rw [hL]; rfl, rfl, by simp, fun _ => rfl, rfl, rfl, rfl, rfl⟩
  · rintro x e1 t ⟨rfl, ns, k1, k2, k3, k4, k5, k6, k7⟩
    simp (disch := first | omega | ((simp only [nxBScrNums]) <;> omega) | decide) only [↓stepPre, stepPost, ↓W_cond, ↓W_block, ↓reduceIte, Nat.reduceEqDiff, Nat.reduceLT, Nat.reduceLeDiff, ret0, stVar, isTup, Value.cells, Nat.reduceAdd, Nat.reduceMul, Nat.reduceSub, env0, binV, intV, reduceCtorEq, pickV, nilCheckV, ptrV, unV, Rt, resultsV, allV, resV, calleeV, builtinV, eqV, fieldAddrV, ldVar, stN_own, stN_ownL, Int.reduceToNat, Int.reducePow, IntKind.bits, convV, Int.reduceNeg, Int.reduceAdd, Int.reduceSub, Int.reduceLT, Int.reduceLE, extractV, Int.reduceEq, mkFuncV, stBScrNums, spBScrNums, beq_self_eq_true, tyB0ScrNums, getL_take, glBScrNums, Tryz.results74]
    exact hR t ns k1 k2 k3 k4 k5 k6 k7
  rintro i e1 t hi' ⟨ns, k1, k2, k3, k4, k5, k6, k7, q0, q7, q8, q9⟩
  by_cases hil : i < offs.length
  rotate_left
  · have g1 : ¬ (i : Int) < (offs.length : Int) := by omega
    obtain rfl : i = offs.length := by omega
    rw [List.take_length] at k4
    simp (disch := first | omega | ((simp only [nxBScrNums]) <;> omega) | decide) only [↓stepPre, stepPost, ↓W_cond, ↓W_block, ↓reduceIte, Nat.reduceEqDiff, Nat.reduceLT, Nat.reduceLeDiff, ret0, stVar, isTup, Value.cells, Nat.reduceAdd, Nat.reduceMul, Nat.reduceSub, env0, binV, intV, reduceCtorEq, pickV, nilCheckV, ptrV, unV, Rt, resultsV, allV, resV, calleeV, builtinV, eqV, fieldAddrV, ldVar, stN_own, stN_ownL, Int.reduceToNat, Int.reducePow, IntKind.bits, convV, Int.reduceNeg, Int.reduceAdd, Int.reduceSub, Int.reduceLT, Int.reduceLE, extractV, Int.reduceEq, mkFuncV, stBScrNums, spBScrNums, beq_self_eq_true, tyB0ScrNums, getL_take, glBScrNums, q0, q7, q8, q9, g1]
    exact ⟨ns, k1, k2, k3, k4, k5, k6, k7⟩
  have g1 : (i : Int) < (offs.length : Int) := by omega
  have hto' : Sl base t 1 v (ptrL c offs) := hto.frame (fun a n cc e => by subst e; have := hv a.block rfl; exact k2 _ (hvn a.block rfl) (by omega) this.1) (by omega)
  have hix := hto'.index (P := Tryz.prog) (k := .i64) (i := (i : Int)) Ty.elem143 Ty.siz124 (by omega) (by rw [ptrL_len]; omega)
  rw [Int.toNat_natCast] at hix
  have hld := hto'.load1 (P := Tryz.prog) (ptrL_at hil) Ty.agg124 Ty.siz124
  have hoi := ho _ (List.getElem_mem hil)
  have htk : offs.take (i + 1) = offs.take i ++ [offs[i]] := List.take_succ_eq_append_getElem hil
  generalize offs[i] = o at hld hoi htk
  simp (disch := first | omega | ((simp only [nxBScrNums]) <;> omega) | decide) only [↓stepPre, stepPost, ↓W_cond, ↓W_block, ↓reduceIte, Nat.reduceEqDiff, Nat.reduceLT, Nat.reduceLeDiff, ret0, stVar, isTup, Value.cells, Nat.reduceAdd, Nat.reduceMul, Nat.reduceSub, env0, binV, intV, reduceCtorEq, pickV, nilCheckV, ptrV, unV, Rt, resultsV, allV, resV, calleeV, builtinV, eqV, fieldAddrV, ldVar, stN_own, stN_ownL, Int.reduceToNat, Int.reducePow, IntKind.bits, convV, Int.reduceNeg, Int.reduceAdd, Int.reduceSub, Int.reduceLT, Int.reduceLE, extractV, Int.reduceEq, mkFuncV, stBScrNums, spBScrNums, beq_self_eq_true, tyB0ScrNums, getL_take, glBScrNums, q0, q7, q8, q9, g1, hix, hld, build1p]
  have k3' : Rd base lo hi ((t.alloc (.row [.int .i64 0])).alloc (.row [.pointer (some ⟨t.next, 0, none⟩)])) b (ws.drop i) (wr || !okW ws i) := k3.keep (fun k h1 h2 => by rw [Ab.heap_alloc_ne _ _ (by simp only [Ab.next_alloc]; omega), Ab.heap_alloc_ne _ _ (by omega)]) (by simp only [Ab.next_alloc]; omega)
  have hm0 : ((t.alloc (.row [.int .i64 0])).alloc (.row [.pointer (some ⟨t.next, 0, none⟩)])).heap t.next = .row [.int .i64 0] := by rw [Ab.heap_alloc_ne _ _ (by simp only [Ab.next_alloc]; omega)]; exact Ab.heap_alloc_new _ _
  have hp0 : Sl base ((t.alloc (.row [.int .i64 0])).alloc (.row [.pointer (some ⟨t.next, 0, none⟩)])) 1 (.slice (some ⟨t.next + 1, 0, none⟩) 1 1) (ptrL t.next [0]) := .newRow (Ab.heap_alloc_new _ _) rfl rfl (by simp [ptrL]) (by omega) (by simp only [Ab.next_alloc]; omega)
  have fr0 : ∀ k, k < t.next → ((t.alloc (.row [.int .i64 0])).alloc (.row [.pointer (some ⟨t.next, 0, none⟩)])).heap k = t.heap k := fun k hk => by rw [Ab.heap_alloc_ne _ _ (by simp only [Ab.next_alloc]; omega), Ab.heap_alloc_ne _ _ (by omega)]
  have nx0 : ((t.alloc (.row [.int .i64 0])).alloc (.row [.pointer (some ⟨t.next, 0, none⟩)])).next = t.next + 2 := rfl
  generalize (t.alloc (.row [.int .i64 0])).alloc (.row [.pointer (some ⟨t.next, 0, none⟩)]) = t0 at k3' hm0 hp0 fr0 nx0 ⊢
  refine read38_ok (offs := [0]) k3' (by omega) (by omega) (.inr (by omega)) hm0 (by simp) (by simp) hp0 (fun k hk => by simp only [inB] at hk; omega) fun t1 ms n1 f1 r1 h1 l1 b1 v1 => ?_
  obtain ⟨n, rfl⟩ : ∃ n, ms = [n] := by
    match ms, l1 with
    | [n], _ => exact ⟨n, rfl⟩
  have hn : n ≤ 2147483647 := b1 n (by simp)
  have h1 : t1.heap t.next = .row [.int .i64 (n : Int)] := h1
  have hN : okW (ws.drop i) 1 = isNum ((ws.drop i).headD []) := by rw [okW_succ]; simp [okW]
  have r1 : Rd base lo hi t1 b (ws.drop (i + 1)) (wr || !okW ws (i + 1)) := by
    have : (wr || !okW ws (i + 1)) = (wr || !okW ws i || !okW (ws.drop i) [0].length) := by
      show _ = (wr || !okW ws i || !okW (ws.drop i) 1)
      rw [hN, okW_succ]; cases wr <;> cases okW ws i <;> simp
    rw [this]
    have := r1
    rw [List.drop_drop] at this
    exact this
  have hheap : t1.heap c = .row (setAll L (offs.take i) ns) := by rw [f1 c (by omega) (by omega), fr0 c (by omega)]; exact k4
  have hput := put1 (M := setAll L (offs.take i) ns) (o := o) (x := .int .i64 (n : Int)) (by rw [setAll_len]; exact hoi)
  have hsn := setAll_snoc (offs.take i) ns L o n (by rw [List.length_take]; omega)
  rw [← htk] at hsn
  rw [← hsn] at hput
  have hval : okW ws (i + 1) = true → ns ++ [n] = (ws.take (i + 1)).map valL := fun h => by
    have h' := h
    rw [okW_succ, Bool.and_eq_true] at h
    unfold okW at h'
    simp only [Bool.and_eq_true, decide_eq_true_eq] at h'
    have hi2 : i < ws.length := by omega
    have e : ws.drop i = ws[i] :: ws.drop (i + 1) := List.drop_eq_getElem_cons hi2
    have hn2 := v1 (by show okW (ws.drop i) 1 = true; rw [hN]; exact h.2)
    rw [e] at hn2
    have hn2 : n = valL ws[i] := (List.cons.inj hn2).1
    rw [k7 h.1, hn2, List.take_succ_eq_append_getElem hi2]; simp only [List.map_append, List.map_cons, List.map_nil]
  have hall : ∀ x ∈ ns ++ [n], x ≤ 2147483647 := fun x hx => by
    rcases List.mem_append.1 hx with hx | hx
    · exact k6 x hx
    · obtain rfl := List.mem_singleton.1 hx; exact hn
  have r2 : Rd base lo hi (t1.upd c (.row (setAll L (offs.take (i + 1)) (ns ++ [n])))) b (ws.drop (i + 1)) (wr || !okW ws (i + 1)) := r1.keep (fun k hk1 hk2 => Ab.heap_upd_ne _ _ (by omega)) (Nat.le_refl _)
  simp (disch := first | omega | ((simp only [nxBScrNums]) <;> omega) | decide) only [↓stepPre, stepPost, ↓W_cond, ↓W_block, ↓reduceIte, Nat.reduceEqDiff, Nat.reduceLT, Nat.reduceLeDiff, ret0, stVar, isTup, Value.cells, Nat.reduceAdd, Nat.reduceMul, Nat.reduceSub, env0, binV, intV, reduceCtorEq, pickV, nilCheckV, ptrV, unV, Rt, resultsV, allV, resV, calleeV, builtinV, eqV, fieldAddrV, ldVar, stN_own, stN_ownL, Int.reduceToNat, Int.reducePow, IntKind.bits, convV, Int.reduceNeg, Int.reduceAdd, Int.reduceSub, Int.reduceLT, Int.reduceLE, extractV, Int.reduceEq, mkFuncV, stBScrNums, spBScrNums, beq_self_eq_true, tyB0ScrNums, getL_take, glBScrNums, q0, q7, q8, q9, h1, hheap, hput]
  exact ⟨hil, ns ++ [n], by omega, fun k a1 a2 a3 => by rw [Ab.heap_upd_ne _ _ a3, f1 k a2 (by omega), fr0 k (by omega)]; exact k2 k a1 a2 a3, r2, rfl, by simp [k5], hall, hval, by simp⟩
end Go.Proofs.YthjpfllmecpliaaGreatDoor
