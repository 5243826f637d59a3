/- Scripts' texts: all lines, one behind the other (plain). -/
import Derived.Test.YthjpfllmecpliaaDoorTypes
import Derived.Test.YthjpfllmecpliaaDoorRow0
import Derived.Test.YthjpfllmecpliaaDoorAbC
import Derived.Test.YthjpfllmecpliaaDoorBits
import Derived.Test.YthjpfllmecpliaaDoorAsks
import Derived.Test.YthjpfllmecpliaaDoorBoxes
import Derived.Test.YthjpfllmecpliaaDoorScrBackB
set_option linter.all false
set_option maxRecDepth 20000
namespace Go.Proofs.YthjpfllmecpliaaDoor
open Go Go.Ab
/-- Lines, read one behind the other. -/
def runL : Nat → Pl → List Ac → List (List UInt8) → Int × Nat × Pl × List Ac
  | at_, p, l, [] => (0, at_, p, l)
  | at_, p, l, x :: xs => if (lineF at_ p l x).1 ≠ 0 then ((lineF at_ p l x).1, at_, p, l) else runL (at_ + 1) (lineF at_ p l x).2.1 (lineF at_ p l x).2.2 xs
theorem lfT_cons (x : List UInt8) (xs : List (List UInt8)) (r : List UInt8) : lfT (x :: xs) ++ r = x ++ 10 :: (lfT xs ++ r) := by simp [lfT]
theorem lfT_app (xs ys : List (List UInt8)) : lfT (xs ++ ys) = lfT xs ++ lfT ys := by simp [lfT]
theorem lfT_big : ∀ xs : List (List UInt8), xs.length ≤ (lfT xs).length := by
  intro xs
  induction xs with
  | nil => simp
  | cons x xs ih => unfold lfT at *; simp only [List.flatMap_cons, List.length_append, List.length_cons, List.length_nil]; omega
theorem parse_run : ∀ (xs : List (List UInt8)) (at_ : Nat) (p : Pl) (l : List Ac) (f : Nat) (r : List UInt8) (a' : Nat) (p' : Pl) (l' : List Ac), (∀ x ∈ xs, x.count 10 = 0) → runL at_ p l xs = (0, a', p', l') →
    parseL (xs.length + f) at_ p l (lfT xs ++ r) = parseL f a' p' l' r := by
  intro xs
  induction xs with
  | nil => intro at_ p l f r a' p' l' _ h; simp only [runL, Prod.mk.injEq] at h; obtain ⟨-, rfl, rfl, rfl⟩ := h; simp [lfT]
  | cons x xs ih =>
    intro at_ p l f r a' p' l' hx h
    rw [lfT_cons, List.length_cons, show xs.length + 1 + f = (xs.length + f) + 1 by omega, parseL, if_neg (by simp), if_neg (by simp), cut_app _ (hx x (by simp))]
    simp only
    unfold runL at h
    split at h
    · rename_i h1; simp only [Prod.mk.injEq] at h; exact absurd h.1 h1
    · rename_i h1
      rw [if_neg h1]
      exact ih _ _ _ _ _ _ _ _ (fun y hy => hx y (by simp [hy])) h
theorem run_app : ∀ (xs ys : List (List UInt8)) (at_ : Nat) (p : Pl) (l : List Ac) (a' : Nat) (p' : Pl) (l' : List Ac), runL at_ p l xs = (0, a', p', l') → runL at_ p l (xs ++ ys) = runL a' p' l' ys := by
  intro xs
  induction xs with
  | nil => intro ys at_ p l a' p' l' h; simp only [runL, Prod.mk.injEq] at h; obtain ⟨-, rfl, rfl, rfl⟩ := h; rfl
  | cons x xs ih =>
    intro ys at_ p l a' p' l' h
    rw [List.cons_append, runL]
    rw [runL] at h
    split at h
    · rename_i h1; simp only [Prod.mk.injEq] at h; exact absurd h.1 h1
    · rename_i h1; rw [if_neg h1]; exact ih _ _ _ _ _ _ _ h
theorem run_take : ∀ (xs ys : List (List UInt8)) (at_ : Nat) (p : Pl) (l : List Ac) (a' : Nat) (p' : Pl) (l' : List Ac), runL at_ p l (xs ++ ys) = (0, a', p', l') → ∃ p1 l1, runL at_ p l xs = (0, at_ + xs.length, p1, l1) := by
  intro xs
  induction xs with
  | nil => intro ys at_ p l a' p' l' h; exact ⟨p, l, rfl⟩
  | cons x xs ih =>
    intro ys at_ p l a' p' l' h
    rw [List.cons_append] at h
    unfold runL at h ⊢
    split at h
    · rename_i h1; simp only [Prod.mk.injEq] at h; exact absurd h.1 h1
    · rename_i h1
      rw [if_neg h1]
      obtain ⟨p1, l1, h2⟩ := ih _ _ _ _ _ _ _ h
      exact ⟨p1, l1, by rw [h2, List.length_cons]; congr 2; omega⟩
theorem headW_no (at_ : Nat) : (headW at_).count 32 = 0 ∧ (headW at_).count 10 = 0 := by
  unfold headW; split <;> decide
theorem map_val (ns : List Nat) : (ns.map digL).map valL = ns := by
  rw [List.map_map]
  have : (valL ∘ digL) = id := funext fun n => valL_digL n
  rw [this, List.map_id]
theorem head_line {at_ : Nat} {q : Pl} {ns : List Nat} (hat : at_ < 6) (hl : ns.length = (headO at_).length) (hn : ∀ n ∈ ns, n ≤ 2147483647) : lineF at_ q [] (rowL (headW at_) ns) = (0, headP at_ q ns, []) := by
  unfold lineF
  rw [if_pos hat]
  have : headB at_ (rowL (headW at_) ns) = true := by unfold headB; rw [← hl]; exact lineB_row (headW_no at_).1 hn
  rw [if_pos this, partW_row _ _ (headW_no at_).1, List.tail_cons, map_val]
theorem run_one {at_ : Nat} {p q : Pl} {l m : List Ac} {x : List UInt8} {xs : List (List UInt8)} (h : lineF at_ p l x = (0, q, m)) : runL at_ p l (x :: xs) = runL (at_ + 1) q m xs := by
  rw [runL, h]; simp
theorem run_head {p : Pl} (h : plFine p) : runL 0 pl0 [] (row6 p) = (0, 6, { p with xs := [] }, []) := by
  have f1 := h.no; have f2 := h.len; have f3 := h.rm; have f4 := h.nm; have f5 := h.dr; have f6 := h.tu; have f7 := h.ba; have f8 := h.st; have f9 := h.pe
  unfold row6
  refine (run_one (head_line (at_ := 0) (ns := [p.no.toNat]) (by omega) rfl (by simp; omega))).trans ?_
  refine (run_one (head_line (at_ := 1) (ns := [p.len.toNat]) (by omega) rfl (by simp; omega))).trans ?_
  refine (run_one (head_line (at_ := 2) (ns := [p.rm.toNat]) (by omega) rfl (by simp; omega))).trans ?_
  refine (run_one (head_line (at_ := 3) (ns := [p.nm.toNat, p.dr.toNat]) (by omega) rfl (by simp; omega))).trans ?_
  refine (run_one (head_line (at_ := 4) (ns := [p.tu.toNat]) (by omega) rfl (by simp; omega))).trans ?_
  refine (run_one (head_line (at_ := 5) (ns := [p.ba.toNat, p.st.toNat, p.pe.toNat]) (by omega) rfl (by simp; omega))).trans ?_
  unfold runL
  obtain ⟨a, b, c, d, e, f, g, i, j, xs⟩ := p
  simp only [headP, pl0, List.getD_cons_zero, List.getD_cons_succ, Prod.mk.injEq, Pl.mk.injEq, true_and, and_true] at *
  omega
theorem run_streams : ∀ (B A : List Sm) (at_ : Nat) (p : Pl), (∀ x ∈ B, smFine x) → 6 ≤ at_ → A.length + B.length ≤ 64 → runL at_ { p with xs := A } [] (B.map streamL) = (0, at_ + B.length, { p with xs := A ++ B }, []) := by
  intro B
  induction B with
  | nil => intro A at_ p _ _ _; simp [runL]
  | cons x B ih =>
    intro A at_ p hf hat hn
    rw [List.length_cons] at hn
    obtain ⟨h1, h2⟩ := stream_back (hf x (by simp))
    have hl : lineF at_ { p with xs := A } [] (streamL x) = (0, { p with xs := A ++ [x] }, []) := by
      unfold lineF
      rw [if_neg (by omega), if_pos ⟨h1, rfl, by simp only; omega⟩, h2]
    rw [List.map_cons, run_one hl, ih (A ++ [x]) _ p (fun y hy => hf y (by simp [hy])) (by omega) (by simp; omega)]
    simp only [List.length_cons, List.append_assoc, List.singleton_append]
    congr 2; omega
theorem run_acts : ∀ (M L : List Ac) (at_ : Nat) (p : Pl), (∀ a ∈ M, a.good ∧ a.right = true) → 6 ≤ at_ → L.length + M.length ≤ 1024 → runL at_ p L (M.map Ac.line) = (0, at_ + M.length, p, L ++ M) := by
  intro M
  induction M with
  | nil => intro L at_ p _ _ _; simp [runL]
  | cons a M ih =>
    intro L at_ p hf hat hn
    rw [List.length_cons] at hn
    obtain ⟨g1, g2⟩ := hf a (by simp)
    obtain ⟨h1, h2⟩ := act_back g1 g2
    have hl : lineF at_ p L a.line = (0, p, L ++ [a]) := by
      unfold lineF
      rw [if_neg (by omega), if_neg (by rw [not_both h1]; simp), if_pos ⟨h1, by omega⟩, h2]
    rw [List.map_cons, run_one hl, ih (L ++ [a]) _ p (fun y hy => hf y (by simp [hy])) (by omega) (by simp; omega)]
    simp only [List.length_cons, List.append_assoc, List.singleton_append]
    congr 2; omega
theorem run_all {p : Pl} {l : List Ac} (h : plFine p) (hl : ∀ a ∈ l, a.good ∧ a.right = true) (hn : l.length ≤ 1024) : runL 0 pl0 [] (allL p l) = (0, 6 + p.xs.length + l.length, p, l) := by
  unfold allL
  have hx := h.xs
  rw [List.append_assoc, run_app _ _ _ _ _ _ _ _ (run_head h), run_app _ _ _ _ _ _ _ _ (run_streams p.xs [] 6 p h.fine (by omega) (by simpa using hx)), run_acts l [] _ _ hl (by omega) (by simpa using hn)]
  rfl
/-! ### No line has a line feed within -/
theorem line_no {a : Ac} : a.line.count 10 = 0 := by
  show (lineA a.k a.K a.N a.ds).count 10 = 0
  unfold lineA
  split
  · rw [List.count_append, rowL_no (by decide) (by decide) _ (word_no (by decide) (by decide) _)]
    split
    · rw [List.count_cons_of_ne (by decide), hxT_no (by decide)]
    · rfl
  · rfl
theorem stream_no (x : Sm) : (streamL x).count 10 = 0 := by
  have hc : (classL x.cl).count 10 = 0 := by
    unfold classL
    repeat' split
    all_goals decide
  unfold streamL
  rw [List.count_append, rowL_no (by decide) (by decide) _ (by decide), List.count_cons_of_ne (by decide), rowL_no (by decide) (by decide) _ hc]
theorem all_no (p : Pl) (l : List Ac) : ∀ x ∈ allL p l, x.count 10 = 0 := by
  intro x hx
  unfold allL at hx
  rcases List.mem_append.1 hx with hx | hx
  · rcases List.mem_append.1 hx with hx | hx
    · simp only [row6, List.mem_cons, List.not_mem_nil, or_false] at hx
      rcases hx with rfl | rfl | rfl | rfl | rfl | rfl
      all_goals exact rowL_no (by decide) (by decide) _ (by decide)
    · obtain ⟨y, -, rfl⟩ := List.mem_map.1 hx; exact stream_no y
  · obtain ⟨y, -, rfl⟩ := List.mem_map.1 hx; exact line_no
theorem printE_off {p : Pl} {l : List Ac} (h : plChk p = 0) (hn : l.length ≤ 1024) (hr : ∀ a ∈ l, a.right = true) : printE p l = 0 := by
  unfold printE
  rw [if_neg (fun hh => hh h), if_neg (by omega)]
  cases hf : fwd (badI l) 0 l.length with
  | none => rfl
  | some j =>
    obtain ⟨h1, h2, h3, -⟩ := fwd_some hf
    rw [badI_eq (by omega), if_pos (hr _ (List.getElem_mem _))] at h3
    exact absurd rfl h3
/-! ### What is read is written so again -/
end Go.Proofs.YthjpfllmecpliaaDoor
