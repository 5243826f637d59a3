/- Scripts' texts: all lines, one behind the other (plain). -/
import Derived.Test.YthjpfllmecpliaaDoorTypes
import Derived.Test.YthjpfllmecpliaaDoorRow0
import Derived.Test.YthjpfllmecpliaaDoorAbC
import Derived.Test.YthjpfllmecpliaaDoorBits
import Derived.Test.YthjpfllmecpliaaDoorAsks
import Derived.Test.YthjpfllmecpliaaDoorBoxes
import Derived.Test.YthjpfllmecpliaaDoorScrBackB
set_option linter.all false
set_option maxRecDepth 20000
namespace Go.Proofs.YthjpfllmecpliaaDoor
open Go Go.Ab
/-- Lines, read one behind the other. -/
def runL : Nat → Pl → List Ac → List (List UInt8) → Int × Nat × Pl × List Ac
  | at_, p, l, [] => (0, at_, p, l)
  | at_, p, l, x :: xs => if (lineF at_ p l x).1 ≠ 0 then ((lineF at_ p l x).1, at_, p, l) else runL (at_ + 1) (lineF at_ p l x).2.1 (lineF at_ p l x).2.2 xs
theorem lfT_cons (x : List UInt8) (xs : List (List UInt8)) (r : List UInt8) : lfT (x :: xs) ++ r = x ++ 10 :: (lfT xs ++ r) := by simp [lfT]
theorem lfT_big : ∀ xs : List (List UInt8), xs.length ≤ (lfT xs).length := by
  intro xs
  induction xs with
  | nil => simp
  | cons x xs ih => unfold lfT at *; simp only [List.flatMap_cons, List.length_append, List.length_cons, List.length_nil]; omega
theorem parse_run : ∀ (xs : List (List UInt8)) (at_ : Nat) (p : Pl) (l : List Ac) (f : Nat) (r : List UInt8) (a' : Nat) (p' : Pl) (l' : List Ac), (∀ x ∈ xs, x.count 10 = 0) → runL at_ p l xs = (0, a', p', l') →
    parseL (xs.length + f) at_ p l (lfT xs ++ r) = parseL f a' p' l' r := by
  intro xs
  induction xs with
  | nil => intro at_ p l f r a' p' l' _ h; simp only [runL, Prod.mk.injEq] at h; obtain ⟨-, rfl, rfl, rfl⟩ := h; simp [lfT]
  | cons x xs ih =>
    intro at_ p l f r a' p' l' hx h
    rw [lfT_cons, List.length_cons, show xs.length + 1 + f = (xs.length + f) + 1 by omega, parseL, if_neg (by simp), if_neg (by simp), cut_app _ (hx x (by simp))]
    simp only
    unfold runL at h
    split at h
    · rename_i h1; simp only [Prod.mk.injEq] at h; exact absurd h.1 h1
    · rename_i h1
      rw [if_neg h1]
      exact ih _ _ _ _ _ _ _ _ (fun y hy => hx y (by simp [hy])) h
theorem run_app : ∀ (xs ys : List (List UInt8)) (at_ : Nat) (p : Pl) (l : List Ac) (a' : Nat) (p' : Pl) (l' : List Ac), runL at_ p l xs = (0, a', p', l') → runL at_ p l (xs ++ ys) = runL a' p' l' ys := by
  intro xs
  induction xs with
  | nil => intro ys at_ p l a' p' l' h; simp only [runL, Prod.mk.injEq] at h; obtain ⟨-, rfl, rfl, rfl⟩ := h; rfl
  | cons x xs ih =>
    intro ys at_ p l a' p' l' h
    rw [List.cons_append, runL]
    rw [runL] at h
    split at h
    · rename_i h1; simp only [Prod.mk.injEq] at h; exact absurd h.1 h1
    · rename_i h1; rw [if_neg h1]; exact ih _ _ _ _ _ _ _ h
theorem headW_no (at_ : Nat) : (headW at_).count 32 = 0 ∧ (headW at_).count 10 = 0 := by
  unfold headW; split <;> decide
theorem map_val (ns : List Nat) : (ns.map digL).map valL = ns := by
  rw [List.map_map]
  have : (valL ∘ digL) = id := funext fun n => valL_digL n
  rw [this, List.map_id]
theorem head_line {at_ : Nat} {q : Pl} {ns : List Nat} (hat : at_ < 6) (hl : ns.length = (headO at_).length) (hn : ∀ n ∈ ns, n ≤ 2147483647) : lineF at_ q [] (rowL (headW at_) ns) = (0, headP at_ q ns, []) := by
  unfold lineF
  rw [if_pos hat]
  have : headB at_ (rowL (headW at_) ns) = true := by unfold headB; rw [← hl]; exact lineB_row (headW_no at_).1 hn
  rw [if_pos this, partW_row _ _ (headW_no at_).1, List.tail_cons, map_val]
theorem run_one {at_ : Nat} {p q : Pl} {l m : List Ac} {x : List UInt8} {xs : List (List UInt8)} (h : lineF at_ p l x = (0, q, m)) : runL at_ p l (x :: xs) = runL (at_ + 1) q m xs := by
  rw [runL, h]; simp
theorem run_head {p : Pl} (h : plFine p) : runL 0 pl0 [] (row6 p) = (0, 6, { p with xs := [] }, []) := by
  have f1 := h.no; have f2 := h.len; have f3 := h.rm; have f4 := h.nm; have f5 := h.dr; have f6 := h.tu; have f7 := h.ba; have f8 := h.st; have f9 := h.pe
  unfold row6
  refine (run_one (head_line (at_ := 0) (ns := [p.no.toNat]) (by omega) rfl (by simp; omega))).trans ?_
  refine (run_one (head_line (at_ := 1) (ns := [p.len.toNat]) (by omega) rfl (by simp; omega))).trans ?_
  refine (run_one (head_line (at_ := 2) (ns := [p.rm.toNat]) (by omega) rfl (by simp; omega))).trans ?_
  refine (run_one (head_line (at_ := 3) (ns := [p.nm.toNat, p.dr.toNat]) (by omega) rfl (by simp; omega))).trans ?_
  refine (run_one (head_line (at_ := 4) (ns := [p.tu.toNat]) (by omega) rfl (by simp; omega))).trans ?_
  refine (run_one (head_line (at_ := 5) (ns := [p.ba.toNat, p.st.toNat, p.pe.toNat]) (by omega) rfl (by simp; omega))).trans ?_
  unfold runL
  obtain ⟨a, b, c, d, e, f, g, i, j, xs⟩ := p
  simp only [headP, pl0, List.getD_cons_zero, List.getD_cons_succ, Prod.mk.injEq, Pl.mk.injEq, true_and, and_true] at *
  omega
theorem run_streams : ∀ (B A : List Sm) (at_ : Nat) (p : Pl), (∀ x ∈ B, smFine x) → 6 ≤ at_ → A.length + B.length ≤ 64 → runL at_ { p with xs := A } [] (B.map streamL) = (0, at_ + B.length, { p with xs := A ++ B }, []) := by
  intro B
  induction B with
  | nil => intro A at_ p _ _ _; simp [runL]
  | cons x B ih =>
    intro A at_ p hf hat hn
    rw [List.length_cons] at hn
    obtain ⟨h1, h2⟩ := stream_back (hf x (by simp))
    have hl : lineF at_ { p with xs := A } [] (streamL x) = (0, { p with xs := A ++ [x] }, []) := by
      unfold lineF
      rw [if_neg (by omega), if_pos ⟨h1, rfl, by simp only; omega⟩, h2]
    rw [List.map_cons, run_one hl, ih (A ++ [x]) _ p (fun y hy => hf y (by simp [hy])) (by omega) (by simp; omega)]
    simp only [List.length_cons, List.append_assoc, List.singleton_append]
    congr 2; omega
theorem run_acts : ∀ (M L : List Ac) (at_ : Nat) (p : Pl), (∀ a ∈ M, a.good ∧ a.right = true) → 6 ≤ at_ → L.length + M.length ≤ 1024 → runL at_ p L (M.map Ac.line) = (0, at_ + M.length, p, L ++ M) := by
  intro M
  induction M with
  | nil => intro L at_ p _ _ _; simp [runL]
  | cons a M ih =>
    intro L at_ p hf hat hn
    rw [List.length_cons] at hn
    obtain ⟨g1, g2⟩ := hf a (by simp)
    obtain ⟨h1, h2⟩ := act_back g1 g2
    have hl : lineF at_ p L a.line = (0, p, L ++ [a]) := by
      unfold lineF
      rw [if_neg (by omega), if_neg (by rw [not_both h1]; simp), if_pos ⟨h1, by omega⟩, h2]
    rw [List.map_cons, run_one hl, ih (L ++ [a]) _ p (fun y hy => hf y (by simp [hy])) (by omega) (by simp; omega)]
    simp only [List.length_cons, List.append_assoc, List.singleton_append]
    congr 2; omega
theorem run_all {p : Pl} {l : List Ac} (h : plFine p) (hl : ∀ a ∈ l, a.good ∧ a.right = true) (hn : l.length ≤ 1024) : runL 0 pl0 [] (allL p l) = (0, 6 + p.xs.length + l.length, p, l) := by
  unfold allL
  have hx := h.xs
  rw [List.append_assoc, run_app _ _ _ _ _ _ _ _ (run_head h), run_app _ _ _ _ _ _ _ _ (run_streams p.xs [] 6 p h.fine (by omega) (by simpa using hx)), run_acts l [] _ _ hl (by omega) (by simpa using hn)]
  rfl
/-! ### No line has a line feed within -/
theorem line_no {a : Ac} : a.line.count 10 = 0 := by
  show (lineA a.k a.K a.N a.ds).count 10 = 0
  unfold lineA
  split
  · rw [List.count_append, rowL_no (by decide) (by decide) _ (word_no (by decide) (by decide) _)]
    split
    · rw [List.count_cons_of_ne (by decide), hxT_no (by decide)]
    · rfl
  · rfl
theorem stream_no (x : Sm) : (streamL x).count 10 = 0 := by
  have hc : (classL x.cl).count 10 = 0 := by
    unfold classL
    repeat' split
    all_goals decide
  unfold streamL
  rw [List.count_append, rowL_no (by decide) (by decide) _ (by decide), List.count_cons_of_ne (by decide), rowL_no (by decide) (by decide) _ hc]
theorem all_no (p : Pl) (l : List Ac) : ∀ x ∈ allL p l, x.count 10 = 0 := by
  intro x hx
  unfold allL at hx
  rcases List.mem_append.1 hx with hx | hx
  · rcases List.mem_append.1 hx with hx | hx
    · simp only [row6, List.mem_cons, List.not_mem_nil, or_false] at hx
      rcases hx with rfl | rfl | rfl | rfl | rfl | rfl
      all_goals exact rowL_no (by decide) (by decide) _ (by decide)
    · obtain ⟨y, -, rfl⟩ := List.mem_map.1 hx; exact stream_no y
  · obtain ⟨y, -, rfl⟩ := List.mem_map.1 hx; exact line_no
theorem printE_on {p : Pl} {l : List Ac} (h : printE p l = 0) : plChk p = 0 ∧ l.length ≤ 1024 ∧ ∀ a ∈ l, a.right = true := by
  unfold printE at h
  split at h
  · rename_i h1; exact absurd h h1
  rename_i h1
  split at h
  · cases h
  split at h
  · cases h
  rename_i h2 h3
  refine ⟨Decidable.not_not.1 h1, by omega, fun a ha => ?_⟩
  obtain ⟨i, hi, rfl⟩ := List.mem_iff_getElem.1 ha
  cases hf : fwd (badI l) 0 l.length with
  | some j => rw [hf] at h3; exact absurd rfl h3
  | none =>
    have := fwd_none hf i (by omega) (by omega)
    rw [badI_eq hi] at this
    split at this
    · assumption
    · cases this
theorem printE_off {p : Pl} {l : List Ac} (h : plChk p = 0) (hn : l.length ≤ 1024) (hr : ∀ a ∈ l, a.right = true) : printE p l = 0 := by
  unfold printE
  rw [if_neg (fun hh => hh h), if_neg (by omega)]
  cases hf : fwd (badI l) 0 l.length with
  | none => rfl
  | some j =>
    obtain ⟨h1, h2, h3, -⟩ := fwd_some hf
    rw [badI_eq (by omega), if_pos (hr _ (List.getElem_mem _))] at h3
    exact absurd rfl h3
/-- What is written is read as it was. -/
theorem parse_back {p : Pl} {l : List Ac} (h : printE p l = 0) (hg : ∀ a ∈ l, a.good) : parseF (printT p l) = (0, 6 + p.xs.length + l.length, p, l) := by
  obtain ⟨h1, h2, h3⟩ := printE_on h
  have hfi := plChk_fine h1
  rw [printT, if_pos h]
  unfold parseF
  have hb := lfT_big (allL p l)
  have hr := parse_run (allL p l) 0 pl0 [] ((lfT (allL p l)).length + 1 - (allL p l).length) [] _ _ _ (all_no p l) (run_all hfi (fun a ha => ⟨hg a ha, h3 a ha⟩) h2)
  rw [List.append_nil, show (allL p l).length + ((lfT (allL p l)).length + 1 - (allL p l).length) = (lfT (allL p l)).length + 1 by omega] at hr
  rw [hr, show (lfT (allL p l)).length + 1 - (allL p l).length = ((lfT (allL p l)).length - (allL p l).length) + 1 by omega, parseL, if_pos ⟨rfl, by omega⟩, h1]
/-! ### What is read is written so again -/
def seenT (at_ : Nat) (p : Pl) (l : List Ac) : List UInt8 := lfT ((row6 p).take at_ ++ p.xs.map streamL ++ l.map Ac.line)
theorem row6_head {at_ : Nat} {p : Pl} {ns : List Nat} (h : at_ < 6) (hl : ns.length = (headO at_).length) : (row6 (headP at_ p ns)).take (at_ + 1) = (row6 p).take at_ ++ [rowL (headW at_) ns] := by
  have hc : at_ = 0 ∨ at_ = 1 ∨ at_ = 2 ∨ at_ = 3 ∨ at_ = 4 ∨ at_ = 5 := by omega
  rcases hc with rfl | rfl | rfl | rfl | rfl | rfl
  · match ns, hl with | [a], _ => rfl
  · match ns, hl with | [a], _ => rfl
  · match ns, hl with | [a], _ => rfl
  · match ns, hl with | [a, b], _ => rfl
  · match ns, hl with | [a], _ => rfl
  · match ns, hl with | [a, b, c], _ => rfl
theorem line_back {at_ : Nat} {p q : Pl} {l m : List Ac} {x : List UInt8} (h : lineF at_ p l x = (0, q, m)) (h0 : at_ < 6 → p.xs = [] ∧ l = []) :
    seenT (at_ + 1) q m = seenT at_ p l ++ x ++ [10] ∧ (at_ + 1 < 6 → q.xs = [] ∧ m = []) ∧ ∀ a ∈ m, a ∈ l ∨ (a.good ∧ a.right = true) := by
  unfold lineF at h
  split at h
  · rename_i hat
    obtain ⟨hx0, rfl⟩ := h0 hat
    split at h
    · rename_i hb
      simp only [Prod.mk.injEq] at h
      obtain ⟨-, rfl, rfl⟩ := h
      obtain ⟨e1, e2⟩ := lineB_on hb
      have e3 : (headP at_ p ((partW 32 x).tail.map valL)).xs = [] := by rw [headP_xs, hx0]
      refine ⟨?_, fun _ => ⟨e3, rfl⟩, fun a ha => by cases ha⟩
      unfold seenT
      rw [e3, hx0, row6_head hat (by rw [List.length_map]; exact e2), ← e1]
      simp [lfT]
    · simp at h
  · rename_i hat
    have ht : (row6 p).take at_ = row6 p := List.take_of_length_le (by show 6 ≤ at_; omega)
    have ht' : ∀ q, (row6 q).take (at_ + 1) = row6 q := fun q => List.take_of_length_le (by show 6 ≤ at_ + 1; omega)
    split at h
    · rename_i hs
      simp only [Prod.mk.injEq] at h
      obtain ⟨-, rfl, rfl⟩ := h
      have hl0 : l = [] := List.length_eq_zero_iff.1 hs.2.1
      subst hl0
      refine ⟨?_, fun h => absurd h (by omega), fun a ha => .inl ha⟩
      unfold seenT
      rw [ht, ht']
      show lfT (row6 p ++ (p.xs ++ [streamV x]).map streamL ++ _) = _
      rw [List.map_append, List.map_cons, List.map_nil, streamB_on hs.1]
      simp [lfT]
    · split at h
      · rename_i hb
        simp only [Prod.mk.injEq] at h
        obtain ⟨-, rfl, rfl⟩ := h
        obtain ⟨e1, e2, e3⟩ := act_on hb.1
        refine ⟨?_, fun h => absurd h (by omega), fun a ha => ?_⟩
        · unfold seenT
          rw [ht, ht', List.map_append, List.map_cons, List.map_nil, e1]
          simp [lfT]
        · rcases List.mem_append.1 ha with ha | ha
          · exact .inl ha
          · obtain rfl := List.mem_singleton.1 ha; exact .inr ⟨e2, e3⟩
      · split at h <;> simp at h
theorem parse_text : ∀ (f at_ : Nat) (p : Pl) (l : List Ac) (x : List UInt8), (parseL f at_ p l x).1 = 0 → (at_ < 6 → p.xs = [] ∧ l = []) → (∀ a ∈ l, a.good ∧ a.right = true) → p.xs.length ≤ 64 → l.length ≤ 1024 → 0 ≤ p.nm →
    seenT at_ p l ++ x = lfT (allL (parseL f at_ p l x).2.2.1 (parseL f at_ p l x).2.2.2) ∧ plChk (parseL f at_ p l x).2.2.1 = 0 ∧ (∀ a ∈ (parseL f at_ p l x).2.2.2, a.good ∧ a.right = true) ∧ (parseL f at_ p l x).2.2.2.length ≤ 1024 ∧ 0 ≤ (parseL f at_ p l x).2.2.1.nm := by
  intro f
  induction f with
  | zero => intro at_ p l x h; simp [parseL] at h
  | succ f ih =>
    intro at_ p l x h h0 hg hx hl hm
    unfold parseL at h ⊢
    split at h
    · rename_i h1
      rw [if_pos h1]
      refine ⟨?_, h, hg, hl, hm⟩
      unfold seenT allL
      rw [h1.1, List.append_nil, List.take_of_length_le (by show 6 ≤ at_; exact h1.2)]
    · rename_i h1
      rw [if_neg h1]
      split at h
      · simp at h
      · rename_i h2
        rw [if_neg h2]
        obtain ⟨y, r, e1, e2, e3, -⟩ := cut_in (c := 10) (x := x) (by omega)
        rw [e1] at h ⊢
        simp only at h ⊢
        split at h
        · rename_i h3; exact absurd h h3
        · rename_i h3
          rw [if_neg h3]
          have h3 : (lineF at_ p l y).1 = 0 := Decidable.not_not.1 h3
          have hk := lineF_keep h3 hx hl hm
          obtain ⟨b1, b2, b3⟩ := line_back (q := (lineF at_ p l y).2.1) (m := (lineF at_ p l y).2.2) (by rw [← h3]) h0
          have := ih _ _ _ _ h b2 (fun a ha => (b3 a ha).elim (hg a) id) hk.1 hk.2.1 hk.2.2
          rw [b1] at this
          rw [e2]
          simpa using this
theorem parse_forth {x : List UInt8} (h : (parseF x).1 = 0) : printE (parseF x).2.2.1 (parseF x).2.2.2 = 0 ∧ printT (parseF x).2.2.1 (parseF x).2.2.2 = x ∧ (∀ a ∈ (parseF x).2.2.2, a.good) ∧ 0 ≤ (parseF x).2.2.1.nm := by
  unfold parseF at h ⊢
  obtain ⟨h1, h2, h3, h4, h5⟩ := parse_text _ 0 pl0 [] x h (fun _ => ⟨rfl, rfl⟩) (fun a ha => by cases ha) (by simp [pl0]) (by simp) (by simp [pl0])
  have hE := printE_off h2 h4 fun a ha => (h3 a ha).2
  refine ⟨hE, ?_, fun a ha => (h3 a ha).1, h5⟩
  rw [printT, if_pos hE]
  have : seenT 0 pl0 [] = [] := rfl
  rw [this, List.nil_append] at h1
  exact h1.symm
end Go.Proofs.YthjpfllmecpliaaDoor
