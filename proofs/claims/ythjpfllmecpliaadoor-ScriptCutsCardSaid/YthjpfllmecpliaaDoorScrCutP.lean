/- Scripts' texts, cut: which line is refused (plain). -/
import Derived.Test.YthjpfllmecpliaaDoorTypes
import Derived.Test.YthjpfllmecpliaaDoorRow0
import Derived.Test.YthjpfllmecpliaaDoorAbC
import Derived.Test.YthjpfllmecpliaaDoorAsks
import Derived.Test.YthjpfllmecpliaaDoorBoxes
import Derived.Test.YthjpfllmecpliaaDoorScrBackC
import Derived.Test.YthjpfllmecpliaaDoorStreamFew
set_option linter.all false
set_option maxRecDepth 20000
namespace Go.Proofs.YthjpfllmecpliaaDoor
open Go Go.Ab
/-- A few streams of a small network, and that network. -/
def Sm.mv (x : Sm) (m : Int) : Sm := ⟨x.id, x.nd % m, x.cl, x.pe * 20, x.de * 20, x.sl, x.by_⟩
def mvS (m : Int) (xs : List Sm) : List Sm := (fewS xs 6).map fun x => x.mv m
def plantF (p : Pl) : Pl := ⟨partN p.no 4 + 2, partN p.len 1000 + 1, partN p.rm 6 + 1, partN p.nm 20 + 4, partN p.dr 3, partN p.tu 1000, partN p.ba 3000 + 900, partN p.st 400 + 100, partN p.pe 300 + 600, mvS (partN p.no 4 + 2) p.xs⟩
theorem mvS_len (m : Int) (xs : List Sm) : (mvS m xs).length = min 6 xs.length := by unfold mvS; rw [List.length_map, fewS_len]
theorem mv_right {m : Int} (hm : 2 ≤ m ∧ m ≤ 5) (x : Sm) {i : Int} (hi : 0 ≤ i ∧ i ≤ 2047) : ((x.norm i).mv m).right = 0 ∧ 2000 ≤ ((x.norm i).mv m).de ∧ ((x.norm i).mv m).nd < m ∧ ((x.norm i).mv m).id = i := by
  have h1 := partN_in x.nd (b := 4) (by omega)
  have h2 := partN_in x.cl (b := 3) (by omega)
  have h3 := partN_in x.pe (b := 4000) (by omega)
  have h4 := partN_in x.de (b := partN x.pe 4000 + 200 - 99) (by omega)
  have h5 := partN_in x.sl (b := 256) (by omega)
  have h6 := partN_in x.by_ (b := 9) (by omega)
  have h7 := Int.emod_nonneg (partN x.nd 4) (show m ≠ 0 by omega)
  have h8 := Int.emod_lt_of_pos (partN x.nd 4) (show 0 < m by omega)
  have hrt : rt ((x.norm i).mv m).cl ((x.norm i).mv m).sl ((x.norm i).mv m).id ((x.norm i).mv m).nd = true := by
    unfold rt
    refine decide_eq_true ?_
    simp only [Sm.norm, Sm.mv]
    refine ⟨?_, ?_, ?_, ?_, ?_, ?_, ?_, ?_⟩ <;> omega
  refine ⟨?_, by simp only [Sm.norm, Sm.mv]; omega, h8, rfl⟩
  unfold Sm.right
  have q1 : ¬ (((x.norm i).mv m).cl < 1 ∨ 3 < ((x.norm i).mv m).cl) := by simp only [Sm.norm, Sm.mv]; omega
  have q2 : ¬ (((x.norm i).mv m).pe < 1 ∨ 1073741824 < ((x.norm i).mv m).pe ∨ ((x.norm i).mv m).de < 1 ∨ ((x.norm i).mv m).pe < ((x.norm i).mv m).de) := by simp only [Sm.norm, Sm.mv]; omega
  have q3 : ¬ (((x.norm i).mv m).by_ < 0 ∨ 8 < ((x.norm i).mv m).by_) := by simp only [Sm.norm, Sm.mv]; omega
  rw [if_neg q1, if_neg (by rw [hrt]; simp), if_neg q2, if_neg q3]
theorem fst0_nil {f : Nat → Int} {n : Nat} (h : ∀ i, i < n → f i = 0) : fst0 f n = (0, 0) := by
  unfold fst0
  cases hf : fwd f 0 n with
  | none => rfl
  | some i => obtain ⟨-, h2, h3, -⟩ := fwd_some hf; exact absurd (h i (by omega)) h3
theorem chk_of {xs : List Sm} {l : Int} (hn : xs.length ≤ 64) (hl : 1 ≤ l ∧ l ≤ 1000) (hr : ∀ i (h : i < xs.length), xs[i].right = 0 ∧ 2000 ≤ xs[i].de ∧ xs[i].id = i) : (chk xs l).2 = 0 := by
  have e1 : fst0 (rl1 xs) xs.length = (0, 0) := fst0_nil fun i hi => by rw [rl1, atS_eq hi]; exact (hr i hi).1
  have e2 : fst0 (rl2 xs) xs.length = (0, 0) := fst0_nil fun i hi => by
    have : findS xs (atS xs i).id = i := by
      unfold findS
      rw [atS_eq hi, (hr i hi).2.2]
      cases hf : fwd (hitF xs i) 0 xs.length with
      | none =>
        have := fwd_none hf i (by omega) (by omega)
        unfold hitF at this
        rw [atS_eq hi, (hr i hi).2.2, if_pos rfl] at this
        cases this
      | some k =>
        obtain ⟨-, h2, h3, -⟩ := fwd_some hf
        unfold hitF at h3
        split at h3
        · rename_i h4
          rw [atS_eq (by omega), (hr k (by omega)).2.2] at h4
          exact h4
        · exact absurd rfl h3
    rw [rl2, this, if_pos rfl]
  have e3 : fst0 (rl3 xs l) xs.length = (0, 0) := fst0_nil fun i hi => by
    have := (hr i hi).2.1
    rw [rl3, atS_eq hi, if_neg (by omega)]
  unfold chk
  rw [if_neg (by omega), if_neg (by omega), e1, e2, e3]
  simp
theorem plant_chk (p : Pl) (j : Nat) : plChk { plantF p with xs := (plantF p).xs.take j } = 0 := by
  have g1 := partN_in p.no (b := 4) (by omega)
  have g2 := partN_in p.len (b := 1000) (by omega)
  have g3 := partN_in p.rm (b := 6) (by omega)
  have g4 := partN_in p.nm (b := 20) (by omega)
  have g5 := partN_in p.dr (b := 3) (by omega)
  have g6 := partN_in p.tu (b := 1000) (by omega)
  have g7 := partN_in p.ba (b := 3000) (by omega)
  have g8 := partN_in p.st (b := 400) (by omega)
  have g9 := partN_in p.pe (b := 300) (by omega)
  have hx : ∀ i (h : i < ((plantF p).xs.take j).length), ((plantF p).xs.take j)[i].right = 0 ∧ 2000 ≤ ((plantF p).xs.take j)[i].de ∧ ((plantF p).xs.take j)[i].nd < partN p.no 4 + 2 ∧ ((plantF p).xs.take j)[i].id = i := by
    intro i h
    have hi : i < (fewS p.xs 6).length := by
      have h' := h
      rw [List.length_take] at h'
      unfold plantF mvS at h'
      simp only [List.length_map] at h'; omega
    have hf := fewS_at hi
    have hi6 : i < 6 := by rw [fewS_len] at hi; omega
    have e : ((plantF p).xs.take j)[i] = ((p.xs[i]'(by rw [fewS_len] at hi; omega)).norm i).mv (partN p.no 4 + 2) := by
      rw [List.getElem_take]
      unfold plantF mvS
      simp only [List.getElem_map]
      rw [hf]
    rw [e]
    exact mv_right (by omega) _ (by omega)
  have hl : ((plantF p).xs.take j).length ≤ 6 := by rw [List.length_take]; unfold plantF; simp only [mvS_len]; omega
  unfold plChk
  have hok : plOk { plantF p with xs := (plantF p).xs.take j } = true := by
    unfold plOk confB beatB rankB
    simp only [Bool.and_eq_true, decide_eq_true_eq]
    unfold plantF
    simp only
    omega
  have hc : (chk ((plantF p).xs.take j) (plantF p).len).2 = 0 := chk_of (by omega) (by unfold plantF; simp only; omega) fun i h => ⟨(hx i h).1, (hx i h).2.1, (hx i h).2.2.2⟩
  have hfar : fwd (farF { plantF p with xs := (plantF p).xs.take j }) 0 ((plantF p).xs.take j).length = none := by
    cases hf : fwd (farF { plantF p with xs := (plantF p).xs.take j }) 0 ((plantF p).xs.take j).length with
    | none => rfl
    | some k =>
      obtain ⟨-, h2, h3, -⟩ := fwd_some hf
      unfold farF at h3
      have hk : k < ((plantF p).xs.take j).length := by omega
      have h4 := (hx k hk).2.2.1
      simp only [atS_eq hk] at h3
      have h5 : (plantF p).no = partN p.no 4 + 2 := rfl
      rw [if_neg (by rw [h5]; omega)] at h3
      exact absurd rfl h3
  rw [if_neg (by rw [hok]; simp), if_neg (by rw [hc]; simp), hfar]
  rfl
/-! ### A text that is cut -/
def wiL (t : List UInt8) : Bool := match t.getLast? with | some c => decide (c ≠ 10) | none => false
theorem wiL_snoc (t : List UInt8) (c : UInt8) : wiL (t ++ [c]) = decide (c ≠ 10) := by simp [wiL]
theorem cut_lines : ∀ (L : List (List UInt8)) (k : Nat), (∀ x ∈ L, x.count 10 = 0) → k ≤ (lfT L).length → ∃ j r, (lfT L).take k = lfT (L.take j) ++ r ∧ r.count 10 = 0 ∧ j ≤ L.length ∧ ((lfT L).take k).count 10 = j := by
  intro L
  induction L with
  | nil => intro k _ hk; exact ⟨0, [], by simp [lfT], rfl, by simp, by simp [lfT]⟩
  | cons x L ih =>
    intro k hL hk
    have hx := hL x (by simp)
    have hc : lfT (x :: L) = x ++ 10 :: lfT L := by have := lfT_cons x L []; simpa using this
    by_cases hkx : k ≤ x.length
    · have e : (lfT (x :: L)).take k = x.take k := by rw [hc, List.take_append_of_le_length hkx]
      have c0 : (x.take k).count 10 = 0 := List.count_eq_zero.2 fun hm => List.count_eq_zero.1 hx (List.mem_of_mem_take hm)
      exact ⟨0, x.take k, by rw [e]; simp [lfT], c0, by simp, by rw [e]; exact c0⟩
    · have hl : (lfT (x :: L)).length = x.length + 1 + (lfT L).length := by rw [hc]; simp; omega
      obtain ⟨j, r, h1, h2, h3, h4⟩ := ih (k - x.length - 1) (fun y hy => hL y (by simp [hy])) (by omega)
      have e : (lfT (x :: L)).take k = x ++ 10 :: (lfT L).take (k - x.length - 1) := by
        rw [hc, List.take_append, List.take_of_length_le (by omega), show k - x.length = (k - x.length - 1) + 1 by omega, List.take_succ_cons]
        rw [show k - x.length - 1 + 1 - 1 = k - x.length - 1 by omega]
      refine ⟨j + 1, r, ?_, h2, by simp; omega, ?_⟩
      · rw [e, h1, List.take_succ_cons, lfT_cons]
      · rw [e, List.count_append, hx, List.count_cons_self, h4]; omega
theorem wiL_of {X : List (List UInt8)} {r : List UInt8} (h : r.count 10 = 0) : wiL (lfT X ++ r) = !r.isEmpty := by
  rcases List.eq_nil_or_concat r with rfl | ⟨r, c, rfl⟩
  · rw [List.append_nil]
    rcases List.eq_nil_or_concat X with rfl | ⟨X, x, rfl⟩
    · rfl
    · rw [List.concat_eq_append, lfT_app]
      have : lfT [x] = x ++ [10] := by simp [lfT]
      rw [this, ← List.append_assoc, wiL_snoc]; rfl
  · rw [List.concat_eq_append] at h ⊢
    rw [← List.append_assoc, wiL_snoc]
    rw [List.count_append] at h
    have hc : c ≠ 10 := fun hc => by subst hc; simp at h
    simp [hc]
theorem take_all {p : Pl} {l : List Ac} {j : Nat} (h : 6 ≤ j) : ∃ i m, (allL p l).take j = allL { p with xs := p.xs.take i } (l.take m) := by
  have h6 : (row6 p).length = 6 := rfl
  have hr : ∀ i, row6 { p with xs := p.xs.take i } = row6 p := fun i => rfl
  refine ⟨j - 6, j - 6 - p.xs.length, ?_⟩
  unfold allL
  rw [hr, List.append_assoc, List.append_assoc, List.take_append, List.take_of_length_le (by omega), h6, List.take_append, List.map_take, List.map_take, List.length_map]
/-- What a text that is cut is read as. -/
theorem cut_parse {p : Pl} {l : List Ac} {k : Nat} (hp : ∀ i, plChk { p with xs := p.xs.take i } = 0) (hl : ∀ a ∈ l, a.good ∧ a.right = true) (hn : l.length ≤ 1024) (hk : k ≤ (lfT (allL p l)).length) :
    (wiL ((lfT (allL p l)).take k) = true ∨ ((lfT (allL p l)).take k).count 10 < 6 → (parseF ((lfT (allL p l)).take k)).1 = 12 ∧ (parseF ((lfT (allL p l)).take k)).2.1 = ((lfT (allL p l)).take k).count 10) ∧
    (wiL ((lfT (allL p l)).take k) = false ∧ 6 ≤ ((lfT (allL p l)).take k).count 10 → (parseF ((lfT (allL p l)).take k)).1 = 0) := by
  have hfi : plFine p := by
    have := hp p.xs.length
    rw [List.take_length] at this
    exact plChk_fine this
  obtain ⟨j, r, h1, h2, h3, h4⟩ := cut_lines (allL p l) k (all_no p l) hk
  have hall := run_all hfi hl hn
  rw [h4]
  have ht : (allL p l).take j ++ (allL p l).drop j = allL p l := List.take_append_drop _ _
  rw [← ht] at hall
  obtain ⟨p1, l1, hrun⟩ := run_take _ _ _ _ _ _ _ _ hall
  have hjl : ((allL p l).take j).length = j := by rw [List.length_take]; omega
  have hno : ∀ x ∈ (allL p l).take j, x.count 10 = 0 := fun x hx => all_no p l x (List.mem_of_mem_take hx)
  rw [h1, wiL_of h2]
  have hb := lfT_big ((allL p l).take j)
  have hpr := parse_run ((allL p l).take j) 0 pl0 [] ((lfT ((allL p l).take j) ++ r).length + 1 - ((allL p l).take j).length) r _ _ _ hno hrun
  rw [show ((allL p l).take j).length + ((lfT ((allL p l).take j) ++ r).length + 1 - ((allL p l).take j).length) = (lfT ((allL p l).take j) ++ r).length + 1 by rw [List.length_append]; omega] at hpr
  have hF : parseF (lfT ((allL p l).take j) ++ r) = parseL ((lfT ((allL p l).take j) ++ r).length - ((allL p l).take j).length + 1) j p1 l1 r := by
    unfold parseF
    rw [hpr, hjl, Nat.zero_add]
    congr 1
    rw [List.length_append]; omega
  rw [hF, parseL]
  constructor
  · intro hh
    have hne : ¬ (r = [] ∧ 6 ≤ j) := by
      rintro ⟨rfl, h6⟩
      rcases hh with hh | hh
      · cases hh
      · omega
    rw [if_neg hne, if_pos h2]
    exact ⟨rfl, rfl⟩
  · rintro ⟨hh, h6⟩
    have hr : r = [] := by simpa using hh
    rw [if_pos ⟨hr, h6⟩]
    obtain ⟨i, m, hm⟩ := take_all (p := p) (l := l) h6
    have h7 := run_all (p := { p with xs := p.xs.take i }) (l := l.take m) (plChk_fine (hp i)) (fun a ha => hl a (List.mem_of_mem_take ha)) (by rw [List.length_take]; omega)
    rw [← hm, hrun] at h7
    simp only [Prod.mk.injEq] at h7
    rw [h7.2.2.1]
    exact hp i
end Go.Proofs.YthjpfllmecpliaaDoor
