/- Lists of streams: a few, a copy, a field of one is written; as contracts. -/
import Derived.Test.YtfdpegnbbphhhaaDoorTypes
import Derived.Test.YtfdpegnbbphhhaaDoorRow0
import Derived.Test.YtfdpegnbbphhhaaDoorAbC
import Derived.Test.YtfdpegnbbphhhaaDoorBits
import Derived.Test.YtfdpegnbbphhhaaDoorStream
set_option linter.all false
set_option maxRecDepth 20000
namespace Go.Proofs.YtfdpegnbbphhhaaDoor
open Go Go.Ab
variable {base : Nat} {s : St} {R : Value → St → Prop}
theorem flat_set {z k : Nat} {x : Value} (hk : k < z) : ∀ {L : List (List Value)} {i : Nat} (hi : i < L.length), (∀ l ∈ L, l.length = z) → L.flatten.set (i * z + k) x = (L.set i (L[i].set k x)).flatten := by
  intro L
  induction L with
  | nil => intro i hi; simp at hi
  | cons l L ih =>
    intro i hi h
    have hl := h l (by simp)
    cases i with
    | zero =>
      simp only [Nat.zero_mul, Nat.zero_add, List.flatten_cons, List.set_cons_zero, List.getElem_cons_zero]
      rw [List.set_append_left _ _ (by omega)]
    | succ i =>
      simp only [List.flatten_cons, List.set_cons_succ, List.getElem_cons_succ]
      rw [List.set_append_right _ _ (by rw [Nat.succ_mul]; omega), ← ih (by simpa using hi) fun m hm => h m (by simp [hm])]
      congr 2
      rw [Nat.succ_mul]; omega
/-- One cell of an element is written. -/
theorem Sl.putF {z b o n c i k : Nat} {x : Value} {L : List (List Value)} (h : Sl base s z (.slice (some ⟨b, o, none⟩) n c) L) (hb : base ≤ b) (hi : i < L.length) (hk : k < z) :
    ∃ s', stN base s ⟨b, o + i * z + k, none⟩ [x] = some s' ∧ Sl base s' z (.slice (some ⟨b, o, none⟩) n c) (L.set i (L[i].set k x)) ∧ Ch s s' (fun j => j = b) ∧ s'.next = s.next := by
  cases h with
  | mk h1 h2 h3 h4 h5 h6 =>
    obtain ⟨g1, g2, g3, cs, g4, g5⟩ := h4 (.inr hb)
    have hlen := flat_len' h3
    have hle := (getL_some g5).1
    have hmul : i * z + z ≤ L.length * z := by
      have := Nat.mul_le_mul_right z (show i + 1 ≤ L.length by omega)
      rw [Nat.succ_mul] at this; exact this
    simp only at g4 hle
    refine ⟨s.upd b ((s.heap b).withCells (setL cs (o + i * z + k) [x])), ?_, ?_, Ch.upd' (.refl _ _) fun _ => rfl, rfl⟩
    · unfold stN
      rw [if_neg (by simp)]
      simp only [g4]
      rw [if_pos ⟨trivial, hb, by simp only [List.length_cons, List.length_nil]; omega⟩]
    · have hcells : ((s.upd b ((s.heap b).withCells (setL cs (o + i * z + k) [x]))).heap b).cells? = some (cs.set (o + i * z + k) x) := by
        rw [Ab.heap_upd_same]
        cases hh : s.heap b <;> rw [hh] at g4 <;> first | (cases g4; done) | rfl
      have hL3 : ∀ l ∈ L.set i (L[i].set k x), l.length = z := fun l hl => by
        rcases List.mem_or_eq_of_mem_set hl with h | h
        · exact h3 l h
        · rw [h, List.length_set]; exact h3 _ (List.getElem_mem hi)
      refine .mk (by rw [List.length_set]; exact h1) h2 hL3 (fun _ => ⟨g1, h6, .inl hb, _, hcells, ?_⟩) ?_ h6
      · rw [← flat_set hk hi h3, List.length_set]
        have e := (getL_some g5).2.1
        simp only at e ⊢
        unfold getL
        rw [if_pos (by rw [List.length_set]; exact hle)]
        congr 1
        conv => rhs; rw [e]
        apply List.ext_getElem
        · simp
        · intro j hj1 hj2
          simp only [List.getElem_take, List.getElem_drop, List.getElem_set]
          by_cases hj : i * z + k = j
          · rw [if_pos (by omega), if_pos hj]
          · rw [if_neg (by omega), if_neg hj]
            try simp only [List.getElem_take, List.getElem_drop]
      · unfold kindB at h5 ⊢
        rw [Ab.heap_upd_same]
        cases hh : s.heap b <;> simp only [hh] at h5 ⊢ <;> first | (cases h5; done) | exact h5 | rfl
abbrev smL (xs : List Sm) : List (List Value) := xs.map Sm.c
theorem smL_len (xs : List Sm) : (smL xs).length = xs.length := by simp
theorem smL_at {xs : List Sm} {i : Nat} (h : i < xs.length) : (smL xs)[i]? = some xs[i].c := by simp [h]
def ahd (x o : Sm) : Bool := decide (o.cl = 2) && decide (o.de < x.de ∨ (o.de = x.de ∧ o.id < x.id))
theorem ahd_cmp (x o : Sm) (h : o.cl = 2) : decide ((if cmpI o.de x.de = 0 then cmpI o.id x.id else cmpI o.de x.de) < 0) = ahd x o := by
  have e1 : ∀ a b : Int, (a < b ∧ cmpI a b = -1) ∨ (a = b ∧ cmpI a b = 0) ∨ (b < a ∧ cmpI a b = 1) := fun a b => by
    unfold cmpI
    split
    · exact .inl ⟨‹_›, rfl⟩
    · split
      · exact .inr (.inr ⟨‹_›, rfl⟩)
      · exact .inr (.inl ⟨by omega, rfl⟩)
  simp only [ahd, h, decide_true, Bool.true_and, decide_eq_decide]
  rcases e1 o.de x.de with ⟨h1, h2⟩ | ⟨h1, h2⟩ | ⟨h1, h2⟩
  · rw [h2, if_neg (by decide)]; constructor <;> intro _ <;> omega
  · rw [h2, if_pos rfl]
    rcases e1 o.id x.id with ⟨h3, h4⟩ | ⟨h3, h4⟩ | ⟨h3, h4⟩ <;> rw [h4] <;> constructor <;> intro _ <;> omega
  · rw [h2, if_neg (by decide)]; constructor <;> intro _ <;> omega
def Sm.rk (xs : List Sm) (x : Sm) : Sm := if x.cl = 2 then { x with sl := if 255 < (xs.countP (ahd x) : Int) then 255 else (xs.countP (ahd x) : Int) } else x
def rkL (xs : List Sm) (i : Nat) : List Sm := xs.mapIdx fun j x => if j < i then x.rk xs else x
theorem rkL_zero (xs : List Sm) : rkL xs 0 = xs := by
  apply List.ext_getElem
  · simp [rkL]
  · intro j h1 h2; simp [rkL]
theorem rkL_len (xs : List Sm) (i : Nat) : (rkL xs i).length = xs.length := by simp [rkL]
theorem rkL_full (xs : List Sm) : rkL xs xs.length = xs.map (Sm.rk xs) := by
  apply List.ext_getElem
  · simp [rkL]
  · intro j h1 h2
    have : j < xs.length := by simpa [rkL] using h1
    simp [rkL, this]
theorem rkL_set (xs : List Sm) {i : Nat} (h : i < xs.length) : (rkL xs i).set i (xs[i].rk xs) = rkL xs (i + 1) := by
  apply List.ext_getElem
  · simp [rkL]
  · intro j h1 h2
    simp only [rkL, List.getElem_set, List.getElem_mapIdx]
    by_cases hj : i = j
    · subst hj; simp
    · rw [if_neg hj]
      by_cases h3 : j < i
      · rw [if_pos h3, if_pos (by omega)]
      · rw [if_neg h3, if_neg (by omega)]
theorem rkL_at (xs : List Sm) {i : Nat} (h : i < xs.length) : (rkL xs i)[i]'(by rw [rkL_len]; exact h) = xs[i] := by simp [rkL]
theorem rkL_same (xs : List Sm) {i : Nat} (h : i < xs.length) (hc : xs[i].cl ≠ 2) : rkL xs i = rkL xs (i + 1) := by
  rw [← rkL_set xs h]
  have : xs[i].rk xs = xs[i] := by simp [Sm.rk, hc]
  rw [this, ← rkL_at xs h, List.set_getElem_self]
end Go.Proofs.YtfdpegnbbphhhaaDoor
