/- Slices that grow, and that are cut. -/
import Derived.Test.YtoldihdlpdccnaaAb25
set_option linter.unusedVariables false
set_option linter.unusedSimpArgs false
namespace Go.Ab
open Go Go.RowKit

/-- Only these blocks have changed. -/
structure Ch (s s' : St) (X : Nat → Prop) : Prop where
  next : s.next ≤ s'.next
  heap : ∀ b, b < s.next → ¬ X b → s'.heap b = s.heap b
theorem Ch.refl (s : St) (X : Nat → Prop) : Ch s s X := ⟨Nat.le_refl _, fun _ _ _ => rfl⟩
theorem Ch.trans {s s1 s2 : St} {X Y : Nat → Prop} (h : Ch s s1 X) (k : Ch s1 s2 Y) : Ch s s2 (fun b => X b ∨ Y b) :=
  ⟨Nat.le_trans h.next k.next, fun b hb hn => (k.heap b (Nat.lt_of_lt_of_le hb h.next) fun y => hn (.inr y)).trans (h.heap b hb fun x => hn (.inl x))⟩
theorem Ch.mono {s s' : St} {X Y : Nat → Prop} (h : Ch s s' X) (hx : ∀ b, b < s.next → X b → Y b) : Ch s s' Y := ⟨h.next, fun b hb hn => h.heap b hb fun x => hn (hx b hb x)⟩
theorem Ch.of_mild {s s' : St} (h : Mild s s') (X : Nat → Prop) : Ch s s' X := ⟨h.next, fun b hb _ => h.heap b hb⟩
theorem Ch.mild {s s' : St} {X : Nat → Prop} (h : Ch s s' X) (hx : ∀ b, b < s.next → ¬ X b) : Mild s s' := ⟨h.next, fun b hb => h.heap b hb (hx b hb)⟩

/-- The block that a slice lies in. -/
def inB (v : Value) (b : Nat) : Prop := match v with | .slice (some a) _ _ => a.block = b | _ => False
theorem Sl.ch {base z : Nat} {s s' : St} {v : Value} {L : List (List Value)} {X : Nat → Prop} (h : Sl base s z v L) (hc : Ch s s' X) (hx : ∀ b, inB v b → ¬ X b) : Sl base s' z v L :=
  h.frame (fun a n c e => by
    subst e
    have : a.block < s.next := by cases h; assumption
    exact hc.heap _ this (hx _ rfl)) hc.next

/-- A slice of our own, with no room behind it. -/
def Tight (base : Nat) (v : Value) : Prop := match v with | .slice none _ _ => True | .slice (some a) len cap => cap = len ∧ base ≤ a.block | _ => False

theorem ldN_slice {base z : Nat} {s : St} {v : Value} {L : List (List Value)} (h : Sl base s z v L) : ∃ n, lenV? v = some n ∧ n = L.length ∧ newsV base s z n v = some L.flatten := by
  cases h with
  | nil => exact ⟨0, rfl, rfl, rfl⟩
  | @mk a len cap L h1 h2 h3 h4 h5 h6 =>
    refine ⟨len, rfl, h1.symm, ?_⟩
    simp only [newsV, Nat.le_refl, if_true]
    have hf := flat_len' h3
    by_cases hL : L = []
    · subst hL
      simp at h1
      subst h1
      simp [Ab.ldN]
    · have := (h4 (.inl hL)).ldN
      rw [hf, h1] at this; exact this

theorem append_ok {P : Program} {base z : Nat} {s : St} {v : Value} {L : List (List Value)} (hv : Sl base s z v L) (ht : Tight base v) (hbn : base ≤ s.next) {t e : TypeId} (he : elemT P t = some e) (hz : sizT P e = some z) (h0 : 0 < z)
    {zr : List Value} (hzr : zerT P e = some zr) (hzl : zr.length = z) {by_ : Nat} (hby : bytT P e = some by_) {N : List (List Value)} (hN : ∀ l ∈ N, l.length = z)
    (hs : (L.length + N.length) * by_ ≤ 2 ^ 44 ∧ L.length + N.length ≤ 2 ^ 44 ∧ by_ ≤ 2 ^ 20) :
    ∃ v' s', appendV P base s t v N.length N.flatten = some (v', s') ∧ Sl base s' z v' (L ++ N) ∧ Tight base v' ∧ Ch s s' (inB v) ∧ (N ≠ [] → ∀ b, inB v' b → s.next ≤ b) ∧ (N = [] → v' = v ∧ s' = s) := by
  have hNf := flat_len' hN
  have new : ∀ (s1 : St) (n : Nat) (cs : List Value), s1.next = s.next → cs = (L ++ N).flatten → n = (L ++ N).length →
      Sl base (s1.alloc (.grown cs z)) z (.slice (some ⟨s.next, 0, none⟩) n n) (L ++ N) := fun s1 n cs hn hcs hnl => by
    have hall : ∀ l ∈ L ++ N, l.length = z := fun l hl => by
      rcases List.mem_append.1 hl with h | h
      · cases hv with
        | nil => cases h
        | mk _ _ h3 => exact h3 l h
      · exact hN l h
    have hh : (s1.alloc (.grown cs z)).heap s.next = .grown cs z := by rw [← hn]; exact Ab.heap_alloc_new s1 _
    refine .mk hnl.symm (Nat.le_refl _) hall (fun _ => ⟨rfl, by rw [next_alloc, hn]; exact Nat.lt_succ_self _, .inl hbn, cs, by simp only; rw [hh]; rfl, ?_⟩) ?_ (by rw [next_alloc, hn]; exact Nat.lt_succ_self _)
    · rw [hcs]; unfold getL; simp only [Nat.zero_add, Nat.le_refl, if_true, List.drop_zero, List.take_length]
    · unfold kindB; simp only [hh]; simp
  have hsize : (L.length + N.length) * by_ ≤ 2 ^ 44 ∧ L.length + N.length ≤ 2 ^ 44 ∧ by_ ≤ 2 ^ 20 := hs
  by_cases hN0 : N = []
  · subst hN0
    refine ⟨v, s, ?_, by rw [List.append_nil]; exact hv, ht, .refl _ _, fun h => absurd rfl h, fun _ => ⟨rfl, rfl⟩⟩
    cases hv with
    | nil => simp only [appendV, he, hz, hzr, hby]; rw [if_pos ⟨hzl, h0, by simp, Nat.le_refl _⟩]; simp
    | mk h1 h2 => simp only [appendV, he, hz, hzr, hby]; rw [if_pos ⟨hzl, h0, by simp, h2⟩]; simp
  · have hNl : 0 < N.length := List.length_pos_iff.2 hN0
    cases hv with
    | nil =>
      refine ⟨.slice (some ⟨s.next, 0, none⟩) N.length N.length, s.alloc (.grown N.flatten z), ?_, new s _ _ rfl (by simp) (by simp), ⟨rfl, hbn⟩, .of_mild (.alloc _ _) _, fun _ b hb => by simp only [inB] at hb; omega, fun h => absurd h hN0⟩
      simp only [List.length_nil, Nat.zero_add] at hsize
      simp only [appendV, he, hz, hzr, hby]
      rw [if_pos ⟨hzl, h0, by rw [hNf], Nat.le_refl _⟩, if_neg (by omega), if_neg (by omega), if_pos (by simpa using hsize)]
      simp
    | @mk a len cap L h1 h2 h3 h4 h5 h6 =>
      obtain ⟨rfl, hab⟩ := ht
      have hLf := flat_len' h3
      have hold : Ab.ldN base s a (cap * z) = some L.flatten := by
        by_cases hL : L = []
        · subst hL; simp at h1; subst h1; simp [Ab.ldN]
        · have := (h4 (.inl hL)).ldN; rw [hLf, h1] at this; exact this
      unfold kindB at h5
      have hstep : ∀ r, (match s.heap a.block with
            | .row _ => (match Ab.ldN base s a (cap * z) with
              | some olds => some (.slice (some ⟨s.next, 0, none⟩) (cap + N.length) (cap + N.length), s.alloc (.grown (olds ++ N.flatten) z))
              | none => none)
            | .grown c z' => (match Ab.ldN base s a (cap * z) with
              | some olds => if z' = z ∧ base ≤ a.block ∧ a.spot = none ∧ a.off + cap * z ≤ c.length then some (.slice (some ⟨s.next, 0, none⟩) (cap + N.length) (cap + N.length), (s.upd a.block .gone).alloc (.grown (olds ++ N.flatten) z)) else none
              | none => none)
            | _ => none) = some r → appendV P base s t (.slice (some a) cap cap) N.length N.flatten = some r := fun r hr => by
        simp only [appendV, he, hz, hzr, hby]
        rw [if_pos ⟨hzl, h0, by rw [hNf], Nat.le_refl _⟩, if_neg (by omega), if_neg (by omega), if_pos (by rw [← h1]; exact hsize)]
        exact hr
      cases hh : s.heap a.block with
      | row c =>
        refine ⟨_, _, hstep _ (by rw [hh, hold]), new s _ _ rfl (by simp) (by simp [h1]), ⟨rfl, hbn⟩, .of_mild (.alloc _ _) _, fun _ b hb => by simp only [inB] at hb; omega, fun h => absurd h hN0⟩
      | grown c z' =>
        rw [hh] at h5
        simp at h5
        subst h5
        have hroom : a.spot = none ∧ a.off + cap * z' ≤ c.length := by
          obtain ⟨g1, g2, g3, c', g4, g5⟩ := h4 (.inr hab)
          rw [hh] at g4; cases g4
          refine ⟨g1, ?_⟩
          have := (getL_some g5).1
          rw [hLf, h1] at this; exact this
        refine ⟨_, _, hstep _ (by rw [hh, hold]; simp only; rw [if_pos ⟨trivial, hab, hroom.1, hroom.2⟩]), new _ _ _ (next_upd _ _ _) (by simp) (by simp [h1]), ⟨rfl, hbn⟩, ⟨?_, fun b hb hn => ?_⟩, fun _ b hb => by simp only [inB] at hb; omega, fun h => absurd h hN0⟩
        · rw [next_alloc, next_upd]; exact Nat.le_succ _
        · rw [heap_alloc_ne _ _ (by rw [next_upd]; omega), heap_upd_ne _ _ (fun e => hn e.symm)]
      | _ => rw [hh] at h5; cases h5

theorem appendB_ok {P : Program} {base z : Nat} {s : St} {v : Value} {L : List (List Value)} (hv : Sl base s z v L) (ht : Tight base v) (hbn : base ≤ s.next) {t t' e : TypeId} (he : elemT P t = some e) (hi : intT P t' = none) (hu : (P.underlying t').isSome = true) (hz : sizT P e = some z) (h0 : 0 < z)
    {zr : List Value} (hzr : zerT P e = some zr) (hzl : zr.length = z) {by_ : Nat} (hby : bytT P e = some by_) {x : Value} {N : List (List Value)} (hx : Sl base s z x N)
    (hs : (L.length + N.length) * by_ ≤ 2 ^ 44 ∧ L.length + N.length ≤ 2 ^ 44 ∧ by_ ≤ 2 ^ 20) :
    ∃ v' s', builtinV P base s .append [t, t'] [v, x] = some (v', s') ∧ Sl base s' z v' (L ++ N) ∧ Tight base v' ∧ Ch s s' (inB v) ∧ (N ≠ [] → ∀ b, inB v' b → s.next ≤ b) ∧ (N = [] → v' = v ∧ s' = s) := by
  have hN : ∀ l ∈ N, l.length = z := by cases hx with
    | nil => intro l h; cases h
    | mk _ _ h3 => exact h3
  obtain ⟨v', s', e1, rest⟩ := append_ok hv ht hbn he hz h0 hzr hzl hby hN hs
  obtain ⟨n, n1, n2, n3⟩ := ldN_slice hx
  refine ⟨v', s', ?_, rest⟩
  simp only [builtinV, appendB, hu, if_true, hi, he, hz, n1]
  rw [n2] at n3 ⊢
  simp only [n3]; exact e1

theorem flat_cut {z : Nat} : ∀ {L : List (List Value)}, (∀ l ∈ L, l.length = z) → ∀ l h, h ≤ L.length → ((L.take h).drop l).flatten = (L.flatten.drop (l * z)).take ((h - l) * z) := by
  have tk : ∀ {L : List (List Value)}, (∀ l ∈ L, l.length = z) → ∀ h, (L.take h).flatten = L.flatten.take (h * z) := by
    intro L
    induction L with
    | nil => intro _ h; simp
    | cons x L ih =>
      intro hz h
      cases h with
      | zero => simp
      | succ h =>
        have hx := hz x (by simp)
        simp only [List.take_succ_cons, List.flatten_cons]
        rw [ih (fun y hy => hz y (by simp [hy])) h, Nat.add_mul, Nat.one_mul, List.take_append, List.take_of_length_le (by omega : x.length ≤ h * z + z)]
        congr 2; omega
  have dr : ∀ {L : List (List Value)}, (∀ l ∈ L, l.length = z) → ∀ h, (L.drop h).flatten = L.flatten.drop (h * z) := by
    intro L
    induction L with
    | nil => intro _ h; simp
    | cons x L ih =>
      intro hz h
      cases h with
      | zero => simp
      | succ h =>
        have hx := hz x (by simp)
        simp only [List.drop_succ_cons, List.flatten_cons]
        rw [ih (fun y hy => hz y (by simp [hy])) h, Nat.add_mul, Nat.one_mul, List.drop_append, List.drop_eq_nil_of_le (by omega : x.length ≤ h * z + z), List.nil_append]
        congr 1; omega
  intro L hz l h hh
  rw [List.drop_take, tk (fun x hx => hz x (List.mem_of_mem_drop hx)), dr hz]

theorem Sl.cut {P : Program} {base z : Nat} {s : St} {v : Value} {L : List (List Value)} (hv : Sl base s z v L) {t e : TypeId} (he : elemT P t = some e) (hz : sizT P e = some z) {lo hi mx : Option Value} {l h m : Nat}
    (hc : ∀ a len cap, v = .slice a len cap → cutV len cap lo hi mx = some (l, h, m)) (hl : l ≤ h) (hh : h ≤ L.length) (hm : h ≤ m) :
    ∃ v', sliceV P s t v lo hi mx = some v' ∧ Sl base s z v' ((L.take h).drop l) ∧ (∀ b, inB v' b → inB v b) ∧ (m = h → (∀ b, inB v b → base ≤ b) → Tight base v') := by
  cases hv with
  | nil =>
    have := hc _ _ _ rfl
    simp at hh
    subst hh
    obtain rfl : l = 0 := by omega
    have hm0 : m = 0 := by
      unfold cutV at this
      repeat' (split at this)
      all_goals first | (cases this; done) | (rename_i hk; simp only [Option.some.injEq, Prod.mk.injEq] at this; omega)
    subst hm0
    exact ⟨.slice none 0 0, by simp only [sliceV, he, hz, this], by simpa using Sl.nil, fun b hb => hb.elim, fun _ _ => trivial⟩
  | @mk a len cap L h1 h2 h3 h4 h5 h6 =>
    have := hc _ _ _ rfl
    refine ⟨.slice (some (a.add (l * z))) (h - l) (m - l), by simp only [sliceV, he, hz, this, h5, if_true], .mk (by simp; omega) (by omega) (fun x hx => h3 x (List.mem_of_mem_take (List.mem_of_mem_drop hx))) (fun hL => ?_) (by rw [add_block]; exact h5) (by rw [add_block]; exact h6),
      fun b hb => by simp only [inB, add_block] at *; exact hb, fun hmh hb => ⟨by omega, by rw [add_block]; exact hb _ rfl⟩⟩
    have hmem := h4 (by
      rcases hL with hL | hL
      · left; intro e; rw [e] at hL; simp at hL
      · right; rw [add_block] at hL; exact hL)
    have hf := flat_len' h3
    rw [flat_cut h3 l h hh]
    exact hmem.sub (by rw [hf, ← Nat.add_mul]; exact Nat.mul_le_mul_right _ (by omega))
end Go.Ab
