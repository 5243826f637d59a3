/- Texts of our own, one behind the other: AbC, Row0. -/
import Derived.Test.YthjpfllmecpliaaGreatDoorAbB
import Derived.IntWalk
import Derived.LaidMore
import Derived.OpenShut
import Derived.Stop.Joined
import Derived.Handed
import Derived.FnData
import Derived.Test.YthjpfllmecpliaaGreatDoorRows
import Derived.Shelf.Vars
/- The abstract machine (texts 25 to 34 of wip/ab, one behind the other). -/
/- Memory and slices, as the contracts speak of them. -/
set_option linter.unusedVariables false
set_option linter.unusedSimpArgs false
namespace Go.Ab
open Go Go.RowKit

theorem getL_sub {c cs : List Value} {off n k m : Nat} (h : getL c off n = some cs) (hk : k + m ≤ n) : getL c (off + k) m = some ((cs.drop k).take m) := by
  obtain ⟨h1, h2, h3, h4⟩ := getL_some h
  unfold getL
  rw [if_pos (by omega), h2]
  congr 1
  rw [← List.drop_drop, List.drop_take, List.take_take, Nat.min_eq_left (by omega)]
theorem getL_at {c cs : List Value} {off n k : Nat} {v : Value} (h : getL c off n = some cs) (hk : cs[k]? = some v) : c[off + k]? = some v := by
  obtain ⟨h1, h2, h3, h4⟩ := getL_some h
  have : k < n := by rw [← h3]; exact (List.getElem?_eq_some_iff.1 hk).1
  rw [← h4 k this]; exact hk

/-- The cells from an address on. -/
def Mem (base : Nat) (s : St) (a : Addr) (cs : List Value) : Prop :=
  a.spot = none ∧ a.block < s.next ∧ (base ≤ a.block ∨ cs.all (oldOk base) = true) ∧ ∃ c, (s.heap a.block).cells? = some c ∧ getL c a.off cs.length = some cs
theorem Mem.frame {base : Nat} {s s' : St} {a : Addr} {cs : List Value} (h : Mem base s a cs) (hh : s'.heap a.block = s.heap a.block) (hn : s.next ≤ s'.next) : Mem base s' a cs :=
  ⟨h.1, by have := h.2.1; omega, h.2.2.1, by rw [hh]; exact h.2.2.2⟩
theorem Mem.mild {base : Nat} {s s' : St} {a : Addr} {cs : List Value} (h : Mem base s a cs) (hm : Mild s s') : Mem base s' a cs := h.frame (hm.heap _ h.2.1) hm.next
theorem add_spot (a : Addr) (k : Nat) (h : a.spot = none) : (a.add k).spot = none := by
  unfold Addr.add; split
  · exact h
  · rfl
theorem add_off (a : Addr) (k : Nat) : (a.add k).off = a.off + k := by
  unfold Addr.add; split
  · rename_i h; subst h; rfl
  · rfl
theorem Mem.sub {base : Nat} {s : St} {a : Addr} {cs : List Value} (h : Mem base s a cs) {k m : Nat} (hk : k + m ≤ cs.length) : Mem base s (a.add k) ((cs.drop k).take m) := by
  obtain ⟨h1, h2, h3, c, h4, h5⟩ := h
  refine ⟨add_spot a k h1, by rw [add_block]; exact h2, ?_, c, by rw [add_block]; exact h4, ?_⟩
  · rw [add_block]
    refine h3.imp_right fun h => ?_
    rw [List.all_eq_true] at *
    exact fun v hv => h v (List.mem_of_mem_drop (List.mem_of_mem_take hv))
  · rw [add_off, List.length_take, List.length_drop, Nat.min_eq_left (by omega)]
    exact getL_sub h5 hk
theorem Mem.ldN {base : Nat} {s : St} {a : Addr} {cs : List Value} (h : Mem base s a cs) : ldN base s a cs.length = some cs := by
  obtain ⟨h1, h2, h3, c, h4, h5⟩ := h
  unfold Ab.ldN
  split
  · rename_i h0; rw [List.eq_nil_of_length_eq_zero h0]
  · rw [h4]; simp only [h1, if_true, h5]; rw [if_pos h3]
theorem Mem.ld1 {base : Nat} {s : St} {a : Addr} {v : Value} (h : Mem base s a [v]) : ld1 base s a = some v := by
  obtain ⟨h1, h2, h3, c, h4, h5⟩ := h
  unfold Ab.ld1
  have := getL_at (k := 0) h5 rfl
  rw [h4]; simp only [h1, if_true]
  rw [Nat.add_zero] at this
  rw [this]; simp only
  rw [if_pos (by rcases h3 with h | h; exact .inl h; exact .inr (by simpa using h))]

/-- A value of a type, out of its cells. -/
def valOf (agg : Bool) (l : List Value) : Value := if agg then .agg l.toArray else l.headD undef
theorem Mem.load {P : Program} {base : Nat} {s : St} {a : Addr} {l : List Value} {t : TypeId} {g : Bool} (h : Mem base s a l) (hg : aggT P t = some g) (hz : sizT P t = some l.length) (h1 : g = false → l.length = 1) : loadV P base s t (.pointer (some a)) = some (valOf g l) := by
  simp only [loadV, ptrV, ldVar, hg]
  cases g with
  | true => simp only [hz, h.ldN, valOf, if_true]
  | false =>
    have := h1 rfl
    match l, this with
    | [v], _ => simp only [h.ld1, valOf]; rfl
theorem Mem.row {base : Nat} {s : St} {b : Nat} {c : List Value} (h : s.heap b = .row c) (hb : base ≤ b) (hn : b < s.next) : Mem base s ⟨b, 0, none⟩ c :=
  ⟨rfl, hn, .inl hb, c, by rw [h]; rfl, by unfold getL; simp⟩

/-! ### Slices -/
inductive Sl (base : Nat) (s : St) (z : Nat) : Value → List (List Value) → Prop
  | nil : Sl base s z (.slice none 0 0) []
  | mk {a len cap L} (h1 : L.length = len) (h2 : len ≤ cap) (h3 : ∀ l ∈ L, l.length = z) (h4 : (L ≠ [] ∨ base ≤ a.block) → Mem base s a L.flatten) (h5 : kindB s a.block z = true) (h6 : a.block < s.next) : Sl base s z (.slice (some a) len cap) L
theorem Sl.frame {base z : Nat} {s s' : St} {v : Value} {L : List (List Value)} (h : Sl base s z v L) (hh : ∀ a n c, v = .slice (some a) n c → s'.heap a.block = s.heap a.block) (hn : s.next ≤ s'.next) : Sl base s' z v L := by
  cases h with
  | nil => exact .nil
  | mk h1 h2 h3 h4 h5 h6 =>
    have e := hh _ _ _ rfl
    exact .mk h1 h2 h3 (fun hL => (h4 hL).frame e hn) (by unfold kindB at *; rw [e]; exact h5) (by omega)
theorem Sl.mild {base z : Nat} {s s' : St} {v : Value} {L : List (List Value)} (h : Sl base s z v L) (hm : Mild s s') : Sl base s' z v L :=
  h.frame (fun a n c e => by subst e; cases h with | mk _ _ _ _ _ h6 => exact hm.heap _ h6) hm.next
theorem flat_len' {z : Nat} : ∀ {L : List (List Value)}, (∀ l ∈ L, l.length = z) → L.flatten.length = L.length * z := by
  intro L
  induction L with
  | nil => intro _; simp
  | cons l L ih =>
    intro h
    simp only [List.flatten_cons, List.length_append, List.length_cons, Nat.add_mul, Nat.one_mul]
    rw [ih fun x hx => h x (by simp [hx]), h l (by simp)]; omega
theorem flat_get {z : Nat} : ∀ {L : List (List Value)}, (∀ l ∈ L, l.length = z) → ∀ {i : Nat} {l : List Value}, L[i]? = some l → (L.flatten.drop (i * z)).take z = l := by
  intro L
  induction L with
  | nil => intro _ i l h; simp at h
  | cons x L ih =>
    intro h i l hl
    have hx := h x (by simp)
    cases i with
    | zero =>
      simp at hl; subst hl
      simp only [Nat.zero_mul, List.drop_zero, List.flatten_cons]
      rw [List.take_append_of_le_length (by omega), List.take_of_length_le (by omega)]
    | succ i =>
      have := ih (fun y hy => h y (by simp [hy])) (i := i) (by simpa using hl)
      rw [← this, List.flatten_cons, Nat.add_mul, Nat.one_mul, Nat.add_comm, ← List.drop_drop]
      congr 2
      rw [List.drop_append_of_le_length (by omega), List.drop_eq_nil_of_le (by omega : x.length ≤ z)]; rfl

/-- 'k' cells behind where a slice, or a pointer, leads. -/
def atP : Value → Nat → Value
  | .slice (some a) _ _, k => .pointer (some (a.add k))
  | .pointer (some a), k => .pointer (some (a.add k))
  | _, _ => .pointer none
theorem Sl.len {P : Program} {base z : Nat} {s : St} {v : Value} {L : List (List Value)} (h : Sl base s z v L) {t e : TypeId} {ts : List TypeId} (he : elemT P t = some e) (ha : arrT P t = none) : lenB P (t :: ts) [v] = some (.int .i64 L.length) := by
  cases h with
  | nil => simp [lenB, ha, he]
  | mk h1 => simp [lenB, ha, he, h1]
theorem Sl.index {P : Program} {base z : Nat} {s : St} {v : Value} {L : List (List Value)} (h : Sl base s z v L) {t e : TypeId} {k : IntKind} {i : Int} (he : elemT P t = some e) (hz : sizT P e = some z) (h0 : 0 ≤ i) (hi : i < L.length) :
    indexAddrV P t v (.int k i) = some (atP v (i.toNat * z)) := by
  cases h with
  | nil => simp at hi; omega
  | mk h1 => simp only [indexAddrV, intOf?, he, hz]; rw [if_pos ⟨h0, by omega⟩]; rfl
theorem Sl.mem {base z : Nat} {s : St} {v : Value} {L : List (List Value)} (h : Sl base s z v L) {i : Nat} {l : List Value} (hl : L[i]? = some l) : ∃ a, atP v (i * z) = .pointer (some a) ∧ Mem base s a l ∧ l.length = z := by
  cases h with
  | nil => simp at hl
  | @mk a len cap L h1 h2 h3 h4 h5 h6 =>
    have hlt : i < L.length := (List.getElem?_eq_some_iff.1 hl).1
    have hm := h4 (.inl fun e => by rw [e] at hl; simp at hl)
    have hz := h3 l (List.mem_of_getElem? hl)
    have hf := flat_len' h3
    have := hm.sub (k := i * z) (m := z) (by rw [hf, ← Nat.succ_mul]; exact Nat.mul_le_mul_right _ hlt)
    rw [flat_get h3 hl] at this
    exact ⟨_, rfl, this, hz⟩
theorem Sl.load {P : Program} {base z : Nat} {s : St} {v : Value} {L : List (List Value)} (h : Sl base s z v L) {i : Nat} {l : List Value} (hl : L[i]? = some l) {e : TypeId} {g : Bool} (hg : aggT P e = some g) (hz : sizT P e = some z) (h1 : g = false → z = 1) :
    loadV P base s e (atP v (i * z)) = some (valOf g l) := by
  obtain ⟨a, e1, e2, e3⟩ := h.mem hl
  rw [e1]
  exact e2.load hg (by rw [e3]; exact hz) (fun h => by rw [e3]; exact h1 h)

/-! ### Loads and stores, as equations -/
end Go.Ab
/- Slices that grow, and that are cut. -/
set_option linter.unusedVariables false
set_option linter.unusedSimpArgs false
namespace Go.Ab
open Go Go.RowKit

/-- Only these blocks have changed. -/
structure Ch (s s' : St) (X : Nat → Prop) : Prop where
  next : s.next ≤ s'.next
  heap : ∀ b, b < s.next → ¬ X b → s'.heap b = s.heap b
theorem Ch.refl (s : St) (X : Nat → Prop) : Ch s s X := ⟨Nat.le_refl _, fun _ _ _ => rfl⟩
theorem Ch.trans {s s1 s2 : St} {X Y : Nat → Prop} (h : Ch s s1 X) (k : Ch s1 s2 Y) : Ch s s2 (fun b => X b ∨ Y b) :=
  ⟨Nat.le_trans h.next k.next, fun b hb hn => (k.heap b (Nat.lt_of_lt_of_le hb h.next) fun y => hn (.inr y)).trans (h.heap b hb fun x => hn (.inl x))⟩
theorem Ch.mono {s s' : St} {X Y : Nat → Prop} (h : Ch s s' X) (hx : ∀ b, b < s.next → X b → Y b) : Ch s s' Y := ⟨h.next, fun b hb hn => h.heap b hb fun x => hn (hx b hb x)⟩
theorem Ch.of_mild {s s' : St} (h : Mild s s') (X : Nat → Prop) : Ch s s' X := ⟨h.next, fun b hb _ => h.heap b hb⟩
theorem Ch.mild {s s' : St} {X : Nat → Prop} (h : Ch s s' X) (hx : ∀ b, b < s.next → ¬ X b) : Mild s s' := ⟨h.next, fun b hb => h.heap b hb (hx b hb)⟩

/-- The block that a slice lies in. -/
def inB (v : Value) (b : Nat) : Prop := match v with | .slice (some a) _ _ => a.block = b | _ => False
theorem Sl.ch {base z : Nat} {s s' : St} {v : Value} {L : List (List Value)} {X : Nat → Prop} (h : Sl base s z v L) (hc : Ch s s' X) (hx : ∀ b, inB v b → ¬ X b) : Sl base s' z v L :=
  h.frame (fun a n c e => by
    subst e
    have : a.block < s.next := by cases h; assumption
    exact hc.heap _ this (hx _ rfl)) hc.next

/-- A slice of our own, with no room behind it. -/
def Tight (base : Nat) (v : Value) : Prop := match v with | .slice none _ _ => True | .slice (some a) len cap => cap = len ∧ base ≤ a.block | _ => False

theorem ldN_slice {base z : Nat} {s : St} {v : Value} {L : List (List Value)} (h : Sl base s z v L) : ∃ n, lenV? v = some n ∧ n = L.length ∧ newsV base s z n v = some L.flatten := by
  cases h with
  | nil => exact ⟨0, rfl, rfl, rfl⟩
  | @mk a len cap L h1 h2 h3 h4 h5 h6 =>
    refine ⟨len, rfl, h1.symm, ?_⟩
    simp only [newsV, Nat.le_refl, if_true]
    have hf := flat_len' h3
    by_cases hL : L = []
    · subst hL
      simp at h1
      subst h1
      simp [Ab.ldN]
    · have := (h4 (.inl hL)).ldN
      rw [hf, h1] at this; exact this

theorem append_ok {P : Program} {base z : Nat} {s : St} {v : Value} {L : List (List Value)} (hv : Sl base s z v L) (ht : Tight base v) (hbn : base ≤ s.next) {t e : TypeId} (he : elemT P t = some e) (hz : sizT P e = some z) (h0 : 0 < z)
    {zr : List Value} (hzr : zerT P e = some zr) (hzl : zr.length = z) {by_ : Nat} (hby : bytT P e = some by_) {N : List (List Value)} (hN : ∀ l ∈ N, l.length = z)
    (hs : (L.length + N.length) * by_ ≤ 2 ^ 44 ∧ L.length + N.length ≤ 2 ^ 44 ∧ by_ ≤ 2 ^ 20) :
    ∃ v' s', appendV P base s t v N.length N.flatten = some (v', s') ∧ Sl base s' z v' (L ++ N) ∧ Tight base v' ∧ Ch s s' (inB v) ∧ (N ≠ [] → ∀ b, inB v' b → s.next ≤ b) ∧ (N = [] → v' = v ∧ s' = s) := by
  have hNf := flat_len' hN
  have new : ∀ (s1 : St) (n : Nat) (cs : List Value), s1.next = s.next → cs = (L ++ N).flatten → n = (L ++ N).length →
      Sl base (s1.alloc (.grown cs z)) z (.slice (some ⟨s.next, 0, none⟩) n n) (L ++ N) := fun s1 n cs hn hcs hnl => by
    have hall : ∀ l ∈ L ++ N, l.length = z := fun l hl => by
      rcases List.mem_append.1 hl with h | h
      · cases hv with
        | nil => cases h
        | mk _ _ h3 => exact h3 l h
      · exact hN l h
    have hh : (s1.alloc (.grown cs z)).heap s.next = .grown cs z := by rw [← hn]; exact Ab.heap_alloc_new s1 _
    refine .mk hnl.symm (Nat.le_refl _) hall (fun _ => ⟨rfl, by rw [next_alloc, hn]; exact Nat.lt_succ_self _, .inl hbn, cs, by simp only; rw [hh]; rfl, ?_⟩) ?_ (by rw [next_alloc, hn]; exact Nat.lt_succ_self _)
    · rw [hcs]; unfold getL; simp only [Nat.zero_add, Nat.le_refl, if_true, List.drop_zero, List.take_length]
    · unfold kindB; simp only [hh]; simp
  have hsize : (L.length + N.length) * by_ ≤ 2 ^ 44 ∧ L.length + N.length ≤ 2 ^ 44 ∧ by_ ≤ 2 ^ 20 := hs
  by_cases hN0 : N = []
  · subst hN0
    refine ⟨v, s, ?_, by rw [List.append_nil]; exact hv, ht, .refl _ _, fun h => absurd rfl h, fun _ => ⟨rfl, rfl⟩⟩
    cases hv with
    | nil => simp only [appendV, he, hz, hzr, hby]; rw [if_pos ⟨hzl, h0, by simp, Nat.le_refl _⟩]; simp
    | mk h1 h2 => simp only [appendV, he, hz, hzr, hby]; rw [if_pos ⟨hzl, h0, by simp, h2⟩]; simp
  · have hNl : 0 < N.length := List.length_pos_iff.2 hN0
    cases hv with
    | nil =>
      refine ⟨.slice (some ⟨s.next, 0, none⟩) N.length N.length, s.alloc (.grown N.flatten z), ?_, new s _ _ rfl (by simp) (by simp), ⟨rfl, hbn⟩, .of_mild (.alloc _ _) _, fun _ b hb => by simp only [inB] at hb; omega, fun h => absurd h hN0⟩
      simp only [List.length_nil, Nat.zero_add] at hsize
      simp only [appendV, he, hz, hzr, hby]
      rw [if_pos ⟨hzl, h0, by rw [hNf], Nat.le_refl _⟩, if_neg (by omega), if_neg (by omega), if_pos (by simpa using hsize)]
      simp
    | @mk a len cap L h1 h2 h3 h4 h5 h6 =>
      obtain ⟨rfl, hab⟩ := ht
      have hLf := flat_len' h3
      have hold : Ab.ldN base s a (cap * z) = some L.flatten := by
        by_cases hL : L = []
        · subst hL; simp at h1; subst h1; simp [Ab.ldN]
        · have := (h4 (.inl hL)).ldN; rw [hLf, h1] at this; exact this
      unfold kindB at h5
      have hstep : ∀ r, (match s.heap a.block with
            | .row _ => (match Ab.ldN base s a (cap * z) with
              | some olds => some (.slice (some ⟨s.next, 0, none⟩) (cap + N.length) (cap + N.length), s.alloc (.grown (olds ++ N.flatten) z))
              | none => none)
            | .grown c z' => (match Ab.ldN base s a (cap * z) with
              | some olds => if z' = z ∧ base ≤ a.block ∧ a.spot = none ∧ a.off + cap * z ≤ c.length then some (.slice (some ⟨s.next, 0, none⟩) (cap + N.length) (cap + N.length), (s.upd a.block .gone).alloc (.grown (olds ++ N.flatten) z)) else none
              | none => none)
            | _ => none) = some r → appendV P base s t (.slice (some a) cap cap) N.length N.flatten = some r := fun r hr => by
        simp only [appendV, he, hz, hzr, hby]
        rw [if_pos ⟨hzl, h0, by rw [hNf], Nat.le_refl _⟩, if_neg (by omega), if_neg (by omega), if_pos (by rw [← h1]; exact hsize)]
        exact hr
      cases hh : s.heap a.block with
      | row c =>
        refine ⟨_, _, hstep _ (by rw [hh, hold]), new s _ _ rfl (by simp) (by simp [h1]), ⟨rfl, hbn⟩, .of_mild (.alloc _ _) _, fun _ b hb => by simp only [inB] at hb; omega, fun h => absurd h hN0⟩
      | grown c z' =>
        rw [hh] at h5
        simp at h5
        subst h5
        have hroom : a.spot = none ∧ a.off + cap * z' ≤ c.length := by
          obtain ⟨g1, g2, g3, c', g4, g5⟩ := h4 (.inr hab)
          rw [hh] at g4; cases g4
          refine ⟨g1, ?_⟩
          have := (getL_some g5).1
          rw [hLf, h1] at this; exact this
        refine ⟨_, _, hstep _ (by rw [hh, hold]; simp only; rw [if_pos ⟨trivial, hab, hroom.1, hroom.2⟩]), new _ _ _ (next_upd _ _ _) (by simp) (by simp [h1]), ⟨rfl, hbn⟩, ⟨?_, fun b hb hn => ?_⟩, fun _ b hb => by simp only [inB] at hb; omega, fun h => absurd h hN0⟩
        · rw [next_alloc, next_upd]; exact Nat.le_succ _
        · rw [heap_alloc_ne _ _ (by rw [next_upd]; omega), heap_upd_ne _ _ (fun e => hn e.symm)]
      | _ => rw [hh] at h5; cases h5

theorem appendB_ok {P : Program} {base z : Nat} {s : St} {v : Value} {L : List (List Value)} (hv : Sl base s z v L) (ht : Tight base v) (hbn : base ≤ s.next) {t t' e : TypeId} (he : elemT P t = some e) (hi : intT P t' = none) (hu : (P.underlying t').isSome = true) (hz : sizT P e = some z) (h0 : 0 < z)
    {zr : List Value} (hzr : zerT P e = some zr) (hzl : zr.length = z) {by_ : Nat} (hby : bytT P e = some by_) {x : Value} {N : List (List Value)} (hx : Sl base s z x N)
    (hs : (L.length + N.length) * by_ ≤ 2 ^ 44 ∧ L.length + N.length ≤ 2 ^ 44 ∧ by_ ≤ 2 ^ 20) :
    ∃ v' s', builtinV P base s .append [t, t'] [v, x] = some (v', s') ∧ Sl base s' z v' (L ++ N) ∧ Tight base v' ∧ Ch s s' (inB v) ∧ (N ≠ [] → ∀ b, inB v' b → s.next ≤ b) ∧ (N = [] → v' = v ∧ s' = s) := by
  have hN : ∀ l ∈ N, l.length = z := by cases hx with
    | nil => intro l h; cases h
    | mk _ _ h3 => exact h3
  obtain ⟨v', s', e1, rest⟩ := append_ok hv ht hbn he hz h0 hzr hzl hby hN hs
  obtain ⟨n, n1, n2, n3⟩ := ldN_slice hx
  refine ⟨v', s', ?_, rest⟩
  simp only [builtinV, appendB, hu, if_true, hi, he, hz, n1]
  rw [n2] at n3 ⊢
  simp only [n3]; exact e1

theorem flat_cut {z : Nat} : ∀ {L : List (List Value)}, (∀ l ∈ L, l.length = z) → ∀ l h, h ≤ L.length → ((L.take h).drop l).flatten = (L.flatten.drop (l * z)).take ((h - l) * z) := by
  have tk : ∀ {L : List (List Value)}, (∀ l ∈ L, l.length = z) → ∀ h, (L.take h).flatten = L.flatten.take (h * z) := by
    intro L
    induction L with
    | nil => intro _ h; simp
    | cons x L ih =>
      intro hz h
      cases h with
      | zero => simp
      | succ h =>
        have hx := hz x (by simp)
        simp only [List.take_succ_cons, List.flatten_cons]
        rw [ih (fun y hy => hz y (by simp [hy])) h, Nat.add_mul, Nat.one_mul, List.take_append, List.take_of_length_le (by omega : x.length ≤ h * z + z)]
        congr 2; omega
  have dr : ∀ {L : List (List Value)}, (∀ l ∈ L, l.length = z) → ∀ h, (L.drop h).flatten = L.flatten.drop (h * z) := by
    intro L
    induction L with
    | nil => intro _ h; simp
    | cons x L ih =>
      intro hz h
      cases h with
      | zero => simp
      | succ h =>
        have hx := hz x (by simp)
        simp only [List.drop_succ_cons, List.flatten_cons]
        rw [ih (fun y hy => hz y (by simp [hy])) h, Nat.add_mul, Nat.one_mul, List.drop_append, List.drop_eq_nil_of_le (by omega : x.length ≤ h * z + z), List.nil_append]
        congr 1; omega
  intro L hz l h hh
  rw [List.drop_take, tk (fun x hx => hz x (List.mem_of_mem_drop hx)), dr hz]

theorem Sl.cut {P : Program} {base z : Nat} {s : St} {v : Value} {L : List (List Value)} (hv : Sl base s z v L) {t e : TypeId} (he : elemT P t = some e) (hz : sizT P e = some z) {lo hi mx : Option Value} {l h m : Nat}
    (hc : ∀ a len cap, v = .slice a len cap → cutV len cap lo hi mx = some (l, h, m)) (hl : l ≤ h) (hh : h ≤ L.length) (hm : h ≤ m) :
    ∃ v', sliceV P s t v lo hi mx = some v' ∧ Sl base s z v' ((L.take h).drop l) ∧ (∀ b, inB v' b → inB v b) ∧ (m = h → (∀ b, inB v b → base ≤ b) → Tight base v') := by
  cases hv with
  | nil =>
    have := hc _ _ _ rfl
    simp at hh
    subst hh
    obtain rfl : l = 0 := by omega
    have hm0 : m = 0 := by
      unfold cutV at this
      repeat' (split at this)
      all_goals first | (cases this; done) | (rename_i hk; simp only [Option.some.injEq, Prod.mk.injEq] at this; omega)
    subst hm0
    exact ⟨.slice none 0 0, by simp only [sliceV, he, hz, this], by simpa using Sl.nil, fun b hb => hb.elim, fun _ _ => trivial⟩
  | @mk a len cap L h1 h2 h3 h4 h5 h6 =>
    have := hc _ _ _ rfl
    refine ⟨.slice (some (a.add (l * z))) (h - l) (m - l), by simp only [sliceV, he, hz, this, h5, if_true], .mk (by simp; omega) (by omega) (fun x hx => h3 x (List.mem_of_mem_take (List.mem_of_mem_drop hx))) (fun hL => ?_) (by rw [add_block]; exact h5) (by rw [add_block]; exact h6),
      fun b hb => by simp only [inB, add_block] at *; exact hb, fun hmh hb => ⟨by omega, by rw [add_block]; exact hb _ rfl⟩⟩
    have hmem := h4 (by
      rcases hL with hL | hL
      · left; intro e; rw [e] at hL; simp at hL
      · right; rw [add_block] at hL; exact hL)
    have hf := flat_len' h3
    rw [flat_cut h3 l h hh]
    exact hmem.sub (by rw [hf, ← Nat.add_mul]; exact Nat.mul_le_mul_right _ (by omega))
end Go.Ab
/- Loops by an invariant, and what is told of several things at once. -/
set_option linter.unusedVariables false
set_option linter.unusedSimpArgs false
namespace Go.Ab
open Go Go.RowKit

theorem W_loop_ind {P : Program} {base : Nat} {a : Code} {Q : Exit → Env → St → Prop} (n : Nat) (I : Nat → Env → St → Prop)
    (step : ∀ i e s, i ≤ n → I i e s → W P base a e s (Th (fun e s => i < n ∧ I (i + 1) e s) Q)) {e : Env} {s : St} (h : I 0 e s) : W P base (.loop a) e s Q := by
  have : ∀ d i, i + d = n → ∀ e s, I i e s → W P base (.loop a) e s Q := by
    intro d
    induction d with
    | zero =>
      intro i hi e s h
      rw [W_loop]
      refine W_mono (step i e s (by omega) h) fun x e s hq => ?_
      cases x with
      | normal => have := hq.1; omega
      | _ => exact hq
    | succ d ih =>
      intro i hi e s h
      rw [W_loop]
      refine W_mono (step i e s (by omega) h) fun x e s hq => ?_
      cases x with
      | normal => exact ih (i + 1) (by omega) e s hq.2
      | _ => exact hq
  exact this n 0 (by omega) e s h
/-- The same; what holds where it is left is said once (J). -/
theorem W_loop_inv {P : Program} {base : Nat} {a : Code} {Q : Exit → Env → St → Prop} (n : Nat) (I : Nat → Env → St → Prop) (J : Exit → Env → St → Prop)
    (step : ∀ i e s, i ≤ n → I i e s → W P base a e s (Th (fun e s => i < n ∧ I (i + 1) e s) J)) {e : Env} {s : St} (h : I 0 e s) (post : ∀ x e s, J x e s → Q x e s) : W P base (.loop a) e s Q :=
  W_mono (W_loop_ind n I step h) post
/-- The same, with what is left as a measure: the invariant says how much. -/
theorem W_loop_dec {P : Program} {base : Nat} {a : Code} {Q : Exit → Env → St → Prop} (I : Nat → Env → St → Prop)
    (step : ∀ d e s, I d e s → W P base a e s (Th (fun e s => ∃ d', d' < d ∧ I d' e s) Q)) {d : Nat} {e : Env} {s : St} (h : I d e s) : W P base (.loop a) e s Q := by
  induction d using Nat.strongRecOn generalizing e s with
  | ind d ih =>
    rw [W_loop]
    refine W_mono (step d e s h) fun x e s hq => ?_
    cases x with
    | normal => obtain ⟨d', h1, h2⟩ := hq; exact ih d' h1 h2
    | _ => exact hq
end Go.Ab
/- Own memory as equations for simp, and what is left as it was. -/
set_option linter.unusedVariables false
set_option linter.unusedSimpArgs false
namespace Go.Ab
open Go Go.RowKit

def cellAt (o : AObj) (k : Nat) : Option Value := match o.cells? with | some c => c[k]? | none => none
def cellsAt (o : AObj) (k n : Nat) : Option (List Value) := match o.cells? with | some c => getL c k n | none => none
def putAt (o : AObj) (k : Nat) (vs : List Value) : Option AObj :=
  match o.cells? with | some c => (if k + vs.length ≤ c.length then some (o.withCells (setL c k vs)) else none) | none => none
theorem cellAt_row (c : List Value) (k : Nat) : cellAt (.row c) k = c[k]? := rfl
theorem cellAt_grown (c : List Value) (z k : Nat) : cellAt (.grown c z) k = c[k]? := rfl
theorem cellsAt_row (c : List Value) (k n : Nat) : cellsAt (.row c) k n = getL c k n := rfl
theorem cellsAt_grown (c : List Value) (z k n : Nat) : cellsAt (.grown c z) k n = getL c k n := rfl
theorem putAt_row {c : List Value} {k : Nat} {vs : List Value} (h : k + vs.length ≤ c.length) : putAt (.row c) k vs = some (.row (setL c k vs)) := if_pos h
theorem putAt_grown {c : List Value} {z k : Nat} {vs : List Value} (h : k + vs.length ≤ c.length) : putAt (.grown c z) k vs = some (.grown (setL c k vs) z) := if_pos h
theorem getL_all {c : List Value} {n : Nat} (h : c.length = n) : getL c 0 n = some c := by subst h; unfold getL; simp
theorem setL_all : ∀ {c vs : List Value}, c.length = vs.length → setL c 0 vs = vs := by
  have gen : ∀ (vs p c : List Value), c.length = vs.length → setL (p ++ c) p.length vs = p ++ vs := by
    intro vs
    induction vs with
    | nil => intro p c h; simp at h; subst h; rfl
    | cons v vs ih =>
      intro p c h
      cases c with
      | nil => simp at h
      | cons x c =>
        simp only [setL]
        have : (p ++ x :: c).set p.length v = (p ++ [v]) ++ c := by simp
        rw [this]
        have := ih (p ++ [v]) c (by simpa using h)
        simp only [List.length_append, List.length_cons, List.length_nil, Nat.zero_add] at this
        rw [this]; simp
  intro c vs h
  exact gen vs [] c h
theorem setL_nil (c : List Value) (k : Nat) : setL c k [] = c := rfl
theorem setL_cons (c : List Value) (k : Nat) (v : Value) (vs : List Value) : setL c k (v :: vs) = setL (c.set k v) (k + 1) vs := rfl

theorem ld1_own {base : Nat} {s : St} {b o : Nat} (hb : base ≤ b) : ld1 base s ⟨b, o, none⟩ = cellAt (s.heap b) o := by
  simp only [ld1, cellAt]
  cases (s.heap b).cells? with
  | none => rfl
  | some c => simp only [if_true]; cases c[o]? with
    | none => rfl
    | some v => simp [hb]
theorem ldN_own {base : Nat} {s : St} {b o n : Nat} (hb : base ≤ b) (hn : 0 < n) : Ab.ldN base s ⟨b, o, none⟩ n = cellsAt (s.heap b) o n := by
  simp only [Ab.ldN, cellsAt]
  rw [if_neg (by omega)]
  cases (s.heap b).cells? with
  | none => rfl
  | some c => simp only [if_true]; cases getL c o n with
    | none => rfl
    | some v => simp [hb]
def updO (s : St) (b : Nat) : Option AObj → Option St
  | some o => some (s.upd b o)
  | none => none
theorem updO_some (s : St) (b : Nat) (o : AObj) : updO s b (some o) = some (s.upd b o) := rfl
theorem stN_own {base : Nat} {s : St} {b o : Nat} {v : Value} {vs : List Value} (hb : base ≤ b) : stN base s ⟨b, o, none⟩ (v :: vs) = updO s b (putAt (s.heap b) o (v :: vs)) := by
  simp only [stN, putAt, reduceCtorEq, if_false]
  cases (s.heap b).cells? with
  | none => rfl
  | some c => simp only [true_and, hb]; split <;> rfl
theorem upd_upd (s : St) (b : Nat) (x y : AObj) : (s.upd b x).upd b y = s.upd b y := by
  simp only [St.upd, St.mk.injEq, and_true]; funext k; split <;> rfl
theorem alloc_upd (s : St) (x y : AObj) : (s.alloc x).upd s.next y = s.alloc y := by
  simp only [St.upd, St.alloc, St.mk.injEq, and_true]; funext k; split <;> rfl

theorem Mild.alloc' {s s' : St} {o : AObj} (h : Mild s s') : Mild s (s'.alloc o) := h.trans (.alloc _ _)
theorem Mild.upd' {s s' : St} {b : Nat} {o : AObj} (h : Mild s s') (hb : s.next ≤ b) : Mild s (s'.upd b o) :=
  ⟨by rw [next_upd]; exact h.next, fun k hk => by rw [heap_upd_ne _ _ (by omega)]; exact h.heap k hk⟩
theorem Ch.alloc' {s s' : St} {X : Nat → Prop} {o : AObj} (h : Ch s s' X) : Ch s (s'.alloc o) X :=
  ⟨by rw [next_alloc]; exact Nat.le_succ_of_le h.next, fun k hk hn => by rw [heap_alloc_lt _ _ (Nat.lt_of_lt_of_le hk h.next)]; exact h.heap k hk hn⟩
theorem Ch.upd' {s s' : St} {X : Nat → Prop} {b : Nat} {o : AObj} (h : Ch s s' X) (hb : b < s.next → X b) : Ch s (s'.upd b o) X :=
  ⟨by rw [next_upd]; exact h.next, fun k hk hn => by rw [heap_upd_ne _ _ (fun e => by subst e; exact hn (hb hk))]; exact h.heap k hk hn⟩
theorem Ch.after {s s1 s2 : St} {X Y : Nat → Prop} (h : Ch s s1 X) (k : Ch s1 s2 Y) (hy : ∀ b, b < s.next → Y b → X b) : Ch s s2 X :=
  (h.trans k).mono fun b hb hx => hx.elim id (hy b hb)
theorem Mild.after {s s1 s2 : St} (h : Mild s s1) (k : Mild s1 s2) : Mild s s2 := h.trans k
def andI (k : IntKind) (x y : Int) : Int := k.wrap ((x % 2 ^ k.bits).toNat &&& (y % 2 ^ k.bits).toNat : Nat)
def orI (k : IntKind) (x y : Int) : Int := k.wrap ((x % 2 ^ k.bits).toNat ||| (y % 2 ^ k.bits).toNat : Nat)
def xorI (k : IntKind) (x y : Int) : Int := k.wrap ((x % 2 ^ k.bits).toNat ^^^ (y % 2 ^ k.bits).toNat : Nat)
def andNotI (k : IntKind) (x y : Int) : Int := k.wrap ((x % 2 ^ k.bits).toNat &&& (2 ^ k.bits - 1 - (y % 2 ^ k.bits).toNat) : Nat)
theorem bitV_and (k : IntKind) (x y : Int) : bitV .and k x y = some (andI k x y) := rfl
theorem bitV_or (k : IntKind) (x y : Int) : bitV .or k x y = some (orI k x y) := rfl
theorem bitV_xor (k : IntKind) (x y : Int) : bitV .xor k x y = some (xorI k x y) := rfl
theorem bitV_andNot (k : IntKind) (x y : Int) : bitV .andNot k x y = some (andNotI k x y) := rfl
theorem Sl.loadA {P : Program} {base z : Nat} {s : St} {v : Value} {L : List (List Value)} (h : Sl base s z v L) {i : Nat} {l : List Value} (hl : L[i]? = some l) {e : TypeId} (hg : aggT P e = some true) (hz : sizT P e = some z) :
    loadV P base s e (atP v (i * z)) = some (.agg l.toArray) := h.load hl hg hz (fun h => by cases h)
theorem Sl.load1 {P : Program} {base : Nat} {s : St} {v : Value} {L : List (List Value)} (h : Sl base s 1 v L) {i : Nat} {x : Value} (hl : L[i]? = some [x]) {e : TypeId} (hg : aggT P e = some false) (hz : sizT P e = some 1) :
    loadV P base s e (atP v (i * 1)) = some x := h.load hl hg hz (fun _ => rfl)
theorem appB_ok {P : Program} {base z : Nat} {s : St} {v : Value} {L : List (List Value)} (hv : Sl base s z v L) (ht : Tight base v) (hbn : base ≤ s.next) {t t' e : TypeId} (he : elemT P t = some e) (hi : intT P t' = none) (hu : (P.underlying t').isSome = true) (hz : sizT P e = some z) (h0 : 0 < z)
    {zr : List Value} (hzr : zerT P e = some zr) (hzl : zr.length = z) {by_ : Nat} (hby : bytT P e = some by_) {x : Value} {N : List (List Value)} (hx : Sl base s z x N)
    (hs : (L.length + N.length) * by_ ≤ 2 ^ 44 ∧ L.length + N.length ≤ 2 ^ 44 ∧ by_ ≤ 2 ^ 20) :
    ∃ v' s', appendB P base s [t, t'] [v, x] = some (v', s') ∧ Sl base s' z v' (L ++ N) ∧ Tight base v' ∧ Ch s s' (inB v) ∧ (N ≠ [] → ∀ b, inB v' b → s.next ≤ b) ∧ (N = [] → v' = v ∧ s' = s) :=
  appendB_ok hv ht hbn he hi hu hz h0 hzr hzl hby hx hs
theorem Sl.lt {base z : Nat} {s : St} {v : Value} {L : List (List Value)} (h : Sl base s z v L) : ∀ b, inB v b → b < s.next := by
  intro b hb
  cases h with
  | nil => exact hb.elim
  | mk h1 h2 h3 h4 h5 h6 => simp only [inB] at hb; omega
/-- A new row, as a slice of all its elements. -/
theorem Sl.newRow {base z : Nat} {s : St} {L : List (List Value)} {c : List Value} {b n : Nat} (hh : s.heap b = .row c) (hc : c = L.flatten) (hn : n = L.length) (hz : ∀ l ∈ L, l.length = z) (hb : base ≤ b) (hlt : b < s.next) : Sl base s z (.slice (some ⟨b, 0, none⟩) n n) L := by
  subst hc hn
  exact .mk rfl (Nat.le_refl _) hz (fun _ => .row hh hb hlt) (by unfold kindB; rw [hh]) hlt
theorem Lok_ff {eff kp : Nat → Bool} {n k : Nat} {ρ : Operand → Value} {o : Op} : Lok (some ⟨eff, fun _ => false, kp, n⟩) k ρ o = True := by
  cases o <;> simp [Lok]
theorem Dok_upd {eff lite : Nat → Bool} {n k : Nat} {s : St} {b : Nat} {o : AObj} (he : eff k = true) : Dok (some ⟨eff, lite, fun _ => false, n⟩) k s (s.upd b o) = True := by
  simp [Dok, he, next_upd]
theorem Sl.shape {base z : Nat} {s : St} {v : Value} {L : List (List Value)} (h : Sl base s z v L) : ∃ a n c, v = .slice a n c := by
  cases h <;> exact ⟨_, _, _, rfl⟩
theorem getL_take {c : List Value} {o n : Nat} (h : o + n ≤ c.length) : getL c o n = some ((c.drop o).take n) := if_pos h
theorem build1 {P : Program} {s : St} {t e : TypeId} {l zr : List Value} {n : Nat} (he : elemT P t = some e) (hz : sizT P e = some n) (hzr : zerT P e = some zr) (hl : l.length = n) (hzl : zr.length = n) (h0 : 0 < n) (hn : n ≤ 2 ^ 24) :
    buildSliceV P s t 1 [(0, .agg l.toArray)] = some (.slice (some ⟨s.next, 0, none⟩) 1 1, s.alloc (.row l)) := by
  simp only [buildSliceV, he, hz, hzr]
  rw [if_pos ⟨hzl, h0, by omega⟩]
  have : fillL (fun i => some (i * n, n)) (repL zr 1) [(0, .agg l.toArray)] = some l := by
    simp only [fillL, isTup, Value.cells, repL, List.size_toArray, List.replicate, List.flatten_cons, List.flatten_nil, List.append_nil]
    rw [if_pos ⟨trivial, hl, by omega⟩, Nat.zero_mul, setL_all (by simp [hl, hzl])]
  rw [this]
theorem stN_ownL {base : Nat} {s : St} {b o : Nat} {vs : List Value} (hb : base ≤ b) (hn : 0 < vs.length) : stN base s ⟨b, o, none⟩ vs = updO s b (putAt (s.heap b) o vs) := by
  cases vs with
  | nil => simp at hn
  | cons v vs => exact stN_own hb
theorem heapAt_alloc (s : St) (o : AObj) {b : Nat} (h : ¬ b ≠ s.next) : (s.alloc o).heap b = o := by
  obtain rfl : b = s.next := by omega
  exact Ab.heap_alloc_new s o
theorem allocUpd (s : St) (x y : AObj) {b : Nat} (h : ¬ b ≠ s.next) : (s.alloc x).upd b y = s.alloc y := by
  obtain rfl : b = s.next := by omega
  exact alloc_upd s x y
theorem loadV_ptr {P : Program} {base : Nat} {s : St} {t : TypeId} {a : Addr} : loadV P base s t (.pointer (some a)) = ldVar P base s t a := rfl
theorem beq_tf : (true == false) = false := rfl
theorem beq_ft : (false == true) = false := rfl
end Go.Ab
/- What is told of a row's arguments, as slices and memory. -/
set_option linter.unusedVariables false
set_option linter.unusedSimpArgs false
namespace Go.Ab
open Go Go.RowKit

theorem getL_append {c l m : List Value} {o n k : Nat} (h : getL c o n = some l) (h' : getL c (o + n) k = some m) : getL c o (n + k) = some (l ++ m) := by
  unfold getL at *
  split at h <;> simp only [Option.some.injEq, reduceCtorEq] at h
  split at h' <;> simp only [Option.some.injEq, reduceCtorEq] at h'
  subst h h'
  rw [if_pos (by omega), List.take_add, List.drop_drop]
theorem cells_getL {W : World} {a : Addr} {z : Nat} {l : List Value} (hz : 0 < z) (h : W.cells? 0 a z = some l) : ∃ c ty fr, W.heap[a.block]? = some (.cells c ty fr) ∧ a.spot = none ∧ getL c.toList a.off z = some l := by
  obtain ⟨_, h2, h3⟩ := World.cells?_some h
  have h0 := h3 0 hz
  have h00 : l[0]? = some l[0] := by simp
  rw [h00] at h0
  unfold World.cell? at h0
  split at h0
  · rename_i c ty fr hc
    rw [add_block] at hc
    split at h0
    · cases h0
    · rename_i hs
      have hs0 : (a.add 0).spot = none := by simpa using hs
      have hsp : a.spot = none := by
        unfold Addr.add at hs0; simpa using hs0
      refine ⟨c, ty, fr, hc, hsp, ?_⟩
      have hall : ∀ i, i < z → c.toList[a.off + i]? = l[i]? := fun i hi => by
        have := h3 i hi
        unfold World.cell? at this
        rw [add_block, hc] at this
        simp only [add_spot a i hsp, add_off] at this
        simpa using this
      unfold getL
      have hlast := hall (z - 1) (by omega)
      rw [List.getElem?_eq_getElem (by omega : z - 1 < l.length)] at hlast
      have := (List.getElem?_eq_some_iff.1 hlast).1
      rw [if_pos (by omega)]
      congr 1
      apply List.ext_getElem?
      intro i
      by_cases hi : i < z
      · rw [List.getElem?_take_of_lt hi, List.getElem?_drop, hall i hi]
      · rw [List.getElem?_eq_none (by simp; omega), List.getElem?_eq_none (by omega)]
  · cases h0

def CK.plain : CK → Bool
  | .sl _ => false
  | _ => true
theorem plain_old {W : World} {base : Nat} : ∀ {ks : List CK} {l : List Value}, ks.all CK.plain = true → okCells W ks l → l.all (oldOk base) = true := by
  intro ks
  induction ks with
  | nil => intro l _ h; simp only [okCells] at h; subst h; rfl
  | cons k ks ih =>
    intro l hk h
    simp only [okCells] at h
    obtain ⟨v, r, rfl, h1, h2⟩ := h
    simp only [List.all_cons, Bool.and_eq_true] at hk ⊢
    refine ⟨?_, ih hk.2 h2⟩
    cases k with
    | int k => simp only [okCell] at h1; obtain ⟨n, rfl, _⟩ := h1; rfl
    | bool => simp only [okCell] at h1; obtain ⟨n, rfl⟩ := h1; rfl
    | str => simp only [okCell] at h1; obtain ⟨n, rfl, _⟩ := h1; rfl
    | sl es => cases hk.1

theorem rows_getL {W : World} {es : List CK} {a : Addr} {c : Array Value} {ty : TypeId} {fr : Nat × Nat} (hz : 0 < es.length) (hc : W.heap[a.block]? = some (.cells c ty fr)) (hs : a.spot = none) : ∀ n, (∀ i, i < n → ∃ l, W.cells? 0 (a.add (i * es.length)) es.length = some l ∧ okCells W es l) →
    ∃ L : List (List Value), L.length = n ∧ (∀ l ∈ L, okCells W es l) ∧ (n ≠ 0 → getL c.toList a.off L.flatten.length = some L.flatten) ∧ L.flatten.length = n * es.length := by
  intro n
  induction n with
  | zero => intro _; exact ⟨[], rfl, by simp, fun h => absurd rfl h, by simp⟩
  | succ n ih =>
    intro h
    obtain ⟨L, h1, h2, h3, h4⟩ := ih fun i hi => h i (by omega)
    obtain ⟨l, g1, g2⟩ := h n (by omega)
    obtain ⟨c', ty', fr', g3, g4, g5⟩ := cells_getL hz g1
    rw [add_block, hc] at g3
    cases g3
    rw [add_off] at g5
    have hl := okCells_length g2
    refine ⟨L ++ [l], by simp [h1], fun x hx => ?_, fun _ => ?_, ?_⟩
    · rcases List.mem_append.1 hx with hx | hx
      · exact h2 x hx
      · simp at hx; rw [hx]; exact g2
    · simp only [List.flatten_append, List.flatten_cons, List.flatten_nil, List.append_nil, List.length_append]
      by_cases hn : n = 0
      · subst hn
        obtain rfl := List.eq_nil_of_length_eq_zero h1
        simp only [List.flatten_nil, List.length_nil, Nat.zero_add, List.nil_append]
        rw [Nat.zero_mul, Nat.add_zero, ← hl] at g5
        exact g5
      · refine getL_append (h3 hn) ?_
        rw [h4, hl]; exact g5
    · simp only [List.flatten_append, List.flatten_cons, List.flatten_nil, List.append_nil, List.length_append, h4, hl, Nat.add_mul, Nat.one_mul]

theorem old_row {W : World} {a : Nat} {c : Array Value} {ty : TypeId} {fr : Nat × Nat} (hc : W.heap[a]? = some (.cells c ty fr)) : (St0 W).heap a = .row (c.toList.map (normV a)) := by
  simp only [St0, oldObj, hc]
theorem getL_map (f : Value → Value) {l : List Value} {i n : Nat} {m : List Value} (h : getL l i n = some m) : getL (l.map f) i n = some (m.map f) := by
  unfold getL at *
  split at h
  · rename_i hc
    rw [List.length_map, if_pos hc]
    cases h
    simp [List.map_take, List.map_drop]
  · cases h
theorem plain_norm {W : World} {b : Nat} : ∀ {ks : List CK} {l : List Value}, ks.all CK.plain = true → okCells W ks l → l.map (normV b) = l := by
  intro ks
  induction ks with
  | nil => intro l _ h; simp only [okCells] at h; subst h; rfl
  | cons k ks ih =>
    intro l hk h
    simp only [okCells] at h
    obtain ⟨v, r, rfl, h1, h2⟩ := h
    simp only [List.all_cons, Bool.and_eq_true] at hk
    rw [List.map_cons, ih hk.2 h2]
    congr 1
    cases k with
    | int k => simp only [okCell] at h1; obtain ⟨n, rfl, _⟩ := h1; rfl
    | bool => simp only [okCell] at h1; obtain ⟨n, rfl⟩ := h1; rfl
    | str => simp only [okCell] at h1; obtain ⟨n, rfl, _⟩ := h1; rfl
    | sl es => cases hk.1
theorem plain_flat {W : World} {b : Nat} {es : List CK} (hp : es.all CK.plain = true) : ∀ {L : List (List Value)}, (∀ l ∈ L, okCells W es l) → L.flatten.map (normV b) = L.flatten := by
  intro L
  induction L with
  | nil => intro _; rfl
  | cons l L ih =>
    intro h
    rw [List.flatten_cons, List.map_append, ih fun x hx => h x (by simp [hx]), plain_norm hp (h l (by simp))]
/-- A slice among the arguments, whose elements hold no addresses. -/
theorem sl_arg {W : World} {es : List CK} {v : Value} (h : okCell W (.sl es) v) (hr : hasRow W v) (hz : 0 < es.length) (hp : es.all CK.plain = true) :
    ∃ L, Sl W.heap.size (St0 W) es.length v L ∧ (∀ l ∈ L, okCells W es l) ∧ L.length ≤ maxLen ∧ ∀ b, inB v b → b < W.heap.size := by
  simp only [okCell] at h
  rcases h with rfl | ⟨a, len, cap, rfl, h1, h2, h3⟩
  · exact ⟨[], .nil, by simp, by simp, fun b hb => hb.elim⟩
  · obtain ⟨hs, hlt, c, ty, fr, hc⟩ := hr _ _ _ rfl
    obtain ⟨L, l1, l2, l3, l4⟩ := rows_getL hz hc hs len fun i hi => h3 i (by omega)
    have hrow := old_row (W := W) hc
    refine ⟨L, .mk l1 h1 (fun l hl => okCells_length (l2 l hl)) (fun hne => ?_) ?_ hlt, l2, by omega, fun b hb => by simp only [inB] at hb; omega⟩
    · have hL : L ≠ [] := hne.elim id fun h => by omega
      refine ⟨hs, hlt, .inr ?_, c.toList.map (normV a.block), by rw [hrow]; rfl, by
        have := getL_map (normV a.block) (l3 (by rw [← l1]; exact fun e => hL (List.eq_nil_of_length_eq_zero e)))
        rwa [plain_flat hp l2] at this⟩
      rw [List.all_eq_true]
      intro x hx
      obtain ⟨l, hl, hx⟩ := List.mem_flatten.1 hx
      exact List.all_eq_true.1 (plain_old hp (l2 l hl)) x hx
    · unfold kindB; rw [hrow]

/-! ### Arguments, one by one -/
theorem args_nil {P : Program} {W : World} {vs : List Value} (h : ArgsR P W [] vs) : vs = [] := h
theorem args_cons {P : Program} {W : World} {t : TypeId} {ts : List TypeId} {vs : List Value} (h : ArgsR P W (t :: ts) vs) : ∃ v r, vs = v :: r ∧ ArgR P W t v ∧ ArgsR P W ts r := h
theorem arg_one {P : Program} {W : World} {t : TypeId} {v : Value} {k : CK} (h : ArgR P W t v) (hf : flat P 16 t = some [k]) (ha : isAggT P t = false) : okCell W k v ∧ hasRow W v := by
  obtain ⟨ks, h1, h2, _, h4, h5⟩ := h
  rw [hf] at h1; cases h1
  have hone := h4 ha
  rw [hone] at h2 h5
  simp only [okCells] at h2
  obtain ⟨v', r, e, h6, h7⟩ := h2
  simp at e; obtain ⟨rfl, -⟩ := e
  exact ⟨h6, h5 v (by simp)⟩
theorem arg_agg {P : Program} {W : World} {t : TypeId} {v : Value} {ks : List CK} (h : ArgR P W t v) (hf : flat P 16 t = some ks) (ha : isAggT P t = true) : ∃ l, v = .agg (List.toArray l) ∧ okCells W ks l ∧ ∀ u ∈ l, hasRow W u := by
  obtain ⟨ks', h1, h2, h3, _, h5⟩ := h
  rw [hf] at h1; cases h1
  obtain ⟨cs, rfl⟩ := h3 ha
  exact ⟨cs.toList, by simp, by simpa [Value.cells] using h2, by simpa [Value.cells] using h5⟩
theorem wf_int {k : IntKind} {n : Int} (h : (Lit.int k n).wf = true) : k.min ≤ n ∧ n ≤ k.max := by simpa [Lit.wf] using h

/-! ### Cells of one kind compared -/
def CK.kd? : CK → Option Kd
  | .int k => some (.int k)
  | .bool => some .bool
  | .str => some .str
  | .sl _ => none
theorem eqCells_refl : ∀ {ks : List Kd} {l : List Value}, fitsAll ks l = true → eqCells l l = true := by
  intro ks
  induction ks with
  | nil => intro l h; cases l with
    | nil => rfl
    | cons => cases h
  | cons k ks ih =>
    intro l h
    cases l with
    | nil => cases h
    | cons v l =>
      simp only [fitsAll, Bool.and_eq_true] at h
      simp only [eqCells, Bool.and_eq_true]
      refine ⟨?_, ih h.2⟩
      cases k <;> cases v <;> first | (simp [eqCell]; done) | (simp [Kd.fits] at h)
theorem eqV_same {P : Program} {t : TypeId} {kd : List Kd} {l : List Value} (hk : kdT P 60 t = some kd) (hg : P.eqGuardType P.depth t = false) (ha : aggT P t = some true) (hf : fitsAll kd l = true) : eqV P t (.agg l.toArray) (.agg l.toArray) = some true := by
  simp only [eqV, hk, hf, hg, ha, and_self, if_true, eqCells_refl hf]
end Go.Ab
/- More equations. -/
set_option linter.unusedVariables false
set_option linter.unusedSimpArgs false
namespace Go.Ab
open Go Go.RowKit
/-- A slice that holds something leads to a place. -/
theorem Sl.conc {base z : Nat} {s : St} {v : Value} {L : List (List Value)} (h : Sl base s z v L) (hL : L ≠ []) : ∃ b o n c, v = .slice (some ⟨b, o, none⟩) n c := by
  cases h with
  | nil => exact absurd rfl hL
  | @mk a len cap L h1 h2 h3 h4 h5 h6 =>
    have := (h4 (.inl hL)).1
    obtain ⟨b, o, sp⟩ := a
    simp only at this
    subst this
    exact ⟨b, o, _, _, rfl⟩
theorem atP_conc {b o n c k : Nat} : atP (.slice (some ⟨b, o, none⟩) n c) k = .pointer (some ⟨b, o + k, none⟩) := by simp only [atP, add_lit]
theorem Sl.place {base z b o n c i : Nat} {s : St} {L : List (List Value)} {l : List Value} (h : Sl base s z (.slice (some ⟨b, o, none⟩) n c) L) (hl : L[i]? = some l) : Mem base s ⟨b, o + i * z, none⟩ l := by
  obtain ⟨a, e1, e2, _⟩ := h.mem hl
  rw [atP_conc] at e1
  cases e1; exact e2
theorem Sl.lds {base z b o n c i k : Nat} {s : St} {L : List (List Value)} {l : List Value} {x : Value} (h : Sl base s z (.slice (some ⟨b, o, none⟩) n c) L) (hl : L[i]? = some l) (hx : l[k]? = some x) : Ab.ld1 base s ⟨b, o + i * z + k, none⟩ = some x := by
  have hlt : k < l.length := (List.getElem?_eq_some_iff.1 hx).1
  have := (h.place hl).sub (k := k) (m := 1) (by omega)
  rw [add_lit] at this
  have e : (l.drop k).take 1 = [x] := by
    rw [List.drop_eq_getElem_cons hlt, List.take_succ_cons, List.take_zero]
    rw [List.getElem?_eq_getElem hlt] at hx; cases hx; rfl
  rw [e] at this
  exact this.ld1
theorem Sl.lds0 {base z b o n c i : Nat} {s : St} {L : List (List Value)} {l : List Value} {x : Value} (h : Sl base s z (.slice (some ⟨b, o, none⟩) n c) L) (hl : L[i]? = some l) (hx : l[0]? = some x) : Ab.ld1 base s ⟨b, o + i * z, none⟩ = some x := h.lds (k := 0) hl hx
theorem build1i {P : Program} {s : St} {t e : TypeId} {z : Value} {k : IntKind} {x : Int} (he : elemT P t = some e) (hz : sizT P e = some 1) (hzr : zerT P e = some [z]) :
    buildSliceV P s t 1 [(0, .int k x)] = some (.slice (some ⟨s.next, 0, none⟩) 1 1, s.alloc (.row [.int k x])) := by
  simp [buildSliceV, he, hz, hzr, fillL, isTup, Value.cells, repL, setL]
theorem build2i {P : Program} {s : St} {t e : TypeId} {z : Value} {k k' : IntKind} {x y : Int} (he : elemT P t = some e) (hz : sizT P e = some 1) (hzr : zerT P e = some [z]) :
    buildSliceV P s t 2 [(0, .int k x), (1, .int k' y)] = some (.slice (some ⟨s.next, 0, none⟩) 2 2, s.alloc (.row [.int k x, .int k' y])) := by
  simp [buildSliceV, he, hz, hzr, fillL, isTup, Value.cells, repL, setL]
/-- The same, where the first rows are there. -/
theorem WC_pureAt {P : Program} {base g : Nat} {t : St} {f : FuncId} {args : List Value} {s : St} {R : Value → St → Prop} {r : Value} (hg : g ≤ base) (hP : progOk g P = true) (ha : args.all bareV = true) (hv : bareV r = true) (htn : t.next = g) (hth : ∀ b, b < g → t.heap b = s.heap b)
    (h : WC P g f args t (fun v _ => v = r)) (hR : R r s) : WC P base f args s R := by
  obtain ⟨v, s', hE, rfl⟩ := h
  exact ⟨_, s, .closed hg hP ha hv htn hth hE, hR⟩
end Go.Ab
/- Loops over functions that yield. -/
set_option linter.unusedVariables false
set_option linter.unusedSimpArgs false
namespace Go.Ab
open Go Go.RowKit
end Go.Ab
/- Rows whose program's variables are laid: what is told of them, and the closer. -/
set_option linter.unusedVariables false
set_option linter.unusedSimpArgs false
namespace Go.Ab
open Go Go.RowKit Go.ChangeShapes Go.WideShapes Go.ChangeAt

theorem var_row {P : Program} {W : World} {n : String} {g : Nat} {cs : Array Value} (hg : P.globalNamed n = some g) (h : W.var? P n = some cs) : (St0 W).heap g = .row (cs.toList.map (normV g)) ∧ g < W.heap.size := by
  simp only [World.var?, hg, Option.bind_some] at h
  split at h
  · rename_i c ty fr hc
    cases h
    refine ⟨old_row hc, ?_⟩
    rcases Nat.lt_or_ge g W.heap.size with h | h
    · exact h
    · rw [Array.getElem?_eq_none h] at hc; cases hc
  · cases h
/-- The closer's first step, where both what is laid and what is open are handed on. -/
theorem returnsInHanded_of_change_andS {H : Type} {enc : TypeId × Value → H} {a : Assume} {C : Checked} {os : Os} {f : FuncId} {fn : Func} {s : ChangeSpec} {conds : List PathCond} {apart fresh handsOn again : Bool} {X : World → Array Value → Prop}
    (hX : ∀ (w w' : World) (args : Array Value), w.heap = w'.heap → X w args → X w' args)
    (own : ownKnob C.prog.godebug = none) (started : os.Started) (noInit : C.prog.inits.idxOf? f = none) (hfn : C.prog.funcs[f]? = some fn)
    (witness : ∃ (w : World) (tape : Tape) (i : Input), w.os = os ∧ (w.forCall tape i).Shaped C.prog ∧ i.vars = [] ∧ Input.okWide C.prog (w.forCall tape i) .any w.heap.size f i ∧
      ((s.pre enc C.prog fn conds apart (w.forCall tape i).memory i.args ∧ X (w.forCall tape i).memory i.args) ∧ sizedMet enc C.prog fn (OpenSpec.ofChange s) apart (w.forCall tape i).memory i.args) ∧ a.holds C.prog (lone (Frame.enter C.prog f i.args .normal) [] (w.forCall tape i)))
    (contract : ∀ (W : World) (base : Nat) (args : Array Value) (ds gs : List (DataW H)) (before : List MemPlace),
      (∀ (j : Nat) t v, fn.params[j]? = some t → args[j]? = some v → Value.okWide C.prog W .any base t v) →
      DataW.Whole enc C.prog fn.params.toList s.vars apart W args.toList ds gs before →
      W.ShapedOpen C.prog → X W args →
      Calls C.prog f args W fun e W' => ∃ v, e = .returned v ∧ s.post enc C.prog fn apart fresh handsOn again W args v W') :
    ReturnsInHanded a C os f .any (fun w args => (s.pre enc C.prog fn conds apart w args ∧ X w args) ∧ sizedMet enc C.prog fn (OpenSpec.ofChange s) apart w args) (s.post enc C.prog fn apart fresh handsOn again) := by
  refine returnsInHanded_of_calls own started noInit witness ?_
  intro w tape i _ hsh _ hok hpre hholds
  obtain ⟨_, _, _, fn', hfn', _, _, _, _, hval⟩ := hok
  have e : fn' = fn := Option.some.inj (hfn'.symm.trans hfn)
  subst e
  obtain ⟨⟨⟨ds, gs, before, hw, hc⟩, hx⟩, hz⟩ := hpre
  have hw' := DataW.Whole.of_heap (w' := w.forCall tape i) (by rfl) hw
  refine (contract (w.forCall tape i) w.heap.size i.args ds gs before hval hw' hsh (hX _ _ _ (by rfl) hx)).mono fun e W' ⟨v, he, hp⟩ => ?_
  subst he
  exact ChangeSpec.post_blind hp
theorem row_lift_laidS {C : Checked} {f : FuncId} {fn : Func} {s : ChangeSpec} {conds : List PathCond} {os : Os} {H : Type} {enc : TypeId × Value → H} {G : Nat} {tb : TypeId} {laid : List (String × DataW Unit)}
    (own : ownKnob C.prog.godebug = none) (started : os.Started) (noInit : C.prog.inits.idxOf? f = none) (hfn : C.prog.funcs[f]? = some fn)
    (witness : ∃ (w : World) (tape : Tape) (i : Input), w.os = os ∧ (w.forCall tape i).Shaped C.prog ∧ i.vars = [] ∧ Input.okWide C.prog (w.forCall tape i) .any w.heap.size f i ∧
      ((s.pre enc C.prog fn conds false (w.forCall tape i).memory i.args ∧ laidMetH C.prog laid (w.forCall tape i).memory) ∧ sizedMet enc C.prog fn (OpenSpec.ofChange s) false (w.forCall tape i).memory i.args) ∧
      ({} : Assume).holds C.prog (lone (Frame.enter C.prog f i.args .normal) [] (w.forCall tape i)))
    (hvars : s.vars = []) (hspec : ∀ ds : List (DataW H), ds.length = fn.params.size → s.fn H ds = { results := [.lit (.bool true)], args := ds })
    (hres : fn.resultTypes = #[tb]) (hb : C.prog.underlying tb = some .bool) (hl : laidOutB C.prog = true)
    (hts : fn.params.toList.all (fun t => C.prog.readableRec t && decide (t < C.prog.types.size)) = true) (hfl : fn.params.toList.all (fun t => (flat C.prog 16 t).isSome) = true)
    (hm : C.prog.follows .mixedOrders = true) (hP : progOk G C.prog = true) (hG : ∀ W : World, W.ShapedOpen C.prog → laidMetH C.prog laid W → G ≤ W.heap.size)
    (law : ∀ (W : World) (args : List Value), W.ShapedOpen C.prog → laidMetH C.prog laid W → ArgsR C.prog W fn.params.toList args → WC C.prog W.heap.size f args (St0 W) (fun v _ => v = .bool true)) (hbody : fn.body.isSome = true := by kernel_rfl) :
    ReturnsInHanded {} C os f .any (fun w args => (s.pre enc C.prog fn conds false w args ∧ laidMetH C.prog laid w) ∧ sizedMet enc C.prog fn (OpenSpec.ofChange s) false w args) (s.post enc C.prog fn false true false false) := by
  refine returnsInHanded_of_change_andS (C := C) (X := fun w _ => laidMetH C.prog laid w) (fun _ _ _ hh h => h.of_heap hh) own started noInit hfn witness ?_
  intro W base args ds gs before hval hW hsh hL
  have hW' := hW
  obtain ⟨p, q, hA, hV, rfl, hfz, hnd⟩ := hW
  obtain ⟨ha, ho⟩ := args_told fn.params.toList args.toList ds p hfl (fun j t v h1 h2 => hval j t v (by simpa using h1) (by simpa using h2)) hA
  refine (calls_of_WC hm hP (hG W hsh hL) ho (by obtain ⟨c, hc⟩ := Option.isSome_iff_exists.1 hbody; exact ⟨fn, c, hfn, hc⟩) (law W args.toList hsh hL ha)).mono fun e W' ⟨he, bel⟩ => ?_
  subst he
  rw [hvars] at hV
  obtain ⟨rfl, rfl⟩ := trodVars_none hV
  have hlen : ds.length = fn.params.size := by
    have : ∀ (ts : List TypeId) (vs : List Value) (ds : List (DataW H)) (ps : List MemPlace), DataW.TrodAll enc C.prog W 0 (fun _ => true) true ts vs ds ps → ds.length = ts.length := by
      intro ts
      induction ts with
      | nil => intro vs ds ps h; obtain ⟨rfl, rfl, rfl⟩ := trodAll_nil h; rfl
      | cons t ts ih => intro vs ds ps h; obtain ⟨v, vs', d, ds', p, q, rfl, rfl, rfl, h1, h2⟩ := trodAll_cons h; simp [ih _ _ _ h2]
    simpa using this _ _ _ _ hA
  have hs : s.fn H (ds ++ []) = { results := [.lit (.bool true)], args := ds } := by rw [List.append_nil]; exact hspec ds hlen
  refine ⟨_, rfl, ds, [], _, [], p, [], hW', ?_, ?_, ?_, bel.frame _, fun h => by cases h⟩
  · rw [hs, hres]
    exact trodAll_mk1 (shut_bool hb _)
  · rw [hs]
    exact below_all hl bel _ _ _ _ hts hA
  · rw [hs, hvars]; rfl
end Go.Ab
/- Arrays that are cut, and walks' closers. -/
set_option linter.unusedVariables false
set_option linter.unusedSimpArgs false
namespace Go.Ab
open Go Go.RowKit
theorem setL_eq : ∀ (vs c : List Value) (o : Nat), o + vs.length ≤ c.length → setL c o vs = c.take o ++ (vs ++ c.drop (o + vs.length)) := by
  intro vs
  induction vs with
  | nil => intro c o h; simp [setL]
  | cons v vs ih =>
    intro c o h
    simp only [List.length_cons] at h
    simp only [setL]
    rw [ih _ _ (by rw [List.length_set]; omega), List.take_succ_eq_append_getElem (by rw [List.length_set]; omega), List.take_set_of_le (by omega), List.getElem_set_self, List.drop_set_of_lt (by omega)]
    simp only [List.append_assoc, List.cons_append, List.nil_append, List.length_cons]
    congr 4; omega
theorem idxArr {P : Program} {t e : TypeId} {k n b o : Nat} {kk : IntKind} {i : Int} (ha : arrT P t = some (k, e)) (hz : sizT P e = some n) (h0 : 0 ≤ i) (h1 : i < k) :
    indexAddrV P t (.pointer (some ⟨b, o, none⟩)) (.int kk i) = some (.pointer (some ⟨b, o + i.toNat * n, none⟩)) := by
  simp only [indexAddrV, ha, hz, intOf?]
  rw [if_pos ⟨h0, h1⟩]
  simp [add_lit]
theorem setL_flat {z : Nat} {L : List (List Value)} (h : ∀ l ∈ L, l.length = z) {i : Nat} (hi : i < L.length) {l : List Value} (hl : l.length = z) : setL L.flatten (i * z) l = (L.set i l).flatten := by
  have hlen := flat_len' h
  have hm : (i + 1) * z ≤ L.length * z := Nat.mul_le_mul_right _ hi
  rw [Nat.add_mul, Nat.one_mul] at hm
  rw [setL_eq _ _ _ (by omega), List.set_eq_take_append_cons_drop, if_pos hi, List.flatten_append, List.flatten_cons]
  have ht : ∀ (L : List (List Value)), (∀ l ∈ L, l.length = z) → ∀ j, j ≤ L.length → L.flatten.take (j * z) = (L.take j).flatten ∧ L.flatten.drop (j * z) = (L.drop j).flatten := by
    intro L
    induction L with
    | nil => intro _ j hj; simp
    | cons x L ih =>
      intro h j hj
      cases j with
      | zero => simp
      | succ j =>
        have hx := h x (by simp)
        have := ih (fun l hl => h l (by simp [hl])) j (by simpa using hj)
        simp only [List.flatten_cons, List.take_succ_cons, List.drop_succ_cons]
        rw [show (j + 1) * z = x.length + j * z by rw [hx, Nat.add_mul]; omega, List.take_length_add_append, List.drop_length_add_append, this.1, this.2]
        exact ⟨rfl, rfl⟩
  have e : i * z + l.length = (i + 1) * z := by rw [hl, Nat.add_mul]; omega
  rw [(ht L h i (by omega)).1, e, (ht L h (i + 1) hi).2]
theorem putAt_flat {z : Nat} {L : List (List Value)} (h : ∀ l ∈ L, l.length = z) {i : Nat} (hi : i < L.length) {l : List Value} (hl : l.length = z) : putAt (.row L.flatten) (i * z) l = some (.row (L.set i l).flatten) := by
  have hlen := flat_len' h
  have hm : (i + 1) * z ≤ L.length * z := Nat.mul_le_mul_right _ hi
  rw [Nat.add_mul, Nat.one_mul] at hm
  simp only [putAt, AObj.cells?, AObj.withCells]
  rw [if_pos (by omega), setL_flat h hi hl]
end Go.Ab
/- The equations by which code is walked, in two bundles. -/
set_option linter.all false
namespace Go.Ab
open Go Go.RowKit
def stepPre := And.intro @W_seq (And.intro @W_region (And.intro @W_scope (And.intro @Sc_normal (And.intro @Sc_ret (And.intro @Sc_exit (And.intro @W_skip (And.intro @W_exit (And.intro @W_ret (And.intro @W_label (And.intro @Th_normal (And.intro @Th_ret (And.intro @Th_exit (And.intro @Bk_normal (And.intro @Bk_ret (And.intro @Bk_exit (And.intro @WO_nil (And.intro @WO_move (And.intro @WO_assign (And.intro @WO_binOp (And.intro @WO_unOp (And.intro @WO_pick (And.intro @WO_guardL (And.intro @WO_makeSlice (And.intro @WO_builtin (And.intro @WO_convert (And.intro @WO_indexAddr (And.intro @WO_index (And.intro @WO_field (And.intro @WO_fieldAddr (And.intro @WO_store (And.intro @WO_load (And.intro @WO_alloc (And.intro @WO_box (And.intro @WO_build (And.intro @WO_buildSlice (And.intro @WO_slice (And.intro @WO_extract (And.intro @WO_nilCheck (And.intro @WO_makeFunc (And.intro @WO_callv (And.intro @WO_range (And.intro @WO_next (@WF_func)))))))))))))))))))))))))))))))))))))))))))
def stepPost := And.intro @Wif_true (And.intro @Wif_false (And.intro @Gif_un (And.intro @Gif_same (And.intro @Gif_tf (And.intro @Gif_ft (And.intro @Q2_some (And.intro @Qv_some (And.intro @Qc_some (And.intro @Qv_ite (And.intro @Q2_ite (And.intro @Q2_ret1 (And.intro @ev_tmp (And.intro @ev_const (And.intro @ev_func (And.intro @put_at (And.intro @put_none (And.intro @boolV_bool (And.intro @boolV_undef (And.intro @add_lit (And.intro @Lok_none (And.intro @Dok_none (And.intro @loadV_ptr (And.intro @ld1_own (And.intro @ldN_own (And.intro @cellAt_row (And.intro @cellAt_grown (And.intro @cellsAt_row (And.intro @cellsAt_grown (And.intro @putAt_row (And.intro @putAt_grown (And.intro @updO_some (And.intro @Ab.heap_alloc_ne (And.intro @heapAt_alloc (And.intro @Ab.heap_upd_same (And.intro @Ab.heap_upd_ne (And.intro @Ab.next_alloc (And.intro @Ab.next_upd (And.intro @getL_all (And.intro @setL_all (And.intro @setL_cons (And.intro @setL_nil (And.intro @IntWalk.i64_in (And.intro @IntWalk.u32_in (And.intro @IntWalk.u8_in (And.intro @IntWalk.i32_in (And.intro @IntWalk.u16_in (And.intro @IntWalk.u64_in (And.intro @allocUpd (And.intro @upd_upd (And.intro @Lok_ff (And.intro @Dok_upd (And.intro @Dok_same (And.intro @bitV_and (And.intro @bitV_or (And.intro @bitV_xor (And.intro @bitV_andNot (And.intro @beq_tf (@beq_ft))))))))))))))))))))))))))))))))))))))))))))))))))))))))))
end Go.Ab
/- What is asked once of this seat's program, and what is laid there. -/
namespace Go.Proofs.YthjpfllmecpliaaGreatDoor
open Go Go.Ab
theorem own : ownKnob Tryz.prog.godebug = none := by kernel_rfl
theorem laidOut : laidOutB Tryz.prog = true := by kernel_rfl
theorem mixed : Tryz.prog.follows .mixedOrders = true := by kernel_rfl
theorem okProg1 : progOk 5 Tryz.prog = true := by kernel_rfl
theorem boolT : Tryz.prog.underlying 4 = some .bool := by kernel_rfl
end Go.Proofs.YthjpfllmecpliaaGreatDoor
