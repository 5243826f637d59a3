/- Own memory as equations for simp, and what is left as it was. -/
import Derived.Test.YtoldihdlpdccnaaAb27
import Derived.IntWalk
set_option linter.unusedVariables false
set_option linter.unusedSimpArgs false
namespace Go.Ab
open Go Go.RowKit

def cellAt (o : AObj) (k : Nat) : Option Value := match o.cells? with | some c => c[k]? | none => none
def cellsAt (o : AObj) (k n : Nat) : Option (List Value) := match o.cells? with | some c => getL c k n | none => none
def putAt (o : AObj) (k : Nat) (vs : List Value) : Option AObj :=
  match o.cells? with | some c => (if k + vs.length ≤ c.length then some (o.withCells (setL c k vs)) else none) | none => none
theorem cellAt_row (c : List Value) (k : Nat) : cellAt (.row c) k = c[k]? := rfl
theorem cellAt_grown (c : List Value) (z k : Nat) : cellAt (.grown c z) k = c[k]? := rfl
theorem cellsAt_row (c : List Value) (k n : Nat) : cellsAt (.row c) k n = getL c k n := rfl
theorem cellsAt_grown (c : List Value) (z k n : Nat) : cellsAt (.grown c z) k n = getL c k n := rfl
theorem putAt_row {c : List Value} {k : Nat} {vs : List Value} (h : k + vs.length ≤ c.length) : putAt (.row c) k vs = some (.row (setL c k vs)) := if_pos h
theorem putAt_grown {c : List Value} {z k : Nat} {vs : List Value} (h : k + vs.length ≤ c.length) : putAt (.grown c z) k vs = some (.grown (setL c k vs) z) := if_pos h
theorem getL_all {c : List Value} {n : Nat} (h : c.length = n) : getL c 0 n = some c := by subst h; unfold getL; simp
theorem setL_all : ∀ {c vs : List Value}, c.length = vs.length → setL c 0 vs = vs := by
  have gen : ∀ (vs p c : List Value), c.length = vs.length → setL (p ++ c) p.length vs = p ++ vs := by
    intro vs
    induction vs with
    | nil => intro p c h; simp at h; subst h; rfl
    | cons v vs ih =>
      intro p c h
      cases c with
      | nil => simp at h
      | cons x c =>
        simp only [setL]
        have : (p ++ x :: c).set p.length v = (p ++ [v]) ++ c := by simp
        rw [this]
        have := ih (p ++ [v]) c (by simpa using h)
        simp only [List.length_append, List.length_cons, List.length_nil, Nat.zero_add] at this
        rw [this]; simp
  intro c vs h
  exact gen vs [] c h
theorem setL_nil (c : List Value) (k : Nat) : setL c k [] = c := rfl
theorem setL_cons (c : List Value) (k : Nat) (v : Value) (vs : List Value) : setL c k (v :: vs) = setL (c.set k v) (k + 1) vs := rfl

theorem ld1_own {base : Nat} {s : St} {b o : Nat} (hb : base ≤ b) : ld1 base s ⟨b, o, none⟩ = cellAt (s.heap b) o := by
  simp only [ld1, cellAt]
  cases (s.heap b).cells? with
  | none => rfl
  | some c => simp only [if_true]; cases c[o]? with
    | none => rfl
    | some v => simp [hb]
theorem ldN_own {base : Nat} {s : St} {b o n : Nat} (hb : base ≤ b) (hn : 0 < n) : Ab.ldN base s ⟨b, o, none⟩ n = cellsAt (s.heap b) o n := by
  simp only [Ab.ldN, cellsAt]
  rw [if_neg (by omega)]
  cases (s.heap b).cells? with
  | none => rfl
  | some c => simp only [if_true]; cases getL c o n with
    | none => rfl
    | some v => simp [hb]
def updO (s : St) (b : Nat) : Option AObj → Option St
  | some o => some (s.upd b o)
  | none => none
theorem updO_some (s : St) (b : Nat) (o : AObj) : updO s b (some o) = some (s.upd b o) := rfl
theorem updO_ite (s : St) (b : Nat) (p : Prop) [Decidable p] (o : AObj) : updO s b (if p then some o else none) = if p then some (s.upd b o) else none := by split <;> rfl
theorem stN_own {base : Nat} {s : St} {b o : Nat} {v : Value} {vs : List Value} (hb : base ≤ b) : stN base s ⟨b, o, none⟩ (v :: vs) = updO s b (putAt (s.heap b) o (v :: vs)) := by
  simp only [stN, putAt, reduceCtorEq, if_false]
  cases (s.heap b).cells? with
  | none => rfl
  | some c => simp only [true_and, hb]; split <;> rfl
theorem upd_upd (s : St) (b : Nat) (x y : AObj) : (s.upd b x).upd b y = s.upd b y := by
  simp only [St.upd, St.mk.injEq, and_true]; funext k; split <;> rfl
theorem alloc_upd (s : St) (x y : AObj) : (s.alloc x).upd s.next y = s.alloc y := by
  simp only [St.upd, St.alloc, St.mk.injEq, and_true]; funext k; split <;> rfl

theorem Mild.alloc' {s s' : St} {o : AObj} (h : Mild s s') : Mild s (s'.alloc o) := h.trans (.alloc _ _)
theorem Mild.upd' {s s' : St} {b : Nat} {o : AObj} (h : Mild s s') (hb : s.next ≤ b) : Mild s (s'.upd b o) :=
  ⟨by rw [next_upd]; exact h.next, fun k hk => by rw [heap_upd_ne _ _ (by omega)]; exact h.heap k hk⟩
theorem Ch.alloc' {s s' : St} {X : Nat → Prop} {o : AObj} (h : Ch s s' X) : Ch s (s'.alloc o) X :=
  ⟨by rw [next_alloc]; exact Nat.le_succ_of_le h.next, fun k hk hn => by rw [heap_alloc_lt _ _ (Nat.lt_of_lt_of_le hk h.next)]; exact h.heap k hk hn⟩
theorem Ch.upd' {s s' : St} {X : Nat → Prop} {b : Nat} {o : AObj} (h : Ch s s' X) (hb : b < s.next → X b) : Ch s (s'.upd b o) X :=
  ⟨by rw [next_upd]; exact h.next, fun k hk hn => by rw [heap_upd_ne _ _ (fun e => by subst e; exact hn (hb hk))]; exact h.heap k hk hn⟩
theorem Ch.after {s s1 s2 : St} {X Y : Nat → Prop} (h : Ch s s1 X) (k : Ch s1 s2 Y) (hy : ∀ b, b < s.next → Y b → X b) : Ch s s2 X :=
  (h.trans k).mono fun b hb hx => hx.elim id (hy b hb)
theorem Mild.after {s s1 s2 : St} (h : Mild s s1) (k : Mild s1 s2) : Mild s s2 := h.trans k
def andI (k : IntKind) (x y : Int) : Int := k.wrap ((x % 2 ^ k.bits).toNat &&& (y % 2 ^ k.bits).toNat : Nat)
def orI (k : IntKind) (x y : Int) : Int := k.wrap ((x % 2 ^ k.bits).toNat ||| (y % 2 ^ k.bits).toNat : Nat)
def xorI (k : IntKind) (x y : Int) : Int := k.wrap ((x % 2 ^ k.bits).toNat ^^^ (y % 2 ^ k.bits).toNat : Nat)
def andNotI (k : IntKind) (x y : Int) : Int := k.wrap ((x % 2 ^ k.bits).toNat &&& (2 ^ k.bits - 1 - (y % 2 ^ k.bits).toNat) : Nat)
theorem bitV_and (k : IntKind) (x y : Int) : bitV .and k x y = some (andI k x y) := rfl
theorem bitV_or (k : IntKind) (x y : Int) : bitV .or k x y = some (orI k x y) := rfl
theorem bitV_xor (k : IntKind) (x y : Int) : bitV .xor k x y = some (xorI k x y) := rfl
theorem bitV_andNot (k : IntKind) (x y : Int) : bitV .andNot k x y = some (andNotI k x y) := rfl
theorem Sl.loadA {P : Program} {base z : Nat} {s : St} {v : Value} {L : List (List Value)} (h : Sl base s z v L) {i : Nat} {l : List Value} (hl : L[i]? = some l) {e : TypeId} (hg : aggT P e = some true) (hz : sizT P e = some z) :
    loadV P base s e (atP v (i * z)) = some (.agg l.toArray) := h.load hl hg hz (fun h => by cases h)
theorem Sl.load1 {P : Program} {base : Nat} {s : St} {v : Value} {L : List (List Value)} (h : Sl base s 1 v L) {i : Nat} {x : Value} (hl : L[i]? = some [x]) {e : TypeId} (hg : aggT P e = some false) (hz : sizT P e = some 1) :
    loadV P base s e (atP v (i * 1)) = some x := h.load hl hg hz (fun _ => rfl)
theorem appB_ok {P : Program} {base z : Nat} {s : St} {v : Value} {L : List (List Value)} (hv : Sl base s z v L) (ht : Tight base v) (hbn : base ≤ s.next) {t t' e : TypeId} (he : elemT P t = some e) (hi : intT P t' = none) (hu : (P.underlying t').isSome = true) (hz : sizT P e = some z) (h0 : 0 < z)
    {zr : List Value} (hzr : zerT P e = some zr) (hzl : zr.length = z) {by_ : Nat} (hby : bytT P e = some by_) {x : Value} {N : List (List Value)} (hx : Sl base s z x N)
    (hs : (L.length + N.length) * by_ ≤ 2 ^ 44 ∧ L.length + N.length ≤ 2 ^ 44 ∧ by_ ≤ 2 ^ 20) :
    ∃ v' s', appendB P base s [t, t'] [v, x] = some (v', s') ∧ Sl base s' z v' (L ++ N) ∧ Tight base v' ∧ Ch s s' (inB v) ∧ (N ≠ [] → ∀ b, inB v' b → s.next ≤ b) ∧ (N = [] → v' = v ∧ s' = s) :=
  appendB_ok hv ht hbn he hi hu hz h0 hzr hzl hby hx hs
theorem Sl.lt {base z : Nat} {s : St} {v : Value} {L : List (List Value)} (h : Sl base s z v L) : ∀ b, inB v b → b < s.next := by
  intro b hb
  cases h with
  | nil => exact hb.elim
  | mk h1 h2 h3 h4 h5 h6 => simp only [inB] at hb; omega
/-- A new row, as a slice of all its elements. -/
theorem Sl.newRow {base z : Nat} {s : St} {L : List (List Value)} {c : List Value} {b n : Nat} (hh : s.heap b = .row c) (hc : c = L.flatten) (hn : n = L.length) (hz : ∀ l ∈ L, l.length = z) (hb : base ≤ b) (hlt : b < s.next) : Sl base s z (.slice (some ⟨b, 0, none⟩) n n) L := by
  subst hc hn
  exact .mk rfl (Nat.le_refl _) hz (fun _ => .row hh hb hlt) (by unfold kindB; rw [hh]) hlt
theorem Lok_ff {eff kp : Nat → Bool} {n k : Nat} {ρ : Operand → Value} {o : Op} : Lok (some ⟨eff, fun _ => false, kp, n⟩) k ρ o = True := by
  cases o <;> simp [Lok]
theorem Dok_upd {eff lite : Nat → Bool} {n k : Nat} {s : St} {b : Nat} {o : AObj} (he : eff k = true) : Dok (some ⟨eff, lite, fun _ => false, n⟩) k s (s.upd b o) = True := by
  simp [Dok, he, next_upd]
theorem Dok_next {eff lite : Nat → Bool} {n k : Nat} {s s' : St} (he : eff k = true) (hn : s.next ≤ s'.next) : Dok (some ⟨eff, lite, fun _ => false, n⟩) k s s' := .inr ⟨he, hn, fun b hb => by cases hb⟩
theorem Sl.shape {base z : Nat} {s : St} {v : Value} {L : List (List Value)} (h : Sl base s z v L) : ∃ a n c, v = .slice a n c := by
  cases h <;> exact ⟨_, _, _, rfl⟩
theorem getL_take {c : List Value} {o n : Nat} (h : o + n ≤ c.length) : getL c o n = some ((c.drop o).take n) := if_pos h
theorem build1 {P : Program} {s : St} {t e : TypeId} {l zr : List Value} {n : Nat} (he : elemT P t = some e) (hz : sizT P e = some n) (hzr : zerT P e = some zr) (hl : l.length = n) (hzl : zr.length = n) (h0 : 0 < n) (hn : n ≤ 2 ^ 24) :
    buildSliceV P s t 1 [(0, .agg l.toArray)] = some (.slice (some ⟨s.next, 0, none⟩) 1 1, s.alloc (.row l)) := by
  simp only [buildSliceV, he, hz, hzr]
  rw [if_pos ⟨hzl, h0, by omega⟩]
  have : fillL (fun i => some (i * n, n)) (repL zr 1) [(0, .agg l.toArray)] = some l := by
    simp only [fillL, isTup, Value.cells, repL, List.size_toArray, List.replicate, List.flatten_cons, List.flatten_nil, List.append_nil]
    rw [if_pos ⟨trivial, hl, by omega⟩, Nat.zero_mul, setL_all (by simp [hl, hzl])]
  rw [this]
theorem stN_ownL {base : Nat} {s : St} {b o : Nat} {vs : List Value} (hb : base ≤ b) (hn : 0 < vs.length) : stN base s ⟨b, o, none⟩ vs = updO s b (putAt (s.heap b) o vs) := by
  cases vs with
  | nil => simp at hn
  | cons v vs => exact stN_own hb
theorem heapAt_alloc (s : St) (o : AObj) {b : Nat} (h : ¬ b ≠ s.next) : (s.alloc o).heap b = o := by
  obtain rfl : b = s.next := by omega
  exact Ab.heap_alloc_new s o
theorem allocUpd (s : St) (x y : AObj) {b : Nat} (h : ¬ b ≠ s.next) : (s.alloc x).upd b y = s.alloc y := by
  obtain rfl : b = s.next := by omega
  exact alloc_upd s x y
theorem loadV_ptr {P : Program} {base : Nat} {s : St} {t : TypeId} {a : Addr} : loadV P base s t (.pointer (some a)) = ldVar P base s t a := rfl
theorem beq_tf : (true == false) = false := rfl
theorem beq_ft : (false == true) = false := rfl
end Go.Ab
