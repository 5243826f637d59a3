/- What is told of a row's arguments, as slices and memory. -/
import Derived.Test.YtoldihdlpdccnaaAb28
set_option linter.unusedVariables false
set_option linter.unusedSimpArgs false
namespace Go.Ab
open Go Go.RowKit

theorem getL_append {c l m : List Value} {o n k : Nat} (h : getL c o n = some l) (h' : getL c (o + n) k = some m) : getL c o (n + k) = some (l ++ m) := by
  unfold getL at *
  split at h <;> simp only [Option.some.injEq, reduceCtorEq] at h
  split at h' <;> simp only [Option.some.injEq, reduceCtorEq] at h'
  subst h h'
  rw [if_pos (by omega), List.take_add, List.drop_drop]
theorem cells_getL {W : World} {a : Addr} {z : Nat} {l : List Value} (hz : 0 < z) (h : W.cells? 0 a z = some l) : ∃ c ty fr, W.heap[a.block]? = some (.cells c ty fr) ∧ a.spot = none ∧ getL c.toList a.off z = some l := by
  obtain ⟨_, h2, h3⟩ := World.cells?_some h
  have h0 := h3 0 hz
  have h00 : l[0]? = some l[0] := by simp
  rw [h00] at h0
  unfold World.cell? at h0
  split at h0
  · rename_i c ty fr hc
    rw [add_block] at hc
    split at h0
    · cases h0
    · rename_i hs
      have hs0 : (a.add 0).spot = none := by simpa using hs
      have hsp : a.spot = none := by
        unfold Addr.add at hs0; simpa using hs0
      refine ⟨c, ty, fr, hc, hsp, ?_⟩
      have hall : ∀ i, i < z → c.toList[a.off + i]? = l[i]? := fun i hi => by
        have := h3 i hi
        unfold World.cell? at this
        rw [add_block, hc] at this
        simp only [add_spot a i hsp, add_off] at this
        simpa using this
      unfold getL
      have hlast := hall (z - 1) (by omega)
      rw [List.getElem?_eq_getElem (by omega : z - 1 < l.length)] at hlast
      have := (List.getElem?_eq_some_iff.1 hlast).1
      rw [if_pos (by omega)]
      congr 1
      apply List.ext_getElem?
      intro i
      by_cases hi : i < z
      · rw [List.getElem?_take_of_lt hi, List.getElem?_drop, hall i hi]
      · rw [List.getElem?_eq_none (by simp; omega), List.getElem?_eq_none (by omega)]
  · cases h0

def CK.plain : CK → Bool
  | .sl _ => false
  | _ => true
theorem plain_old {W : World} {base : Nat} : ∀ {ks : List CK} {l : List Value}, ks.all CK.plain = true → okCells W ks l → l.all (oldOk base) = true := by
  intro ks
  induction ks with
  | nil => intro l _ h; simp only [okCells] at h; subst h; rfl
  | cons k ks ih =>
    intro l hk h
    simp only [okCells] at h
    obtain ⟨v, r, rfl, h1, h2⟩ := h
    simp only [List.all_cons, Bool.and_eq_true] at hk ⊢
    refine ⟨?_, ih hk.2 h2⟩
    cases k with
    | int k => simp only [okCell] at h1; obtain ⟨n, rfl, _⟩ := h1; rfl
    | bool => simp only [okCell] at h1; obtain ⟨n, rfl⟩ := h1; rfl
    | str => simp only [okCell] at h1; obtain ⟨n, rfl, _⟩ := h1; rfl
    | sl es => cases hk.1

theorem rows_getL {W : World} {es : List CK} {a : Addr} {c : Array Value} {ty : TypeId} {fr : Nat × Nat} (hz : 0 < es.length) (hc : W.heap[a.block]? = some (.cells c ty fr)) (hs : a.spot = none) : ∀ n, (∀ i, i < n → ∃ l, W.cells? 0 (a.add (i * es.length)) es.length = some l ∧ okCells W es l) →
    ∃ L : List (List Value), L.length = n ∧ (∀ l ∈ L, okCells W es l) ∧ (n ≠ 0 → getL c.toList a.off L.flatten.length = some L.flatten) ∧ L.flatten.length = n * es.length := by
  intro n
  induction n with
  | zero => intro _; exact ⟨[], rfl, by simp, fun h => absurd rfl h, by simp⟩
  | succ n ih =>
    intro h
    obtain ⟨L, h1, h2, h3, h4⟩ := ih fun i hi => h i (by omega)
    obtain ⟨l, g1, g2⟩ := h n (by omega)
    obtain ⟨c', ty', fr', g3, g4, g5⟩ := cells_getL hz g1
    rw [add_block, hc] at g3
    cases g3
    rw [add_off] at g5
    have hl := okCells_length g2
    refine ⟨L ++ [l], by simp [h1], fun x hx => ?_, fun _ => ?_, ?_⟩
    · rcases List.mem_append.1 hx with hx | hx
      · exact h2 x hx
      · simp at hx; rw [hx]; exact g2
    · simp only [List.flatten_append, List.flatten_cons, List.flatten_nil, List.append_nil, List.length_append]
      by_cases hn : n = 0
      · subst hn
        obtain rfl := List.eq_nil_of_length_eq_zero h1
        simp only [List.flatten_nil, List.length_nil, Nat.zero_add, List.nil_append]
        rw [Nat.zero_mul, Nat.add_zero, ← hl] at g5
        exact g5
      · refine getL_append (h3 hn) ?_
        rw [h4, hl]; exact g5
    · simp only [List.flatten_append, List.flatten_cons, List.flatten_nil, List.append_nil, List.length_append, h4, hl, Nat.add_mul, Nat.one_mul]

theorem old_row {W : World} {a : Nat} {c : Array Value} {ty : TypeId} {fr : Nat × Nat} (hc : W.heap[a]? = some (.cells c ty fr)) : (St0 W).heap a = .row c.toList := by
  simp only [St0, oldObj, hc]
/-- A slice among the arguments, whose elements hold no addresses. -/
theorem sl_arg {W : World} {es : List CK} {v : Value} (h : okCell W (.sl es) v) (hr : hasRow W v) (hz : 0 < es.length) (hp : es.all CK.plain = true) :
    ∃ L, Sl W.heap.size (St0 W) es.length v L ∧ (∀ l ∈ L, okCells W es l) ∧ L.length ≤ maxLen ∧ ∀ b, inB v b → b < W.heap.size := by
  simp only [okCell] at h
  rcases h with rfl | ⟨a, len, cap, rfl, h1, h2, h3⟩
  · exact ⟨[], .nil, by simp, by simp, fun b hb => hb.elim⟩
  · obtain ⟨hs, hlt, c, ty, fr, hc⟩ := hr _ _ _ rfl
    obtain ⟨L, l1, l2, l3, l4⟩ := rows_getL hz hc hs len fun i hi => h3 i (by omega)
    have hrow := old_row (W := W) hc
    refine ⟨L, .mk l1 h1 (fun l hl => okCells_length (l2 l hl)) (fun hne => ?_) ?_ hlt, l2, by omega, fun b hb => by simp only [inB] at hb; omega⟩
    · have hL : L ≠ [] := hne.elim id fun h => by omega
      refine ⟨hs, hlt, .inr ?_, c.toList, by rw [hrow]; rfl, l3 (by rw [← l1]; exact fun e => hL (List.eq_nil_of_length_eq_zero e))⟩
      rw [List.all_eq_true]
      intro x hx
      obtain ⟨l, hl, hx⟩ := List.mem_flatten.1 hx
      exact List.all_eq_true.1 (plain_old hp (l2 l hl)) x hx
    · unfold kindB; rw [hrow]

/-! ### Arguments, one by one -/
theorem args_nil {P : Program} {W : World} {vs : List Value} (h : ArgsR P W [] vs) : vs = [] := h
theorem args_cons {P : Program} {W : World} {t : TypeId} {ts : List TypeId} {vs : List Value} (h : ArgsR P W (t :: ts) vs) : ∃ v r, vs = v :: r ∧ ArgR P W t v ∧ ArgsR P W ts r := h
theorem arg_one {P : Program} {W : World} {t : TypeId} {v : Value} {k : CK} (h : ArgR P W t v) (hf : flat P 16 t = some [k]) (ha : isAggT P t = false) : okCell W k v ∧ hasRow W v := by
  obtain ⟨ks, h1, h2, _, h4, h5⟩ := h
  rw [hf] at h1; cases h1
  have hone := h4 ha
  rw [hone] at h2 h5
  simp only [okCells] at h2
  obtain ⟨v', r, e, h6, h7⟩ := h2
  simp at e; obtain ⟨rfl, -⟩ := e
  exact ⟨h6, h5 v (by simp)⟩
theorem arg_agg {P : Program} {W : World} {t : TypeId} {v : Value} {ks : List CK} (h : ArgR P W t v) (hf : flat P 16 t = some ks) (ha : isAggT P t = true) : ∃ l, v = .agg (List.toArray l) ∧ okCells W ks l ∧ ∀ u ∈ l, hasRow W u := by
  obtain ⟨ks', h1, h2, h3, _, h5⟩ := h
  rw [hf] at h1; cases h1
  obtain ⟨cs, rfl⟩ := h3 ha
  exact ⟨cs.toList, by simp, by simpa [Value.cells] using h2, by simpa [Value.cells] using h5⟩
theorem wf_int {k : IntKind} {n : Int} (h : (Lit.int k n).wf = true) : k.min ≤ n ∧ n ≤ k.max := by simpa [Lit.wf] using h

/-! ### Cells of one kind compared -/
def CK.kd? : CK → Option Kd
  | .int k => some (.int k)
  | .bool => some .bool
  | .str => some .str
  | .sl _ => none
theorem fits_ok {W : World} : ∀ {ks : List CK} {kd : List Kd} {l : List Value}, ks.map CK.kd? = kd.map some → okCells W ks l → fitsAll kd l = true := by
  intro ks
  induction ks with
  | nil => intro kd l h h2; cases kd with
    | nil => simp only [okCells] at h2; subst h2; rfl
    | cons => cases h
  | cons k ks ih =>
    intro kd l h h2
    cases kd with
    | nil => cases h
    | cons d kd =>
      simp only [List.map_cons, List.cons.injEq] at h
      simp only [okCells] at h2
      obtain ⟨v, r, rfl, h3, h4⟩ := h2
      simp only [fitsAll, Bool.and_eq_true]
      refine ⟨?_, ih h.2 h4⟩
      cases k with
      | int k => simp only [okCell] at h3; obtain ⟨n, rfl, _⟩ := h3; simp only [CK.kd?, Option.some.injEq] at h; rw [← h.1]; simp [Kd.fits]
      | bool => simp only [okCell] at h3; obtain ⟨n, rfl⟩ := h3; simp only [CK.kd?, Option.some.injEq] at h; rw [← h.1]; rfl
      | str => simp only [okCell] at h3; obtain ⟨n, rfl, _⟩ := h3; simp only [CK.kd?, Option.some.injEq] at h; rw [← h.1]; rfl
      | sl => cases h.1
theorem eqCells_refl : ∀ {ks : List Kd} {l : List Value}, fitsAll ks l = true → eqCells l l = true := by
  intro ks
  induction ks with
  | nil => intro l h; cases l with
    | nil => rfl
    | cons => cases h
  | cons k ks ih =>
    intro l h
    cases l with
    | nil => cases h
    | cons v l =>
      simp only [fitsAll, Bool.and_eq_true] at h
      simp only [eqCells, Bool.and_eq_true]
      refine ⟨?_, ih h.2⟩
      cases k <;> cases v <;> first | (simp [eqCell]; done) | (simp [Kd.fits] at h)
theorem eqCells_eq : ∀ {ks : List Kd} {l m : List Value}, fitsAll ks l = true → fitsAll ks m = true → eqCells l m = true → l = m := by
  intro ks
  induction ks with
  | nil => intro l m h h' _; cases l with
    | nil => cases m with
      | nil => rfl
      | cons => cases h'
    | cons => cases h
  | cons k ks ih =>
    intro l m h h' he
    cases l with
    | nil => cases h
    | cons v l =>
      cases m with
      | nil => cases h'
      | cons w m =>
        simp only [fitsAll, Bool.and_eq_true] at h h'
        simp only [eqCells, Bool.and_eq_true] at he
        rw [ih h.2 h'.2 he.2]
        congr 1
        have h1 := h.1
        have h2 := h'.1
        have h3 := he.1
        cases k <;> cases v <;> first | (cases h1; done) | (cases w <;> first | (cases h2; done) | (simp_all [eqCell, Kd.fits, ByteArray.toList_eq]))
        all_goals first | (exact ByteArray.ext he.1) | skip
theorem eqV_same {P : Program} {t : TypeId} {kd : List Kd} {l : List Value} (hk : kdT P 60 t = some kd) (hg : P.eqGuardType P.depth t = false) (ha : aggT P t = some true) (hf : fitsAll kd l = true) : eqV P t (.agg l.toArray) (.agg l.toArray) = some true := by
  simp only [eqV, hk, hf, hg, ha, and_self, if_true, eqCells_refl hf]
theorem eqV_agg {P : Program} {t : TypeId} {kd : List Kd} {l m : List Value} (hk : kdT P 60 t = some kd) (hg : P.eqGuardType P.depth t = false) (ha : aggT P t = some true) (hf : fitsAll kd l = true) (hf' : fitsAll kd m = true) : eqV P t (.agg l.toArray) (.agg m.toArray) = some (eqCells l m) := by
  simp only [eqV, hk, hf, hf', hg, ha, and_self, if_true]
/-- What holds in the middle, said once. -/
theorem W_mid {P : Program} {base : Nat} {c : Code} {e : Env} {s : St} {K : Env → St → Prop} {Q : Exit → Env → St → Prop} (J : Env → St → Prop)
    (h : W P base c e s (fun x e s => x = .normal ∧ J e s)) (hk : ∀ e s, J e s → K e s) : W P base c e s (Th K Q) :=
  W_mono h fun x e s hq => by obtain ⟨rfl, hj⟩ := hq; exact hk e s hj
theorem Lok_at {eff lite kp : Nat → Bool} {n k : Nat} {ρ : Operand → Value} {t : TypeId} {a : Operand} : Lok (some ⟨eff, lite, kp, n⟩) k ρ (.load t a) = (lite k = true → (match ρ a with | .pointer (some ad) => kp ad.block = true ∧ ad.block < n | _ => False)) := rfl
end Go.Ab
