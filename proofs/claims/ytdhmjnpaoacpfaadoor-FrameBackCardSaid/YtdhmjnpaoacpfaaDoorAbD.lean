/- A second evaluator of the abstract machine, for longer runs: memory and frames are trees, and all values are worked out at once; and that it is right. -/
import Derived.Test.YtdhmjnpaoacpfaaDoorAbC
set_option linter.all false
namespace Go.Ab
open Go Go.RowKit

/-! ### Trees -/
inductive Tq (α : Type) where
  | leaf
  | node (l : Tq α) (v : α) (r : Tq α)
def Tq.get {α : Type} (d : α) : Tq α → Nat → α
  | .leaf, _ => d
  | .node l v r, k => cond (Nat.beq k 0) v (cond (Nat.beq (k % 2) 1) (l.get d (k / 2)) (r.get d (k / 2 - 1)))
def Tq.set {α : Type} (d : α) : Nat → Tq α → Nat → α → Tq α
  | 0, t, _, _ => t
  | _ + 1, .leaf, 0, x => .node .leaf x .leaf
  | _ + 1, .node l _ r, 0, x => .node l x r
  | f + 1, .leaf, k + 1, x => cond (Nat.beq ((k + 1) % 2) 1) (.node (Tq.set d f .leaf ((k + 1) / 2) x) d .leaf) (.node .leaf d (Tq.set d f .leaf ((k + 1) / 2 - 1) x))
  | f + 1, .node l v r, k + 1, x => cond (Nat.beq ((k + 1) % 2) 1) (.node (Tq.set d f l ((k + 1) / 2) x) v r) (.node l v (Tq.set d f r ((k + 1) / 2 - 1) x))
def Tq.setK {α β : Type} (d : α) : Nat → Tq α → Nat → α → (Tq α → β) → β
  | 0, t, _, _, K => K t
  | f + 1, .leaf, k, x, K => cond (Nat.beq k 0) (K (.node .leaf x .leaf)) (cond (Nat.beq (k % 2) 1) (Tq.setK d f .leaf (k / 2) x fun t => K (.node t d .leaf)) (Tq.setK d f .leaf (k / 2 - 1) x fun t => K (.node .leaf d t)))
  | f + 1, .node l v r, k, x, K => cond (Nat.beq k 0) (K (.node l x r)) (cond (Nat.beq (k % 2) 1) (Tq.setK d f l (k / 2) x fun t => K (.node t v r)) (Tq.setK d f r (k / 2 - 1) x fun t => K (.node l v t)))
theorem Tq.setK_eq {α β : Type} (d : α) : ∀ (f : Nat) (t : Tq α) (k : Nat) (x : α) (K : Tq α → β), Tq.setK d f t k x K = K (Tq.set d f t k x) := by
  intro f
  induction f with
  | zero => intro t k x K; cases t <;> rfl
  | succ f ih =>
    intro t k x K
    cases t <;> cases k <;> simp only [Tq.setK, Tq.set]
    · rfl
    · rename_i k
      show cond false _ (cond _ _ _) = _
      simp only [cond_false]
      cases Nat.beq ((k + 1) % 2) 1 <;> simp only [cond_false, cond_true, ih]
    · rfl
    · rename_i k
      show cond false _ (cond _ _ _) = _
      simp only [cond_false]
      cases Nat.beq ((k + 1) % 2) 1 <;> simp only [cond_false, cond_true, ih]
theorem Tq.get_odd {α : Type} (d : α) (l r : Tq α) (v : α) (m : Nat) : (Tq.node l v r).get d (2 * m + 1) = l.get d m := by
  have h1 : Nat.beq (2 * m + 1) 0 = false := rfl
  have h2 : (2 * m + 1) % 2 = 1 := by omega
  have h3 : (2 * m + 1) / 2 = m := by omega
  simp only [Tq.get, h1, h2, h3, cond_false]; rfl
theorem Tq.get_even {α : Type} (d : α) (l r : Tq α) (v : α) (m : Nat) : (Tq.node l v r).get d (2 * m + 2) = r.get d m := by
  have h1 : Nat.beq (2 * m + 2) 0 = false := rfl
  have h2 : (2 * m + 2) % 2 = 0 := by omega
  have h3 : (2 * m + 2) / 2 - 1 = m := by omega
  simp only [Tq.get, h1, h2, h3, cond_false]; rfl
theorem Tq.kinds (k : Nat) : k = 0 ∨ (∃ m, k = 2 * m + 1) ∨ ∃ m, k = 2 * m + 2 := by
  rcases Nat.mod_two_eq_zero_or_one k with h | h
  · by_cases h0 : k = 0
    · exact .inl h0
    · exact .inr (.inr ⟨k / 2 - 1, by omega⟩)
  · exact .inr (.inl ⟨k / 2, by omega⟩)
theorem Tq.set_odd {α : Type} (d : α) (f : Nat) (l r : Tq α) (v x : α) (m : Nat) : Tq.set d (f + 1) (.node l v r) (2 * m + 1) x = .node (Tq.set d f l m x) v r := by
  have h2 : (2 * m + 1) % 2 = 1 := by omega
  have h3 : (2 * m + 1) / 2 = m := by omega
  simp only [Tq.set, h2, h3]; rfl
theorem Tq.set_even {α : Type} (d : α) (f : Nat) (l r : Tq α) (v x : α) (m : Nat) : Tq.set d (f + 1) (.node l v r) (2 * m + 2) x = .node l v (Tq.set d f r m x) := by
  have h2 : (2 * m + 1 + 1) % 2 = 0 := by omega
  have h3 : (2 * m + 1 + 1) / 2 - 1 = m := by omega
  show Tq.set d (f + 1) (.node l v r) (2 * m + 1 + 1) x = _
  simp only [Tq.set, h2, h3]; rfl
theorem Tq.setl_odd {α : Type} (d : α) (f : Nat) (x : α) (m : Nat) : Tq.set d (f + 1) .leaf (2 * m + 1) x = .node (Tq.set d f .leaf m x) d .leaf := by
  have h2 : (2 * m + 1) % 2 = 1 := by omega
  have h3 : (2 * m + 1) / 2 = m := by omega
  simp only [Tq.set, h2, h3]; rfl
theorem Tq.setl_even {α : Type} (d : α) (f : Nat) (x : α) (m : Nat) : Tq.set d (f + 1) .leaf (2 * m + 2) x = .node .leaf d (Tq.set d f .leaf m x) := by
  have h2 : (2 * m + 1 + 1) % 2 = 0 := by omega
  have h3 : (2 * m + 1 + 1) / 2 - 1 = m := by omega
  show Tq.set d (f + 1) .leaf (2 * m + 1 + 1) x = _
  simp only [Tq.set, h2, h3]; rfl
theorem Tq.get_set {α : Type} (d : α) : ∀ (f : Nat) (t : Tq α) (k : Nat) (x : α), k + 1 < 2 ^ f → ∀ j, (Tq.set d f t k x).get d j = if j = k then x else t.get d j := by
  intro f
  induction f with
  | zero => intro t k x h; omega
  | succ f ih =>
    intro t k x h j
    rw [Nat.pow_succ] at h
    rcases Tq.kinds k with rfl | ⟨m, rfl⟩ | ⟨m, rfl⟩
    · rcases Tq.kinds j with rfl | ⟨i, rfl⟩ | ⟨i, rfl⟩ <;> cases t
      · rfl
      · rfl
      · simp only [Tq.set]; rw [Tq.get_odd, if_neg (by omega)]; rfl
      · simp only [Tq.set]; rw [Tq.get_odd, Tq.get_odd, if_neg (by omega)]
      · simp only [Tq.set]; rw [Tq.get_even, if_neg (by omega)]; rfl
      · simp only [Tq.set]; rw [Tq.get_even, Tq.get_even, if_neg (by omega)]
    · have hm : m + 1 < 2 ^ f := by omega
      rcases Tq.kinds j with rfl | ⟨i, rfl⟩ | ⟨i, rfl⟩ <;> cases t
      · rw [Tq.setl_odd, if_neg (by omega)]; rfl
      · rw [Tq.set_odd, if_neg (by omega)]; rfl
      · rw [Tq.setl_odd, Tq.get_odd, ih _ _ _ hm]
        by_cases hi : i = m
        · rw [if_pos hi, if_pos (by omega)]
        · rw [if_neg hi, if_neg (by omega)]; rfl
      · rw [Tq.set_odd, Tq.get_odd, Tq.get_odd, ih _ _ _ hm]
        by_cases hi : i = m
        · rw [if_pos hi, if_pos (by omega)]
        · rw [if_neg hi, if_neg (by omega)]
      · rw [Tq.setl_odd, Tq.get_even, if_neg (by omega)]; rfl
      · rw [Tq.set_odd, Tq.get_even, Tq.get_even, if_neg (by omega)]
    · have hm : m + 1 < 2 ^ f := by omega
      rcases Tq.kinds j with rfl | ⟨i, rfl⟩ | ⟨i, rfl⟩ <;> cases t
      · rw [Tq.setl_even, if_neg (by omega)]; rfl
      · rw [Tq.set_even, if_neg (by omega)]; rfl
      · rw [Tq.setl_even, Tq.get_odd, if_neg (by omega)]; rfl
      · rw [Tq.set_even, Tq.get_odd, Tq.get_odd, if_neg (by omega)]
      · rw [Tq.setl_even, Tq.get_even, ih _ _ _ hm]
        by_cases hi : i = m
        · rw [if_pos hi, if_pos (by omega)]
        · rw [if_neg hi, if_neg (by omega)]; rfl
      · rw [Tq.set_even, Tq.get_even, Tq.get_even, ih _ _ _ hm]
        by_cases hi : i = m
        · rw [if_pos hi, if_pos (by omega)]
        · rw [if_neg hi, if_neg (by omega)]

/-! ### Values are worked out at once -/
def fNat {β : Type} (n : Nat) (K : Nat → β) : β := match n with | 0 => K 0 | m + 1 => K (Nat.succ m)
def fInt {β : Type} (n : Int) (K : Int → β) : β := match n with | .ofNat m => fNat m fun m => K (.ofNat m) | .negSucc m => fNat m fun m => K (.negSucc m)
def fVal {β : Type} (v : Value) (K : Value → β) : β :=
  match v with
  | .bool true => K (.bool true)
  | .bool false => K (.bool false)
  | .int k n => fInt n fun n => K (.int k n)
  | .pointer (some ⟨b, o, none⟩) => fNat b fun b => fNat o fun o => K (.pointer (some ⟨b, o, none⟩))
  | .slice (some ⟨b, o, none⟩) l c => fNat b fun b => fNat o fun o => fNat l fun l => fNat c fun c => K (.slice (some ⟨b, o, none⟩) l c)
  | v => K v
def fList {β : Type} : List Value → (List Value → β) → β
  | [], K => K []
  | v :: r, K => fVal v fun v => fList r fun r => K (v :: r)
def fDeep {β : Type} (v : Value) (K : Value → β) : β :=
  match v with
  | .agg c => fList c.toList fun l => K (.agg l.toArray)
  | .tuple c => fList c.toList fun l => K (.tuple l.toArray)
  | v => fVal v K
def fTwo {β : Type} : List Value → (List Value → β) → β
  | [], K => K []
  | v :: r, K => fDeep v fun v => fTwo r fun r => K (v :: r)
def fAll {β : Type} (v : Value) (K : Value → β) : β :=
  match v with
  | .tuple c => fTwo c.toList fun l => K (.tuple l.toArray)
  | v => fDeep v K
def fObj {β : Type} (o : AObj) (K : AObj → β) : β :=
  match o with
  | .row c => fList c fun c => K (.row c)
  | .grown c z => fList c fun c => K (.grown c z)
  | o => K o
theorem fNat_eq {β : Type} (n : Nat) (K : Nat → β) : fNat n K = K n := by cases n <;> rfl
theorem fInt_eq {β : Type} (n : Int) (K : Int → β) : fInt n K = K n := by cases n <;> simp only [fInt, fNat_eq]
theorem fVal_eq {β : Type} (v : Value) (K : Value → β) : fVal v K = K v := by
  unfold fVal
  split
  · rfl
  · rfl
  · exact fInt_eq _ _
  · simp only [fNat_eq]
  · simp only [fNat_eq]
  · rfl
theorem fList_eq {β : Type} : ∀ (l : List Value) (K : List Value → β), fList l K = K l := by
  intro l
  induction l with
  | nil => intro K; rfl
  | cons v r ih => intro K; simp only [fList, fVal_eq, ih]
theorem fDeep_eq {β : Type} (v : Value) (K : Value → β) : fDeep v K = K v := by
  unfold fDeep
  split
  · simp only [fList_eq, Array.toArray_toList]
  · simp only [fList_eq, Array.toArray_toList]
  · exact fVal_eq _ _
theorem fTwo_eq {β : Type} : ∀ (l : List Value) (K : List Value → β), fTwo l K = K l := by
  intro l
  induction l with
  | nil => intro K; rfl
  | cons v r ih => intro K; simp only [fTwo, fDeep_eq, ih]
theorem fAll_eq {β : Type} (v : Value) (K : Value → β) : fAll v K = K v := by
  unfold fAll
  split
  · simp only [fTwo_eq, Array.toArray_toList]
  · exact fDeep_eq _ _
theorem fObj_eq {β : Type} (o : AObj) (K : AObj → β) : fObj o K = K o := by
  unfold fObj
  split
  · simp only [fList_eq]
  · simp only [fList_eq]
  · rfl

/-! ### Memory and frames -/
def stOf (H : Tq AObj) (n : Nat) : St := ⟨H.get .gone, n⟩
def envOf (f : Env) (T : Tq (Option Value)) : Env := fun k => match T.get none k with | some v => v | none => f k
def lim : Nat := 1048576
theorem lim_lt {k : Nat} (h : Nat.ble k lim = true) : k + 1 < 2 ^ 40 := by
  have : k ≤ lim := Nat.le_of_ble_eq_true h
  unfold lim at this
  omega
theorem stOf_set {H : Tq AObj} {n k : Nat} {o : AObj} (h : Nat.ble k lim = true) : stOf (Tq.set .gone 40 H k o) n = ⟨fun b => if b = k then o else H.get .gone b, n⟩ := by
  unfold stOf
  congr 1
  funext b
  exact Tq.get_set _ _ _ _ _ (lim_lt h) b
theorem stOf_upd {H : Tq AObj} {n k : Nat} {o : AObj} (h : Nat.ble k lim = true) : stOf (Tq.set .gone 40 H k o) n = (stOf H n).upd k o := stOf_set h
theorem stOf_alloc {H : Tq AObj} {n : Nat} {o : AObj} (h : Nat.ble n lim = true) : stOf (Tq.set .gone 40 H n o) (n + 1) = (stOf H n).alloc o := stOf_set h
theorem envOf_put {f : Env} {T : Tq (Option Value)} {k : Nat} {v : Value} (h : Nat.ble k lim = true) : envOf f (Tq.set none 40 T k (some v)) = put (envOf f T) (some k) v := by
  funext j
  unfold envOf put
  rw [Tq.get_set _ _ _ _ _ (lim_lt h) j]
  by_cases hj : j = k
  · simp only [hj, if_true]
  · simp only [hj, if_false]
def chg : Op → Bool
  | .alloc _ | .box .. | .buildSlice .. | .makeSlice .. | .store .. | .call _ | .range .. | .next .. => true
  | _ => false
/-- What is neither the next block nor one of these stays. -/
def Rest (s s' : St) (low : List Nat) : Prop := ∀ b, b ≠ s.next → b ∉ low → s'.heap b = s.heap b
theorem Rest.refl (s : St) (l : List Nat) : Rest s s l := fun _ _ _ => rfl
theorem Rest.alloc (s : St) (o : AObj) (l : List Nat) : Rest s (s.alloc o) l := fun b hb _ => heap_alloc_ne _ _ hb
theorem Rest.upd (s : St) (b : Nat) (o : AObj) : Rest s (s.upd b o) [b] := fun k _ hk => heap_upd_ne _ _ (by simpa using hk)
theorem stN_rest {base : Nat} {s s1 : St} {a : Addr} {vs : List Value} (h : stN base s a vs = some s1) : Rest s s1 [a.block] := by
  unfold stN at h
  split at h
  · cases h; exact .refl _ _
  · split at h
    · split at h
      · cases h; exact .upd _ _ _
      · cases h
    · cases h
theorem appendV_rest {P : Program} {base : Nat} {s s1 : St} {t : TypeId} {v r : Value} {n : Nat} {news : List Value} (h : appendV P base s t v n news = some (r, s1)) : Rest s s1 (lowV v) := by
  have two : ∀ (b : Nat) (o o' : AObj), Rest s ((s.upd b o).alloc o') [b] := fun b o o' => fun k hk hl => by
    rw [heap_alloc_ne _ _ (by rw [next_upd]; exact hk), heap_upd_ne _ _ (by simpa using hl)]
  unfold appendV at h
  split at h
  · rename_i e b len cap he
    split at h
    · split at h
      · split at h
        · cases h; exact .refl _ _
        · split at h
          · split at h
            · rename_i a
              split at h
              · rename_i s' hs
                cases h
                have := stN_rest hs
                rw [add_block] at this
                exact this
              · cases h
            · cases h
          · split at h
            · split at h
              · split at h
                · cases h; exact .alloc _ _ _
                · cases h
              · rename_i a
                repeat' (split at h)
                all_goals first | (cases h; done) | (cases h; exact .alloc _ _ _) | (cases h; exact two _ _ _)
            · cases h
      · cases h
    · cases h
  · cases h
theorem pop_rest {P : Program} {base : Nat} {ρ : Operand → Value} {s s1 : St} {v : Value} {op : Op} (h : pop P base ρ s op = some (v, s1)) : Rest s s1 (opLow ρ op) ∧ (chg op = false → s1 = s) := by
  have r1 : ∀ {x : Option Value} {n : List Nat} {q : Prop}, ret1 x s = some (v, s1) → Rest s s1 n ∧ (q → s1 = s) := fun hx => by rw [ret1_eq hx]; exact ⟨.refl _ _, fun _ => rfl⟩
  cases op with
  | move x => simp only [pop, Option.some.injEq, Prod.mk.injEq] at h; rw [← h.2]; exact ⟨.refl _ _, fun _ => rfl⟩
  | assign x => simp only [pop, Option.some.injEq, Prod.mk.injEq] at h; rw [← h.2]; exact ⟨.refl _ _, fun _ => rfl⟩
  | alloc t =>
    refine ⟨?_, fun h => by cases h⟩
    simp only [pop] at h
    split at h
    · cases h; exact .alloc _ _ _
    · cases h
  | box t x =>
    refine ⟨?_, fun h => by cases h⟩
    simp only [pop] at h
    split at h
    · cases h; exact .alloc _ _ _
    · cases h
  | buildSlice t n ps =>
    refine ⟨?_, fun h => by cases h⟩
    simp only [pop, buildSliceV] at h
    repeat' (split at h)
    all_goals first | (cases h; done) | (cases h; exact .alloc _ _ _)
  | makeSlice t l c =>
    refine ⟨?_, fun h => by cases h⟩
    simp only [pop, makeV] at h
    repeat' (split at h)
    all_goals first | (cases h; done) | (cases h; exact .alloc _ _ _)
  | range t x =>
    refine ⟨?_, fun h => by cases h⟩
    simp only [pop, rangeV] at h
    repeat' (split at h)
    all_goals first | (cases h; done) | (cases h; exact .alloc _ _ _)
  | next a b =>
    refine ⟨?_, fun h => by cases h⟩
    simp only [pop, nextV] at h
    split at h
    · rename_i ad had
      have hb : blkOf (ρ a) = ad.block := by rw [had]; rfl
      simp only [opLow, hb]
      repeat' (split at h)
      all_goals first | (cases h; done) | (cases h; exact .refl _ _) | (cases h; exact .upd _ _ _)
    · cases h
  | store t a x =>
    refine ⟨?_, fun h => by cases h⟩
    simp only [pop] at h
    split at h
    · rename_i ad had
      have hb : blkOf (ρ a) = ad.block := by
        unfold ptrV at had
        split at had
        · rename_i hx; cases had; rw [hx]; rfl
        · cases had
      simp only [opLow, hb]
      unfold ret0 at h
      split at h
      · rename_i s' hs
        cases h
        unfold stVar at hs
        split at hs
        · exact stN_rest hs
        · cases hs
      · cases h
    · cases h
  | convert a b x =>
    simp only [pop, convV] at h
    repeat' (split at h)
    all_goals first | (cases h; done) | (cases h; exact ⟨.refl _ _, fun _ => rfl⟩)
  | call c =>
    refine ⟨?_, fun h => by cases h⟩
    have r1 : ∀ {x : Option Value} {n : List Nat}, ret1 x s = some (v, s1) → Rest s s1 n := fun hx => by rw [ret1_eq hx]; exact .refl _ _
    obtain ⟨callee, args, ats⟩ := c
    cases callee with
    | builtin b =>
      simp only [pop] at h
      cases b with
      | len => exact r1 h
      | cap => exact r1 h
      | min => exact r1 h
      | max => exact r1 h
      | append =>
        simp only [builtinV, appendB] at h
        split at h
        · rename_i t t' v0 x hts has
          simp only [opLow, has]
          repeat' (split at h)
          all_goals first | (cases h; done) | exact appendV_rest h
        · cases h
      | clear =>
        simp only [builtinV, clearB] at h
        split at h
        · rename_i t r bb n cc hts has
          simp only [opLow, has]
          repeat' (split at h)
          all_goals first | (cases h; done) | (cases h; exact .refl _ _) | (rename_i hst; cases h; exact stN_rest hst)
        · cases h
      | copy =>
        simp only [builtinV, copyB] at h
        split at h
        · rename_i t r d x hts has
          simp only [opLow, has]
          split at h
          · rename_i e b dl _ he
            split at h
            · split at h
              · split at h
                · rename_i a
                  split at h
                  · rename_i s' hs
                    cases h
                    exact stN_rest hs
                  · cases h
                · split at h
                  · cases h; exact .refl _ _
                  · cases h
              · cases h
            · cases h
          · cases h
        · cases h
      | _ => simp only [builtinV] at h; cases h
    | _ => simp only [pop] at h; cases h
  | _ => first | exact r1 h | (cases h; done)
/-- These blocks are written anew, as they are in a state. -/
def updK {β : Type} (s : St) : List Nat → Tq AObj → (Tq AObj → Option β) → Option β
  | [], H, K => K H
  | k :: r, H, K => cond (Nat.ble k lim) (fObj (s.heap k) fun o => Tq.setK .gone 40 H k o fun H => updK s r H K) none
theorem updK_ok {β : Type} {s : St} : ∀ {l : List Nat} {H : Tq AObj} {K : Tq AObj → Option β} {x : β}, updK s l H K = some x → ∃ H', K H' = some x ∧ (∀ b, b ∉ l → H'.get .gone b = H.get .gone b) ∧ ∀ b ∈ l, H'.get .gone b = s.heap b := by
  intro l
  induction l with
  | nil => intro H K x h; exact ⟨H, h, fun _ _ => rfl, by simp⟩
  | cons k r ih =>
    intro H K x h
    simp only [updK, fObj_eq, Tq.setK_eq] at h
    cases hk : Nat.ble k lim with
    | false => rw [hk] at h; cases h
    | true =>
      rw [hk, cond_true] at h
      obtain ⟨H', h1, h2, h3⟩ := ih h
      refine ⟨H', h1, fun b hb => ?_, fun b hb => ?_⟩
      · rw [h2 b (fun hm => hb (List.mem_cons_of_mem _ hm)), Tq.get_set _ _ _ _ _ (lim_lt hk), if_neg (fun e => hb (by rw [e]; exact List.mem_cons_self ..))]
      · by_cases hr : b ∈ r
        · exact h3 b hr
        · have : b = k := by
            rcases List.mem_cons.1 hb with h | h
            · exact h
            · exact absurd h hr
          subst this
          rw [h2 b hr, Tq.get_set _ _ _ _ _ (lim_lt hk), if_pos rfl]

/-! ### The evaluator -/
abbrev FOut := Tq AObj × Nat × List Nat
abbrev FCall := Fn → List Value → Tq AObj → Nat → Option (Value × FOut)
def fOp (P : Program) (base : Nat) (callF : FCall) (e : Env) (H : Tq AObj) (n : Nat) (o : Oper) : Option (Value × FOut) :=
  match o.op with
  | .call c => if Callee.isB c.callee = true then (match pop P base (ev e) (stOf H n) o.op with
      | some (v, s1) => fNat s1.next fun n1 => updK s1 (n :: opLow (ev e) o.op) H fun H1 => some (v, H1, n1, opLow (ev e) o.op)
      | none => none)
    else (match calleeV (ev e) c with | some (fn, args) => callF fn args H n | none => none)
  | _ => (match pop P base (ev e) (stOf H n) o.op with
      | some (v, s1) => if chg o.op = true then (fNat s1.next fun n1 => updK s1 (n :: opLow (ev e) o.op) H fun H1 => some (v, H1, n1, opLow (ev e) o.op)) else some (v, H, n, [])
      | none => none)
def fPut (T : Tq (Option Value)) (d : Option Tmp) (v : Value) {β : Type} (K : Tq (Option Value) → Option β) : Option β :=
  match d with
  | none => K T
  | some k => cond (Nat.ble k lim) (fAll v fun v => Tq.setK none 40 T k (some v) K) none
def fOps (P : Program) (base : Nat) (callF : FCall) (all : Array Oper) (f : Env) : List Oper → Tq (Option Value) → Tq AObj → Nat → Option (Tq (Option Value) × FOut × List Bool)
  | [], T, H, n => some (T, (H, n, []), [])
  | o :: l, T, H, n =>
    match guardB all (envOf f T) o with
    | some true => (match fOp P base callF (envOf f T) H n o with
      | some (v, H1, n1, low) => fPut T o.dst v fun T1 => (match fOps P base callF all f l T1 H1 n1 with
        | some (T2, (H2, n2, low2), fl) => some (T2, (H2, n2, low.filter (fun b => decide (b < n)) ++ low2), low.any (fun b => decide (b < n)) :: fl)
        | none => none)
      | none => none)
    | some false => fPut T o.dst undef fun T1 => (match fOps P base callF all f l T1 H n with
      | some (T2, F, fl) => some (T2, F, false :: fl)
      | none => none)
    | none => none
def fCode (P : Program) (base : Nat) (callF : FCall) (f : Env) : Nat → Code → Tq (Option Value) → Tq AObj → Nat → Option (Exit × Tq (Option Value) × FOut)
  | 0, _, _, _, _ => none
  | m + 1, c, T, H, n =>
    match c with
    | .skip => some (.normal, T, (H, n, []))
    | .label _ => some (.normal, T, (H, n, []))
    | .exit i => some (.exit i, T, (H, n, []))
    | .ret => some (.ret, T, (H, n, []))
    | .seq a b => (match fCode P base callF f m a T H n with
      | some (.normal, T1, (H1, n1, l1)) => (match fCode P base callF f m b T1 H1 n1 with
        | some (x, T2, (H2, n2, l2)) => some (x, T2, (H2, n2, l1 ++ l2))
        | none => none)
      | r => r)
    | .cond c a b => (match ev (envOf f T) c with
      | .bool true => fCode P base callF f m a T H n
      | .bool false => fCode P base callF f m b T H n
      | _ => none)
    | .block i a => (match fCode P base callF f m a T H n with
      | some (.exit j, T1, F) => if j = i then some (.normal, T1, F) else some (.exit j, T1, F)
      | r => r)
    | .loop a => (match fCode P base callF f m a T H n with
      | some (.normal, T1, (H1, n1, l1)) => (match fCode P base callF f m (.loop a) T1 H1 n1 with
        | some (x, T2, (H2, n2, l2)) => some (x, T2, (H2, n2, l1 ++ l2))
        | none => none)
      | r => r)
    | .scope a => (match fCode P base callF f m a T H n with
      | some (.normal, T1, F) => some (.normal, T1, F)
      | some (.ret, T1, F) => some (.ret, T1, F)
      | some (.exit j, T1, F) => some (.exit j, T1, F)
      | _ => none)
    | .region _ ops d => (match fOps P base callF ops f ops.toList T H n with
      | some (T1, F, fl) => if d = true then (if drawOk ops (fun i => fl.getD i true) (fun _ => false) = true ∧ edgesOk ops = true then some (.normal, T1, F) else none) else some (.normal, T1, F)
      | none => none)
    | .rangeFunc g ps as body => (match ev (envOf f T) g with
      | .func (.func fn) fi args => if fi.size = 0 ∧ Nat.ble n lim = true then (match callF (.func fn) (.func (.yield n) #[] #[] :: args.toList) (Tq.set .gone 40 H n (.loop ⟨envOf f T, ps, as, body, .ready, none⟩)) (n + 1) with
        | some (_, (H1, n1, l1)) => (match H1.get .gone n with
          | .loop r => if r.state ≠ .busy then (match r.pending with
            | none => some (.normal, T, (Tq.set .gone 40 H1 n .gone, n1, l1.filter fun b => decide (b < n)))
            | some .ret => some (.ret, T, (Tq.set .gone 40 H1 n .gone, n1, l1.filter fun b => decide (b < n)))
            | some (.exit i) => some (.exit i, T, (Tq.set .gone 40 H1 n .gone, n1, l1.filter fun b => decide (b < n)))
            | _ => none) else none
          | _ => none)
        | none => none) else none
      | _ => none)
    | _ => none
def fFn (P : Program) (base m : Nat) (orc : FuncId → List Value → St → Option Value) : Nat → FCall
  | 0, _, _, _, _ => none
  | k + 1, .func g, args, H, n =>
    (match orc g args (stOf H n) with
    | some v => some (v, (H, n, []))
    | none => (match P.funcs[g]? with
      | some fn => (match fn.body with
        | some c => (match fCode P base (fFn P base m orc k) (env0 args) m c .leaf H n with
          | some (x, T1, (H1, n1, l1)) => (match x with
            | .normal => (match resultsV P base fn (envOf (env0 args) T1) (stOf H1 n1) with | some v => fAll v fun v => some (v, (H1, n1, l1.filter fun b => decide (b < n))) | none => none)
            | .ret => (match resultsV P base fn (envOf (env0 args) T1) (stOf H1 n1) with | some v => fAll v fun v => some (v, (H1, n1, l1.filter fun b => decide (b < n))) | none => none)
            | _ => none)
          | none => none)
        | none => none)
      | none => none))
  | k + 1, .yield l, args, H, n =>
    (match H.get .gone l with
    | .loop r => if r.params.size = args.length ∧ r.state = .ready ∧ base ≤ l ∧ l < n ∧ Nat.ble l lim = true then
        (match fCode P base (fFn P base m orc k) (putAll r.env (r.params.toList.zip args)) m r.assign .leaf H n with
        | some (.normal, T1, (H1, n1, l1)) => if l ∉ l1 then
            (match fCode P base (fFn P base m orc k) (putAll r.env (r.params.toList.zip args)) m r.body T1 (Tq.set .gone 40 H1 l (.loop { r with state := .busy })) n1 with
            | some (x, _, (H2, n2, l2)) => if l ∉ l2 then (match x with
              | .normal => some (.bool true, (Tq.set .gone 40 H2 l (.loop { r with state := .ready, pending := none }), n2, l1 ++ [l] ++ l2))
              | .ret => some (.bool false, (Tq.set .gone 40 H2 l (.loop { r with state := .done, pending := some .ret }), n2, l1 ++ [l] ++ l2))
              | .exit i => some (.bool false, (Tq.set .gone 40 H2 l (.loop { r with state := .done, pending := some (.exit i) }), n2, l1 ++ [l] ++ l2))
              | _ => none) else none
            | none => none) else none
        | _ => none) else none
    | _ => none)
  | _ + 1, _, _, _, _ => none

/-! ### It is right -/
def FOk (P : Program) (base : Nat) (callF : FCall) : Prop :=
  ∀ fn args H n v H' n' low, callF fn args H n = some (v, H', n', low) → Ev P base (.func fn args (stOf H n) v (stOf H' n')) ∧ Unch (stOf H n) (stOf H' n') low
theorem upd_ok {β : Type} {P : Program} {base : Nat} {e : Env} {H : Tq AObj} {n : Nat} {op : Op} {v : Value} {s1 : St} (hp : pop P base (ev e) (stOf H n) op = some (v, s1)) {K : Tq AObj → Option β} {x : β} (h : updK s1 (n :: opLow (ev e) op) H K = some x) :
    ∃ H', K H' = some x ∧ stOf H' s1.next = s1 := by
  obtain ⟨H', h1, h2, h3⟩ := updK_ok h
  refine ⟨H', h1, ?_⟩
  have hr := (pop_rest hp).1
  have : H'.get .gone = s1.heap := by
    funext b
    by_cases hb : b ∈ n :: opLow (ev e) op
    · exact h3 b hb
    · rw [h2 b hb, hr b (fun h => hb (by rw [h]; exact List.mem_cons_self ..)) (fun h => hb (List.mem_cons_of_mem _ h))]; rfl
  unfold stOf
  rw [this]
theorem fOp_ok {P : Program} {base : Nat} {callF : FCall} (hc : FOk P base callF) {e : Env} {H : Tq AObj} {n : Nat} {o : Oper} {v : Value} {H' : Tq AObj} {n' : Nat} {low : List Nat} (h : fOp P base callF e H n o = some (v, H', n', low)) :
    Unch (stOf H n) (stOf H' n') low ∧ ((isCall o.op = false ∧ pop P base (ev e) (stOf H n) o.op = some (v, stOf H' n')) ∨ (∃ c fn args, o.op = .call c ∧ Callee.isB c.callee = false ∧ calleeV (ev e) c = some (fn, args) ∧ Ev P base (.func fn args (stOf H n) v (stOf H' n')))) := by
  have plain : ∀ {w : Value} {s1 : St}, pop P base (ev e) (stOf H n) o.op = some (w, s1) → (fNat s1.next fun n1 => updK s1 (n :: opLow (ev e) o.op) H fun H1 => some (w, H1, n1, opLow (ev e) o.op)) = some (v, H', n', low) → Unch (stOf H n) (stOf H' n') low ∧ pop P base (ev e) (stOf H n) o.op = some (v, stOf H' n') := fun {w s1} hp h => by
    rw [fNat_eq] at h
    obtain ⟨H1, h1, h2⟩ := upd_ok hp h
    simp only [Option.some.injEq, Prod.mk.injEq] at h1
    obtain ⟨rfl, rfl, rfl, rfl⟩ := h1
    rw [h2]
    exact ⟨pop_unch hp, hp⟩
  unfold fOp at h
  split at h
  · rename_i c hop
    split at h
    · rename_i hb
      split at h
      · rename_i w s1 hp
        obtain ⟨a, b⟩ := plain hp h
        exact ⟨a, .inl ⟨by rw [hop]; simp [isCall, hb], b⟩⟩
      · cases h
    · rename_i hb
      split at h
      · rename_i fn args hcal
        obtain ⟨a, b⟩ := hc _ _ _ _ _ _ _ _ h
        exact ⟨b, .inr ⟨c, fn, args, hop, by simpa using hb, hcal, a⟩⟩
      · cases h
  · rename_i hne
    have hic : isCall o.op = false := by cases hop : o.op <;> first | rfl | exact absurd hop (hne _)
    split at h
    · rename_i w s1 hp
      split at h
      · obtain ⟨a, b⟩ := plain hp h
        exact ⟨a, .inl ⟨hic, b⟩⟩
      · rename_i hch
        have := (pop_rest hp).2 (by simpa using hch)
        subst this
        simp only [Option.some.injEq, Prod.mk.injEq] at h
        obtain ⟨rfl, rfl, rfl, rfl⟩ := h
        exact ⟨.refl _ _, .inl ⟨hic, hp⟩⟩
    · cases h
theorem fPut_ok {β : Type} {f : Env} {T : Tq (Option Value)} {d : Option Tmp} {v : Value} {K : Tq (Option Value) → Option β} {x : β} (h : fPut T d v K = some x) : ∃ T', K T' = some x ∧ envOf f T' = put (envOf f T) d v := by
  unfold fPut at h
  split at h
  · exact ⟨T, h, rfl⟩
  · rename_i k
    simp only [fAll_eq, Tq.setK_eq] at h
    cases hk : Nat.ble k lim with
    | false => rw [hk] at h; cases h
    | true =>
      rw [hk, cond_true] at h
      exact ⟨_, h, envOf_put hk⟩
theorem fOps_ok {P : Program} {base : Nat} {callF : FCall} (hc : FOk P base callF) {all : Array Oper} {f : Env} : ∀ (l : List Oper) (k : Nat) (T : Tq (Option Value)) (H : Tq AObj) (n : Nat) (T' : Tq (Option Value)) (H' : Tq AObj) (n' : Nat) (low : List Nat) (fl : List Bool),
    fOps P base callF all f l T H n = some (T', (H', n', low), fl) → fl.length = l.length ∧ Unch (stOf H n) (stOf H' n') low ∧ ∀ D : Option Drw, (D = none ∨ ∃ g m, D = some ⟨g, fun _ => false, fun _ => false, m⟩ ∧ ∀ i, i < l.length → fl[i]? = some false ∨ g (k + i) = true) → Ev P base (.ops all D k l (envOf f T) (stOf H n) (envOf f T') (stOf H' n')) := by
  intro l
  induction l with
  | nil =>
    intro k T H n T' H' n' low fl h
    simp only [fOps, Option.some.injEq, Prod.mk.injEq] at h
    obtain ⟨rfl, ⟨rfl, rfl, rfl⟩, rfl⟩ := h
    exact ⟨rfl, .refl _ _, fun D _ => .ops_nil⟩
  | cons o l ih =>
    intro k T H n T' H' n' low fl h
    simp only [fOps] at h
    split at h
    · rename_i hg
      rcases guardB_ok hg with ⟨_, hg⟩ | ⟨h, _⟩
      · split at h
        · rename_i v H1 n1 low1 hv
          obtain ⟨T1, h, hT1⟩ := fPut_ok (f := f) h
          split at h
          · rename_i T2 H2 n2 low2 fl2 h2
            simp only [Option.some.injEq, Prod.mk.injEq] at h
            obtain ⟨rfl, ⟨rfl, rfl, rfl⟩, rfl⟩ := h
            obtain ⟨hu, hop⟩ := fOp_ok hc hv
            obtain ⟨hlen, hu2, hev⟩ := ih (k + 1) _ _ _ _ _ _ _ _ h2
            rw [hT1] at hev
            refine ⟨by simp [hlen], hu.cut.trans hu2, fun D hD => ?_⟩
            have hD' : D = none ∨ ∃ g m, D = some ⟨g, fun _ => false, fun _ => false, m⟩ ∧ ∀ i, i < l.length → fl2[i]? = some false ∨ g (k + 1 + i) = true := hD.imp_right fun ⟨g, m, h1, h2⟩ => ⟨g, m, h1, fun i hi => by
              have := h2 (i + 1) (by simp; omega)
              simp only [List.getElem?_cons_succ] at this
              rw [show k + 1 + i = k + (i + 1) by omega]; exact this⟩
            have hDk : Dok D k (stOf H n) (stOf H1 n1) := by
              rcases hD with rfl | ⟨g, m, rfl, hf⟩
              · trivial
              · rcases hf 0 (by simp) with h | h
                · simp at h
                  exact .inl (hu.mild fun b hb => by
                    have := h b hb
                    show n ≤ b
                    omega)
                · exact .inr ⟨h, hu.next, fun b hb => by cases hb⟩
            have hLk : ∀ op, Lok D k (ev (envOf f T)) op := fun op => by
              cases op <;> try trivial
              rcases hD with rfl | ⟨g, m, rfl, _⟩
              · trivial
              · intro h; cases h
            rcases hop with ⟨h1, h2⟩ | ⟨c, fn, args, h1, h2, h3, h4⟩
            · exact .ops_plain hg h1 h2 hDk (hLk _) (hev D hD')
            · exact .ops_call hg h1 h2 h3 h4 hDk (hev D hD')
          · cases h
        · cases h
      · cases h
    · rename_i hg
      rcases guardB_ok hg with ⟨h, _⟩ | ⟨_, j, w, c, h1, h2, h3⟩
      · cases h
      · obtain ⟨T1, h, hT1⟩ := fPut_ok (f := f) h
        split at h
        · rename_i T2 F fl2 h4
          obtain ⟨H2, n2, low2⟩ := F
          simp only [Option.some.injEq, Prod.mk.injEq] at h
          obtain ⟨rfl, ⟨rfl, rfl, rfl⟩, rfl⟩ := h
          obtain ⟨hlen, hu2, hev⟩ := ih (k + 1) _ _ _ _ _ _ _ _ h4
          rw [hT1] at hev
          refine ⟨by simp [hlen], hu2, fun D hD => .ops_not h1 h2 h3 (hev D (hD.imp_right fun ⟨g, m, h1, h2⟩ => ⟨g, m, h1, fun i hi => ?_⟩))⟩
          have := h2 (i + 1) (by simp; omega)
          simp only [List.getElem?_cons_succ] at this
          rw [show k + 1 + i = k + (i + 1) by omega]; exact this
        · cases h
    · cases h
theorem fCode_ok {P : Program} {base : Nat} {callF : FCall} (hc : FOk P base callF) {f : Env} : ∀ (m : Nat) (c : Code) (T : Tq (Option Value)) (H : Tq AObj) (n : Nat) (x : Exit) (T' : Tq (Option Value)) (H' : Tq AObj) (n' : Nat) (low : List Nat),
    fCode P base callF f m c T H n = some (x, T', H', n', low) → Ev P base (.code c (envOf f T) (stOf H n) x (envOf f T') (stOf H' n')) ∧ Unch (stOf H n) (stOf H' n') low := by
  intro m
  induction m with
  | zero => intro c T H n x T' H' n' low h; cases h
  | succ m ih =>
    intro c T H n x T' H' n' low h
    cases c with
    | skip => simp only [fCode, Option.some.injEq, Prod.mk.injEq] at h; obtain ⟨rfl, rfl, rfl, rfl, rfl⟩ := h; exact ⟨.skip, .refl _ _⟩
    | label l => simp only [fCode, Option.some.injEq, Prod.mk.injEq] at h; obtain ⟨rfl, rfl, rfl, rfl, rfl⟩ := h; exact ⟨.label, .refl _ _⟩
    | exit l => simp only [fCode, Option.some.injEq, Prod.mk.injEq] at h; obtain ⟨rfl, rfl, rfl, rfl, rfl⟩ := h; exact ⟨.exit, .refl _ _⟩
    | ret => simp only [fCode, Option.some.injEq, Prod.mk.injEq] at h; obtain ⟨rfl, rfl, rfl, rfl, rfl⟩ := h; exact ⟨.ret, .refl _ _⟩
    | seq a b =>
      simp only [fCode] at h
      split at h
      · rename_i T1 H1 n1 l1 h1
        obtain ⟨g1, g2⟩ := ih _ _ _ _ _ _ _ _ _ h1
        split at h
        · rename_i x2 T2 H2 n2 l2 h2
          simp only [Option.some.injEq, Prod.mk.injEq] at h; obtain ⟨rfl, rfl, rfl, rfl, rfl⟩ := h
          obtain ⟨k1, k2⟩ := ih _ _ _ _ _ _ _ _ _ h2
          exact ⟨.seq g1 k1, g2.trans k2⟩
        · cases h
      · rename_i hne
        obtain ⟨g1, g2⟩ := ih _ _ _ _ _ _ _ _ _ h
        exact ⟨.seq_out g1 fun hx => hne _ _ _ _ (by rw [h, hx]), g2⟩
    | cond c a b =>
      simp only [fCode] at h
      split at h
      · rename_i hv
        obtain ⟨g1, g2⟩ := ih _ _ _ _ _ _ _ _ _ h
        exact ⟨.cond true hv g1, g2⟩
      · rename_i hv
        obtain ⟨g1, g2⟩ := ih _ _ _ _ _ _ _ _ _ h
        exact ⟨.cond false hv g1, g2⟩
      · cases h
    | block i a =>
      simp only [fCode] at h
      split at h
      · rename_i j T1 F h1
        obtain ⟨H1, n1, l1⟩ := F
        obtain ⟨g1, g2⟩ := ih _ _ _ _ _ _ _ _ _ h1
        split at h
        · rename_i hji
          simp only [Option.some.injEq, Prod.mk.injEq] at h; obtain ⟨rfl, rfl, rfl, rfl, rfl⟩ := h
          subst hji
          exact ⟨.block_out g1, g2⟩
        · rename_i hji
          simp only [Option.some.injEq, Prod.mk.injEq] at h; obtain ⟨rfl, rfl, rfl, rfl, rfl⟩ := h
          exact ⟨.block g1 (fun e => hji (by cases e; rfl)), g2⟩
      · rename_i hne
        obtain ⟨g1, g2⟩ := ih _ _ _ _ _ _ _ _ _ h
        exact ⟨.block g1 fun hx => hne i _ _ (by rw [h, hx]), g2⟩
    | loop a =>
      simp only [fCode] at h
      split at h
      · rename_i T1 H1 n1 l1 h1
        obtain ⟨g1, g2⟩ := ih _ _ _ _ _ _ _ _ _ h1
        split at h
        · rename_i x2 T2 H2 n2 l2 h2
          simp only [Option.some.injEq, Prod.mk.injEq] at h; obtain ⟨rfl, rfl, rfl, rfl, rfl⟩ := h
          obtain ⟨k1, k2⟩ := ih _ _ _ _ _ _ _ _ _ h2
          exact ⟨.loop g1 k1, g2.trans k2⟩
        · cases h
      · rename_i hne
        obtain ⟨g1, g2⟩ := ih _ _ _ _ _ _ _ _ _ h
        exact ⟨.loop_out g1 fun hx => hne _ _ _ _ (by rw [h, hx]), g2⟩
    | scope a =>
      simp only [fCode] at h
      split at h
      · rename_i T1 F h1
        obtain ⟨H1, n1, l1⟩ := F
        simp only [Option.some.injEq, Prod.mk.injEq] at h; obtain ⟨rfl, rfl, rfl, rfl, rfl⟩ := h
        obtain ⟨g1, g2⟩ := ih _ _ _ _ _ _ _ _ _ h1
        exact ⟨.scope g1 (.inl rfl), g2⟩
      · rename_i T1 F h1
        obtain ⟨H1, n1, l1⟩ := F
        simp only [Option.some.injEq, Prod.mk.injEq] at h; obtain ⟨rfl, rfl, rfl, rfl, rfl⟩ := h
        obtain ⟨g1, g2⟩ := ih _ _ _ _ _ _ _ _ _ h1
        exact ⟨.scope g1 (.inr (.inl rfl)), g2⟩
      · rename_i j T1 F h1
        obtain ⟨H1, n1, l1⟩ := F
        simp only [Option.some.injEq, Prod.mk.injEq] at h; obtain ⟨rfl, rfl, rfl, rfl, rfl⟩ := h
        obtain ⟨g1, g2⟩ := ih _ _ _ _ _ _ _ _ _ h1
        exact ⟨.scope g1 (.inr (.inr ⟨_, rfl⟩)), g2⟩
      · cases h
    | region i ops d =>
      simp only [fCode] at h
      split at h
      · rename_i T1 F fl h1
        obtain ⟨H1, n1, l1⟩ := F
        obtain ⟨hlen, g1, g2⟩ := fOps_ok hc _ 0 _ _ _ _ _ _ _ _ h1
        split at h
        · rename_i hd
          split at h
          · rename_i hk
            simp only [Option.some.injEq, Prod.mk.injEq] at h; obtain ⟨rfl, rfl, rfl, rfl, rfl⟩ := h
            subst hd
            refine ⟨.region_draw _ _ (fun _ => false) hk.1 hk.2 (g2 _ (.inr ⟨_, _, rfl, fun i hi => ?_⟩)), g1⟩
            rw [Nat.zero_add, List.getD_eq_getElem?_getD, List.getElem?_eq_getElem (by omega)]
            cases fl[i] <;> simp
          · cases h
        · rename_i hd
          simp only [Option.some.injEq, Prod.mk.injEq] at h; obtain ⟨rfl, rfl, rfl, rfl, rfl⟩ := h
          have : d = false := by simpa using hd
          subst this
          exact ⟨.region (g2 none (.inl rfl)), g1⟩
      · cases h
    | rangeFunc g ps as body =>
      simp only [fCode] at h
      split at h
      · rename_i fn fi args hf
        split at h
        · rename_i hfi
          obtain ⟨hfi, hlim⟩ := hfi
          obtain rfl : fi = #[] := Array.eq_empty_of_size_eq_zero hfi
          split at h
          · rename_i v H1 n1 l1 hcall
            obtain ⟨g1, g2⟩ := hc _ _ _ _ _ _ _ _ hcall
            rw [stOf_alloc hlim] at g1 g2
            cases g1 with
            | func g1 =>
              split at h
              · rename_i r hl
                split at h
                · rename_i hst
                  have hun : Unch (stOf H n) ((stOf H1 n1).upd n .gone) (l1.filter fun b => decide (b < n)) := by
                    refine ⟨by rw [next_upd]; exact Nat.le_of_succ_le g2.next, fun b (hb : b < n) hn => ?_⟩
                    rw [heap_upd_ne _ _ (by omega), g2.heap b (by rw [next_alloc]; exact Nat.lt_succ_of_lt hb) (fun e => hn (List.mem_filter.2 ⟨e, by simpa using hb⟩)), heap_alloc_ne _ _ (show b ≠ n by omega)]
                  split at h
                  · rename_i hp
                    simp only [Option.some.injEq, Prod.mk.injEq] at h; obtain ⟨rfl, rfl, rfl, rfl, rfl⟩ := h
                    rw [stOf_upd hlim]
                    exact ⟨.rangeFunc hf g1 hl rfl hst hp, hun⟩
                  · rename_i hp
                    simp only [Option.some.injEq, Prod.mk.injEq] at h; obtain ⟨rfl, rfl, rfl, rfl, rfl⟩ := h
                    rw [stOf_upd hlim]
                    exact ⟨.rangeFunc_out hf g1 hl hst hp (.inl rfl) .ret, hun⟩
                  · rename_i i hp
                    simp only [Option.some.injEq, Prod.mk.injEq] at h; obtain ⟨rfl, rfl, rfl, rfl, rfl⟩ := h
                    rw [stOf_upd hlim]
                    exact ⟨.rangeFunc_out hf g1 hl hst hp (.inr ⟨i, rfl⟩) .exit, hun⟩
                  · cases h
                · cases h
              · cases h
          · cases h
        · cases h
      · cases h
    | _ => cases h
/-- What is known of calls beforehand. -/
def OrcOk (P : Program) (base : Nat) (orc : FuncId → List Value → St → Option Value) : Prop := ∀ g args s v, orc g args s = some v → Ev P base (.call g args s v s)
theorem envOf_leaf (f : Env) : envOf f .leaf = f := rfl
theorem fFn_ok {P : Program} {base m : Nat} {orc : FuncId → List Value → St → Option Value} (ho : OrcOk P base orc) : ∀ (k : Nat), FOk P base (fFn P base m orc k) := by
  intro k
  induction k with
  | zero => intro fn args H n v H' n' low h; cases h
  | succ k ih =>
    intro fn args H n v H' n' low h
    cases fn with
    | func g =>
      simp only [fFn] at h
      split at h
      · rename_i w hw
        simp only [Option.some.injEq, Prod.mk.injEq] at h; obtain ⟨rfl, rfl, rfl, rfl⟩ := h
        exact ⟨.func (ho _ _ _ _ hw), .refl _ _⟩
      split at h
      · rename_i fn hf
        split at h
        · rename_i c hb
          split at h
          · rename_i x T1 H1 n1 l1 h1
            obtain ⟨g1, g2⟩ := fCode_ok ih m _ _ _ _ _ _ _ _ _ h1
            rw [envOf_leaf] at g1
            split at h
            · split at h
              · rename_i w hw
                rw [fAll_eq] at h
                simp only [Option.some.injEq, Prod.mk.injEq] at h; obtain ⟨rfl, rfl, rfl, rfl⟩ := h
                exact ⟨.func (.call hf hb g1 (.inl rfl) hw), g2.cut⟩
              · cases h
            · split at h
              · rename_i w hw
                rw [fAll_eq] at h
                simp only [Option.some.injEq, Prod.mk.injEq] at h; obtain ⟨rfl, rfl, rfl, rfl⟩ := h
                exact ⟨.func (.call hf hb g1 (.inr rfl) hw), g2.cut⟩
              · cases h
            · cases h
          · cases h
        · cases h
      · cases h
    | yield l =>
      simp only [fFn] at h
      split at h
      · rename_i r hl
        split at h
        · rename_i hk
          obtain ⟨k1, k2, k3, k4, hlim⟩ := hk
          split at h
          · rename_i T1 H1 n1 l1 h1
            obtain ⟨g1, g2⟩ := fCode_ok ih m _ _ _ _ _ _ _ _ _ h1
            rw [envOf_leaf] at g1
            split at h
            · rename_i hn1
              have hl1 : (stOf H1 n1).heap l = .loop r := by rw [g2.heap l k4 hn1]; exact hl
              split at h
              · rename_i x T2 H2 n2 l2 h2
                obtain ⟨q1, q2⟩ := fCode_ok ih m _ _ _ _ _ _ _ _ _ h2
                rw [stOf_upd hlim] at q1 q2
                split at h
                · rename_i hn2
                  have hl2 : (stOf H2 n2).heap l = .loop { r with state := .busy } := by
                    rw [q2.heap l (by rw [next_upd]; exact Nat.lt_of_lt_of_le k4 g2.next) hn2, heap_upd_same]
                  have hun : ∀ o, Unch (stOf H n) ((stOf H2 n2).upd l o) (l1 ++ [l] ++ l2) := fun o => by
                    refine ⟨by rw [next_upd]; exact Nat.le_trans g2.next q2.next, fun b hb hnb => ?_⟩
                    simp only [List.mem_append, List.mem_singleton, not_or] at hnb
                    rw [heap_upd_ne _ _ hnb.1.2, q2.heap b (by rw [next_upd]; exact Nat.lt_of_lt_of_le hb g2.next) hnb.2, heap_upd_ne _ _ hnb.1.2, g2.heap b hb hnb.1.1]
                  split at h
                  · simp only [Option.some.injEq, Prod.mk.injEq] at h; obtain ⟨rfl, rfl, rfl, rfl⟩ := h
                    rw [stOf_upd hlim]
                    exact ⟨.yield hl k1 k2 k3 g1 hl1 q1 hl2 none (.inl ⟨rfl, rfl⟩), hun _⟩
                  · simp only [Option.some.injEq, Prod.mk.injEq] at h; obtain ⟨rfl, rfl, rfl, rfl⟩ := h
                    rw [stOf_upd hlim]
                    exact ⟨.yield hl k1 k2 k3 g1 hl1 q1 hl2 (some .ret) (.inr (.inl ⟨rfl, rfl⟩)), hun _⟩
                  · rename_i i
                    simp only [Option.some.injEq, Prod.mk.injEq] at h; obtain ⟨rfl, rfl, rfl, rfl⟩ := h
                    rw [stOf_upd hlim]
                    exact ⟨.yield hl k1 k2 k3 g1 hl1 q1 hl2 (some (.exit i)) (.inr (.inr ⟨i, rfl, rfl⟩)), hun _⟩
                  · cases h
                · cases h
              · cases h
            · cases h
          · cases h
        · cases h
      · cases h
    | _ => cases h
/-- The kernel has run it: what a call hands back, in this memory. -/
def fastAt (P : Program) (H : Tq AObj) (g m k : Nat) (orc : FuncId → List Value → St → Option Value) (f : FuncId) (args : List Value) (v : Value → Bool) : Bool :=
  match fFn P g m orc k (.func f) args H g with
  | some (r, _) => v r
  | none => false
theorem WC_fastAt {P : Program} {g : Nat} {H : Tq AObj} {m k : Nat} {orc : FuncId → List Value → St → Option Value} (ho : OrcOk P g orc) {f : FuncId} {args : List Value} (v : Value) (dec : Value → Bool) (hdec : ∀ r, dec r = true → r = v) (hP : progOk g P = true) (ha : args.all bareV = true) (hv : bareV v = true) (h : fastAt P H g m k orc f args dec = true)
    {base : Nat} {s : St} {R : Value → St → Prop} (hg : g ≤ base) (hth : ∀ b, b < g → H.get .gone b = s.heap b) (hR : R v s) : WC P base f args s R := by
  unfold fastAt at h
  split at h
  · rename_i r F hr
    obtain ⟨H1, n1, l1⟩ := F
    have := hdec r h
    subst this
    obtain ⟨g1, -⟩ := fFn_ok ho _ _ _ _ _ _ _ _ _ hr
    cases g1 with
    | func g1 => exact ⟨r, s, .closed hg hP ha hv rfl hth g1, hR⟩
  · cases h
theorem OrcOk.none {P : Program} {base : Nat} : OrcOk P base (fun _ _ _ => .none) := fun _ _ _ _ h => by cases h
end Go.Ab
