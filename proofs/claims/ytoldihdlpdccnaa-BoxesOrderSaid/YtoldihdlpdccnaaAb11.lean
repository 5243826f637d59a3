/- The simulation: comparison, cell by cell. -/
import Derived.Test.YtoldihdlpdccnaaAb10
set_option linter.unusedVariables false
set_option linter.unusedSimpArgs false
namespace Go.Ab
open Go Go.RowKit

section
variable {P : Program}

theorem fitsAll_length : ∀ {ks : List Kd} {xs : List Value}, fitsAll ks xs = true → xs.length = ks.length
  | [], [], _ => rfl
  | [], _ :: _, h => by simp [fitsAll] at h
  | _ :: _, [], h => by simp [fitsAll] at h
  | k :: ks, v :: vs, h => by
    simp only [fitsAll, Bool.and_eq_true] at h
    simp [fitsAll_length h.2]
theorem fitsAll_append : ∀ {ks rs : List Kd} {xs : List Value}, fitsAll (ks ++ rs) xs = true → fitsAll ks (xs.take ks.length) = true ∧ fitsAll rs (xs.drop ks.length) = true
  | [], _, _, h => ⟨by simp [fitsAll], by simpa using h⟩
  | k :: ks, rs, [], h => by simp [fitsAll] at h
  | k :: ks, rs, v :: vs, h => by
    simp only [List.cons_append, fitsAll, Bool.and_eq_true] at h
    obtain ⟨h1, h2⟩ := fitsAll_append h.2
    simp only [List.length_cons, List.take_succ_cons, List.drop_succ_cons, fitsAll, Bool.and_eq_true]
    exact ⟨⟨h.1, h1⟩, h2⟩
theorem eqCells_append : ∀ {a c b d : List Value}, a.length = c.length → eqCells (a ++ b) (c ++ d) = (eqCells a c && eqCells b d)
  | [], [], _, _, _ => by simp [eqCells]
  | [], _ :: _, _, _, h => by simp at h
  | _ :: _, [], _, _, h => by simp at h
  | x :: a, y :: c, b, d, h => by
    simp only [List.cons_append, eqCells]
    rw [eqCells_append (by simpa using h), Bool.and_assoc]

/-- A value of a type, out of its cells. -/
def asV (P : Program) (t : TypeId) (xs : List Value) : Value := if aggT P t = some true then .agg xs.toArray else xs.headD undef

theorem kdT_one {d : Nat} {t : TypeId} {ks : List Kd} (h : kdT P d t = some ks) : (aggT P t = some true) ∨ (aggT P t = some false ∧ ∃ k, ks = [k]) := by
  cases d with
  | zero => simp [kdT] at h
  | succ d =>
    simp only [kdT] at h
    cases hu : P.underlying t with
    | none => rw [hu] at h; cases h
    | some D =>
      rw [hu] at h
      cases D <;> simp only [reduceCtorEq, Option.some.injEq] at h
      · exact .inr ⟨by simp [aggT, hu], _, h.symm⟩
      · exact .inr ⟨by simp [aggT, hu], _, h.symm⟩
      · exact .inr ⟨by simp [aggT, hu], _, h.symm⟩
      · exact .inl (by simp [aggT, hu])
      · exact .inl (by simp [aggT, hu])

theorem part_as {d : Nat} {t : TypeId} {ks : List Kd} (hk : kdT P d t = some ks) (hs : sizT P t = some ks.length) {X : Array Value} {off : Nat} {xs : List Value} (hx : xs.length = ks.length) (hg : ∀ i, i < xs.length → X[off + i]? = xs[i]?) (w : World) :
    (part t X off).run P w = .ok (asV P t xs) w := by
  rcases kdT_one hk with ha | ⟨ha, k, rfl⟩
  · simp only [part, Sem.run_bind, aggT_run ha, Result.andThen_ok, if_true, Sem.run_ite, sizT_run hs, Sem.run_pure, asV, ha]
    congr 2
    apply Array.ext'
    apply List.ext_getElem?
    intro i
    rw [← hx]
    simp only [Array.getElem?_toList, Array.getElem?_extract]
    by_cases hi : i < xs.length
    · have h1 := hg i hi
      have h2 : off + i < X.size := by
        rw [List.getElem?_eq_getElem hi] at h1
        exact (Array.getElem?_eq_some_iff.1 h1).1
      rw [if_pos (by omega), h1]
    · rw [if_neg (by omega), List.getElem?_eq_none (by omega)]
  · obtain ⟨x, rfl⟩ : ∃ x, xs = [x] := by
      cases xs with
      | nil => simp at hx
      | cons x r => cases r with
        | nil => exact ⟨x, rfl⟩
        | cons _ _ => simp at hx
    have := hg 0 (by simp)
    simp only [Nat.add_zero, List.getElem?_cons_zero] at this
    simp only [part, Sem.run_bind, aggT_run ha, Result.andThen_ok, Sem.run_ite, Bool.false_eq_true, if_false, this, Sem.run_pure, asV, ha]
    rfl

theorem asV_agg {t : TypeId} (h : aggT P t = some true) (xs : List Value) : asV P t xs = .agg xs.toArray := by simp [asV, h]
theorem eqFields_run {d D : Nat} {w : World} (ih : ∀ t ks, kdT P d t = some ks → ∀ xs ys, fitsAll ks xs = true → fitsAll ks ys = true → (Op.equalIn D t (asV P t xs) (asV P t ys)).run P w = .ok (eqCells xs ys) w) :
    ∀ (fs : List Field) (off : Nat) (ks : List Kd), kdFs P (kdT P d) fs off = some ks → ∀ (X Y : Array Value) (xs ys : List Value), fitsAll ks xs = true → fitsAll ks ys = true →
      (∀ i, i < xs.length → X[off + i]? = xs[i]?) → (∀ i, i < ys.length → Y[off + i]? = ys[i]?) → (Op.eqFields D X Y fs).run P w = .ok (eqCells xs ys) w
  | [], off, ks, hk, X, Y, xs, ys, hx, hy, _, _ => by
    simp only [kdFs, Option.some.injEq] at hk
    subst hk
    have := fitsAll_length hx
    have hxs : xs = [] := List.eq_nil_of_length_eq_zero (by simpa using this)
    subst hxs
    cases ys <;> rfl
  | f :: fs, off, ks, hk, X, Y, xs, ys, hx, hy, gx, gy => by
    simp only [kdFs] at hk
    split at hk
    · cases hk
    · rename_i hf
      split at hk
      · rename_i l hl
        split at hk
        · rename_i hs
          split at hk
          · rename_i r hr
            cases hk
            have hf1 : f.name ≠ "_" := fun e => hf (.inl e)
            have hf2 : f.offset = off := Decidable.byContradiction fun e => hf (.inr e)
            obtain ⟨x1, x2⟩ := fitsAll_append hx
            obtain ⟨y1, y2⟩ := fitsAll_append hy
            have lx := fitsAll_length x1
            have ly := fitsAll_length y1
            have lx2 := fitsAll_length hx
            have ly2 := fitsAll_length hy
            simp only [List.length_append] at lx2 ly2
            have px := part_as hl hs lx (X := X) (off := off) (fun i hi => by rw [lx] at hi; rw [List.getElem?_take_of_lt hi]; exact gx i (by omega)) w
            have py := part_as hl hs ly (X := Y) (off := off) (fun i hi => by rw [ly] at hi; rw [List.getElem?_take_of_lt hi]; exact gy i (by omega)) w
            have e1 := ih f.type l hl _ _ x1 y1
            have rest := eqFields_run ih fs (off + l.length) r hr X Y (xs.drop l.length) (ys.drop l.length) x2 y2
              (fun i hi => by rw [List.getElem?_drop, ← gx (l.length + i) (by simp at hi; omega)]; congr 1; omega)
              (fun i hi => by rw [List.getElem?_drop, ← gy (l.length + i) (by simp at hi; omega)]; congr 1; omega)
            have hsplit : eqCells xs ys = (eqCells (xs.take l.length) (ys.take l.length) && eqCells (xs.drop l.length) (ys.drop l.length)) := by
              rw [← eqCells_append (by rw [lx, ly]), List.take_append_drop, List.take_append_drop]
            simp only [Op.eqFields, ne_eq, hf1, not_false_eq_true, if_true, Sem.run_bind, hf2, px, Result.andThen_ok, py, e1, Sem.run_ite, Sem.run_pure]
            rw [hsplit]
            cases hb : eqCells (xs.take l.length) (ys.take l.length) with
            | false => rfl
            | true => simp only [Bool.not_true, Bool.false_eq_true, if_false, Bool.true_and]; exact rest
          · cases hk
        · cases hk
      · cases hk

theorem eqArr_run {D e : Nat} {w : World} {l : List Kd} (ih : ∀ xs ys, fitsAll l xs = true → fitsAll l ys = true → (Op.equalIn D e (asV P e xs) (asV P e ys)).run P w = .ok (eqCells xs ys) w)
    (hp : ∀ (X : Array Value) (off : Nat) (xs : List Value), fitsAll l xs = true → (∀ i, i < xs.length → X[off + i]? = xs[i]?) → (part e X off).run P w = .ok (asV P e xs) w) (X Y : Array Value) :
    ∀ (n k : Nat) (xs ys : List Value), fitsAll (List.replicate n l).flatten xs = true → fitsAll (List.replicate n l).flatten ys = true →
      (∀ i, i < xs.length → X[k * l.length + i]? = xs[i]?) → (∀ i, i < ys.length → Y[k * l.length + i]? = ys[i]?) →
      ((forIn (List.range' k n) ((none, ()) : Option Bool × Unit) (fun i __s => do
              let a ← part e X (i * l.length)
              let b ← part e Y (i * l.length)
              let r ← Op.equalIn D e a b
              if (!r) = true then pure (ForInStep.done (some false, ())) else pure (ForInStep.yield (none, ()))) : Sem (Option Bool × Unit)).run P w) = .ok (if eqCells xs ys = true then (none, ()) else (some false, ())) w
  | 0, k, xs, ys, hx, hy, _, _ => by
    have := fitsAll_length hx
    have hxs : xs = [] := List.eq_nil_of_length_eq_zero (by simpa using this)
    subst hxs
    simp [List.range'_zero, eqCells]
  | n + 1, k, xs, ys, hx, hy, gx, gy => by
    simp only [List.replicate_succ, List.flatten_cons] at hx hy
    obtain ⟨x1, x2⟩ := fitsAll_append hx
    obtain ⟨y1, y2⟩ := fitsAll_append hy
    have lx := fitsAll_length x1
    have ly := fitsAll_length y1
    have lx2 := fitsAll_length hx
    have ly2 := fitsAll_length hy
    simp only [List.length_append] at lx2 ly2
    have px := hp X (k * l.length) _ x1 (fun i hi => by rw [lx] at hi; rw [List.getElem?_take_of_lt hi]; exact gx i (by omega))
    have py := hp Y (k * l.length) _ y1 (fun i hi => by rw [ly] at hi; rw [List.getElem?_take_of_lt hi]; exact gy i (by omega))
    have e1 := ih _ _ x1 y1
    have rest := eqArr_run ih hp X Y n (k + 1) (xs.drop l.length) (ys.drop l.length) x2 y2
      (fun i hi => by rw [List.getElem?_drop, ← gx (l.length + i) (by simp at hi; omega)]; congr 1; rw [Nat.add_mul]; omega)
      (fun i hi => by rw [List.getElem?_drop, ← gy (l.length + i) (by simp at hi; omega)]; congr 1; rw [Nat.add_mul]; omega)
    have hsplit : eqCells xs ys = (eqCells (xs.take l.length) (ys.take l.length) && eqCells (xs.drop l.length) (ys.drop l.length)) := by
      rw [← eqCells_append (by rw [lx, ly]), List.take_append_drop, List.take_append_drop]
    simp only [List.range'_succ, List.forIn_cons, Sem.run_bind, px, Result.andThen_ok, py, e1, Sem.run_ite, Sem.run_pure]
    rw [hsplit]
    cases hb : eqCells (xs.take l.length) (ys.take l.length) with
    | false => rfl
    | true => simp only [Bool.not_true, Bool.false_eq_true, if_false, Bool.true_and, Result.andThen_ok]; exact rest

theorem equalIn_kd (w : World) : ∀ (d : Nat) (t : TypeId) (ks : List Kd), kdT P d t = some ks → ∀ (D : Nat), d ≤ D → ∀ xs ys, fitsAll ks xs = true → fitsAll ks ys = true →
    (Op.equalIn D t (asV P t xs) (asV P t ys)).run P w = .ok (eqCells xs ys) w
  | 0, t, ks, hk, _, _, _, _, _, _ => by simp [kdT] at hk
  | d + 1, t, ks, hk, D, hD, xs, ys, hx, hy => by
    obtain ⟨D, rfl⟩ : ∃ D', D = D' + 1 := ⟨D - 1, by omega⟩
    have hk0 := hk
    simp only [kdT] at hk
    have one : ∀ k : Kd, ks = [k] → ∃ x y, xs = [x] ∧ ys = [y] ∧ k.fits x = true ∧ k.fits y = true := fun k hks => by
      subst hks
      have lx := fitsAll_length hx
      have ly := fitsAll_length hy
      cases xs with
      | nil => simp at lx
      | cons x r => cases r with
        | cons _ _ => simp at lx
        | nil => cases ys with
          | nil => simp at ly
          | cons y r => cases r with
            | cons _ _ => simp at ly
            | nil => exact ⟨x, y, rfl, rfl, by simpa [fitsAll] using hx, by simpa [fitsAll] using hy⟩
    cases hu : P.underlying t with
    | none => rw [hu] at hk; cases hk
    | some T =>
      rw [hu] at hk
      cases T with
      | bool =>
        cases hk
        have ha : aggT P t = some false := by simp [aggT, hu]
        obtain ⟨x, y, rfl, rfl, fx, fy⟩ := one _ rfl
        cases x <;> simp [Kd.fits] at fx
        cases y <;> simp [Kd.fits] at fy
        simp [asV, ha, Op.equalIn, run_underlying hu, eqCells, eqCell]
      | int k =>
        cases hk
        have ha : aggT P t = some false := by simp [aggT, hu]
        obtain ⟨x, y, rfl, rfl, fx, fy⟩ := one _ rfl
        cases x <;> simp [Kd.fits] at fx
        cases y <;> simp [Kd.fits] at fy
        subst fx; subst fy
        simp [asV, ha, Op.equalIn, run_underlying hu, eqCells, eqCell, beq_dec]
      | string =>
        cases hk
        have ha : aggT P t = some false := by simp [aggT, hu]
        obtain ⟨x, y, rfl, rfl, fx, fy⟩ := one _ rfl
        cases x <;> simp [Kd.fits] at fx
        cases y <;> simp [Kd.fits] at fy
        simp only [asV, ha, eqCells, eqCell, Bool.and_true]
        have := run_equalIn_string (P := P) w D t
        simp only [List.headD, Option.some.injEq, Bool.false_eq_true, if_false]
        exact run_equalIn_string w D t _ _ hu
      | struct fs =>
        simp only at hk
        split at hk
        · cases hk
        · rename_i hst
          have ha : aggT P t = some true := by simp [aggT, hu]
          rw [asV_agg ha, asV_agg ha, run_equalIn_struct w D t _ _ (by simp [Program.fieldsOf, hu]) (by simpa using hst)]
          have : (P.fieldsOf t).toList = fs.toList := by simp [Program.fieldsOf, hu]
          rw [this]
          exact eqFields_run (fun t ks hk xs ys hx hy => equalIn_kd w d t ks hk D (by omega) xs ys hx hy) fs.toList 0 ks hk _ _ xs ys hx hy (fun i hi => by simp) (fun i hi => by simp)
      | array n e =>
        simp only at hk
        split at hk
        · rename_i l hl
          split at hk
          · rename_i hs
            cases hk
            have ha : aggT P t = some true := by simp [aggT, hu]
            rw [asV_agg ha, asV_agg ha]
            simp only [Op.equalIn, Sem.run_bind, run_underlying hu, Result.andThen_ok, sizT_run hs]
            rw [Std.Legacy.Range.forIn_eq_forIn_range']
            have := eqArr_run (P := P) (w := w) (D := D) (e := e) (l := l) (fun xs ys hx hy => equalIn_kd w d e l hl D (by omega) xs ys hx hy)
              (fun X off xs hx hg => part_as hl hs (fitsAll_length hx) hg w) xs.toArray ys.toArray n 0 xs ys hx hy (fun i hi => by simp) (fun i hi => by simp)
            have hr : List.range' 0 ([:n] : Std.Legacy.Range).size = List.range' 0 n := by simp [Std.Legacy.Range.size]
            simp only [Std.Legacy.Range.size, Nat.sub_zero, Nat.add_sub_cancel, Nat.div_one] 
            rw [this]
            cases eqCells xs ys <;> rfl
          · cases hk
        · cases hk
      | _ => cases hk
end
end Go.Ab
