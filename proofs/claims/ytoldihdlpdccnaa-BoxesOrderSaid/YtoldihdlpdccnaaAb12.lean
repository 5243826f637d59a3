/- The simulation: every operation that calls nothing. -/
import Derived.Test.YtoldihdlpdccnaaAb11
set_option linter.unusedVariables false
set_option linter.unusedSimpArgs false
namespace Go.Ab
open Go Go.RowKit

section
variable {P : Program} {w0 : World} {M : Mp} {s : St} {w : World}

theorem LR.fits {l l' : List Value} (h : LR M l l') : ∀ {ks : List Kd}, fitsAll ks l = true → fitsAll ks l' = true ∧ l' = l := by
  induction l generalizing l' with
  | nil => intro ks hk; rw [h.inv_nil]; exact ⟨hk, rfl⟩
  | cons v l ih =>
    intro ks hk
    obtain ⟨v', r, rfl, hv, hl⟩ := h.inv_cons
    cases ks with
    | nil => simp [fitsAll] at hk
    | cons k ks =>
      simp only [fitsAll, Bool.and_eq_true] at hk
      obtain ⟨h1, h2⟩ := ih hl hk.2
      subst h2
      have : v' = v := by
        cases k <;> cases hv <;> simp [Kd.fits] at hk <;> rfl
      subst this
      exact ⟨by simp only [fitsAll, Bool.and_eq_true]; exact ⟨hk.1, h1⟩, rfl⟩

theorem eqI_bool (d : Nat) {t : TypeId} {a b : Bool} (hu : P.underlying t = some .bool) (w : World) : (Op.equalIn (d + 1) t (.bool a) (.bool b)).run P w = .ok (a == b) w := by
  simp [Op.equalIn, run_underlying hu]
theorem eqI_ptr (d : Nat) {t e : TypeId} {b : Option Addr} (hu : P.underlying t = some (.pointer e)) (w : World) : (Op.equalIn (d + 1) t (.pointer none) (.pointer b)).run P w = .ok b.isNone w := by
  simp [Op.equalIn, run_underlying hu]
theorem eqI_ptr2 (d : Nat) {t e : TypeId} {a : Addr} (hu : P.underlying t = some (.pointer e)) (w : World) : (Op.equalIn (d + 1) t (.pointer (some a)) (.pointer none)).run P w = .ok false w := by
  simp [Op.equalIn, run_underlying hu]
theorem eqI_sli (d : Nat) {t e : TypeId} {b : Option Addr} {l c l' c' : Nat} (hu : P.underlying t = some (.slice e)) (w : World) : (Op.equalIn (d + 1) t (.slice none l c) (.slice b l' c')).run P w = .ok b.isNone w := by
  simp [Op.equalIn, run_underlying hu]
theorem eqI_sli2 (d : Nat) {t e : TypeId} {a : Addr} {l c l' c' : Nat} (hu : P.underlying t = some (.slice e)) (w : World) : (Op.equalIn (d + 1) t (.slice (some a) l c) (.slice none l' c')).run P w = .ok false w := by
  simp [Op.equalIn, run_underlying hu]
theorem eqI_fn (d : Nat) {t : TypeId} {a b : Array TypeId} {c : Bool} (hu : P.underlying t = some (.func a b c)) (w : World) : (Op.equalIn (d + 1) t .nilFunc .nilFunc).run P w = .ok true w := by
  simp [Op.equalIn, run_underlying hu]
theorem eqI_fn2 (d : Nat) {t : TypeId} {a b : Array TypeId} {c : Bool} {f : Fn} {x y : Array Value} (hu : P.underlying t = some (.func a b c)) (w : World) : (Op.equalIn (d + 1) t (.func f x y) .nilFunc).run P w = .ok false w := by
  simp [Op.equalIn, run_underlying hu]
theorem guard_other (op : BinOp) (t : TypeId) (p q : Operand) {a b : Value} (w : World) (h1 : ¬ (a = .nilIface ∧ b = .nilIface)) (h2 : ∀ x y, ¬ (a = .agg x ∧ b = .agg y)) : (eqGuard op t p q a b).run P w = .ok () w := by
  have key : ∀ op' : BinOp, (op' = .eql ∨ op' = .neq) → (eqGuard op' t p q a b).run P w = .ok () w := by
    intro op' ho
    rcases ho with rfl | rfl <;> (cases a <;> first | rfl | (cases b <;> first | rfl | exact absurd ⟨rfl, rfl⟩ h1 | exact absurd ⟨rfl, rfl⟩ (h2 _ _)))
  cases op <;> first | exact key _ (.inl rfl) | exact key _ (.inr rfl) | simp [eqGuard]
theorem equal_succ (t : TypeId) (a b : Value) : Op.equal t a b = Op.equalIn (9999 + 1) t a b := rfl
theorem eqV_sim {t : TypeId} {x y x' y' : Value} {b : Bool} (h : eqV P t x y = some b) (hx : VR M x x') (hy : VR M y y') (w : World) :
    (Op.equal t x' y').run P w = .ok b w ∧ ∀ (op : BinOp) (p q : Operand), (eqGuard op t p q x' y').run P w = .ok () w := by
  unfold eqV at h
  split at h
  · -- bools
    rename_i a c
    cases hx; cases hy
    split at h
    · rename_i hu
      cases h
      exact ⟨by rw [equal_succ]; exact eqI_bool _ hu w, fun op p q => guard_other op t p q w (by simp) (by simp)⟩
    · cases h
  · -- structs, arrays
    rename_i cs ds
    split at h
    · rename_i ks hk
      split at h
      · rename_i hc
        obtain ⟨f1, f2, f3, f4⟩ := hc
        cases h
        cases hx with
        | @agg _ cs' s1 r1 o1 =>
          cases hy with
          | @agg _ ds' s2 r2 o2 =>
            obtain ⟨g1, g2⟩ := (LR.ofArr s1 r1).fits f1
            obtain ⟨g3, g4⟩ := (LR.ofArr s2 r2).fits f2
            have e1 : cs' = cs := Array.ext' g2
            have e2 : ds' = ds := Array.ext' g4
            subst e1; subst e2
            refine ⟨?_, fun op p q => run_eqGuard_agg w op t p q _ _ f3⟩
            have := equalIn_kd w 60 t ks hk 10000 (by omega) _ _ f1 f2
            rw [asV_agg f4, asV_agg f4] at this
            rw [equal_succ]; exact this
      · cases h
    · cases h
  · rename_i bo
    split at h
    · rename_i hu
      cases h
      cases hx
      have hb : ∀ y', VR M (.pointer bo) y' → ∃ bo', y' = .pointer bo' ∧ bo'.isNone = bo.isNone := fun y' hy => by cases hy <;> exact ⟨_, rfl, rfl⟩
      obtain ⟨bo', rfl, hn⟩ := hb _ hy
      exact ⟨by rw [equal_succ, eqI_ptr _ hu w, hn], fun op p q => guard_other op t p q w (by simp) (by simp)⟩
    · cases h
  · split at h
    · rename_i hu
      cases h
      cases hx; cases hy
      exact ⟨by rw [equal_succ]; exact eqI_ptr2 _ hu w, fun op p q => guard_other op t p q w (by simp) (by simp)⟩
    · cases h
  · rename_i bo _ _
    split at h
    · rename_i hu
      cases h
      cases hx
      have hb : ∀ l c y', VR M (.slice bo l c) y' → ∃ bo' l' c', y' = .slice bo' l' c' ∧ bo'.isNone = bo.isNone := fun l c y' hy => by cases hy <;> exact ⟨_, _, _, rfl, rfl⟩
      obtain ⟨bo', l', c', rfl, hn⟩ := hb _ _ _ hy
      exact ⟨by rw [equal_succ, eqI_sli _ hu w, hn], fun op p q => guard_other op t p q w (by simp) (by simp)⟩
    · cases h
  · split at h
    · rename_i hu
      cases h
      cases hy
      have hb : ∀ a l c x', VR M (.slice (some a) l c) x' → ∃ a' l' c', x' = .slice (some a') l' c' := fun a l c x' hx => by cases hx <;> exact ⟨_, _, _, rfl⟩
      obtain ⟨a', l', c', rfl⟩ := hb _ _ _ _ hx
      exact ⟨by rw [equal_succ]; exact eqI_sli2 _ hu w, fun op p q => guard_other op t p q w (by simp) (by simp)⟩
    · cases h
  · split at h
    · rename_i hu
      cases h
      cases hx; cases hy
      exact ⟨by rw [equal_succ]; exact eqI_fn _ hu w, fun op p q => guard_other op t p q w (by simp) (by simp)⟩
    · cases h
  · split at h
    · rename_i hu
      cases h
      cases hx; cases hy
      exact ⟨by rw [equal_succ]; exact eqI_fn2 _ hu w, fun op p q => guard_other op t p q w (by simp) (by simp)⟩
    · cases h
  · cases h

theorem guard_int (op : BinOp) (t : TypeId) (p q : Operand) (k k' : IntKind) (a b : Int) (w : World) : (eqGuard op t p q (.int k a) (.int k' b)).run P w = .ok () w := by cases op <;> simp [eqGuard]
theorem guard_str (op : BinOp) (t : TypeId) (p q : Operand) (a b : ByteArray) (w : World) : (eqGuard op t p q (.string a) (.string b)).run P w = .ok () w := by cases op <;> simp [eqGuard]

theorem binV_sim {op : BinOp} {t : TypeId} {x y x' y' v : Value} (h : binV P op t x y = some v) (hx : VR M x x') (hy : VR M y y') (p q : Operand) (w : World) :
    (do eqGuard op t p q x' y'; binOp op t x' y' : Sem Value).run P w = .ok v w ∧ VR M v v := by
  unfold binV at h
  split at h
  · cases hx; cases hy
    obtain ⟨e1, e2⟩ := intV_run (P := P) (M := M) h t w
    exact ⟨by simp only [Sem.run_bind, guard_int, Result.andThen_ok, e1], e2⟩
  · cases hx; cases hy
    obtain ⟨e1, e2⟩ := strV_run (P := P) (M := M) h t w
    exact ⟨by simp only [Sem.run_bind, guard_str, Result.andThen_ok, e1], e2⟩
  · rename_i hni hns
    have nint : ∀ k a k' b, ¬ (x' = .int k a ∧ y' = .int k' b) := fun k a k' b ⟨e1, e2⟩ => by
      subst e1; subst e2
      cases hx; cases hy
      exact hni _ _ _ _ rfl rfl
    have nstr : ∀ a b, ¬ (x' = .string a ∧ y' = .string b) := fun a b ⟨e1, e2⟩ => by
      subst e1; subst e2
      cases hx; cases hy
      exact hns _ _ rfl rfl
    have nfl : ∀ {b}, eqV P t x y = some b → (∀ k a k' b', ¬ (x' = .float k a ∧ y' = .float k' b')) ∧ (∀ k a b k' c d, ¬ (x' = .complex k a b ∧ y' = .complex k' c d)) := fun he => by
      refine ⟨fun k a k' b' ⟨e1, e2⟩ => ?_, fun k a b k' c d ⟨e1, e2⟩ => ?_⟩ <;> subst e1 <;> subst e2 <;> cases hx <;> cases hy <;> simp [eqV] at he
    split at h
    · split at h
      · rename_i b he
        cases h
        obtain ⟨e1, e2⟩ := eqV_sim he hx hy w
        obtain ⟨n1, n2⟩ := nfl he
        refine ⟨?_, .bool _⟩
        simp only [Sem.run_bind, e2, Result.andThen_ok]
        have : binOp .eql t x' y' = (do pure (.bool (← Op.equal t x' y'))) := by
          unfold binOp
          split <;> first | rfl | (rename_i h1 h2; first | exact absurd ⟨rfl, rfl⟩ (nint _ _ _ _) | exact absurd ⟨rfl, rfl⟩ (nstr _ _) | exact absurd ⟨rfl, rfl⟩ (n1 _ _ _ _) | exact absurd ⟨rfl, rfl⟩ (n2 _ _ _ _ _ _) | simp_all) | simp_all
        rw [this]
        simp [e1]
      · cases h
    · split at h
      · rename_i b he
        cases h
        obtain ⟨e1, e2⟩ := eqV_sim he hx hy w
        obtain ⟨n1, n2⟩ := nfl he
        refine ⟨?_, .bool _⟩
        simp only [Sem.run_bind, e2, Result.andThen_ok]
        have : binOp .neq t x' y' = (do pure (.bool (!(← Op.equal t x' y')))) := by
          unfold binOp
          split <;> first | rfl | (rename_i h1 h2; first | exact absurd ⟨rfl, rfl⟩ (nint _ _ _ _) | exact absurd ⟨rfl, rfl⟩ (nstr _ _) | exact absurd ⟨rfl, rfl⟩ (n1 _ _ _ _) | exact absurd ⟨rfl, rfl⟩ (n2 _ _ _ _ _ _) | simp_all) | simp_all
        rw [this]
        simp [e1]
      · cases h
    · cases h
end
end Go.Ab
