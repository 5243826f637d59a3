/- The simulation: a region whose order is drawn. -/
import Derived.Test.YtoldihdlpdccnaaAb17
set_option linter.unusedVariables false
set_option linter.unusedSimpArgs false
namespace Go.Ab
open Go Go.RowKit

section
variable {P : Program} {w0 : World} {G : Nat}
variable {ops : Array Oper} {vs : Nat → Value} {es : Nat → Env} {eff lite kp : Nat → Bool} {ss : Nat → St} {M0 : Mp} {wi : World} {N : Nat} {dfr : List Deferred}

theorem cnt_lt {p q : Nat → Bool} (h : ∀ i, p i = true → q i = true) {k : Nat} (hq : q k = true) (hp : p k = false) : ∀ l : List Nat, k ∈ l → l.countP p < l.countP q := by
  intro l
  induction l with
  | nil => intro h; cases h
  | cons x l ih =>
    intro hk
    have hle : l.countP p ≤ l.countP q := List.countP_mono_left fun i _ => h i
    by_cases hx : x = k
    · subst hx
      rw [List.countP_cons_of_pos hq, List.countP_cons_of_neg (by simp [hp])]; omega
    · have := ih (by rcases List.mem_cons.1 hk with h | h; exact absurd h.symm hx; exact h)
      simp only [List.countP_cons]
      cases hpx : p x with
      | false => simp; split <;> omega
      | true => simp [h x hpx]; omega

theorem drawn_all {F : Fence} {n : Nat} {Q : Exit → Act → World → Prop} (hF : Fwide F) (hG : G ≤ w0.heap.size) (hok : ∀ o ∈ ops.toList, operOk G N o = true) (hdraw : drawOk ops eff lite = true) (hedge : edgesOk ops = true)
    (hst : ∀ i o, ops[i]? = some o → StepAt P w0 ops (some ⟨eff, lite, kp, (ss 0).next⟩) i o (es i) (ss i) (vs i) (es (i + 1)) (ss (i + 1)))
    (hQ : ∀ a' w' M', Gr M0 (ss 0) wi M' (ss ops.size) w' → Sm w0 M' (ss ops.size) w' → ER M' (es ops.size) a'.tmps → a'.tmps.size = N → a'.defers = dfr → Q .normal a' w') :
    ∀ (fuel : Nat) (listed : Array Bool) (a : Act) (w : World) (lo hi : Nat) (Mf : Mp), listed.size = ops.size → (List.range ops.size).countP (fun i => !(listed.getD i false)) ≤ fuel →
      (∀ j, listed.getD j false = true → Pre ops (fun i => listed.getD i false) j) → DI w0 ops eff lite es ss vs M0 wi N dfr lo hi Mf (fun i => listed.getD i false) w a → wpAnyIn F n P .any ops Q fuel listed a w := by
  have hes : ∀ i o, ops[i]? = some o → es (i + 1) = Ab.put (es i) o.dst (vs i) := fun i o h => (hst i o h).1
  -- the end
  have fin : ∀ (listed : Array Bool) (a : Act) (w : World) (lo hi : Nat) (Mf : Mp), (∀ i, i < ops.size → listed.getD i false = true) → DI w0 ops eff lite es ss vs M0 wi N dfr lo hi Mf (fun i => listed.getD i false) w a → Q .normal a w := fun listed a w lo hi Mf hall hI => by
    have hhi : hi = ops.size := by
      rcases hI.top with h | ⟨h1, o', h2, h3⟩
      · exact h
      · have := hI.loud_hi hi o' h2 h3 (Nat.le_refl _)
        rw [hall hi (Array.getElem?_eq_some_iff.1 h2).1] at this; cases this
    subst hhi
    have hcut : Mf.cut (ss ops.size).next = Mf := Mp.cut_all hI.dom
    have hs := hI.sm ops.size hI.lohi (Nat.le_refl _)
    rw [hcut] at hs
    refine hQ a w Mf hI.gr hs (fun t ht => ?_) hI.size hI.defers
    have := hI.env t (by rw [← hI.size]; exact ht) ops.size fun i _ hd => by
      obtain ⟨o', ho', _⟩ := Option.bind_eq_some_iff.1 hd
      exact (Array.getElem?_eq_some_iff.1 ho').1
    rw [show clip lo ops.size ops.size = ops.size by unfold clip; omega, hcut, envS_low hes ops.size (Nat.le_refl _) fun i hi _ => hall i hi] at this
    exact this
  have hnone : ∀ listed : Array Bool, listed.size = ops.size → Region.ready .any ops listed = [] → ∀ i, i < ops.size → listed.getD i false = true := fun listed hsz hr => by
    intro i
    induction i using Nat.strongRecOn with
    | ind i ih =>
      intro hi
      cases hl : listed.getD i false with
      | true => rfl
      | false =>
        exfalso
        have ho : ops[i]? = some ops[i] := Array.getElem?_eq_getElem hi
        have : i ∈ Region.ready .any ops listed := by
          rw [mem_ready]
          refine ⟨?_, ops[i], ho, fun e he hb => ih e.on ?_ ?_⟩
          · have : i < listed.size := by omega
            simp only [Array.getD, this, dif_pos] at hl ⊢; exact hl
          all_goals
            simp only [edgesOk, List.all_eq_true, List.mem_range] at hedge
            have := hedge i hi
            rw [ho] at this
            simp only [Option.map_some, Option.getD_some, List.all_eq_true, Bool.or_eq_true, Bool.not_eq_true', decide_eq_true_eq] at this
            have := this e (by simpa using he)
            rw [hb] at this
            have := this.resolve_left (by simp)
            omega
        rw [hr] at this; cases this
  intro fuel
  induction fuel with
  | zero =>
    intro listed a w lo hi Mf hsz hc hcl hI
    have hall : ∀ i, i < ops.size → listed.getD i false = true := fun i hi => by
      have := List.countP_eq_zero.1 (Nat.le_zero.1 hc) i (List.mem_range.2 hi)
      simpa using this
    refine ⟨?_, fin listed a w lo hi Mf hall hI⟩
    apply List.eq_nil_iff_forall_not_mem.2
    intro j hj
    rw [mem_ready] at hj
    obtain ⟨h0, o, ho, _⟩ := hj
    have hjn := (Array.getElem?_eq_some_iff.1 ho).1
    have h1 := hall j hjn
    have : j < listed.size := by omega
    simp only [Array.getD, this, dif_pos] at h0 h1
    rw [h0] at h1; cases h1
  | succ fuel ih =>
    intro listed a w lo hi Mf hsz hc hcl hI
    refine ⟨fun hr => fin listed a w lo hi Mf (hnone listed hsz hr) hI, fun k hk => ?_⟩
    rw [mem_ready] at hk
    obtain ⟨h0, o, ho, hpre⟩ := hk
    have hkn := (Array.getElem?_eq_some_iff.1 ho).1
    have hklt : k < listed.size := by omega
    have hSk : listed.getD k false = false := by simp only [Array.getD, hklt, dif_pos] at h0 ⊢; exact h0
    have hne : ∀ i, i ≠ k → (listed.setIfInBounds k true).getD i false = listed.getD i false := fun i hik => getD_set_ne false (Ne.symm hik)
    have heq : (listed.setIfInBounds k true).getD k false = true := by simp [hklt]
    have hP : Pre ops (fun i => listed.getD i false) k := fun o' ho' e he hb => by rw [ho] at ho'; cases ho'; exact hpre e he hb
    have hup : ∀ i, listed.getD i false = true → (listed.setIfInBounds k true).getD i false = true := fun i hi => getD_set_true hi
    refine DI.step hF hG hok hdraw hst hcl hI hSk hP ho (S' := fun i => (listed.setIfInBounds k true).getD i false) hne heq fun a' w' lo' hi' Mf' hI' => ?_
    refine ih (listed.setIfInBounds k true) a' w' lo' hi' Mf' (by simp [hsz]) ?_ ?_ hI'
    · have := cnt_lt (p := fun i => !((listed.setIfInBounds k true).getD i false)) (q := fun i => !(listed.getD i false)) (fun i hi => by
        cases hl : listed.getD i false with
        | false => rfl
        | true => rw [hup i hl] at hi; cases hi) (k := k) (by rw [hSk]; rfl) (by rw [heq]; rfl) (List.range ops.size) (List.mem_range.2 hkn)
      omega
    · intro j hj o' ho' e he hb
      by_cases hjk : j = k
      · subst hjk; exact hup _ (hP o' ho' e he hb)
      · exact hup _ (hcl j (by rw [← hne j hjk]; exact hj) o' ho' e he hb)

theorem drawn_region {F : Fence} {n : Nat} {id : Nat} {Q : Exit → Act → World → Prop} (hm : P.follows .mixedOrders = true) (hF : Fwide F) (hG : G ≤ w0.heap.size) (hok : ∀ o ∈ ops.toList, operOk G N o = true) (hdraw : drawOk ops eff lite = true) (hedge : edgesOk ops = true)
    {e e' : Env} {s s' : St} {M : Mp} {w : World} {a : Act} (hT : Tr P w0 ops (some ⟨eff, lite, kp, s.next⟩) 0 ops.toList e s e' s') (hS : Sm w0 M s w) (hE : ER M e a.tmps) (hN : a.tmps.size = N)
    (hQ : ∀ a' w' M', Gr M s w M' s' w' → Sm w0 M' s' w' → ER M' e' a'.tmps → a'.tmps.size = N → a'.defers = a.defers → Q .normal a' w') : (Code.region id ops true).wpIn F n P Q a w := by
  obtain ⟨es, ss, vs, rfl, rfl, h3, h4, hst⟩ := Tr.fam _ _ _ _ hT
  simp only [Nat.zero_add, Array.length_toList, Array.getElem?_toList] at h3 h4 hst
  subst h3; subst h4
  obtain ⟨hi, n1, n2, n3, n4⟩ := next_wild (fun i => eff i = true ∧ ∃ o, ops[i]? = some o ∧ loudK lite i o = true) ops.size ops.size 0 (by omega)
  have hmild1 : ∀ i, i < hi → Mild (ss i) (ss (i + 1)) := fun i i2 => by
    have hoi : ops[i]? = some ops[i] := Array.getElem?_eq_getElem (by omega)
    obtain ⟨_, hs⟩ := hst i _ hoi
    exact calm_step hs fun h => n3 i (Nat.zero_le _) i2 ⟨h.1, _, hoi, h.2⟩
  have hmild : ∀ i j, 0 ≤ i → i ≤ j → j ≤ hi → Mild (ss i) (ss j) := fun i j _ => by
    induction j with
    | zero => intro h1 h2; rw [show i = 0 by omega]; exact .refl _
    | succ j ih =>
      intro h1 h2
      by_cases hij : i = j + 1
      · rw [hij]; exact .refl _
      · exact (ih (by omega) (by omega)).trans (hmild1 j (by omega))
  have hrep : ∀ i, (Array.replicate ops.size false).getD i false = false := fun i => by
    simp only [Array.getD_eq_getD_getElem?, Array.getElem?_replicate]; split <;> rfl
  have hS' : Sm w0 M (ss 0) { w with drawn := w.drawn + 1 } := hS.drew
  have hlt : ∀ b x, M.blk b = some x → b < (ss 0).next := fun b x hb => hS.blk_lt hb
  have hcut : ∀ j, j ≤ hi → M.cut (ss j).next = M := fun j hj => Mp.cut_all fun b x hb => Nat.lt_of_lt_of_le (hlt b x hb) (hmild 0 j (Nat.le_refl _) (Nat.zero_le _) hj).next
  refine wpIn_region_any hm (drawn_all (G := G) (M0 := M) (wi := w) (N := N) (dfr := a.defers) hF hG hok hdraw hedge hst hQ ops.size _ _ _ 0 hi M (by simp) ?_ ?_ ?_)
  · exact Nat.le_trans List.countP_le_length (by simp)
  · intro j hj; rw [hrep] at hj; cases hj
  · refine ⟨n1, n2, fun i o _ _ h => by omega, fun i o _ _ _ => hrep i, hmild, n4, fun j _ j2 => by rw [hcut j j2]; exact hS'.mild (hmild 0 j (Nat.le_refl _) (Nat.zero_le _) j2), fun b x hb => Nat.lt_of_lt_of_le (hlt b x hb) (hmild 0 hi (Nat.le_refl _) n1 (Nat.le_refl _)).next, fun i _ i2 _ b b1 b2 => ?_, fun t ht j hj => ?_, ?_, Nat.le_refl _, hN, rfl⟩
    · cases hb : M.blk b with
      | none => rfl
      | some x =>
        have := hlt b x hb
        have := (hmild 0 i (Nat.le_refl _) (Nat.zero_le _) (by omega)).next
        omega
    · rw [hcut _ (by unfold clip; omega), envS_high (k := 0) ops.size (Nat.zero_le _) fun i _ _ _ => hrep i]
      exact hE t (by rw [hN]; exact ht)
    · have : Gr M (ss 0) w M (ss 0) { w with drawn := w.drawn + 1 } := Gr.drew (.refl M _ _)
      exact this.mild hS' (hmild 0 hi (Nat.le_refl _) n1 (Nat.le_refl _))
end
end Go.Ab
