import Derived.Test.YtghigcdpinogaaaTypes
import Derived.Test.YtghigcdpinogaaaRow0
import Derived.Test.YtghigcdpinogaaaAbC
import Derived.Test.YtghigcdpinogaaaBits
import Derived.Test.YtghigcdpinogaaaBoxes
/- Plain laws of mailboxes: laid in one behind the other, and taken by the best one. -/
set_option linter.all false
set_option maxRecDepth 20000
namespace Go.Proofs.Ytghigcdpinogaaa
open Go Go.Ab
/-- The first ones are full, tagged by their places; the others are empty. -/
def PreB (L : Bx) (i : Nat) : Prop := (∀ j, j < i → ∃ p, L.getD j none = some p ∧ p.t = j) ∧ ∀ j, i ≤ j → L.getD j none = none
theorem pre_new (n : Nat) : PreB (List.replicate n none) 0 := by
  refine ⟨fun j hj => by omega, fun j _ => ?_⟩
  rw [List.getD_eq_getElem?_getD, List.getElem?_replicate]; split <;> rfl
theorem getD_set_self {L : Bx} {i : Nat} {o : Option Po} (hi : i < L.length) : (L.set i o).getD i none = o := by rw [List.getD_eq_getElem?_getD, List.getElem?_set_self hi]; rfl
theorem getD_set_ne {L : Bx} {i j : Nat} {o : Option Po} (h : j ≠ i) : (L.set i o).getD j none = L.getD j none := by rw [List.getD_eq_getElem?_getD, List.getElem?_set_ne (Ne.symm h), List.getD_eq_getElem?_getD]
theorem pre_put {L : Bx} {i : Nat} {po : Po} (hpre : PreB L i) (hl : i < L.length) (hg : po.good) (ht : po.t = i) : putI L po = i ∧ putE L po = 0 ∧ PreB (putL L po) (i + 1) ∧ (putL L po).length = L.length := by
  have hf : findT L po.t = -1 := fidx_none fun j hj => by
    unfold tagAt
    by_cases hji : j < i
    · obtain ⟨p, h1, h2⟩ := hpre.1 j hji
      rw [h1]; simp only [tagO, decide_eq_false_iff_not]; omega
    · rw [hpre.2 j (by omega)]; rfl
  have hr : freeI L = i := fidx_some hl (by unfold freeAt; rw [hpre.2 i (Nat.le_refl _)]; rfl) fun j hj => by
    obtain ⟨p, h1, h2⟩ := hpre.1 j hj
    unfold freeAt; rw [h1]; rfl
  have h0 := hg.2
  have hL : putL L po = L.set i (some po) := by
    simp only [putL, h0, hf, hr, true_and]
    rw [if_pos ⟨by omega, by omega⟩, Int.toNat_natCast]
  refine ⟨?_, ?_, ?_, by rw [hL]; simp⟩
  · simp only [putI, h0, hf, hr, true_and]; rw [if_pos (by omega)]
  · simp only [putE, h0, hf, hr, if_true]; rw [if_neg (by omega), if_neg (by omega)]
  · rw [hL]
    refine ⟨fun j hj => ?_, fun j hj => ?_⟩
    · by_cases hji : j = i
      · subst hji; exact ⟨po, getD_set_self hl, ht⟩
      · rw [getD_set_ne hji]; exact hpre.1 j (by omega)
    · rw [getD_set_ne (by omega)]; exact hpre.2 j (by omega)
theorem pre_cnt : ∀ {L : Bx} {i : Nat}, PreB L i → i ≤ L.length → cntB L = i := by
  intro L i h hi
  have h1 : L = L.take i ++ L.drop i := (List.take_append_drop i L).symm
  unfold cntB
  rw [h1, List.countP_append]
  have e1 : (L.take i).countP Option.isSome = i := by
    have : (L.take i).countP Option.isSome = (L.take i).length := List.countP_eq_length.2 fun o ho => by
      obtain ⟨j, hj, rfl⟩ := List.mem_iff_getElem.1 ho
      simp only [List.length_take] at hj
      obtain ⟨p, h2, -⟩ := h.1 j (by omega)
      rw [List.getD_eq_getElem?_getD, List.getElem?_eq_getElem (by omega)] at h2
      simp only [Option.getD_some] at h2
      rw [List.getElem_take, h2]; rfl
    rw [this, List.length_take]; omega
  have e2 : (L.drop i).countP Option.isSome = 0 := List.countP_eq_zero.2 fun o ho => by
    obtain ⟨j, hj, rfl⟩ := List.mem_iff_getElem.1 ho
    simp only [List.length_drop] at hj
    have h2 := h.2 (i + j) (by omega)
    rw [List.getD_eq_getElem?_getD, List.getElem?_eq_getElem (by omega)] at h2
    simp only [Option.getD_some] at h2
    rw [List.getElem_drop, h2]; simp
  rw [e1, e2, Nat.add_zero]
theorem cnt_clear : ∀ {L : Bx} {i : Nat} {p : Po}, L.getD i none = some p → cntB (L.set i none) + 1 = cntB L := by
  intro L
  induction L with
  | nil => intro i p h; simp at h
  | cons o L ih =>
    intro i p h
    cases i with
    | zero =>
      simp at h; subst h
      simp [cntB]
    | succ i =>
      have := ih (i := i) (p := p) (by simpa using h)
      simp only [cntB, List.set_cons_succ, List.countP_cons] at *
      omega
theorem mem_at {L : Bx} {i : Nat} {p : Po} (h : L.getD i none = some p) : some p ∈ L := by
  rw [List.getD_eq_getElem?_getD] at h
  cases ho : L[i]? with
  | none => rw [ho] at h; cases h
  | some o => rw [ho] at h; simp only [Option.getD_some] at h; subst h; exact List.mem_of_getElem? ho
/-- Taking the best one: what is taken, and what is left. -/
theorem best_take {L : Bx} {a : Int} (h : BestAt L L.length a) (hc : 0 < cntB L) : ∃ p, atO L a = some p ∧ p ∈ (L.filterMap id) ∧ takeE L a = 0 ∧ cntB (takeL L a) + 1 = cntB L ∧ (takeL L a).length = L.length ∧ some p ∈ L ∧
    ∀ po, some po ∈ takeL L a → some po ∈ L ∧ p.key ≤ po.key := by
  rcases h with ⟨rfl, h1⟩ | ⟨i, i1, rfl, i2, i3, i4⟩
  · have := cnt_zero.2 h1; omega
  · obtain ⟨p, hp⟩ := Option.isSome_iff_exists.1 i2
    have ha : atO L (i : Int) = some p := by rw [atO_nat, hp]
    have hL : takeL L (i : Int) = L.set i none := by simp [takeL, ha]
    refine ⟨p, ha, List.mem_filterMap.2 ⟨some p, mem_at hp, rfl⟩, ?_, by rw [hL]; exact cnt_clear hp, by rw [hL]; simp, mem_at hp, fun po hpo => ?_⟩
    · simp only [takeE, ha]; rw [if_neg (by omega)]; rfl
    · rw [hL] at hpo
      have hm : some po ∈ L := by
        rcases List.mem_or_eq_of_mem_set hpo with h | h
        · exact h
        · cases h
      refine ⟨hm, ?_⟩
      obtain ⟨j, hj, hje⟩ := List.mem_iff_getElem.1 hm
      have h3 := i3 j hj
      have e1 : keyAt L i = p.key := by unfold keyAt; rw [hp]; rfl
      have e2 : keyAt L j = po.key := by unfold keyAt; rw [List.getD_eq_getElem?_getD, List.getElem?_eq_getElem hj]; simp [hje, keyO]
      omega
theorem best_none {L : Bx} {a : Int} (h : BestAt L L.length a) (hc : cntB L = 0) : a = -1 := by
  rcases h with ⟨rfl, -⟩ | ⟨i, i1, rfl, i2, -⟩
  · rfl
  · have := cnt_zero.1 hc i i1; rw [this] at i2; cases i2
end Go.Proofs.Ytghigcdpinogaaa
