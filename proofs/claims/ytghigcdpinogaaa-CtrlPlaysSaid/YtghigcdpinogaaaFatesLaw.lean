import Derived.Test.YtghigcdpinogaaaTypes
import Derived.Test.YtghigcdpinogaaaRow0
import Derived.Test.YtghigcdpinogaaaAbC
import Derived.Test.YtghigcdpinogaaaBoxes
import Derived.Test.YtghigcdpinogaaaBoxLaws
import Derived.Test.YtghigcdpinogaaaInbox
import Derived.Test.YtghigcdpinogaaaCtrl
import Derived.Test.YtghigcdpinogaaaCtrlMore
/- What controllers hold, and what became of it: nothing is lost, nothing told twice; plain laws. -/
set_option linter.all false
set_option maxRecDepth 20000
namespace Go.Proofs.Ytghigcdpinogaaa
open Go Go.Ab
def ftag : List Value → Int
  | .int _ t :: _ => t
  | _ => 0
def CS.all (cs : CS) : List Int := tagsOf cs.L ++ cs.fates.map ftag
def okF (l : List Value) : Prop := ∃ t f a : Int, l = [.int .i64 t, .int .i64 f, .int .i64 a]
theorem tags_clear : ∀ {L : Bx} {i : Nat} {p : Po}, L.getD i none = some p → (tagsOf L).Perm (p.t :: tagsOf (L.set i none)) := by
  intro L
  induction L with
  | nil => intro i p h; simp at h
  | cons o L ih =>
    intro i p h
    cases i with
    | zero =>
      simp at h; subst h
      simp [tagsOf]
    | succ i =>
      have := ih (i := i) (p := p) (by simpa using h)
      cases o with
      | none => simpa [tagsOf] using this
      | some x =>
        simp only [tagsOf, List.set_cons_succ, List.filterMap_cons, Option.map_some] at *
        exact (this.cons x.t).trans (List.Perm.swap _ _ _)
theorem tags_fill {L : Bx} {i : Nat} {p : Po} (hi : i < L.length) (h : L.getD i none = none) : (tagsOf (L.set i (some p))).Perm (p.t :: tagsOf L) := by
  have h1 := tags_clear (L := L.set i (some p)) (i := i) (p := p) (getD_set_self hi)
  have h2 : (L.set i (some p)).set i none = L := by
    rw [List.set_set]
    apply List.ext_getElem
    · simp
    · intro j h1 h2
      rw [List.getElem_set]
      split
      · rename_i hj; subst hj
        rw [List.getD_eq_getElem?_getD, List.getElem?_eq_getElem h2] at h
        exact h.symm
      · rfl
  rw [h2] at h1; exact h1
theorem out_perm (cs : CS) (k f : Int) : (cs.out k f).all.Perm cs.all := by
  unfold CS.out
  split
  · rename_i po ha
    have hk : 0 ≤ k := by
      refine Decidable.byContradiction fun hc => ?_
      rw [atO_big (.inl (by omega))] at ha; cases ha
    obtain ⟨n, rfl⟩ : ∃ n : Nat, k = n := ⟨k.toNat, by omega⟩
    rw [atO_nat] at ha
    have hL : takeL cs.L (n : Int) = cs.L.set n none := by simp only [takeL, atO_nat, ha, Option.isSome_some, if_true, Int.toNat_natCast]
    have := tags_clear ha
    simp only [CS.all, hL, List.map_append, List.map_cons, List.map_nil, ftag]
    refine List.Perm.trans ?_ (this.symm.append_right _)
    rw [List.cons_append, ← List.append_assoc]
    exact List.perm_append_singleton _ _
  · exact .refl _
theorem done_perm (cs : CS) (k f : Int) : (cs.done k f).all.Perm cs.all := by
  unfold CS.done
  split
  · exact .refl _
  · exact out_perm cs k f
theorem out_okF {cs : CS} (k f : Int) (h : ∀ l ∈ cs.fates, okF l) : ∀ l ∈ (cs.out k f).fates, okF l := by
  unfold CS.out
  split
  · intro l hl
    rcases List.mem_append.1 hl with hl | hl
    · exact h l hl
    · simp at hl; subst hl; exact ⟨_, _, _, rfl⟩
  · exact h
theorem done_okF {cs : CS} (k f : Int) (h : ∀ l ∈ cs.fates, okF l) : ∀ l ∈ (cs.done k f).fates, okF l := by
  unfold CS.done
  split
  · exact h
  · exact out_okF k f h
theorem took_all (cs : CS) (hp : Hp) (ph t : Int) : (cs.took hp ph t).all.Perm cs.all ∧ ((∀ l ∈ cs.fates, okF l) → ∀ l ∈ (cs.took hp ph t).fates, okF l) ∧ (cs.took hp ph t).fates.length ≤ cs.fates.length + 2 ∧ (cs.took hp ph t).room = cs.room ∧ (cs.took hp ph t).F = cs.F ∧ (cs.W.length ≤ cs.room → (cs.took hp ph t).W.length ≤ cs.room) := by
  have e1 : (cs.tk1 ph t).all = cs.all ∧ (cs.tk1 ph t).fates = cs.fates ∧ (cs.tk1 ph t).room = cs.room ∧ (cs.tk1 ph t).F = cs.F ∧ (cs.tk1 ph t).W = cs.W := ⟨rfl, rfl, rfl, rfl, rfl⟩
  have e2 : ∀ (cs : CS) (b : Bool), (cs.tk2 b).all = cs.all ∧ (cs.tk2 b).fates = cs.fates ∧ (cs.tk2 b).room = cs.room ∧ (cs.tk2 b).F = cs.F ∧ (cs.tk2 b).W = cs.W := fun cs b => by unfold CS.tk2; split <;> exact ⟨rfl, rfl, rfl, rfl, rfl⟩
  have e3 : ∀ (cs : CS) (b : Bool), (cs.tk3 b).all.Perm cs.all ∧ ((∀ l ∈ cs.fates, okF l) → ∀ l ∈ (cs.tk3 b).fates, okF l) ∧ (cs.tk3 b).fates.length ≤ cs.fates.length + 1 ∧ (cs.tk3 b).room = cs.room ∧ (cs.tk3 b).F = cs.F ∧ (cs.tk3 b).W = cs.W := fun cs b => by
    unfold CS.tk3; split
    · split
      · have := done_in cs ‹_› 1; exact ⟨done_perm _ _ _, done_okF _ _, done_len _ _ _, this.1, this.2.1, this.2.2.1⟩
      · exact ⟨.refl _, id, by omega, rfl, rfl, rfl⟩
    · exact ⟨.refl _, id, by omega, rfl, rfl, rfl⟩
  have e4 : ∀ (cs : CS) (b : Bool), (cs.tk4 b).all.Perm cs.all ∧ ((∀ l ∈ cs.fates, okF l) → ∀ l ∈ (cs.tk4 b).fates, okF l) ∧ (cs.tk4 b).fates.length ≤ cs.fates.length + 1 ∧ (cs.tk4 b).room = cs.room ∧ (cs.tk4 b).F = cs.F ∧ (cs.tk4 b).W = cs.W := fun cs b => by
    unfold CS.tk4; split
    · split
      · have := done_in cs ‹_› (cs.failed ‹_›); exact ⟨done_perm _ _ _, done_okF _ _, done_len _ _ _, this.1, this.2.1, this.2.2.1⟩
      · exact ⟨.refl _, id, by omega, rfl, rfl, rfl⟩
    · exact ⟨.refl _, id, by omega, rfl, rfl, rfl⟩
  have e5 : ∀ (cs : CS), (cs.tk5 hp t).all = cs.all ∧ (cs.tk5 hp t).fates = cs.fates ∧ (cs.tk5 hp t).room = cs.room ∧ (cs.tk5 hp t).F = cs.F ∧ (cs.W.length ≤ cs.room → (cs.tk5 hp t).W.length ≤ cs.room) := fun cs => by
    unfold CS.tk5; split
    · refine ⟨rfl, rfl, rfl, rfl, fun h => ?_⟩
      simp only [offL]
      split
      · rename_i hb
        simp only [offB, Bool.and_eq_true, decide_eq_true_eq] at hb
        simp; omega
      · exact h
    · exact ⟨rfl, rfl, rfl, rfl, id⟩
  unfold CS.took
  obtain ⟨a1, a2, a3, a4, a5⟩ := e1
  obtain ⟨b1, b2, b3, b4, b5⟩ := e2 (cs.tk1 ph t) hp.began
  obtain ⟨c1, c2, c3, c4, c5, c6⟩ := e3 ((cs.tk1 ph t).tk2 hp.began) hp.sent
  obtain ⟨d1, d2, d3, d4, d5, d6⟩ := e4 (((cs.tk1 ph t).tk2 hp.began).tk3 hp.sent) (hp.lost || wrongB hp.bad)
  obtain ⟨f1, f2, f3, f4, f5⟩ := e5 ((((cs.tk1 ph t).tk2 hp.began).tk3 hp.sent).tk4 (hp.lost || wrongB hp.bad))
  refine ⟨?_, ?_, ?_, by rw [f3, d4, c4, b3, a3], by rw [f4, d5, c5, b4, a4], fun h => ?_⟩
  · rw [f1, ← a1, ← b1]; exact d1.trans c1
  · rw [f2]; intro h; exact d2 (c2 (by rw [b2, a2]; exact h))
  · rw [f2]; rw [b2, a2] at c3; omega
  · have e : ((((cs.tk1 ph t).tk2 hp.began).tk3 hp.sent).tk4 (hp.lost || wrongB hp.bad)).room = cs.room := by rw [d4, c4, b3, a3]
    have e' : ((((cs.tk1 ph t).tk2 hp.began).tk3 hp.sent).tk4 (hp.lost || wrongB hp.bad)).W = cs.W := by rw [d6, c6, b5, a5]
    rw [e, e'] at f5; exact f5 h
theorem abort_all (cs : CS) (t : Int) : (cs.abort t).all.Perm cs.all ∧ ((∀ l ∈ cs.fates, okF l) → ∀ l ∈ (cs.abort t).fates, okF l) ∧ (cs.abort t).fates.length ≤ cs.fates.length + 2 ∧ (cs.abort t).room = cs.room ∧ (cs.abort t).F = cs.F ∧ (cs.abort t).W = cs.W := by
  have ho : ∀ k f, (cs.out k f).all.Perm cs.all ∧ ((∀ l ∈ cs.fates, okF l) → ∀ l ∈ (cs.out k f).fates, okF l) ∧ (cs.out k f).fates.length ≤ cs.fates.length + 2 ∧ (cs.out k f).room = cs.room ∧ (cs.out k f).F = cs.F ∧ (cs.out k f).W = cs.W := fun k f => by
    have := out_in cs k f
    have h2 := out_len cs k f
    exact ⟨out_perm _ _ _, out_okF _ _, by omega, this.1, this.2.1, this.2.2.1⟩
  unfold CS.abort
  split
  · exact ⟨.refl _, id, by omega, rfl, rfl, rfl⟩
  · split
    · split
      · exact ⟨.refl _, id, by simp, rfl, rfl, rfl⟩
      · exact ho _ _
    · exact ho _ _
/-- A post that is taken in. -/
theorem put_tags {L : Bx} {po : Po} : (putE L po = 0 → (tagsOf (putL L po)).Perm (po.t :: tagsOf L) ∧ po.t ∉ tagsOf L) ∧ (putE L po ≠ 0 → putL L po = L) := by
  constructor
  · intro h
    unfold putE at h
    split at h
    · rename_i hr
      split at h
      · cases h
      · rename_i hf
        split at h
        · cases h
        · rename_i hfr
          have hL : putL L po = L.set (freeI L).toNat (some po) := by
            simp only [putL, hr, true_and]; rw [if_pos ⟨by omega, by omega⟩]
          obtain ⟨i, i1, i2, -, i4⟩ : ∃ i, i < L.length ∧ freeAt L i = true ∧ (∀ j, j < i → freeAt L j = false) ∧ freeI L = i := by
            rcases fidx_cases (freeAt L) L.length with h | ⟨-, h6⟩
            · exact h
            · have : freeI L = -1 := h6
              omega
          rw [hL, i4, Int.toNat_natCast]
          refine ⟨tags_fill i1 (by simpa [freeAt] using i2), fun hm => ?_⟩
          obtain ⟨o, ho, hot⟩ := List.mem_filterMap.1 hm
          obtain ⟨p, rfl, hpt⟩ := Option.map_eq_some_iff.1 hot
          obtain ⟨j, hj, hje⟩ := List.mem_iff_getElem.1 ho
          rcases fidx_cases (tagAt L po.t) L.length with ⟨k, -, -, -, h6⟩ | ⟨h6, -⟩
          · have : findT L po.t = k := h6
            omega
          · have := h6 j hj
            unfold tagAt at this
            rw [List.getD_eq_getElem?_getD, List.getElem?_eq_getElem hj, Option.getD_some, hje] at this
            simp [tagO, hpt] at this
    · rename_i hr; exact absurd h hr
  · intro h
    unfold putL
    split
    · rename_i hc
      obtain ⟨h1, h2, h3⟩ := hc
      refine absurd ?_ h
      simp only [putE, h1, if_true]
      rw [if_neg (by omega), if_neg (by omega)]
    · rfl
end Go.Proofs.Ytghigcdpinogaaa
