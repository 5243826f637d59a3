/- Acts of a controller: what it holds then; plain laws. -/
import Derived.Test.YtghigcdpinogaaaCtrlBoth
import Derived.Test.YtghigcdpinogaaaFatesLaw
import Derived.Test.YtghigcdpinogaaaCtrlArgs
set_option linter.all false
set_option maxRecDepth 20000
namespace Go.Proofs.Ytghigcdpinogaaa
open Go Go.Ab
abbrev kdS : List Kd := [.bool, .int .u32, .bool, .int .i64, .int .u8, .int .u8, .int .u8, .int .u8, .int .u8, .int .u8, .int .u8, .int .u8, .int .i64, .int .i64]
structure CG (cs : CS) (i : Nat) : Prop where
  fil : cs.fil
  F : ∀ l ∈ cs.F, FOk l
  Fn : cs.F.length ≤ 8
  W : ∀ l ∈ cs.W, fitsAll kdS l = true
  Wr : (cs.W.length : Int) ≤ cs.room
  rm : cs.room ≤ 16
  okf : ∀ l ∈ cs.fates, okF l
  fl : cs.fates.length ≤ 2 * i
def CS.act (cs : CS) (k : Int) (po : Po) (hp : Hp) (ph t : Int) : CS :=
  if k = 0 then { cs with L := putL cs.L po } else if k = 1 then cs.abort po.t else if k = 2 then { cs with W := cs.W.tail } else if k = 3 then { cs with fates := [] } else cs.took hp ph t
theorem put_at {L : Bx} {po : Po} {k : Int} (h : (atO L k).isSome = true) : (atO (putL L po) k).isSome = true := by
  unfold putL
  split
  · have hk := atO_nn h
    obtain ⟨n, rfl⟩ : ∃ n : Nat, k = n := ⟨k.toNat, by omega⟩
    rw [atO_nat] at h ⊢
    have hn : n < L.length := by
      refine Decidable.byContradiction fun hc => ?_
      rw [List.getD_eq_getElem?_getD, List.getElem?_eq_none (by omega)] at h
      cases h
    by_cases hj : n = (freeI L).toNat
    · rw [← hj, getD_set_self hn]; rfl
    · rw [getD_set_ne hj]; exact h
  · exact h
theorem take_at {L : Bx} {i k : Int} (hk : (atO L k).isSome = true) (hne : k ≠ i) : (atO (takeL L i) k).isSome = true := by
  unfold takeL
  split
  · rename_i hi
    have h1 := atO_nn hk
    have h2 := atO_nn hi
    obtain ⟨n, rfl⟩ : ∃ n : Nat, k = n := ⟨k.toNat, by omega⟩
    obtain ⟨m, rfl⟩ : ∃ m : Nat, i = m := ⟨i.toNat, by omega⟩
    rw [atO_nat] at hk ⊢
    rw [Int.toNat_natCast, getD_set_ne (by omega)]; exact hk
  · exact hk
theorem out_fil {cs : CS} {i f : Int} (h : cs.fil) (hne : ∀ k a, cs.now = some (k, a) → k ≠ i) : (cs.out i f).fil := by
  intro k a hk
  rw [out_now] at hk
  have h1 := h k a hk
  have h2 := hne k a hk
  unfold CS.out
  split
  · exact take_at h1 h2
  · exact h1
theorem abort_fil {cs : CS} {t : Int} (h : cs.fil) : (cs.abort t).fil := by
  unfold CS.abort
  split
  · exact h
  · split
    · rename_i k a hno
      split
      · intro k' a' hk
        simp only [Option.some.injEq, Prod.mk.injEq] at hk
        obtain ⟨rfl, -⟩ := hk
        exact h k a hno
      · rename_i hne
        refine out_fil h fun k' a' hk => ?_
        rw [hno] at hk
        simp only [Option.some.injEq, Prod.mk.injEq] at hk
        rw [← hk.1]; exact hne
    · rename_i hno
      exact out_fil h fun k a hk => by rw [hno] at hk; cases hk
theorem took_fil {cs : CS} {hp : Hp} {ph t : Int} (hg : ∀ p, some p ∈ cs.L → p.good) (h : cs.fil) : (cs.took hp ph t).fil := by
  have h1 : (cs.tk1 ph t).fil := h
  have h4 := fil_tk4 (b := hp.lost || wrongB hp.bad) (fil_tk3 (b := hp.sent) (fil_tk2 (b := hp.began) (cs := cs.tk1 ph t) hg h1))
  unfold CS.took CS.tk5
  split
  · exact h4
  · exact h4
theorem took_W {cs : CS} {hp : Hp} {ph t : Int} : ∀ l ∈ (cs.took hp ph t).W, l ∈ cs.W ∨ ∃ m, l = .bool hp.e :: .int .u32 hp.n :: (hp.r ++ [.int .i64 m, .int .i64 t]) := by
  have e2 : ∀ (cs : CS) (b : Bool), (cs.tk2 b).W = cs.W := fun cs b => by unfold CS.tk2; split <;> rfl
  have e3 : ∀ (cs : CS) (b : Bool), (cs.tk3 b).W = cs.W := fun cs b => by
    unfold CS.tk3; split
    · split
      · exact (done_in cs ‹_› 1).2.2.1
      · rfl
    · rfl
  have e4 : ∀ (cs : CS) (b : Bool), (cs.tk4 b).W = cs.W := fun cs b => by
    unfold CS.tk4; split
    · split
      · exact (done_in cs ‹_› (cs.failed ‹_›)).2.2.1
      · rfl
    · rfl
  have eW : ((((cs.tk1 ph t).tk2 hp.began).tk3 hp.sent).tk4 (hp.lost || wrongB hp.bad)).W = cs.W := by rw [e4, e3, e2]; rfl
  unfold CS.took
  generalize (((cs.tk1 ph t).tk2 hp.began).tk3 hp.sent).tk4 (hp.lost || wrongB hp.bad) = c4 at eW
  intro l hl
  unfold CS.tk5 at hl
  split at hl
  · simp only [offL] at hl
    split at hl
    · rcases List.mem_append.1 hl with hl | hl
      · exact .inl (eW ▸ hl)
      · simp only [List.mem_singleton] at hl; exact .inr ⟨_, hl⟩
    · exact .inl (eW ▸ hl)
  · exact .inl (eW ▸ hl)
variable {cs : CS} {i : Nat}
theorem CG.put {po : Po} (g : CG cs i) : CG { cs with L := putL cs.L po } (i + 1) := ⟨fun k a hk => put_at (g.fil k a hk), g.F, g.Fn, g.W, g.Wr, g.rm, g.okf, by have := g.fl; simp only; omega⟩
theorem CG.abort {t : Int} (g : CG cs i) : CG (cs.abort t) (i + 1) := by
  obtain ⟨-, e2, e3, e4, e5, e6⟩ := abort_all cs t
  exact ⟨abort_fil g.fil, by rw [e5]; exact g.F, by rw [e5]; exact g.Fn, by rw [e6]; exact g.W, by rw [e6, e4]; exact g.Wr, by rw [e4]; exact g.rm, e2 g.okf, by have := g.fl; omega⟩
theorem CG.pop (g : CG cs i) : CG { cs with W := cs.W.tail } (i + 1) := ⟨g.fil, g.F, g.Fn, fun l hl => g.W l (List.mem_of_mem_tail hl), by have := g.Wr; simp only [List.length_tail]; omega, g.rm, g.okf, by have := g.fl; simp only; omega⟩
theorem CG.fates (g : CG cs i) : CG { cs with fates := [] } (i + 1) := ⟨g.fil, g.F, g.Fn, g.W, g.Wr, g.rm, by simp, by simp⟩
theorem CG.took {z1 z2 z3 z4 he rr : Bool} {bd hn ll x0 x1 x2 x3 x4 x5 x6 x7 ph t : Int} (g : CG cs i) (hg : ∀ p, some p ∈ cs.L → p.good) : CG (cs.took ⟨z1, z2, z3, z4, bd, he, hn, [.bool rr, .int .i64 ll, .int .u8 x0, .int .u8 x1, .int .u8 x2, .int .u8 x3, .int .u8 x4, .int .u8 x5, .int .u8 x6, .int .u8 x7]⟩ ph t) (i + 1) := by
  obtain ⟨-, e2, e3, e4, e5, e6⟩ := took_all cs ⟨z1, z2, z3, z4, bd, he, hn, [.bool rr, .int .i64 ll, .int .u8 x0, .int .u8 x1, .int .u8 x2, .int .u8 x3, .int .u8 x4, .int .u8 x5, .int .u8 x6, .int .u8 x7]⟩ ph t
  refine ⟨took_fil hg g.fil, by rw [e5]; exact g.F, by rw [e5]; exact g.Fn, fun l hl => ?_, by have := e6 g.Wr; rw [e4]; exact this, by rw [e4]; exact g.rm, e2 g.okf, by have := g.fl; omega⟩
  rcases took_W l hl with h | ⟨m, rfl⟩
  · exact g.W l h
  · rfl
theorem CG.mono {j : Nat} (g : CG cs i) (h : i ≤ j) : CG cs j := ⟨g.fil, g.F, g.Fn, g.W, g.Wr, g.rm, g.okf, by have := g.fl; omega⟩
/-- An act's cells. -/
theorem act_cells {W : World} {c : List Value} (h : okCells W (.int .i64 :: ([.bool, .int .u32, .bool, .int .i64, .int .u8, .int .u8, .int .u8, .int .u8, .int .u8, .int .u8, .int .u8, .int .u8, .bool, .int .i64] ++ ([.bool, .bool, .bool, .bool, .int .i64, .bool, .int .u32, .bool, .int .i64, .int .u8, .int .u8, .int .u8, .int .u8, .int .u8, .int .u8, .int .u8, .int .u8] ++ [.int .i64, .int .i64]))) c) :
    ∃ (k : Int) (po : Po) (z1 z2 z3 z4 he rr : Bool) (bd hn ll x0 x1 x2 x3 x4 x5 x6 x7 ph t : Int), c = .int .i64 k :: (po.c ++ [.bool z1, .bool z2, .bool z3, .bool z4, .int .i64 bd, .bool he, .int .u32 hn, .bool rr, .int .i64 ll, .int .u8 x0, .int .u8 x1, .int .u8 x2, .int .u8 x3, .int .u8 x4, .int .u8 x5, .int .u8 x6, .int .u8 x7, .int .i64 ph, .int .i64 t]) ∧ po.n < 2 ^ 32 ∧ 0 ≤ hn ∧ hn < 2 ^ 32 := by
  have app : ∀ {a b : List CK} {c : List Value}, okCells W (a ++ b) c → ∃ x y, c = x ++ y ∧ okCells W a x ∧ okCells W b y := by
    intro a
    induction a with
    | nil => intro b c h; exact ⟨[], c, rfl, by simp [okCells], h⟩
    | cons k a ih =>
      intro b c h
      rw [List.cons_append, okCells] at h
      obtain ⟨v, r, rfl, h1, h2⟩ := h
      obtain ⟨x, y, rfl, h3, h4⟩ := ih h2
      exact ⟨v :: x, y, rfl, by rw [okCells]; exact ⟨_, _, rfl, h1, h3⟩, h4⟩
  rw [okCells] at h
  obtain ⟨v, r, rfl, h1, h⟩ := h
  simp only [okCell] at h1
  obtain ⟨k, rfl, -⟩ := h1
  obtain ⟨x, y, rfl, h2, h4⟩ := app h
  obtain ⟨x', y', rfl, h3, h5⟩ := app h4
  obtain ⟨po, rfl, hpn, -⟩ := po_cells h2
  simp only [okCells, okCell] at h3 h5
  obtain ⟨_, _, rfl, ⟨b1, rfl⟩, _, _, rfl, ⟨b2, rfl⟩, _, _, rfl, ⟨b3, rfl⟩, _, _, rfl, ⟨b4, rfl⟩, _, _, rfl, ⟨bd, rfl, -⟩, h3⟩ := h3
  obtain ⟨_, _, rfl, ⟨e, rfl⟩, _, _, rfl, ⟨n, rfl, wn⟩, _, _, rfl, ⟨r, rfl⟩, _, _, rfl, ⟨l, rfl, wl⟩, h3⟩ := h3
  obtain ⟨_, _, rfl, ⟨x0, rfl, w0⟩, _, _, rfl, ⟨x1, rfl, w1⟩, _, _, rfl, ⟨x2, rfl, w2⟩, _, _, rfl, ⟨x3, rfl, w3⟩, _, _, rfl, ⟨x4, rfl, w4⟩, _, _, rfl, ⟨x5, rfl, w5⟩, _, _, rfl, ⟨x6, rfl, w6⟩, _, _, rfl, ⟨x7, rfl, w7⟩, rfl⟩ := h3
  obtain ⟨_, _, rfl, ⟨ph, rfl, -⟩, _, _, rfl, ⟨t, rfl, -⟩, rfl⟩ := h5
  obtain ⟨m, rfl, hm⟩ := u32_of wn
  exact ⟨k, po, b1, b2, b3, b4, e, r, bd, m, l, x0, x1, x2, x3, x4, x5, x6, x7, ph, t, rfl, hpn, by omega, by omega⟩
end Go.Proofs.Ytghigcdpinogaaa
