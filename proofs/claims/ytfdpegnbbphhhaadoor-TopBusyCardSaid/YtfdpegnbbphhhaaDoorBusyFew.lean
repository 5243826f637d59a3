/- A few streams may be; and no streams have no steps. -/
import Derived.Test.YtfdpegnbbphhhaaDoorTypes
import Derived.Test.YtfdpegnbbphhhaaDoorRow0
import Derived.Test.YtfdpegnbbphhhaaDoorAbC
import Derived.Test.YtfdpegnbbphhhaaDoorPure
import Derived.Test.YtfdpegnbbphhhaaDoorStreamFew
import Derived.Test.YtfdpegnbbphhhaaDoorBusy
set_option linter.all false
set_option maxRecDepth 20000
namespace Go.Proofs.YtfdpegnbbphhhaaDoor
open Go Go.Ab
variable {base : Nat} [Bok base] {s : St} {R : Value → St → Prop}
theorem findS_hit {xs : List Sm} {id : Int} {k : Nat} (h : findS xs id = k) : k < xs.length ∧ (atS xs k).id = id := by
  unfold findS at h
  split at h
  · rename_i i hi
    obtain ⟨h1, h2, h3, h4⟩ := fwd_some hi
    have : i = k := by omega
    subst this
    refine ⟨by omega, ?_⟩
    unfold hitF at h3
    split at h3
    · assumption
    · exact absurd rfl h3
  · omega
theorem okS_of {xs : List Sm} (hn : xs.length ≤ 64) (hr : AllR xs) (hid : ∀ i j (hi : i < xs.length) (hj : j < xs.length), xs[i].id = xs[j].id → i = j) (hd : ∀ x ∈ xs, 1 ≤ x.de) : okS xs := by
  have e1 : fst0 (rl1 xs) xs.length = (0, 0) := fst0_of fun i hi => by rw [rl1, atS_eq hi]; exact hr _ (List.getElem_mem hi)
  have e2 : fst0 (rl2 xs) xs.length = (0, 0) := fst0_of fun i hi => by
    have h := findS_le hi
    obtain ⟨k, hk⟩ : ∃ k : Nat, findS xs (atS xs i).id = k := ⟨(findS xs (atS xs i).id).toNat, by omega⟩
    obtain ⟨h1, h2⟩ := findS_hit hk
    rw [atS_eq h1, atS_eq hi] at h2
    have := hid k i h1 hi h2
    rw [rl2, hk, this, if_pos rfl]
  have e3 : fst0 (rl3 xs 1) xs.length = (0, 0) := fst0_of fun i hi => by
    have := hd _ (List.getElem_mem hi)
    rw [rl3, atS_eq hi, if_neg (by omega)]
  unfold okS chk
  rw [if_neg (by omega), if_neg (by omega), e1, e2, e3]
  simp
theorem few_okS (xs : List Sm) : okS (fewS xs 6) := by
  have hl : (fewS xs 6).length ≤ 6 := by rw [fewS_len]; omega
  have hidx : ∀ i (hi : i < (fewS xs 6).length), (fewS xs 6)[i].id = i := fun i hi => by rw [fewS_at hi]; rfl
  refine okS_of (by omega) (fun x hx => ?_) (fun i j hi hj h => ?_) fun x hx => ?_
  · obtain ⟨j, hj, rfl⟩ := List.mem_iff_getElem.1 hx
    rw [fewS_at hj]
    exact norm_right _ (by omega)
  · rw [hidx i hi, hidx j hj] at h; omega
  · obtain ⟨j, hj, rfl⟩ := List.mem_iff_getElem.1 hx
    rw [fewS_at hj]
    exact (right_by (norm_right _ (by omega))).2.1.1
theorem Chn.ge {c : Int → Int} {zs : List Int} (h : Chn c zs) : ∀ i (hi : i < zs.length), (i : Int) + 1 ≤ zs[i] := by
  intro i
  induction i with
  | zero =>
    intro hi
    have := h.hd
    rw [List.getElem?_eq_getElem hi] at this
    have := Option.some.inj this
    omega
  | succ i ih =>
    intro hi
    have h1 := ih (by omega)
    have h2 := (h.nx i hi).2
    omega
theorem StpL.len {c : Int → Int} {b : Int} {zs : List Int} (h : StpL c b zs) : (zs.length : Int) ≤ b := by
  cases hz : zs.length with
  | zero =>
    obtain ⟨l, h1, -⟩ := h.lst
    rw [List.length_eq_zero_iff.1 hz] at h1
    simp at h1
  | succ n =>
    have h1 := h.ch.ge n (by omega)
    have h2 := h.le _ (List.getElem_mem (show n < zs.length by omega))
    omega
end Go.Proofs.YtfdpegnbbphhhaaDoor
