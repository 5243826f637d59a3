/- A few streams may be; and no streams have no steps. -/
import Derived.Test.YtlhoogdikhbemaaDoorTypes
import Derived.Test.YtlhoogdikhbemaaDoorRow0
import Derived.Test.YtlhoogdikhbemaaDoorAbC
import Derived.Test.YtlhoogdikhbemaaDoorPure
import Derived.Test.YtlhoogdikhbemaaDoorStreamFew
import Derived.Test.YtlhoogdikhbemaaDoorBusy
set_option linter.all false
set_option maxRecDepth 20000
namespace Go.Proofs.YtlhoogdikhbemaaDoor
open Go Go.Ab
variable {base : Nat} [Bok base] {s : St} {R : Value → St → Prop}
theorem findS_hit {xs : List Sm} {id : Int} {k : Nat} (h : findS xs id = k) : k < xs.length ∧ (atS xs k).id = id := by
  unfold findS at h
  split at h
  · rename_i i hi
    obtain ⟨h1, h2, h3, h4⟩ := fwd_some hi
    have : i = k := by omega
    subst this
    refine ⟨by omega, ?_⟩
    unfold hitF at h3
    split at h3
    · assumption
    · exact absurd rfl h3
  · omega
theorem Chn.ge {c : Int → Int} {zs : List Int} (h : Chn c zs) : ∀ i (hi : i < zs.length), (i : Int) + 1 ≤ zs[i] := by
  intro i
  induction i with
  | zero =>
    intro hi
    have := h.hd
    rw [List.getElem?_eq_getElem hi] at this
    have := Option.some.inj this
    omega
  | succ i ih =>
    intro hi
    have h1 := ih (by omega)
    have h2 := (h.nx i hi).2
    omega
theorem StpL.len {c : Int → Int} {b : Int} {zs : List Int} (h : StpL c b zs) : (zs.length : Int) ≤ b := by
  cases hz : zs.length with
  | zero =>
    obtain ⟨l, h1, -⟩ := h.lst
    rw [List.length_eq_zero_iff.1 hz] at h1
    simp at h1
  | succ n =>
    have h1 := h.ch.ge n (by omega)
    have h2 := h.le _ (List.getElem_mem (show n < zs.length by omega))
    omega
end Go.Proofs.YtlhoogdikhbemaaDoor
