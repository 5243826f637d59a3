/- Contracts of the kit's shelf, taken into the abstract machine. -/
import Derived.Test.YtdhmjnpaoacpfaaDoorTypes
import Derived.Test.YtdhmjnpaoacpfaaDoorRow0
import Derived.Test.YtdhmjnpaoacpfaaDoorAbC
import Derived.Test.YtdhmjnpaoacpfaaDoorBits
import Derived.Deep.Draws
set_option linter.all false
namespace Go.Ab
open Go
theorem fenced_fwide {P : Program} {F : Fence} (hF : Fwide F) (m : Machine) : m.fenced P F := by
  intro g _
  exact ⟨fun h => (by rw [hF.2.2] at h; cases h), Or.inl (hF.1 _), fun f _ => hF.1 f, fun d hd => (by rw [hF.2.1] at hd; cases hd)⟩
theorem callsIn_of_calls {P : Program} {F : Fence} {n : Nat} {f : FuncId} {args : Array Value} {w : World} {R : Ending → World → Prop} (hF : Fwide F) (h : Calls P f args w R) : CallsIn F n P f args w R :=
  ⟨hF.1 f, fun cs _ => by
    obtain ⟨e, w', fr, r, s, x⟩ := h cs
    refine ⟨e, w', fr, r, ?_, x⟩
    cases e with
    | returned v => exact (StepsIn.of_steps s).mono fun m _ => fenced_fwide hF m
    | panicked c => exact (StepsIn.of_steps s).mono fun m _ => fenced_fwide hF m
    | outgrown => exact s⟩
theorem Sm.drewN {w0 : World} {M : Mp} {s : St} {w : World} (h : Sm w0 M s w) : ∀ n, Sm w0 M s (w.drewN n) := by
  exact fun n => ⟨⟨h.below.os, h.below.tape, h.below.output, h.below.size, h.below.block⟩, h.nxt, h.old, h.olds, h.new, h.inj⟩
theorem Gr.drewN' (M : Mp) (s : St) (w : World) (n : Nat) : Gr M s w M s (w.drewN n) := ⟨.refl M, Nat.le_refl _, fun _ _ h _ => h, fun b x h => .inl ⟨b, x, h, rfl⟩, fun b x h g => .inl ⟨b, x, h, g, rfl⟩, fun _ _ _ => rfl, Nat.le_refl _⟩
theorem Sm.cell_old {w0 : World} {M : Mp} {s : St} {w : World} {b : Nat} {c : Value} (h : Sm w0 M s w) (hb : b < w0.heap.size) (hc : s.heap b = .row [c]) : w.cell? ⟨b, 0, none⟩ = some c := by
  have h1 := h.olds b hb
  rw [hc] at h1
  have h2 := h.below.block b hb
  unfold oldObj at h1
  have hlt : b < w0.heap.size := hb
  rw [Array.getElem?_eq_getElem hlt] at h1 h2
  split at h1
  · rename_i cs _ _ he
    have h3 : cs.toList = [c] := (AObj.row.inj h1).symm
    obtain ⟨l⟩ := cs
    simp only at h3
    subst h3
    simp only [World.cell?, h2, he]
    rfl
  · cases h1
/-- A call that one of the kit's contracts answers: the world stays as it is, but for draws. -/
theorem given_ev {P : Program} {base : Nat} {f : FuncId} {args : List Value} {v : Value} {s : St} (hb : ∃ fn c, P.funcs[f]? = some fn ∧ fn.body = some c ∧ fn.name ≠ "runtime.NumGoroutine")
    (ha : args.all bareV = true) (hv : bareV v = true)
    (h : ∀ w : World, (∀ b c, b < base → s.heap b = .row [c] → w.cell? ⟨b, 0, none⟩ = some c) → Calls P f args.toArray w fun e w' => e = .returned v ∧ ∃ n, w' = w.drewN n) :
    Ev P base (.call f args s v s) := by
  refine .given (by obtain ⟨fn, c, h1, h2, _⟩ := hb; exact ⟨fn, c, h1, h2⟩) fun w0 hw0 M w args' F n hF hS hL => ⟨hb, ?_⟩
  obtain ⟨args'⟩ := args'
  obtain rfl := bare_list ha hL
  refine callsIn_of_calls hF ?_
  intro cs
  obtain ⟨e, w', fr, ⟨r1, k, r2⟩, rest⟩ := h w (fun b c hb hc => hS.cell_old (hw0 ▸ hb) hc) cs
  refine ⟨e, w', fr, ⟨v, M, r1, ?_, ?_, ?_⟩, rest⟩
  · subst r2; exact Gr.drewN' _ _ _ _
  · subst r2; exact hS.drewN k
  · have := bare_LR hS (l := [v]) (by simp [hv])
    obtain ⟨a1, l1, e1, v1, _⟩ := this.inv_cons
    cases e1; exact v1
end Go.Ab
