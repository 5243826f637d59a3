/- Contracts of the kit's shelf, taken into the abstract machine. -/
import Derived.Test.YthjpfllmecpliaaDoorTypes
import Derived.Test.YthjpfllmecpliaaDoorRow0
import Derived.Test.YthjpfllmecpliaaDoorAbC
import Derived.Test.YthjpfllmecpliaaDoorBits
import Derived.Deep.Draws
set_option linter.all false
namespace Go.Ab
open Go
theorem fenced_fwide {P : Program} {F : Fence} (hF : Fwide F) (m : Machine) : m.fenced P F := by
  intro g _
  exact ⟨fun h => (by rw [hF.2.2] at h; cases h), Or.inl (hF.1 _), fun f _ => hF.1 f, fun d hd => (by rw [hF.2.1] at hd; cases hd)⟩
theorem callsIn_of_calls {P : Program} {F : Fence} {n : Nat} {f : FuncId} {args : Array Value} {w : World} {R : Ending → World → Prop} (hF : Fwide F) (h : Calls P f args w R) : CallsIn F n P f args w R :=
  ⟨hF.1 f, fun cs _ => by
    obtain ⟨e, w', fr, r, s, x⟩ := h cs
    refine ⟨e, w', fr, r, ?_, x⟩
    cases e with
    | returned v => exact (StepsIn.of_steps s).mono fun m _ => fenced_fwide hF m
    | panicked c => exact (StepsIn.of_steps s).mono fun m _ => fenced_fwide hF m
    | outgrown => exact s⟩
theorem Sm.drewN {w0 : World} {M : Mp} {s : St} {w : World} (h : Sm w0 M s w) : ∀ n, Sm w0 M s (w.drewN n) := by
  exact fun n => ⟨⟨h.below.os, h.below.tape, h.below.output, h.below.size, h.below.block⟩, h.nxt, h.old, h.olds, h.new, h.inj⟩
theorem Gr.drewN' (M : Mp) (s : St) (w : World) (n : Nat) : Gr M s w M s (w.drewN n) := ⟨.refl M, Nat.le_refl _, fun _ _ h _ => h, fun b x h => .inl ⟨b, x, h, rfl⟩, fun b x h g => .inl ⟨b, x, h, g, rfl⟩, fun _ _ _ => rfl, Nat.le_refl _⟩
theorem Sm.cell_old {w0 : World} {M : Mp} {s : St} {w : World} {b : Nat} {c : Value} (h : Sm w0 M s w) (hb : b < w0.heap.size) (hc : s.heap b = .row [c]) (hns : ∀ a, c ≠ .slice (some a) 0 0) : w.cell? ⟨b, 0, none⟩ = some c := by
  have h1 := h.olds b hb
  rw [hc] at h1
  have h2 := h.below.block b hb
  unfold oldObj at h1
  have hlt : b < w0.heap.size := hb
  rw [Array.getElem?_eq_getElem hlt] at h1 h2
  split at h1
  · rename_i cs _ _ he
    have h3 : cs.toList.map (normV b) = [c] := (AObj.row.inj h1).symm
    obtain ⟨l⟩ := cs
    simp only at h3
    obtain ⟨u, rfl, h4⟩ : ∃ u, l = [u] ∧ normV b u = c := by
      match l, h3 with
      | [u], h => exact ⟨u, rfl, by simpa using h⟩
    have h5 : u = c := by
      by_cases hz : ∃ a, u = .slice (some a) 0 0
      · obtain ⟨a, rfl⟩ := hz; exact absurd h4.symm (hns _)
      · rw [normV_else fun a ha => hz ⟨a, ha⟩] at h4; exact h4
    subst h5
    simp only [World.cell?, h2, he]
    rfl
  · cases h1
/-- A call that one of the kit's contracts answers: the world stays as it is, but for draws. -/
theorem given_ev {P : Program} {base : Nat} {f : FuncId} {args : List Value} {v : Value} {s : St} (hb : ∃ fn c, P.funcs[f]? = some fn ∧ fn.body = some c ∧ fn.name ≠ "runtime.NumGoroutine")
    (ha : args.all bareV = true) (hv : bareV v = true)
    (h : ∀ w : World, (∀ b c, b < base → s.heap b = .row [c] → (∀ a, c ≠ .slice (some a) 0 0) → w.cell? ⟨b, 0, none⟩ = some c) → Calls P f args.toArray w fun e w' => e = .returned v ∧ ∃ n, w' = w.drewN n) :
    Ev P base (.call f args s v s) := by
  refine .given (by obtain ⟨fn, c, h1, h2, _⟩ := hb; exact ⟨fn, c, h1, h2⟩) fun w0 hw0 M w args' F n hF hS hL => ⟨hb, ?_⟩
  obtain ⟨args'⟩ := args'
  obtain rfl := bare_list ha hL
  refine callsIn_of_calls hF ?_
  intro cs
  obtain ⟨e, w', fr, ⟨r1, k, r2⟩, rest⟩ := h w (fun b c hb hc hn => hS.cell_old (hw0 ▸ hb) hc hn) cs
  refine ⟨e, w', fr, ⟨v, M, r1, ?_, ?_, ?_⟩, rest⟩
  · subst r2; exact Gr.drewN' _ _ _ _
  · subst r2; exact hS.drewN k
  · have := bare_LR hS (l := [v]) (by simp [hv])
    obtain ⟨a1, l1, e1, v1, _⟩ := this.inv_cons
    cases e1; exact v1
theorem Sm.below_new {w0 : World} {M : Mp} {s : St} {w w' : World} (h : Sm w0 M s w) (b : RowKit.Below w.heap.size w w') : Sm w0 M s w' := by
  have hk : ∀ {B : Nat} {o : Obj}, w.heap[B]? = some o → w'.heap[B]? = some o := fun {B o} hB => by
    rw [b.block B (Array.getElem?_eq_some_iff.1 hB).1]; exact hB
  refine ⟨⟨b.os.trans h.below.os, b.tape.trans h.below.tape, b.output.trans h.below.output, Nat.le_trans h.below.size b.size, fun k hk' => ?_⟩, h.nxt, h.old, h.olds, fun c x hc hge => ?_, h.inj⟩
  · rw [b.block k (Nat.lt_of_lt_of_le hk' h.below.size)]; exact h.below.block k hk'
  · obtain ⟨k1, k2, o, k3, k4⟩ := h.new c x hc hge
    exact ⟨k1, k2, o, hk k3, k4⟩
theorem Gr.below_new (M : Mp) (s : St) {w w' : World} (b : RowKit.Below w.heap.size w w') : Gr M s w M s w' :=
  ⟨.refl M, Nat.le_refl _, fun _ _ h _ => h, fun b x h => .inl ⟨b, x, h, rfl⟩, fun b x h g => .inl ⟨b, x, h, g, rfl⟩, fun B hB _ => b.block B hB, b.size⟩
/-- A call that one of the kit's contracts answers; what it makes, nobody sees. -/
theorem given_new {P : Program} {base : Nat} {f : FuncId} {args : List Value} {v : Value} {s : St} (hb : ∃ fn c, P.funcs[f]? = some fn ∧ fn.body = some c ∧ fn.name ≠ "runtime.NumGoroutine") (hv : bareV v = true)
    (h : ∀ (w0 : World) (M : Mp) (w : World) (args' : Array Value), w0.heap.size = base → Sm w0 M s w → LR M args args'.toList → Calls P f args' w fun e w' => e = .returned v ∧ RowKit.Below w.heap.size w w') :
    Ev P base (.call f args s v s) := by
  refine .given (by obtain ⟨fn, c, h1, h2, _⟩ := hb; exact ⟨fn, c, h1, h2⟩) fun w0 hw0 M w args' F n hF hS hL => ⟨hb, ?_⟩
  refine callsIn_of_calls hF ?_
  intro cs
  obtain ⟨e, w', fr, ⟨r1, r2⟩, rest⟩ := h w0 M w args' hw0 hS hL cs
  refine ⟨e, w', fr, ⟨v, M, r1, .below_new M s r2, hS.below_new r2, ?_⟩, rest⟩
  have := bare_LR hS (l := [v]) (by simp [hv])
  obtain ⟨a1, l1, e1, v1, _⟩ := this.inv_cons
  cases e1; exact v1
/-- Strings that lie in a slice, in the world. -/
theorem strs_cells {w0 : World} {M : Mp} {s : St} {w : World} (hS : Sm w0 M s w) {a a' : Addr} {xs : List ByteArray} (ha : AR M a a') (hm : Mem w0.heap.size s a (xs.map fun x => Value.string x)) :
    a'.spot = none ∧ ∀ (j : Nat) x, xs[j]? = some x → w.cell? ⟨a'.block, a'.off + j, none⟩ = some (.string x) := by
  obtain ⟨m1, m2, m3, c, m4, m5⟩ := hm
  obtain ⟨B, d, hb, rfl⟩ := ha
  refine ⟨m1, fun j x hj => ?_⟩
  have hjl : j < xs.length := (List.getElem?_eq_some_iff.1 hj).1
  unfold getL at m5
  split at m5
  · rename_i hle
    simp only [Option.some.injEq] at m5
    have hc : c[a.off + j]? = some (.string x) := by
      have : ((c.drop a.off).take (xs.map fun x => Value.string x).length)[j]? = some (.string x) := by rw [m5, List.getElem?_map, hj]; rfl
      rwa [List.getElem?_take_of_lt (by rw [List.length_map]; exact hjl), List.getElem?_drop] at this
    obtain ⟨v', q1, q2, -⟩ := cells_at hS ⟨B, d, hb, rfl⟩ m4 m1 hc (.inr rfl)
    cases q2
    have hadd : (⟨B, a.off + d, a.spot⟩ : Addr).add j = ⟨B, a.off + d + j, none⟩ := by rw [m1]; exact add_lit _ _ _
    rw [hadd] at q1
    exact q1
  · cases m5
end Go.Ab
