/- The abstract machine (texts 14 to 24 of wip/ab, one behind the other). -/
import Derived.Test.YthjpfllmecpliaaGreatDoorAbA
import Derived.RangeFuncRecord
import Derived.OrdersIn
import Derived.RangeFuncLeaves
import Derived.RangeFuncIn
import Derived.LoopNIn
import Derived.ChangeArms
import Derived.OpenShut
import Derived.ProofKit
import Derived.Carry
import Derived.HandedShaped
/- The simulation: one operation. -/
set_option linter.unusedVariables false
set_option linter.unusedSimpArgs false
namespace Go.Ab
open Go Go.RowKit

section
variable {P : Program} {w0 : World} {M : Mp} {s : St} {w : World}

theorem ptr_of {v v' : Value} (h : VR M v v') {a : Addr} (hp : ptrV v = some a) : ∃ a', v' = .pointer (some a') ∧ AR M a a' := by
  cases h <;> simp [ptrV] at hp
  subst hp
  rename_i a' ha
  exact ⟨a', rfl, ha⟩

/-- The end of an operation that hands a value back, and changes nothing. -/
def Done (P : Program) (w0 : World) (M : Mp) (s : St) (w : World) (run : Result Next) (v : Value) (s' : St) : Prop :=
  ∃ r v' w' M', run = .ok r w' ∧ (r = .value v' ∨ (r = .skip ∧ v' = undef)) ∧ Sm w0 M' s' w' ∧ Gr M s w M' s' w' ∧ VR M' v v'
theorem Done.same (h : Sm w0 M s w) {x : Sem Value} {v v' : Value} (hr : x.run P w = .ok v' w) (hv : VR M v v') : Done P w0 M s w ((do pure (.value (← x)) : Sem Next).run P w) v s :=
  ⟨.value v', v', w, M, by simp only [Sem.run_bind, hr, Result.andThen_ok, Sem.run_pure], .inl rfl, h, .refl M _ w, hv⟩
theorem Done.some {x : Sem Value} {v v' : Value} {w' : World} {M' : Mp} {s' : St} (hr : x.run P w = .ok v' w') (h : Sm w0 M' s' w') (hg : Gr M s w M' s' w') (hv : VR M' v v') : Done P w0 M s w ((do pure (.value (← x)) : Sem Next).run P w) v s' :=
  ⟨.value v', v', w', M', by simp only [Sem.run_bind, hr, Result.andThen_ok, Sem.run_pure], .inl rfl, h, hg, hv⟩
theorem ret1_some {o : Option Value} {v : Value} {s s' : St} (h : ret1 o s = some (v, s')) : o = some v ∧ s' = s := by
  cases o with
  | none => cases h
  | some u => simp only [ret1, Option.some.injEq, Prod.mk.injEq] at h; exact ⟨by rw [h.1], h.2.symm⟩
theorem conv_int {a b : TypeId} {k k' : IntKind} {n : Int} (hb : P.underlying b = some (.int k')) (ha : (P.underlying a).isSome = true) : (convert a b (.int k n)).run P w = .ok (.int k' (k'.wrap n)) w := by
  obtain ⟨D, hD⟩ := Option.isSome_iff_exists.1 ha
  simp only [convert, Sem.run_bind, run_underlying hD, run_underlying hb, Result.andThen_ok]
  cases D <;> rfl
theorem conv_str {a b : TypeId} {s : ByteArray} (hb : P.underlying b = some .string) (ha : (P.underlying a).isSome = true) : (convert a b (.string s)).run P w = .ok (.string s) w := by
  obtain ⟨D, hD⟩ := Option.isSome_iff_exists.1 ha
  simp only [convert, Sem.run_bind, run_underlying hD, run_underlying hb, Result.andThen_ok]
  cases D <;> rfl
theorem VR_undef (M : Mp) : VR M undef undef := .tuple rfl (fun i v v' a b => by simp at a)

theorem put_sim (h : Sm w0 M s w) {b : Nat} {x : Nat × Nat} (hb : M.blk b = some x) (hge : w0.heap.size ≤ b) (hl : goneB (s.heap b) = false) (o' : AObj) (O : Obj) (ho : OR w0.heap.size M b x o' O) :
    Sm w0 M (s.upd b o') (w.putObj x.1 O) ∧ Gr M s w M (s.upd b o') (w.putObj x.1 O) := by
  obtain ⟨hlt, hbase, o, hO, hor⟩ := h.new b x hb hge
  have hxlt : x.1 < w.heap.size := (Array.getElem?_eq_some_iff.1 hO).1
  have hsame := World.putObj_heap_same (o := O) hxlt
  have hoth : ∀ k, k ≠ x.1 → (w.putObj x.1 O).heap[k]? = w.heap[k]? := fun k hk => World.putObj_heap_other hk
  have hsz : (w.putObj x.1 O).heap.size = w.heap.size := by simp [World.putObj]
  have e : ∀ j, goneB ((s.upd b o').heap j) = false → goneB (s.heap j) = false := fun j hj => by
    by_cases hjb : j = b
    · subst hjb; exact hl
    · rw [heap_upd_ne _ _ hjb] at hj; exact hj
  refine ⟨⟨⟨h.below.os, h.below.tape, h.below.output, by rw [hsz]; exact h.below.size, fun k hk => ?_⟩, h.nxt, h.old, fun k hk => ?_, fun k y hk hkb => ?_, fun k k' y y' h1 h2 h3 h4 h5 h6 h7 => h.inj k k' y y' h1 h2 h3 h4 h5 (e _ h6) (e _ h7)⟩,
    ⟨.refl M, Nat.le_refl _, fun _ _ h _ => h, fun k y hk => .inl ⟨k, y, hk, rfl⟩, fun k y hk hg => .inl ⟨k, y, hk, e _ hg, rfl⟩, fun B hB hn => hoth B fun e => hn b x hb hl e.symm, by rw [hsz]; exact Nat.le_refl _⟩⟩
  · rw [hoth k (by omega)]; exact h.below.block k hk
  · rw [heap_upd_ne _ _ (by omega)]; exact h.olds k hk
  · obtain ⟨g1, g2, o1, g3, g4⟩ := h.new k y hk hkb
    by_cases hkb' : k = b
    · subst hkb'
      rw [hb] at hk; cases hk
      exact ⟨g1, g2, O, hsame, by rw [heap_upd_same]; exact ho⟩
    · rw [heap_upd_ne _ _ hkb']
      by_cases hy : y.1 = x.1
      · cases hg : goneB (s.heap k) with
        | true =>
          refine ⟨g1, g2, O, by rw [hy]; exact hsame, ?_⟩
          cases hh : s.heap k <;> first | trivial | (rw [hh] at hg; simp [goneB] at hg)
        | false => exact absurd (h.inj k b y x hkb hge hk hb hy hg hl) hkb'
      · exact ⟨g1, g2, o1, by rw [hoth _ hy]; exact g3, g4⟩

theorem run_getObj_iter {l : Nat} {b : ByteArray} {p : Nat} (h : w.heap[l]? = some (.stringIter b p)) : (getObj l).run P w = .ok (.stringIter b p) w := by simp [getObj, Sem.run, h]
theorem run_setObj_iter {l : Nat} {b : ByteArray} {p : Nat} (o : Obj) (h : w.heap[l]? = some (.stringIter b p)) : (setObj l o).run P w = .ok () (w.putObj l o) := by
  simp only [setObj, Sem.run, h, World.putObj]
theorem range_sim_op (h : Sm w0 M s w) {t : TypeId} {x x' v : Value} {s' : St} (hx : VR M x x') (hp : rangeV P s t x = some (v, s')) : Done P w0 M s w ((do pure (.value (← Instr.range t x')) : Sem Next).run P w) v s' := by
  unfold rangeV at hp
  split at hp
  · rename_i b
    split at hp
    · rename_i ht
      cases hp
      cases hx
      obtain ⟨a, e⟩ := alloc_sim h (.iter b 0) (.stringIter b 0) none 0 ⟨rfl, rfl⟩
      refine Done.some (v' := .pointer (some ⟨w.heap.size, 0, none⟩)) ?_ a e (.ptr ⟨w.heap.size, 0, Mp.ext_blk .., rfl⟩)
      simp only [Instr.range, Sem.run_bind, run_underlying (strT_u ht), Result.andThen_ok, Sem.run_pure]
      rfl
    · cases hp
  · cases hp
theorem next_sim_op (h : Sm w0 M s w) {x x' v : Value} {str : Bool} {ty : TypeId} {s' : St} (hx : VR M x x') (hp : nextV w0.heap.size s x str = some (v, s')) : Done P w0 M s w ((do pure (.value (← Instr.next x' str ty)) : Sem Next).run P w) v s' := by
  unfold nextV at hp
  split at hp
  · rename_i a
    split at hp
    · rename_i hc
      obtain ⟨hoff, hge, rfl⟩ := hc
      cases hx with
      | ptr ha =>
        obtain ⟨B, d, hb, rfl⟩ := ha
        split at hp
        · rename_i b p hh
          obtain ⟨g1, g2, o, g3, g4⟩ := h.new _ _ hb hge
          rw [hh] at g4
          obtain ⟨hd, rfl⟩ := g4
          simp only at hd g3
          subst hd
          have hget := run_getObj_iter (P := P) g3
          split at hp
          · rename_i hlt
            cases hp
            obtain ⟨q1, q2⟩ := put_sim h hb hge (by rw [hh]; rfl) (.iter b (p + (Utf8.decode b p).2)) (.stringIter b (p + (Utf8.decode b p).2)) ⟨rfl, rfl⟩
            refine Done.some (v' := .tuple #[.bool true, .int .i64 (p : Int), .int .i32 ((Utf8.decode b p).1 : Int)]) ?_ q1 q2 (.tuple rfl fun i v v' h1 h2 => ?_)
            · simp only [Instr.next, hoff, Nat.add_zero, Sem.run_bind, hget, Result.andThen_ok, if_pos hlt, run_setObj_iter _ g3, Sem.run_pure, goInt]
            · rw [h1] at h2; cases h2
              match i, h1 with
              | 0, h1 => cases h1; exact .bool _
              | 1, h1 => cases h1; exact .int _ _
              | 2, h1 => cases h1; exact .int _ _
          · rename_i hlt
            cases hp
            refine Done.same (v' := .tuple #[.bool false]) h ?_ (.tuple rfl fun i v v' h1 h2 => ?_)
            · simp only [Instr.next, hoff, Nat.add_zero, Sem.run_bind, hget, Result.andThen_ok, if_neg hlt, Sem.run_pure]
            · rw [h1] at h2; cases h2
              match i, h1 with
              | 0, h1 => cases h1; exact .bool _
        · cases hp
    · cases hp
  · cases hp

theorem pop_sim (h : Sm w0 M s w) {ρ ρ' : Operand → Value} {o : Oper} (hρ : ∀ x ∈ o.op.operands, VR M (ρ x) (ρ' x)) {v : Value} {s' : St} (hp : pop P w0.heap.size ρ s o.op = some (v, s')) :
    Done P w0 M s w ((execOp ρ' o).run P w) v s' := by
  obtain ⟨dst, op, type, pos, after, guard⟩ := o
  simp only at hρ hp
  cases op with
  | move x =>
    simp only [pop, Option.some.injEq, Prod.mk.injEq] at hp; obtain ⟨rfl, rfl⟩ := hp
    exact ⟨.value (ρ' x), ρ' x, w, M, rfl, .inl rfl, h, .refl M _ w, hρ x (by simp [Op.operands])⟩
  | assign x =>
    simp only [pop, Option.some.injEq, Prod.mk.injEq] at hp; obtain ⟨rfl, rfl⟩ := hp
    exact ⟨.value (ρ' x), ρ' x, w, M, rfl, .inl rfl, h, .refl M _ w, hρ x (by simp [Op.operands])⟩
  | pick c a b =>
    simp only [pop] at hp
    have hq := ret1_some hp; clear hp; obtain ⟨hp, rfl⟩ := hq
    have hc := hρ c (by simp [Op.operands])
    have ha := hρ a (by simp [Op.operands])
    have hb := hρ b (by simp [Op.operands])
    unfold pickV at hp
    split at hp
    · rename_i t ht
      rw [ht] at hc
      cases hp
      have hc' : ρ' c = .bool t := by cases hcc : ρ' c <;> rw [hcc] at hc <;> cases hc; rfl
      refine ⟨.value (if t = true then ρ' a else ρ' b), if t = true then ρ' a else ρ' b, w, M, ?_, .inl rfl, h, .refl M _ w, by cases t; exact hb; exact ha⟩
      simp [execOp, hc', asBool]
    · cases hp
  | alloc t =>
    simp only [pop] at hp
    split at hp
    · rename_i z hz
      simp only [Option.some.injEq, Prod.mk.injEq] at hp
      obtain ⟨rfl, rfl⟩ := hp
      obtain ⟨i, zv, hi, hzz, hzc, hfree, hti⟩ := zerT_info hz
      obtain ⟨hzLR, hz1⟩ := free_LR h hfree
      obtain ⟨M', a1, a2, a3, a4, a5⟩ := allocRow_sim h (l := z) (l' := z) hzLR hz1 t
      refine Done.some ?_ a1 a2 (.ptr ⟨_, 0, a3, rfl⟩)
      have hzc' : z.toArray = zv.cells := by rw [← hzc]
      simp [Instr.alloc, zeroValue, typeInfo, hi, hzz, newVar, newRow, hzc']
    · cases hp
  | box t x =>
    simp only [pop] at hp
    split at hp
    · rename_i ht
      simp only [Option.some.injEq, Prod.mk.injEq] at hp
      obtain ⟨rfl, rfl⟩ := hp
      obtain ⟨c1, c2⟩ := (hρ x (by simp [Op.operands])).cells ht
      obtain ⟨M', a1, a2, a3, a4, a5⟩ := allocRow_sim h c1 c2 t
      refine Done.some ?_ a1 a2 (.ptr ⟨_, 0, a3, rfl⟩)
      simp [Instr.box, newVar, newRow]
    · cases hp
  | build t ps =>
    simp only [pop] at hp
    have hq := ret1_some hp; clear hp; obtain ⟨hp, rfl⟩ := hq
    have hps : PR M (ps.toList.map fun p => (p.1, ρ p.2)) (ps.toList.map fun p => (p.1, ρ' p.2)) :=
      ⟨by simp [Function.comp_def], by
        simp only [List.map_map, Function.comp_def]
        exact LR.map fun p hp => hρ p.2 (by simp only [Op.operands, List.mem_toArray, List.mem_map]; exact ⟨p, hp, rfl⟩)⟩
    obtain ⟨v', e1, e2⟩ := build_sim (P := P) h hps hp
    have : (List.map (fun p : Nat × Operand => (p.1, ρ' p.2)) ps.toList).toArray = ps.map fun (i, x) => (i, ρ' x) := by apply Array.ext'; simp
    rw [this] at e1
    exact Done.same h e1 e2
  | buildSlice t n ps =>
    simp only [pop] at hp
    have hps : PR M (ps.toList.map fun p => (p.1, ρ p.2)) (ps.toList.map fun p => (p.1, ρ' p.2)) :=
      ⟨by simp [Function.comp_def], by
        simp only [List.map_map, Function.comp_def]
        exact LR.map fun p hp => hρ p.2 (by simp only [Op.operands, List.mem_toArray, List.mem_map]; exact ⟨p, hp, rfl⟩)⟩
    obtain ⟨v', w', M', e1, e2, e3, e4⟩ := buildSlice_sim (P := P) h hps hp
    have : (List.map (fun p : Nat × Operand => (p.1, ρ' p.2)) ps.toList).toArray = ps.map fun (i, x) => (i, ρ' x) := by apply Array.ext'; simp
    rw [this] at e1
    exact Done.some e1 e2 e3 e4
  | range t x => exact range_sim_op h (hρ x (by simp [Op.operands])) hp
  | next x b => exact next_sim_op h (hρ x (by simp [Op.operands])) hp
  | load t a =>
    simp only [pop] at hp
    have hq := ret1_some hp; clear hp; obtain ⟨hp, rfl⟩ := hq
    unfold loadV at hp
    split at hp
    · rename_i a0 ha0
      obtain ⟨a', e1, e2⟩ := ptr_of (hρ a (by simp [Op.operands])) ha0
      obtain ⟨v', e3, e4⟩ := ldVar_sim (P := P) h e2 hp
      exact Done.same h (by simp only [Instr.loadAt, Instr.sureAddr, e1, Sem.run_bind, Sem.run_pure, Result.andThen_ok, e3]) e4
    · cases hp
  | store t a x =>
    simp only [pop] at hp
    split at hp
    · rename_i a0 ha0
      obtain ⟨a', e1, e2⟩ := ptr_of (hρ a (by simp [Op.operands])) ha0
      cases hst : stVar P w0.heap.size s t a0 (ρ x) with
      | none => rw [hst] at hp; cases hp
      | some s1 =>
        rw [hst] at hp
        simp only [ret0, Option.some.injEq, Prod.mk.injEq] at hp
        obtain ⟨rfl, rfl⟩ := hp
        obtain ⟨w', e3, e4, e5⟩ := stVar_sim (P := P) h e2 (hρ x (by simp [Op.operands])) hst
        refine ⟨.skip, undef, w', M, ?_, .inr ⟨rfl, rfl⟩, e4, e5, VR_undef M⟩
        simp only [execOp, Instr.storeAt, Instr.sureAddr, e1, Sem.run_bind, Sem.run_pure, Result.andThen_ok, e3]
    · cases hp
  | nilCheck x =>
    simp only [pop] at hp
    have hq := ret1_some hp; clear hp; obtain ⟨hp, rfl⟩ := hq
    have hx := hρ x (by simp [Op.operands])
    unfold nilCheckV at hp
    split at hp
    · rename_i a ha
      cases hp
      rw [ha] at hx
      cases hxx : ρ' x <;> rw [hxx] at hx <;> cases hx
      rename_i a' ha'
      exact ⟨_, _, w, M, by simp [execOp, hxx], .inl rfl, h, .refl M _ w, .ptr ha'⟩
    · rename_i f fi ca hf
      cases hp
      rw [hf] at hx
      cases hxx : ρ' x <;> rw [hxx] at hx <;> cases hx
      rename_i hfn s1 h1 s2 h2
      cases hfn
      exact ⟨_, _, w, M, by simp [execOp, hxx], .inl rfl, h, .refl M _ w, .func (.other (by simp)) s1 h1 s2 h2⟩
    · rename_i l fi ca hf
      cases hp
      rw [hf] at hx
      cases hxx : ρ' x <;> rw [hxx] at hx <;> cases hx
      rename_i hfn s1 h1 s2 h2
      cases hfn with
      | yield hl => exact ⟨_, _, w, M, by simp [execOp, hxx], .inl rfl, h, .refl M _ w, .func (.yield hl) s1 h1 s2 h2⟩
      | other hn => exact absurd rfl (hn _)
    · cases hp
  | binOp bop t x y u =>
    simp only [pop] at hp
    have hq := ret1_some hp; clear hp; obtain ⟨hp, rfl⟩ := hq
    obtain ⟨e1, e2⟩ := binV_sim (M := M) hp (hρ x (by simp [Op.operands])) (hρ y (by simp [Op.operands])) x y w
    exact Done.same h e1 e2
  | unOp uop t x =>
    simp only [pop] at hp
    have hq := ret1_some hp; clear hp; obtain ⟨hp, rfl⟩ := hq
    obtain ⟨e1, e2⟩ := unV_run (P := P) (M := M) hp w _ (hρ x (by simp [Op.operands]))
    exact Done.same h e1 e2
  | convert a b x =>
    simp only [pop] at hp
    have hx := hρ x (by simp [Op.operands])
    unfold convV at hp
    split at hp
    · rename_i k n hn
      rw [hn] at hx
      split at hp
      case isFalse => cases hp
      rename_i hsrc
      split at hp
      · rename_i k' hk'
        cases hp
        cases hxx : ρ' x <;> rw [hxx] at hx <;> cases hx
        refine Done.same h ?_ (.int _ _)
        rw [hxx]; exact conv_int (intT_u hk') hsrc
      · cases hp
    · rename_i bs hb
      rw [hb] at hx
      split at hp
      · rename_i hs
        cases hp
        cases hxx : ρ' x <;> rw [hxx] at hx <;> cases hx
        refine Done.same h ?_ (.str _)
        rw [hxx]; exact conv_str (strT_u hs.1) hs.2
      · cases hp
    · cases hp
  | makeInterface t x =>
    simp only [pop] at hp
    have hq := ret1_some hp; clear hp; obtain ⟨hp, rfl⟩ := hq
    unfold ifaceV at hp
    split at hp
    · rename_i hc
      obtain ⟨c1, c2, c3⟩ := hc
      cases hp
      obtain ⟨D, hD⟩ := Option.isSome_iff_exists.1 c2
      refine Done.same h ?_ (.iface t (hρ x (by simp [Op.operands])))
      have hni : ∀ ms, D ≠ .interface ms := fun ms e => by subst e; simp [ifaceT, hD] at c1
      cases D <;> first | (exact absurd rfl (hni _)) | simp [Instr.makeInterface, run_underlying hD]
    · cases hp
  | makeFunc fn fi ca =>
    simp only [pop] at hp
    have hq := ret1_some hp; clear hp; obtain ⟨hp, rfl⟩ := hq
    have each : ∀ xs : Array Operand, (∀ x ∈ xs, VR M (ρ x) (ρ' x)) → ∀ (i : Nat) v v', (xs.map ρ)[i]? = some v → (xs.map ρ')[i]? = some v' → VR M v v' := fun xs hx i v v' a b => by
      simp only [Array.getElem?_map, Option.map_eq_some_iff] at a b
      obtain ⟨x, h1, rfl⟩ := a
      obtain ⟨y, h2, rfl⟩ := b
      rw [h1] at h2; cases h2
      exact hx x (Array.mem_of_getElem? h1)
    unfold mkFuncV at hp
    split at hp
    · cases hp
    · rename_i hny
      cases hp
      exact Done.same h (by simp only [Instr.makeFunc, Sem.run_pure]) (.func (.other fun l e => hny l e) (by simp) (each fi fun x hx => hρ x (by simp [Op.operands, hx])) (by simp) (each ca fun x hx => hρ x (by simp [Op.operands, hx])))
  | makeSlice t x y =>
    simp only [pop] at hp
    obtain ⟨v', w', M', e1, e2, e3, e4⟩ := make_sim (P := P) h (hρ x (by simp [Op.operands])) (hρ y (by simp [Op.operands])) hp
    exact Done.some e1 e2 e3 e4
  | slice t x lo hi mx =>
    simp only [pop] at hp
    have hq := ret1_some hp; clear hp; obtain ⟨hp, rfl⟩ := hq
    have ov : ∀ o : Option Operand, (∀ y, o = some y → VR M (ρ y) (ρ' y)) → OVR M (o.map ρ) (o.map ρ') := fun o ho => by
      cases o with
      | none => trivial
      | some y => exact ho y rfl
    obtain ⟨v', e1, e2⟩ := slice_sim (P := P) h (hρ x (by simp [Op.operands])) (ov lo fun y e => hρ y (by simp [Op.operands, e])) (ov hi fun y e => hρ y (by simp [Op.operands, e])) (ov mx fun y e => hρ y (by simp [Op.operands, e])) hp
    exact Done.same h e1 e2
  | fieldAddr t x f =>
    simp only [pop] at hp
    have hq := ret1_some hp; clear hp; obtain ⟨hp, rfl⟩ := hq
    unfold fieldAddrV at hp
    split at hp
    · rename_i a off u ha hf
      split at hp
      · rename_i n hn
        split at hp
        · rename_i hpos
          cases hp
          obtain ⟨a', e1, e2⟩ := ptr_of (hρ x (by simp [Op.operands])) ha
          obtain ⟨fs, fd, hu, hfd, rfl, rfl⟩ := fldT_u hf
          refine Done.same h ?_ (.ptr (e2.add _))
          simp only [Instr.fieldAt, Sem.run_bind, run_underlying hu, Result.andThen_ok, hfd, Instr.sureAddr, e1, Sem.run_pure, fieldPlace, sizT_run hn, Sem.run_ite]
          rw [if_neg (by omega)]
          rfl
        · cases hp
      · cases hp
    · cases hp
  | field t x f =>
    simp only [pop] at hp
    have hq := ret1_some hp; clear hp; obtain ⟨hp, rfl⟩ := hq
    unfold fieldV at hp
    split at hp
    · rename_i cs off u hcs hf
      obtain ⟨fs, fd, hu, hfd, rfl, rfl⟩ := fldT_u hf
      have hx := hρ x (by simp [Op.operands])
      rw [hcs] at hx
      obtain ⟨cs', hxx⟩ : ∃ cs', ρ' x = .agg cs' := by cases hxx : ρ' x <;> rw [hxx] at hx <;> cases hx; exact ⟨_, rfl⟩
      rw [hxx] at hx
      obtain ⟨v', e1, e2⟩ := partV_sim (P := P) hx hp w
      exact Done.same h (by simp only [Instr.field, Sem.run_bind, run_underlying hu, Result.andThen_ok, hfd, hxx, asAgg, Sem.run_pure, e1]) e2
    · cases hp
  | indexAddr t x i =>
    simp only [pop] at hp
    have hq := ret1_some hp; clear hp; obtain ⟨hp, rfl⟩ := hq
    unfold indexAddrV at hp
    have hx := hρ x (by simp [Op.operands])
    split at hp
    · rename_i n hn
      obtain ⟨k, hi1, hi2⟩ := intOf_run (P := P) hn (hρ i (by simp [Op.operands])) w
      split at hp
      · rename_i a len cap hsl
        rw [hsl] at hx
        split at hp
        · rename_i e he
          split at hp
          · rename_i z hz
            split at hp
            · rename_i hc
              cases hp
              cases hxx : ρ' x <;> rw [hxx] at hx <;> cases hx
              · omega
              · rename_i a' cap' ha' hx'
                refine Done.same h ?_ (.ptr (ha'.add _))
                have ht : (decide (len ≤ 1) && false) = false := by simp
                simp only [Instr.indexAt, Sem.run_bind, hi2, Result.andThen_ok, run_underlying (elemT_u he), hxx, Sem.run_pure, Sem.run_ite, if_pos hc, sizT_run hz]
            · cases hp
          · cases hp
        · cases hp
      · rename_i a hpa
        rw [hpa] at hx
        split at hp
        · rename_i kk e he
          split at hp
          · rename_i z hz
            split at hp
            · rename_i hc
              cases hp
              cases hxx : ρ' x <;> rw [hxx] at hx <;> cases hx
              rename_i a' ha'
              refine Done.same h ?_ (.ptr (ha'.add _))
              simp only [Instr.indexAt, Sem.run_bind, hi2, Result.andThen_ok, run_underlying (arrT_u he), hxx, Instr.sureAddr, Sem.run_pure, Sem.run_ite, if_pos hc, sizT_run hz]
            · cases hp
          · cases hp
        · cases hp
      · cases hp
    · cases hp
  | index t x i =>
    simp only [pop] at hp
    have hq := ret1_some hp; clear hp; obtain ⟨hp, rfl⟩ := hq
    unfold indexV at hp
    have hx := hρ x (by simp [Op.operands])
    split at hp
    · rename_i n hn
      obtain ⟨k, hi1, hi2⟩ := intOf_run (P := P) hn (hρ i (by simp [Op.operands])) w
      split at hp
      · rename_i cs hcs
        rw [hcs] at hx
        split at hp
        · rename_i kk e he
          split at hp
          · rename_i z hz
            split at hp
            · rename_i hc
              obtain ⟨cs', hxx⟩ : ∃ cs', ρ' x = .agg cs' := by cases hxx : ρ' x <;> rw [hxx] at hx <;> cases hx; exact ⟨_, rfl⟩
              rw [hxx] at hx
              obtain ⟨v', e1, e2⟩ := partV_sim (P := P) hx hp w
              exact Done.same h (by simp only [Instr.index, Sem.run_bind, hi2, Result.andThen_ok, run_underlying (arrT_u he), hxx, Sem.run_ite, if_pos hc, sizT_run hz, e1]) e2
            · cases hp
          · cases hp
        · cases hp
      · rename_i b hb
        rw [hb] at hx
        split at hp
        · rename_i hc
          obtain ⟨c1, c2, c3⟩ := hc
          cases hp
          cases hxx : ρ' x <;> rw [hxx] at hx <;> cases hx
          refine Done.same h ?_ (.int _ _)
          have hlt : n.toNat < b.size := by omega
          have hlt2 : n.toNat < b.data.toList.length := by simpa using hlt
          have hget : b[n.toNat]? = some (b.data.toList.getD n.toNat 0) := by
            rw [List.getD_eq_getElem?_getD, List.getElem?_eq_getElem hlt2, Option.getD_some]
            rw [getElem?_pos b n.toNat hlt]
            rfl
          simp only [Instr.index, Sem.run_bind, hi2, Result.andThen_ok, run_underlying (strT_u c1), hxx, if_pos c2, hget, Sem.run_pure]
        · cases hp
      · cases hp
    · cases hp
  | extract x i =>
    simp only [pop] at hp
    have hq := ret1_some hp; clear hp; obtain ⟨hp, rfl⟩ := hq
    unfold extractV at hp
    split at hp
    · rename_i vs hvs
      have hx := hρ x (by simp [Op.operands])
      rw [hvs] at hx
      obtain ⟨vs', hxx⟩ : ∃ vs', ρ' x = .tuple vs' := by cases hxx : ρ' x <;> rw [hxx] at hx <;> cases hx; exact ⟨_, rfl⟩
      rw [hxx] at hx
      cases hx with
      | tuple s1 h1 =>
        have hlt : i < vs'.size := by rw [← s1]; exact (Array.getElem?_eq_some_iff.1 hp).1
        exact Done.same h (by simp only [Instr.extract, hxx, Array.getElem?_eq_getElem hlt, Sem.run_pure]) (h1 i v _ hp (Array.getElem?_eq_getElem hlt))
    · cases hp
  | call c =>
    obtain ⟨callee, args, ats⟩ := c
    simp only [pop] at hp
    cases callee with
    | builtin b =>
      simp only at hp
      have ha : LR M (args.map ρ).toList (args.map ρ').toList := by
        simp only [Array.toList_map]
        exact LR.map fun x hx => hρ x (by simp [Op.operands, Call.operands]; simpa using hx)
      have hp' : builtinV P w0.heap.size s b ats.toList (args.map ρ).toList = some (v, s') := by simpa using hp
      have key : ∃ cs, (execOp ρ' ⟨dst, .call ⟨.builtin b, args, ats⟩, type, pos, after, guard⟩).run P w = (builtin b ats type cs (args.map ρ')).run P w :=
        ⟨_, by simp only [execOp, resolve, Sem.run_bind, Sem.run_pure, Result.andThen_ok, invoke]; rfl⟩
      obtain ⟨cs, key⟩ := key
      obtain ⟨v', w', M', e1, e2, e3, e4⟩ := builtin_sim (ty := type) (cs := cs) h ha hp'
      exact ⟨.value v', v', w', M', by rw [key]; exact e1, .inl rfl, e2, e3, e4⟩
    | value f => cases hp
    | invoke r m => cases hp
  | _ => cases hp
end
end Go.Ab
/- The simulation: frames, operations with calls, regions in order. -/
set_option linter.unusedVariables false
set_option linter.unusedSimpArgs false
namespace Go.Ab
open Go Go.RowKit

section
variable {P : Program} {w0 : World} {M : Mp} {s : St} {w : World} {G : Nat}

/-! ### Frames -/
theorem ER.put {e : Env} {tmps : Array Value} (h : ER M e tmps) {v v' : Value} (hv : VR M v v') (d : Option Tmp) : ER M (put e d v) (match d with | some t => tmps.setIfInBounds t v' | none => tmps) := by
  cases d with
  | none => exact h
  | some t =>
    intro k hk
    simp only [Array.size_setIfInBounds] at hk
    simp only [Ab.put]
    by_cases hkt : k = t
    · subst hkt
      rw [if_pos rfl]
      simp [Array.getD, hk]; exact hv
    · rw [if_neg hkt]
      have := h k hk
      have e : (tmps.setIfInBounds t v').getD k undef = tmps.getD k undef := by
        simp only [Array.getD_eq_getD_getElem?, Array.getElem?_setIfInBounds_ne (Ne.symm hkt)]
      rw [e]; exact this
theorem ER.mono {M' : Mp} (hm : Mle M M') {e : Env} {tmps : Array Value} (h : ER M e tmps) : ER M' e tmps := fun t ht => (h t ht).mono hm
theorem ER.act {e : Env} {a : Act} (h : ER M e a.tmps) {v v' : Value} (hv : VR M v v') (d : Option Tmp) : ER M (Ab.put e d v) (a.put d v').tmps := by
  have := h.put hv d
  cases d <;> exact this
theorem act_size (a : Act) (d : Option Tmp) (v : Value) : (a.put d v).tmps.size = a.tmps.size := by cases d <;> simp [Act.put]
theorem act_defers (a : Act) (d : Option Tmp) (v : Value) : (a.put d v).defers = a.defers := by cases d <;> rfl

theorem const_VR (h : Sm w0 M s w) {v : Value} (hv : constOk v = true) : VR M v v := by
  have free : ∀ v, oldOk 0 v = true → VR M v v := fun v hv => ((free_LR h (l := [v]) (by simp [hv])).1).head
  cases v with
  | agg cs => obtain ⟨a, b⟩ := free_LR h hv; exact LR.agg a b
  | tuple cs => obtain ⟨a, b⟩ := free_LR h hv; exact LR.tuple a
  | func f fi ca =>
    cases f with
    | func f =>
      simp only [constOk, Bool.and_eq_true, Array.isEmpty_iff] at hv
      obtain ⟨rfl, rfl⟩ := hv
      exact .func (.other (by simp)) rfl (fun i v v' a => by simp at a) rfl (fun i v v' a => by simp at a)
    | _ => exact free _ hv
  | _ => exact free _ hv
theorem ev_VR (h : Sm w0 M s w) (hG : G ≤ w0.heap.size) {e : Env} {a : Act} (he : ER M e a.tmps) {x : Operand} (hx : opdOk G a.tmps.size x = true) : VR M (ev e x) (a.eval x) := by
  cases x with
  | tmp t => exact he t (by simpa [opdOk] using hx)
  | const v => exact const_VR h hx
  | global g =>
    have : g < G := by simpa [opdOk] using hx
    exact .ptr ⟨g, 0, (h.old g (by omega)).1, rfl⟩
  | func f => exact .func (.other (by simp)) rfl (fun i v v' a => by simp at a) rfl (fun i v v' a => by simp at a)
theorem oper_ok {N : Nat} {o : Oper} (h : operOk G N o = true) : (∀ t, o.dst = some t → t < N) ∧ ∀ x ∈ o.op.operands, opdOk G N x = true := by
  simp only [operOk, Bool.and_eq_true, List.all_eq_true] at h
  refine ⟨fun t ht => ?_, fun x hx => h.2 x (by simpa using hx)⟩
  have := h.1; rw [ht] at this; simpa using this

theorem guard_sim {all : Array Oper} {e : Env} {a : Act} (he : ER M e a.tmps) {j : Nat} {b : Option Bool} (hok : ∀ o ∈ all.toList, operOk G a.tmps.size o = true) (h : guardV all e j = some b) : yielded all a.tmps j = b := by
  unfold guardV at h
  unfold yielded
  cases hj : (all[j]?).bind (·.dst) with
  | none => rw [hj] at h; cases h
  | some t =>
    rw [hj] at h
    simp only at h
    have ht : t < a.tmps.size := by
      obtain ⟨o, ho, hd⟩ := Option.bind_eq_some_iff.1 hj
      exact (oper_ok (hok o (by have := Array.mem_of_getElem? ho; simpa using this))).1 t hd
    have hr := he t ht
    have hget : a.tmps[t]? = some (a.tmps.getD t undef) := by simp [ht]
    simp only [Option.bind_some, hget]
    cases hv : e t with
    | bool c =>
      rw [hv] at h hr
      cases h
      cases hx : a.tmps.getD t undef <;> rw [hx] at hr <;> cases hr
      rfl
    | _ => rw [hv] at h hr; cases h; cases hx : a.tmps.getD t undef <;> rw [hx] at hr <;> first | rfl | cases hr

/-! ### Marks among the deferred calls -/
def Marks (lb : Nat) (M : Mp) (w : World) : List Deferred → Prop
  | [] => True
  | d :: ds => (∃ D, d = { target := .collected D, args := #[] } ∧ lb ≤ D ∧ w.heap[D]? = some (.deferred (some [])) ∧ (∀ b x, M.blk b = some x → x.1 ≠ D) ∧
      (∀ D', ({ target := .collected D', args := #[] } : Deferred) ∈ ds → D' ≠ D)) ∧ Marks lb M w ds
theorem Marks.grow {lb : Nat} {M' : Mp} {s' : St} {w' : World} (hg : Gr M s w M' s' w') : ∀ {ds : List Deferred}, Marks lb M w ds → Marks lb M' w' ds
  | [], _ => trivial
  | d :: ds, ⟨⟨D, h1, h2, h3, h4, h5⟩, hr⟩ => by
    refine ⟨⟨D, h1, h2, ?_, fun b x hx => ?_, h5⟩, Marks.grow hg hr⟩
    · rw [hg.fr D (Array.getElem?_eq_some_iff.1 h3).1 fun b x hb _ => h4 b x hb]; exact h3
    · rcases hg.img b x hx with ⟨b', x', q1, q2⟩ | q
      · exact q2 ▸ h4 b' x' q1
      · have := (Array.getElem?_eq_some_iff.1 h3).1; omega

/-! ### What is proved of each judgement -/
def OpGood (P : Program) (w0 : World) (o : Oper) (e : Env) (s : St) (v : Value) (s' : St) : Prop :=
  ∀ (M : Mp) (w : World) (a : Act) (F : Fence) (n : Nat), Fwide F → Sm w0 M s w → (∀ x ∈ o.op.operands, VR M (ev e x) (a.eval x)) → ∀ (next : Act → World → Prop) (Q : Exit → Act → World → Prop),
    (∀ v' w' M', Gr M s w M' s' w' → Sm w0 M' s' w' → VR M' v v' → next (a.put o.dst v') w') → o.wpIn F n P a w next Q

/-- A load that may come ahead of what changes other blocks, or behind. -/
def LiteOk (P : Program) (w0 : World) (D : Option Drw) (k : Nat) (o : Oper) (e : Env) (s : St) (v : Value) (s1 : St) : Prop :=
  match D with
  | none => True
  | some d => d.lite k = true → isLoad o.op = true → s1 = s ∧ ∃ b, d.kp b = true ∧ b < d.n0 ∧ ∀ s2, s2.heap b = s.heap b → OpGood P w0 o e s2 v s2
/-- Operations, one by one. -/
def Tr (P : Program) (w0 : World) (all : Array Oper) (D : Option Drw) : Nat → List Oper → Env → St → Env → St → Prop
  | _, [], e, s, e', s' => e' = e ∧ s' = s
  | k, o :: l, e, s, e', s' =>
    (∃ j g b, o.guard = some (j, g) ∧ guardV all e j = some b ∧ b ≠ some g ∧ Tr P w0 all D (k + 1) l (Ab.put e o.dst undef) s e' s') ∨
    (∃ v s1, (∀ j g, o.guard = some (j, g) → guardV all e j = some (some g)) ∧ OpGood P w0 o e s v s1 ∧ Dok D k s s1 ∧ (loudO o = false → s1 = s ∧ ∀ s2, OpGood P w0 o e s2 v s2) ∧ LiteOk P w0 D k o e s v s1 ∧ Tr P w0 all D (k + 1) l (Ab.put e o.dst v) s1 e' s')

def PostC (w0 : World) (M : Mp) (s : St) (w : World) (N lb : Nat) (x : Exit) (e' : Env) (s' : St) : Exit → Act → World → Prop := fun X a' w' =>
  X = x ∧ ∃ M', Gr M s w M' s' w' ∧ Sm w0 M' s' w' ∧ ER M' e' a'.tmps ∧ a'.tmps.size = N ∧ Marks lb M' w' a'.defers

def CodeAt (w0 : World) (G : Nat) (c : Code) (e : Env) (s : St) (M : Mp) (w : World) (a : Act) (F : Fence) (lb : Nat) : Prop :=
  Fwide F ∧ Sm w0 M s w ∧ ER M e a.tmps ∧ codeOk G a.tmps.size c = true ∧ (F.round = none ∨ noRF c = true) ∧ Marks lb M w a.defers ∧ lb ≤ w.heap.size ∧ G ≤ w0.heap.size
def CodeGood (P : Program) (w0 : World) (G : Nat) (c : Code) (e : Env) (s : St) (x : Exit) (e' : Env) (s' : St) : Prop :=
  ∀ M w a F n lb, CodeAt w0 G c e s M w a F lb → c.wpIn F n P (PostC w0 M s w a.tmps.size lb x e' s') a w
def LoopGood (P : Program) (w0 : World) (G : Nat) (b : Code) (e : Env) (s : St) (x : Exit) (e' : Env) (s' : St) : Prop :=
  ∃ m, ∀ M w a F n lb, CodeAt w0 G b e s M w a F lb → Code.roundsIn F n P b (PostC w0 M s w a.tmps.size lb x e' s') m a w
def FnGood (P : Program) (w0 : World) (fn : Fn) (args : List Value) (s : St) (v : Value) (s' : St) : Prop :=
  match fn with
  | .func f => (HasBody P f → CallGood P w0 f args s v s') ∧ (¬ HasBody P f → ExtGood P w0 f args s v s')
  | .yield l => ∀ M w l' (args' : Array Value) (F : Fence) n, Fwide F → Sm w0 M s w → M.blk l = some (l', 0) → LR M args args'.toList →
      ∃ f tmps as_ body, (Instr.yield l' args').run P w = .ok (.round l' f tmps as_ body) w ∧ RoundIn F n P l' f tmps as_ body w (fun e w' => ∃ v' M', e = .returned v' ∧ Gr M s w M' s' w' ∧ Sm w0 M' s' w' ∧ VR M' v v')
  | _ => False

/-! ### Operations -/
theorem op_plain_good (o : Oper) (hc : isCall o.op = false) {e : Env} {v : Value} {s' : St} (hp : pop P w0.heap.size (ev e) s o.op = some (v, s')) : OpGood P w0 o e s v s' := by
  intro M w a F n hF hS hx next Q hn
  have hd : ∀ c, o.op ≠ .defer c := fun c e => by rw [e] at hp; cases hp
  refine ⟨fun f _ => hF.1 f, ?_⟩
  rw [Oper.semAt_eq _ _ _ hd]
  obtain ⟨r, v', w', M', e1, e2, e3, e4, e5⟩ := pop_sim (P := P) (o := o) hS hx hp
  rw [e1]
  rcases e2 with rfl | ⟨rfl, rfl⟩
  · exact hn v' w' M' e4 e3 e5
  · exact hn undef w' M' e4 e3 e5

theorem op_call_good (o : Oper) {c : Call} (ho : o.op = .call c) {e : Env} {fn : Fn} {args : List Value} (hcal : calleeV (ev e) c = some (fn, args)) {v : Value} {s' : St} (hg : FnGood P w0 fn args s v s') : OpGood P w0 o e s v s' := by
  intro M w a F n hF hS hx next Q hn
  have hd : ∀ c, o.op ≠ .defer c := fun c' e => by rw [e] at ho; cases ho
  refine ⟨fun f _ => hF.1 f, ?_⟩
  rw [Oper.semAt_eq _ _ _ hd]
  rw [ho] at hx
  obtain ⟨callee, cargs, cts⟩ := c
  unfold calleeV at hcal
  cases callee with
  | builtin b => cases hcal
  | invoke r m => cases hcal
  | value f =>
    simp only at hcal
    have hf := hx f (by simp [Op.operands, Call.operands])
    have hargs : LR M (cargs.toList.map (ev e)) (cargs.map a.eval).toList := by
      rw [Array.toList_map]
      exact LR.map fun x hxm => hx x (by simp only [Op.operands, Call.operands]; simp; right; simpa using hxm)
    split at hcal
    · rename_i fn0 fi ca hfe
      rw [hfe] at hf
      simp only [Option.some.injEq, Prod.mk.injEq] at hcal
      obtain ⟨rfl, rfl⟩ := hcal
      obtain ⟨fn', fi', ca', hfe', hfn, s1, h1, s2, h2⟩ : ∃ fn' fi' ca', a.eval f = .func fn' fi' ca' ∧ FR M fn0 fn' ∧ fi.size = fi'.size ∧ (∀ (i : Nat) v v', fi[i]? = some v → fi'[i]? = some v' → VR M v v') ∧ ca.size = ca'.size ∧ (∀ (i : Nat) v v', ca[i]? = some v → ca'[i]? = some v' → VR M v v') := by
        cases hfx : a.eval f <;> rw [hfx] at hf <;> cases hf
        exact ⟨_, _, _, rfl, by assumption, by assumption, by assumption, by assumption, by assumption⟩
      have hfi := LR.ofArr s1 h1
      have hca := LR.ofArr s2 h2
      have hres : (resolve a.eval ⟨.value f, cargs, cts⟩ o.type).run P w = .ok { target := .fn fn' ca', args := fi' ++ cargs.map a.eval } w := by
        simp only [resolve, hfe', Deferred.ofValue, Sem.run_pure]
      unfold Oper.uponIn
      cases hfn with
      | yield hl =>
        rename_i l l'
        simp only [FnGood, List.append_nil] at hg
        obtain ⟨f0, tmps, as_, body, e1, e2⟩ := hg M w l' (fi' ++ cargs.map a.eval) F (n - 1) hF hS hl (by simpa using hfi.append hargs)
        have hrun : (execOp a.eval o).run P w = .ok (.round l' f0 tmps as_ body) w := by
          simp only [execOp, ho, Sem.run_bind, hres, Result.andThen_ok, invoke, e1]
        rw [hrun]
        refine ⟨fun h => (by rw [hF.2.1] at h; cases h), e2.mono ?_⟩
        rintro e' w' ⟨v', M', rfl, q1, q2, q3⟩
        exact hn v' w' M' q1 q2 q3
      | other hny =>
        cases fn0 with
        | func g =>
          simp only [FnGood] at hg
          by_cases hbody : HasBody P g
          rotate_left
          · obtain ⟨v', w', M', e1, q1, q2, q3⟩ := hg.2 hbody M w (fi' ++ cargs.map a.eval ++ ca') hS (by simpa using (hfi.append hargs).append hca)
            have hrun : (execOp a.eval o).run P w = .ok (.value v') w' := by
              simp only [execOp, ho, Sem.run_bind, hres, Result.andThen_ok, invoke, e1]
            rw [hrun]
            exact hn v' w' M' q1 q2 q3
          replace hg := hg.1 hbody
          obtain ⟨⟨fd, cd, hfd, hcd, hnm⟩, e2⟩ := hg M w (fi' ++ cargs.map a.eval ++ ca') F (n - 1) hF hS (by simpa using (hfi.append hargs).append hca)
          have hrun : (execOp a.eval o).run P w = .ok (.enter g (fi' ++ cargs.map a.eval ++ ca')) w := by
            simp only [execOp, ho, Sem.run_bind, hres, Result.andThen_ok, invoke, callFunc, run_program, hfd, beq_iff_eq, hnm, if_false, hcd, Option.isNone_some, Bool.false_eq_true, Sem.run_pure, Sem.run_ite]
          rw [hrun]
          refine ⟨fun h => (by rw [hF.2.1] at h; cases h), e2.mono ?_⟩
          rintro e' w' ⟨v', M', rfl, q1, q2, q3⟩
          exact hn v' w' M' q1 q2 q3
        | yield l => exact absurd rfl (hny l)
        | method m => exact hg.elim
        | methodOf t m => exact hg.elim
        | via t p f b => exact hg.elim
    · cases hcal

theorem load_pop {e : Env} {s : St} {o : Oper} {D : Option Drw} {k : Nat} {v : Value} {s1 : St} (hp : pop P w0.heap.size (ev e) s o.op = some (v, s1)) (hL : Lok D k (ev e) o.op) : LiteOk P w0 D k o e s v s1 := by
  unfold LiteOk
  cases D with
  | none => trivial
  | some d =>
    intro hl hil
    cases hop : o.op with
    | load t a =>
      rw [hop] at hp hL
      simp only [Lok] at hL
      have hL := hL hl
      simp only [pop] at hp
      obtain ⟨hld, hs⟩ := ret1_some hp
      cases hx : ev e a with
      | pointer x =>
        rw [hx] at hL hld
        cases x with
        | none => exact hL.elim
        | some ad =>
          refine ⟨hs, ad.block, hL.1, hL.2, fun s2 h2 => op_plain_good o (by rw [hop]; rfl) ?_⟩
          rw [hop]
          simp only [pop, hx]
          have : loadV P w0.heap.size s2 t (.pointer (some ad)) = some v := by
            rw [← hld]
            simp only [loadV, ptrV, ldVar, ld1, ldN, h2]
          rw [this]; rfl
      | _ => rw [hx] at hL; exact hL.elim
    | _ => rw [hop] at hil; cases hil
theorem quiet_pop {base : Nat} {ρ : Operand → Value} {s : St} {o : Oper} (hl : loudO o = false) (hc : isCall o.op = false) {v : Value} {s1 : St} (hp : pop P base ρ s o.op = some (v, s1)) : s1 = s ∧ ∀ s2, pop P base ρ s2 o.op = some (v, s2) := by
  obtain ⟨dst, op, type, pos, after, guard⟩ := o
  have r1 : ∀ {x : Option Value}, ret1 x s = some (v, s1) → s1 = s ∧ ∀ s2, ret1 x s2 = some (v, s2) := fun hx => by
    obtain ⟨rfl, rfl⟩ := ret1_some hx; exact ⟨rfl, fun _ => rfl⟩
  cases op with
  | move x => simp only [pop, Option.some.injEq, Prod.mk.injEq] at hp ⊢; exact ⟨hp.2.symm, fun _ => ⟨hp.1, trivial⟩⟩
  | assign x => simp only [pop, Option.some.injEq, Prod.mk.injEq] at hp ⊢; exact ⟨hp.2.symm, fun _ => ⟨hp.1, trivial⟩⟩
  | pick c a b => exact r1 hp
  | build t ps => exact r1 hp
  | nilCheck x => exact r1 hp
  | binOp bo t x y u => exact r1 hp
  | unOp uo t x => exact r1 hp
  | makeInterface t x => exact r1 hp
  | makeFunc fn fi ca => exact r1 hp
  | fieldAddr t x f => exact r1 hp
  | field t x f => exact r1 hp
  | indexAddr t x i => exact r1 hp
  | index t x i => exact r1 hp
  | extract x i => exact r1 hp
  | call c =>
    obtain ⟨callee, args, ats⟩ := c
    cases callee with
    | builtin b =>
      simp only [pop] at hp ⊢
      cases b <;> simp [loudO] at hl <;> exact r1 hp
    | value f => simp [isCall, Callee.isB] at hc
    | invoke r m => simp [isCall, Callee.isB] at hc
  | _ => first | (simp [loudO] at hl; done) | cases hp
end
end Go.Ab
/- The simulation: a map cut at a time; regions whose order is drawn. -/
set_option linter.unusedVariables false
set_option linter.unusedSimpArgs false
namespace Go.Ab
open Go Go.RowKit

section
variable {P : Program} {w0 : World} {M : Mp} {s : St} {w : World} {G : Nat}

/-! ### Operations in order -/
theorem plain_ops {F : Fence} {n : Nat} {all : Array Oper} {D : Option Drw} {N : Nat} {e' : Env} {s' : St} {Q : Exit → Act → World → Prop} (hF : Fwide F) (hG : G ≤ w0.heap.size) (hok : ∀ o ∈ all.toList, operOk G N o = true) :
    ∀ (l : List Oper) (k : Nat) (e : Env) (s : St) (M : Mp) (w : World) (a : Act), Tr P w0 all D k l e s e' s' → l = all.toList.drop k → Sm w0 M s w → ER M e a.tmps → a.tmps.size = N →
      (∀ a' w' M', Gr M s w M' s' w' → Sm w0 M' s' w' → ER M' e' a'.tmps → a'.tmps.size = N → a'.defers = a.defers → Q .normal a' w') → wpOpsIn F n P all Q (List.range' k l.length) a w := by
  intro l
  induction l with
  | nil =>
    intro k e s M w a hT hl hS hE hN hQ
    obtain ⟨rfl, rfl⟩ := hT
    exact hQ a w M (.refl M _ w) hS hE hN rfl
  | cons o l ih =>
    intro k e s M w a hT hl hS hE hN hQ
    have hk : all[k]? = some o := by
      have : (all.toList.drop k)[0]? = some o := by rw [← hl]; rfl
      simpa using this
    have hl' : l = all.toList.drop (k + 1) := by
      have : (all.toList.drop k).tail = l := by rw [← hl]; rfl
      rw [← this, List.tail_drop]
    have hmem : o ∈ all.toList := by have := Array.mem_of_getElem? hk; simpa using this
    obtain ⟨hdst, hopd⟩ := oper_ok (hok o hmem)
    rw [List.length_cons, List.range'_succ, wpOpsIn_cons, wpOpIn, hk]
    simp only
    rcases hT with ⟨j, g, b, h1, h2, h3, hT⟩ | ⟨v, s1, h1, hop, _, _, _, hT⟩
    · have hy := guard_sim (G := G) hE (fun o ho => by rw [hN]; exact hok o ho) h2
      rw [if_neg (by simp only [Region.wanted, h1, hy]; simp [h3])]
      refine ⟨fun f _ => hF.1 f, ih (k + 1) _ s M w _ hT hl' hS ?_ ?_ ?_⟩
      · exact hE.act (VR_undef M) o.dst
      · rw [act_size]; exact hN
      · intro a' w' M' q1 q2 q3 q4 q5
        exact hQ a' w' M' q1 q2 q3 q4 (by rw [q5, act_defers])
    · rw [if_pos (by
        unfold Region.wanted
        cases hg : o.guard with
        | none => rfl
        | some jg =>
          obtain ⟨j, g⟩ := jg
          simp only [guard_sim (G := G) hE (fun o ho => by rw [hN]; exact hok o ho) (h1 j g hg), beq_self_eq_true])]
      refine hop M w a F n hF hS (fun x hx => ev_VR hS hG hE (by rw [hN]; exact hopd x hx)) _ _ fun v' w' M' q1 q2 q3 => ?_
      refine ih (k + 1) _ s1 M' w' _ hT hl' q2 ((hE.mono q1.le).act q3 o.dst) (by rw [act_size]; exact hN) ?_
      intro a'' w'' M'' r1 r2 r3 r4 r5
      exact hQ a'' w'' M'' (q1.trans r1) r2 r3 r4 (by rw [r5, act_defers])

/-! ### What was related stays so -/
theorem VR.back {M M' : Mp} (hm : Mle M M') {v v1 : Value} (h : VR M v v1) : ∀ {v2}, VR M' v v2 → VR M v v2 := by
  have elems : ∀ {c c1 c2 : Array Value}, c.size = c1.size → (∀ (i : Nat) v v', c[i]? = some v → c1[i]? = some v' → ∀ {v2}, VR M' v v2 → VR M v v2) →
      (∀ (i : Nat) v v', c[i]? = some v → c2[i]? = some v' → VR M' v v') → ∀ (i : Nat) v v', c[i]? = some v → c2[i]? = some v' → VR M v v' := fun s1 ih h2 i v v' hv hv' => by
    obtain ⟨u, hu⟩ : ∃ u, _[i]? = some u := ⟨_, Array.getElem?_eq_getElem (by rw [← s1]; exact (Array.getElem?_eq_some_iff.1 hv).1)⟩
    exact ih i v u hv hu (h2 i v v' hv hv')
  induction h with
  | bool => intro v2 h2; cases h2; exact .bool _
  | int => intro v2 h2; cases h2; exact .int _ _
  | float => intro v2 h2; cases h2; exact .float _ _
  | complex => intro v2 h2; cases h2; exact .complex _ _ _
  | str => intro v2 h2; cases h2; exact .str _
  | ptrN => intro v2 h2; cases h2; exact .ptrN
  | ptr h =>
    intro v2 h2
    cases h2 with
    | ptr h2 =>
      obtain ⟨B, d, e1, _⟩ := h
      obtain ⟨B2, d2, e3, e4⟩ := h2
      have := hm.blk _ _ e1
      rw [this] at e3; cases e3
      exact .ptr ⟨B, d, e1, e4⟩
  | sliN l c => intro v2 h2; cases h2; exact .sliN _ _
  | sli0 a a' h =>
    intro v2 h2
    cases h2 with
    | sli0 => exact .sli0 _ _ h
    | sli h2 hx2 =>
      obtain ⟨B2, d2, e3, rfl⟩ := h2
      have e1 := h
      have := hm.blk _ _ e1
      rw [this] at e3; cases e3
      refine .sli ⟨B2, d2, e1, rfl⟩ ?_
      rcases hx2 with hx2 | ⟨z, h1, h2, h3⟩
      · exact .inl hx2
      · have hgr := hm.gr _ _ e1
        have hsz := hm.sz _ _ e1
        exact .inr ⟨z, by rw [← hgr]; exact h1, h2, by simp only at hsz h3 ⊢; rw [← hsz]; exact h3⟩
  | @sli a a' len cap cap' h hx =>
    intro v2 h2
    cases h2 with
    | sli0 => exact .sli0 _ _ h.choose_spec.choose_spec.1
    | sli h2 hx2 =>
      obtain ⟨B, d, e1, _⟩ := h
      obtain ⟨B2, d2, e3, rfl⟩ := h2
      have := hm.blk _ _ e1
      rw [this] at e3; cases e3
      refine .sli ⟨B, d, e1, rfl⟩ ?_
      rcases hx2 with hx2 | ⟨z, h1, h2, h3⟩
      · exact .inl hx2
      · have hgr := hm.gr _ _ e1
        have hsz := hm.sz _ _ e1
        exact .inr ⟨z, by rw [← hgr]; exact h1, h2, by simp only at hsz h3 ⊢; rw [← hsz]; exact h3⟩
  | mapN => intro v2 h2; cases h2; exact .mapN
  | map h =>
    intro v2 h2
    cases h2 with
    | map h2 =>
      have := hm.blk _ _ h
      rw [this] at h2; cases h2
      exact .map h
  | chanN => intro v2 h2; cases h2; exact .chanN
  | funcN => intro v2 h2; cases h2; exact .funcN
  | ifaceN => intro v2 h2; cases h2; exact .ifaceN
  | func h s1 _ s2 _ ih1 ih2 =>
    intro v2 h2
    cases h2 with
    | func g t1 k1 t2 k2 =>
      refine .func ?_ t1 (elems s1 ih1 k1) t2 (elems s2 ih2 k2)
      cases h with
      | yield h =>
        cases g with
        | yield g =>
          have := hm.blk _ _ h
          rw [this] at g; cases g
          exact .yield h
        | other g => exact absurd rfl (g _)
      | other h =>
        cases g with
        | yield g => exact absurd rfl (h _)
        | other g => exact .other g
  | iface t _ ih =>
    intro v2 h2
    cases h2 with
    | iface _ h2 => exact .iface t (ih h2)
  | agg s1 _ o ih =>
    intro v2 h2
    cases h2 with
    | agg t1 k1 _ => exact .agg t1 (elems s1 ih k1) o
  | tuple s1 _ ih =>
    intro v2 h2
    cases h2 with
    | tuple t1 k1 => exact .tuple t1 (elems s1 ih k1)

theorem OR.back {G0 : Nat} {M M' : Mp} (hm : Mle M M') {b : Nat} {x : Nat × Nat} (hb : M.blk b = some x) {a : AObj} {o o2 : Obj} (h : OR G0 M b x a o) (h2 : OR G0 M' b x a o2) : OR G0 M b x a o2 := by
  have row : ∀ c, RowR M x c o → RowR M' x c o2 → RowR M x c o2 := by
    rintro c ⟨C, t, rfl, hs, hc⟩ ⟨C2, t2, rfl, hs2, hc2⟩
    refine ⟨C2, t2, rfl, by rw [hs2, hm.sz _ _ hb], fun i v hv => ?_⟩
    obtain ⟨h1, v1, _, h3⟩ := hc i v hv
    obtain ⟨_, v2, g2, g3⟩ := hc2 i v hv
    exact ⟨h1, v2, g2, h3.back hm g3⟩
  cases a with
  | row c => exact ⟨h.1, row _ h.2 h2.2⟩
  | grown c z => exact ⟨h.1, row _ h.2 h2.2⟩
  | iter s p => exact h2
  | loop r =>
    obtain ⟨h0, R, G, rfl, hR, hG, hz⟩ := h
    obtain ⟨_, R2, G2, rfl, hR2, hG2, hz2⟩ := h2
    refine ⟨h0, R2, G2, rfl, ⟨fun t ht => (hR.env t ?_).back hm (hR2.env t ht), hR2.params, hR2.assign, hR2.body, hR2.state, hR2.pending, hR2.okA, hR2.okB, hR2.okP, hR2.rfA, hR2.rfB⟩, hG2, by rw [hz2, hm.sz _ _ hb]⟩
    rw [hz, ← hm.sz _ _ hb, ← hz2]; exact ht
  | map _ => exact h.elim
  | gone => trivial

/-! ### A map cut at a time -/
def Mp.cut (M : Mp) (n : Nat) : Mp := ⟨fun b => if b < n then M.blk b else none, M.gr, M.sz⟩
theorem Mp.cut_some {n b : Nat} {x : Nat × Nat} : (M.cut n).blk b = some x ↔ b < n ∧ M.blk b = some x := by
  simp only [Mp.cut]; split <;> simp [*]
theorem Mp.cut_le {n m : Nat} (h : n ≤ m) : Mle (M.cut n) (M.cut m) :=
  ⟨fun b x hb => by rw [Mp.cut_some] at *; exact ⟨by omega, hb.2⟩, fun _ _ _ => rfl, fun _ _ _ => rfl⟩
theorem Mp.cut_all {n : Nat} (h : ∀ b x, M.blk b = some x → b < n) : M.cut n = M := by
  have : (M.cut n).blk = M.blk := funext fun b => by
    simp only [Mp.cut]
    split
    · rfl
    · cases hb : M.blk b with
      | none => rfl
      | some x => exact absurd (h b x hb) (by assumption)
  cases M; simp only [Mp.cut] at this ⊢; rw [this]
theorem Sm.blk_lt (h : Sm w0 M s w) {b : Nat} {x : Nat × Nat} (hb : M.blk b = some x) : b < s.next := by
  by_cases hlt : b < w0.heap.size
  · have := h.nxt; omega
  · exact (h.new b x hb (by omega)).1
theorem Sm.mild {s' : St} (h : Sm w0 M s w) (hm : Mild s s') : Sm w0 M s' w := by
  have hh : ∀ b x, M.blk b = some x → s'.heap b = s.heap b := fun b x hb => hm.heap b (h.blk_lt hb)
  refine ⟨h.below, Nat.le_trans h.nxt hm.next, h.old, fun b hb => ?_, fun b x hb hge => ?_, fun b b' x x' h1 h2 h3 h4 h5 h6 h7 => ?_⟩
  · rw [hm.heap b (Nat.lt_of_lt_of_le hb h.nxt)]; exact h.olds b hb
  · obtain ⟨g1, g2, o, g3, g4⟩ := h.new b x hb hge
    exact ⟨Nat.lt_of_lt_of_le g1 hm.next, g2, o, g3, by rw [hh b x hb]; exact g4⟩
  · rw [hh b x h3] at h6; rw [hh b' x' h4] at h7
    exact h.inj b b' x x' h1 h2 h3 h4 h5 h6 h7
theorem Gr.mild {M' : Mp} {s' s'' : St} {w' : World} (h : Gr M s w M' s' w') (hS : Sm w0 M' s' w') (hm : Mild s' s'') : Gr M s w M' s'' w' :=
  ⟨h.le, Nat.le_trans h.nxt hm.next, h.dom, h.img, fun b x hb hg => h.live b x hb (by rw [hm.heap b (hS.blk_lt hb)] at hg; exact hg), h.fr, h.size⟩

/-- A step that was made ahead of others, or behind them. -/
theorem absorb {ss : Nat → St} {lo hi p p' : Nat} {Mf M' M0 : Mp} {w' wi : World} {si : St}
    (hSm : ∀ j, lo ≤ j → j ≤ hi → Sm w0 (Mf.cut (ss j).next) (ss j) w) (hmild : ∀ i j, lo ≤ i → i ≤ j → j ≤ hi → Mild (ss i) (ss j))
    (h1 : lo ≤ p) (h2 : p ≤ p') (h3 : p' ≤ hi) (h4 : p' ≤ p + 1) (hfree : ∀ b, (ss p).next ≤ b → b < (ss p').next → Mf.blk b = none) (hdom : ∀ b x, Mf.blk b = some x → b < (ss hi).next)
    (hg : Gr (Mf.cut (ss p).next) (ss p) w M' (ss p') w') (hS' : Sm w0 M' (ss p') w') (hG0 : Gr M0 si wi Mf (ss hi) w) (hi0 : si.next ≤ (ss p).next) :
    ∃ Mf', (∀ j, lo ≤ j → j ≤ hi → Mle (Mf.cut (ss j).next) (Mf'.cut (ss j).next)) ∧ Mle M' (Mf'.cut (ss p').next) ∧ (∀ j, lo ≤ j → j ≤ hi → Sm w0 (Mf'.cut (ss j).next) (ss j) w') ∧
      Gr M0 si wi Mf' (ss hi) w' ∧ (∀ b x, Mf'.blk b = some x → Mf.blk b = some x ∨ ((ss p).next ≤ b ∧ b < (ss p').next)) := by
  have hn0 : (ss p).next ≤ (ss p').next := (hmild p p' h1 h2 h3).next
  have hnh : (ss p').next ≤ (ss hi).next := (hmild p' hi (by omega) h3 (Nat.le_refl _)).next
  have hpS := hSm p h1 (by omega)
  have hhS := hSm hi (by omega) (Nat.le_refl _)
  have hag : ∀ b x, b < (ss p).next → (M'.blk b = some x ↔ Mf.blk b = some x) := fun b x hb => by
    constructor
    · intro h; exact (Mp.cut_some.1 (hg.dom b x h hb)).2
    · intro h; exact hg.le.blk b x (Mp.cut_some.2 ⟨hb, h⟩)
  have him : ∀ b x, Mf.blk b = some x → x.1 < w.heap.size := fun b x hb => hhS.img_lt (Mp.cut_some.2 ⟨hdom b x hb, hb⟩)
  have hM'lt : ∀ b x, M'.blk b = some x → b < (ss p').next := fun b x hb => hS'.blk_lt hb
  have hMf : ∀ b x, Mf.blk b = some x → b < (ss p').next → b < (ss p).next := fun b x hb hlt => by
    rcases Nat.lt_or_ge b (ss p).next with h | h
    · exact h
    · rw [hfree b h hlt] at hb; cases hb
  obtain ⟨Mf', rfl⟩ : ∃ Mf' : Mp, Mf' = ⟨fun b => if b < (ss p').next then M'.blk b else Mf.blk b, fun b => if b < (ss p').next then M'.gr b else Mf.gr b, fun B => if B < w.heap.size then Mf.sz B else M'.sz B⟩ := ⟨_, rfl⟩
  have hle0 : Mle Mf ⟨fun b => if b < (ss p').next then M'.blk b else Mf.blk b, fun b => if b < (ss p').next then M'.gr b else Mf.gr b, fun B => if B < w.heap.size then Mf.sz B else M'.sz B⟩ := by
    refine ⟨fun b x hb => ?_, fun b x hb => ?_, fun b x hb => ?_⟩
    · simp only
      split
      · rename_i hlt; exact (hag b x (hMf b x hb hlt)).2 hb
      · exact hb
    · simp only
      split
      · rename_i hlt; exact hg.le.gr b x (Mp.cut_some.2 ⟨hMf b x hb hlt, hb⟩)
      · rfl
    · simp only [him b x hb, if_true]
  have hle1 : Mle M' ⟨fun b => if b < (ss p').next then M'.blk b else Mf.blk b, fun b => if b < (ss p').next then M'.gr b else Mf.gr b, fun B => if B < w.heap.size then Mf.sz B else M'.sz B⟩ := by
    refine ⟨fun b x hb => ?_, fun b x hb => ?_, fun b x hb => ?_⟩
    · simp only [hM'lt b x hb, if_true]; exact hb
    · simp only [hM'lt b x hb, if_true]
    · simp only
      split
      · rename_i hlt
        rcases hg.img b x hb with ⟨b', x', q1, q2⟩ | q
        · have := hg.le.sz b' x' q1
          rw [q2] at this
          exact this.symm
        · omega
      · rfl
  generalize hMd : (⟨fun b => if b < (ss p').next then M'.blk b else Mf.blk b, fun b => if b < (ss p').next then M'.gr b else Mf.gr b, fun B => if B < w.heap.size then Mf.sz B else M'.sz B⟩ : Mp) = Mf' at hle0 hle1
  have hbl : ∀ b, b < (ss p').next → Mf'.blk b = M'.blk b := fun b hb => by rw [← hMd]; simp only [hb, if_true]
  have hbg : ∀ b, (ss p').next ≤ b → Mf'.blk b = Mf.blk b := fun b hb => by rw [← hMd]; simp only [show ¬ b < (ss p').next by omega, if_false]
  have cutle : ∀ {A B : Mp} (n : Nat), Mle A B → Mle (A.cut n) (B.cut n) := fun {A B} n h =>
    ⟨fun b x hb => by rw [Mp.cut_some] at *; exact ⟨hb.1, h.blk _ _ hb.2⟩, fun b x hb => h.gr b x (Mp.cut_some.1 hb).2, fun b x hb => h.sz b x (Mp.cut_some.1 hb).2⟩
  have hle : ∀ j, lo ≤ j → j ≤ hi → Mle (Mf.cut (ss j).next) (Mf'.cut (ss j).next) := fun j _ _ => cutle _ hle0
  have hleM : Mle M' (Mf'.cut (ss p').next) :=
    ⟨fun b x hb => Mp.cut_some.2 ⟨hM'lt b x hb, hle1.blk b x hb⟩, hle1.gr, hle1.sz⟩
  have hheap : ∀ j, lo ≤ j → j ≤ hi → ∀ b, b < (ss j).next → b < (ss p').next → (ss p').heap b = (ss j).heap b := fun j j1 j2 b b1 b2 => by
    by_cases hj : p' ≤ j
    · exact ((hmild p' j (by omega) hj j2).heap b b2).symm
    · exact (hmild j p' j1 (by omega) h3).heap b b1
  have hback : ∀ b x, Mf'.blk b = some x → Mf.blk b = some x ∨ ((ss p).next ≤ b ∧ b < (ss p').next) := fun b x hb => by
    rcases Nat.lt_or_ge b (ss p').next with h | h
    · rw [hbl b h] at hb
      rcases Nat.lt_or_ge b (ss p).next with h' | h'
      · exact .inl ((hag b x h').1 hb)
      · exact .inr ⟨h', h⟩
    · rw [hbg b h] at hb; exact .inl hb
  have hoth : ∀ j, lo ≤ j → j ≤ hi → p ≤ j → ∀ b b' x x', w0.heap.size ≤ b → (Mf.cut (ss j).next).blk b = some x → goneB ((ss j).heap b) = false → (ss p).next ≤ b → (Mf.cut (ss p).next).blk b' = some x' → goneB ((ss p).heap b') = false → x'.1 ≠ x.1 := fun j j1 j2 jp b b' x x' hge hb hg1 hbp hb' hg2 hx => by
    obtain ⟨hb'1, hb'2⟩ := Mp.cut_some.1 hb'
    have hb'j : b' < (ss j).next := Nat.lt_of_lt_of_le hb'1 (hmild p j h1 jp j2).next
    have hgj : goneB ((ss j).heap b') = false := by rw [(hmild p j h1 jp j2).heap b' hb'1]; exact hg2
    rcases Nat.lt_or_ge b' w0.heap.size with ho | ho
    · have := (hpS.old b' ho).1
      rw [hb'] at this; cases this
      have := ((hSm j j1 j2).new b x hb hge).2.1
      simp only at hx; omega
    · have := (hSm j j1 j2).inj b' b x' x ho hge (Mp.cut_some.2 ⟨hb'j, hb'2⟩) hb hx hgj hg1
      omega
  refine ⟨Mf', hle, hleM, fun j j1 j2 => ?_, ?_, hback⟩
  · have hjS := hSm j j1 j2
    refine ⟨hS'.below, hjS.nxt, fun b hb => ?_, hjS.olds, fun b x hb hge => ?_, fun b b' x x' g1 g2 g3 g4 g5 g6 g7 => ?_⟩
    · have := hjS.old b hb
      exact ⟨(hle j j1 j2).blk _ _ this.1, by rw [(hle j j1 j2).gr _ _ this.1]; exact this.2⟩
    · obtain ⟨hbj, hbM⟩ := Mp.cut_some.1 hb
      rcases Nat.lt_or_ge b (ss p').next with hbp | hbp
      · have hb' : M'.blk b = some x := by rw [← hbl b hbp]; exact hbM
        obtain ⟨_, q2, o, q3, q4⟩ := hS'.new b x hb' hge
        rw [hheap j j1 j2 b hbj hbp] at q4
        refine ⟨hbj, q2, o, q3, ?_⟩
        by_cases hj : p' ≤ j
        · exact q4.mono (hleM.trans (Mp.cut_le (hmild p' j (by omega) hj j2).next)) hb'
        · have hjp : j ≤ p := by omega
          have hbf : Mf.blk b = some x := (hag b x (Nat.lt_of_lt_of_le hbj (hmild j p j1 hjp (by omega)).next)).1 hb'
          have hbc : (Mf.cut (ss j).next).blk b = some x := Mp.cut_some.2 ⟨hbj, hbf⟩
          obtain ⟨_, _, o1, _, r4⟩ := hjS.new b x hbc hge
          exact (r4.back ((Mp.cut_le (hmild j p j1 hjp (by omega)).next).trans hg.le) hbc q4).mono (hle j j1 j2) hbc
      · have hbf : Mf.blk b = some x := by rw [← hbg b hbp]; exact hbM
        have hbc : (Mf.cut (ss j).next).blk b = some x := Mp.cut_some.2 ⟨hbj, hbf⟩
        obtain ⟨_, q2, o, q3, q4⟩ := hjS.new b x hbc hge
        have hlt : x.1 < w.heap.size := (Array.getElem?_eq_some_iff.1 q3).1
        refine ⟨hbj, q2, ?_⟩
        have hpj : p ≤ j := by
          by_cases hj : p ≤ j
          · exact hj
          · have := (hmild j p j1 (by omega) (by omega)).next; omega
        cases hgn : goneB ((ss j).heap b) with
        | true =>
          have hlt' : x.1 < w'.heap.size := Nat.lt_of_lt_of_le hlt hg.size
          refine ⟨_, Array.getElem?_eq_getElem hlt', ?_⟩
          cases hh : (ss j).heap b <;> first | trivial | (rw [hh] at hgn; simp [goneB] at hgn)
        | false =>
          refine ⟨o, ?_, q4.mono (hle j j1 j2) hbc⟩
          rw [hg.fr x.1 hlt fun b' x' r1 r2 => hoth j j1 j2 hpj b b' x x' hge hbc hgn (by omega) r1 r2]
          exact q3
    · obtain ⟨a1, a2⟩ := Mp.cut_some.1 g3
      obtain ⟨c1, c2⟩ := Mp.cut_some.1 g4
      have mix : ∀ b b' x x', w0.heap.size ≤ b → w0.heap.size ≤ b' → b < (ss j).next → Mf'.blk b = some x → b' < (ss j).next → Mf'.blk b' = some x' → x.1 = x'.1 → goneB ((ss j).heap b) = false → goneB ((ss j).heap b') = false → b < (ss p').next → (ss p').next ≤ b' → b = b' := fun b b' x x' g1 g2 a1 a2 c1 c2 g5 g6 g7 e1 e2 => by
        rw [hbg b' e2] at c2
        have hbc : (Mf.cut (ss j).next).blk b' = some x' := Mp.cut_some.2 ⟨c1, c2⟩
        rcases hback b x a2 with hbf | ⟨hbp, _⟩
        · exact hjS.inj b b' x x' g1 g2 (Mp.cut_some.2 ⟨a1, hbf⟩) hbc g5 g6 g7
        · exfalso
          have hpj : p ≤ j := by
            by_cases hj : p ≤ j
            · exact hj
            · have := (hmild j p j1 (by omega) (by omega)).next; omega
          rw [hbl b e1] at a2
          rcases hg.live b x a2 (by rw [hheap j j1 j2 b a1 e1]; exact g6) with ⟨b2, x2, r1, r2, r3⟩ | r
          · exact hoth j j1 j2 hpj b' b2 x' x2 g2 hbc g7 (by omega) r1 r2 (r3.trans g5)
          · have := him b' x' c2; omega
      rcases Nat.lt_or_ge b (ss p').next with e1 | e1 <;> rcases Nat.lt_or_ge b' (ss p').next with e2 | e2
      · rw [hbl b e1] at a2; rw [hbl b' e2] at c2
        exact hS'.inj b b' x x' g1 g2 a2 c2 g5 (by rw [hheap j j1 j2 b a1 e1]; exact g6) (by rw [hheap j j1 j2 b' c1 e2]; exact g7)
      · exact mix b b' x x' g1 g2 a1 a2 c1 c2 g5 g6 g7 e1 e2
      · exact (mix b' b x' x g2 g1 c1 c2 a1 a2 g5.symm g7 g6 e2 e1).symm
      · rw [hbg b e1] at a2; rw [hbg b' e2] at c2
        exact hjS.inj b b' x x' g1 g2 (Mp.cut_some.2 ⟨a1, a2⟩) (Mp.cut_some.2 ⟨c1, c2⟩) g5 g6 g7
  · have hsz := hG0.size
    have live0 : ∀ b x, (Mf.cut (ss p).next).blk b = some x → goneB ((ss p).heap b) = false → (∃ b' x', M0.blk b' = some x' ∧ goneB (si.heap b') = false ∧ x'.1 = x.1) ∨ wi.heap.size ≤ x.1 := fun b x hb hgn => by
      obtain ⟨q1, q2⟩ := Mp.cut_some.1 hb
      exact hG0.live b x q2 (by rw [(hmild p hi h1 (by omega) (Nat.le_refl _)).heap b q1]; exact hgn)
    refine ⟨hG0.le.trans hle0, hG0.nxt, fun b x hb hlt => ?_, fun b x hb => ?_, fun b x hb hgn => ?_, fun B hB hn => ?_, Nat.le_trans hsz hg.size⟩
    · rcases hback b x hb with hbf | ⟨h, _⟩
      · exact hG0.dom b x hbf hlt
      · omega
    · rcases hback b x hb with hbf | ⟨h, h'⟩
      · exact hG0.img b x hbf
      · rw [hbl b h'] at hb
        rcases hg.img b x hb with ⟨b', x', q1, q2⟩ | q
        · rcases hG0.img b' x' (Mp.cut_some.1 q1).2 with ⟨b2, x2, r1, r2⟩ | r
          · exact .inl ⟨b2, x2, r1, r2.trans q2⟩
          · exact .inr (by omega)
        · exact .inr (by omega)
    · rcases hback b x hb with hbf | ⟨h, h'⟩
      · exact hG0.live b x hbf hgn
      · rw [hbl b h'] at hb
        rw [(hmild p' hi (by omega) h3 (Nat.le_refl _)).heap b h'] at hgn
        rcases hg.live b x hb hgn with ⟨b', x', q1, q2, q3⟩ | q
        · rcases live0 b' x' q1 q2 with ⟨b2, x2, r1, r2, r3⟩ | r
          · exact .inl ⟨b2, x2, r1, r2, r3.trans q3⟩
          · exact .inr (by omega)
        · exact .inr (by omega)
    · rw [hg.fr B (by omega) fun b x hb hgn => ?_, hG0.fr B hB hn]
      rcases live0 b x hb hgn with ⟨b2, x2, r1, r2, r3⟩ | r
      · exact r3 ▸ hn b2 x2 r1 r2
      · omega
end
end Go.Ab
/- The simulation: regions whose order is drawn, all orders. -/
set_option linter.unusedVariables false
set_option linter.unusedSimpArgs false
namespace Go.Ab
open Go Go.RowKit

section
variable {P : Program} {w0 : World} {G : Nat}

/-! ### The steps, as a family -/
def StepAt (P : Program) (w0 : World) (all : Array Oper) (D : Option Drw) (k : Nat) (o : Oper) (e : Env) (s : St) (v : Value) (e1 : Env) (s1 : St) : Prop :=
  e1 = Ab.put e o.dst v ∧ ((∃ j g b, o.guard = some (j, g) ∧ guardV all e j = some b ∧ b ≠ some g ∧ v = undef ∧ s1 = s) ∨
   ((∀ j g, o.guard = some (j, g) → guardV all e j = some (some g)) ∧ OpGood P w0 o e s v s1 ∧ Dok D k s s1 ∧ (loudO o = false → s1 = s ∧ ∀ s2, OpGood P w0 o e s2 v s2) ∧ LiteOk P w0 D k o e s v s1))

theorem Tr.fam {all : Array Oper} {D : Option Drw} {e' : Env} {s' : St} : ∀ (l : List Oper) (k : Nat) (e : Env) (s : St), Tr P w0 all D k l e s e' s' →
    ∃ (es : Nat → Env) (ss : Nat → St) (vs : Nat → Value), es k = e ∧ ss k = s ∧ es (k + l.length) = e' ∧ ss (k + l.length) = s' ∧
      ∀ i o, l[i]? = some o → StepAt P w0 all D (k + i) o (es (k + i)) (ss (k + i)) (vs (k + i)) (es (k + i + 1)) (ss (k + i + 1)) := by
  intro l
  induction l with
  | nil =>
    intro k e s h
    obtain ⟨rfl, rfl⟩ := h
    exact ⟨fun _ => e', fun _ => s', fun _ => undef, rfl, rfl, rfl, rfl, fun i o h => by simp at h⟩
  | cons o l ih =>
    intro k e s h
    obtain ⟨v, s1, h1, h2⟩ : ∃ v s1, StepAt P w0 all D k o e s v (Ab.put e o.dst v) s1 ∧ Tr P w0 all D (k + 1) l (Ab.put e o.dst v) s1 e' s' := by
      rcases h with ⟨j, g, b, h1, h2, h3, hT⟩ | ⟨v, s1, h1, hop, hD, hq, hli, hT⟩
      · exact ⟨undef, s, ⟨rfl, .inl ⟨j, g, b, h1, h2, h3, rfl, rfl⟩⟩, hT⟩
      · exact ⟨v, s1, ⟨rfl, .inr ⟨h1, hop, hD, hq, hli⟩⟩, hT⟩
    obtain ⟨es, ss, vs, a1, a2, a3, a4, a5⟩ := ih (k + 1) _ _ h2
    refine ⟨fun i => if i ≤ k then e else es i, fun i => if i ≤ k then s else ss i, fun i => if i ≤ k then v else vs i, by simp, by simp, ?_, ?_, fun i o' hi => ?_⟩
    · simp only [List.length_cons]; rw [if_neg (by omega), show k + (l.length + 1) = k + 1 + l.length by omega]; exact a3
    · simp only [List.length_cons]; rw [if_neg (by omega), show k + (l.length + 1) = k + 1 + l.length by omega]; exact a4
    · cases i with
      | zero =>
        simp at hi; subst hi
        simp only [Nat.add_zero, Nat.le_refl, if_true]
        rw [if_neg (by omega), if_neg (by omega), a1, a2]; exact h1
      | succ i =>
        have := a5 i o' (by simpa using hi)
        have e1 : ¬ k + (i + 1) ≤ k := by omega
        have e2 : ¬ k + (i + 1) + 1 ≤ k := by omega
        simp only [e1, e2, if_false]
        rw [show k + (i + 1) = k + 1 + i by omega]
        exact this

/-! ### A frame of which some operations are done -/
def dstAt (ops : Array Oper) (i : Nat) : Option Tmp := (ops[i]?).bind (·.dst)
def envS (ops : Array Oper) (vs : Nat → Value) (e : Env) (S : Nat → Bool) : Nat → Env
  | 0 => e
  | i + 1 => if S i = true then Ab.put (envS ops vs e S i) (dstAt ops i) (vs i) else envS ops vs e S i

theorem put_ne {e : Env} {d : Option Tmp} {v : Value} {t : Tmp} (h : d ≠ some t) : Ab.put e d v t = e t := by
  cases d with
  | none => rfl
  | some d => simp only [Ab.put]; rw [if_neg (fun e => h (by rw [e]))]
theorem put_eq {e : Env} {v : Value} {t : Tmp} : Ab.put e (some t) v t = v := by simp [Ab.put]
theorem put_comm' {e : Env} {d d' : Option Tmp} {v v' : Value} (h : ∀ t, d = some t → d' ≠ some t) : Ab.put (Ab.put e d v) d' v' = Ab.put (Ab.put e d' v') d v := by
  funext t
  by_cases h1 : d = some t
  · rw [put_ne (h t h1), h1, put_eq, put_eq]
  · by_cases h2 : d' = some t
    · rw [put_ne (d := d) h1, h2, put_eq, put_eq]
    · rw [put_ne h2, put_ne h1, put_ne h1, put_ne h2]

variable {ops : Array Oper} {vs : Nat → Value} {es : Nat → Env} {S : Nat → Bool}
theorem envS_low (hes : ∀ i o, ops[i]? = some o → es (i + 1) = Ab.put (es i) o.dst (vs i)) {t : Tmp} : ∀ m, m ≤ ops.size → (∀ i, i < m → dstAt ops i = some t → S i = true) → envS ops vs (es 0) S m t = es m t := by
  intro m
  induction m with
  | zero => intro _ _; rfl
  | succ m ih =>
    intro hm h
    have hi := ih (by omega) fun i hi => h i (by omega)
    have ho : ops[m]? = some ops[m] := Array.getElem?_eq_getElem (by omega)
    rw [hes m _ ho]
    have hd : dstAt ops m = ops[m].dst := by simp [dstAt, ho]
    simp only [envS]
    by_cases ht : ops[m].dst = some t
    · rw [if_pos (h m (by omega) (hd.trans ht)), hd, ht, put_eq, put_eq]
    · split
      · rw [hd, put_ne ht, put_ne ht]; exact hi
      · rw [put_ne ht]; exact hi
theorem envS_high {e : Env} {t : Tmp} {k : Nat} : ∀ m, k ≤ m → (∀ i, k ≤ i → i < m → dstAt ops i = some t → S i = false) → envS ops vs e S m t = envS ops vs e S k t := by
  intro m
  induction m with
  | zero => intro hk _; rw [show k = 0 by omega]
  | succ m ih =>
    intro hk h
    by_cases hkm : k = m + 1
    · rw [hkm]
    · have hi := ih (by omega) fun i h1 h2 => h i h1 (by omega)
      simp only [envS]
      split
      · rename_i hs
        rw [put_ne (fun hd => by rw [h m (by omega) (by omega) hd] at hs; cases hs)]; exact hi
      · exact hi
theorem envS_upd {e : Env} {S' : Nat → Bool} {k : Nat} (hk : S k = false) (hS : ∀ i, i ≠ k → S' i = S i) (hk' : S' k = true) (hd : ∀ i t, k < i → dstAt ops k = some t → dstAt ops i = some t → S i = false) : ∀ m, k < m → envS ops vs e S' m = Ab.put (envS ops vs e S m) (dstAt ops k) (vs k) := by
  have low : ∀ m, m ≤ k → envS ops vs e S' m = envS ops vs e S m := by
    intro m
    induction m with
    | zero => intro _; rfl
    | succ m ih => intro hm; simp only [envS, hS m (by omega), ih (by omega)]
  intro m
  induction m with
  | zero => intro h; omega
  | succ m ih =>
    intro hm
    by_cases hkm : m = k
    · subst hkm
      simp only [envS, hk', if_true, hk, Bool.false_eq_true, if_false, low m (Nat.le_refl _)]
    · have hi := ih (by omega)
      simp only [envS, hS m hkm]
      split
      · rename_i hs
        rw [hi]
        exact put_comm' fun t h1 h2 => by rw [hd m t (by omega) h1 h2] at hs; cases hs
      · exact hi

/-! ### What must be done ahead -/
def Pre (ops : Array Oper) (S : Nat → Bool) (j : Nat) : Prop := ∀ o, ops[j]? = some o → ∀ e ∈ o.after, Region.binds .any e = true → S e.on = true
theorem reach_S (hcl : ∀ j, S j = true → Pre ops S j) {i : Nat} : ∀ m j, Pre ops S j → reachB ops m j i = true → S i = true := by
  intro m
  induction m with
  | zero => intro j _ h; cases h
  | succ m ih =>
    intro j hj h
    simp only [reachB] at h
    cases ho : ops[j]? with
    | none => rw [ho] at h; simp at h
    | some o =>
      rw [ho] at h
      simp only [Option.map_some, Option.getD_some, List.any_eq_true, Bool.and_eq_true, Bool.or_eq_true, beq_iff_eq] at h
      obtain ⟨e, he, hb, h⟩ := h
      have hs := hj o ho e (by simpa using he) hb
      rcases h with h | h
      · rw [← h]; exact hs
      · exact ih e.on (hcl _ hs) h
def loudK (lite : Nat → Bool) (k : Nat) (o : Oper) : Bool := loudO o && !(lite k && isLoad o.op)
theorem draw_pair {eff lite : Nat → Bool} (h : drawOk ops eff lite = true) {i j : Nat} {a b : Oper} (hi : ops[i]? = some a) (hj : ops[j]? = some b) (hij : i < j) :
    (a.apart ops b = true ∨ reachB ops (ops.size + 1) j i = true) ∧ (loudK lite i a = true → loudK lite j b = true → (eff i = true ∨ eff j = true) → reachB ops (ops.size + 1) j i = true) := by
  simp only [drawOk, List.all_eq_true, List.mem_range] at h
  have hlt : j < ops.size := (Array.getElem?_eq_some_iff.1 hj).1
  have := h j hlt i hij
  rw [hi, hj] at this
  simp only [Bool.and_eq_true, Bool.or_eq_true] at this
  refine ⟨this.1, fun h1 h2 h3 => ?_⟩
  rcases this.2 with h | h
  · exfalso
    simp only [loudK, Bool.and_eq_true] at h1 h2
    rw [h1.1, h2.1, h1.2, h2.2] at h
    rcases h3 with h3 | h3 <;> rw [h3] at h <;> simp at h
  · exact h

def clip (lo hi j : Nat) : Nat := min (max j lo) hi
theorem next_wild (p : Nat → Prop) [DecidablePred p] (n : Nat) : ∀ d lo, lo + d = n → ∃ hi, lo ≤ hi ∧ hi ≤ n ∧ (∀ i, lo ≤ i → i < hi → ¬ p i) ∧ (hi = n ∨ p hi) := by
  intro d
  induction d with
  | zero => intro lo h; exact ⟨lo, Nat.le_refl _, by omega, fun i a b => by omega, .inl (by omega)⟩
  | succ d ih =>
    intro lo h
    by_cases hp : p lo
    · exact ⟨lo, Nat.le_refl _, by omega, fun i a b => by omega, .inr hp⟩
    · obtain ⟨hi, a, b, c, e⟩ := ih (lo + 1) (by omega)
      refine ⟨hi, by omega, b, fun i h1 h2 => ?_, e⟩
      by_cases hl : i = lo
      · rw [hl]; exact hp
      · exact c i (by omega) h2

/-! ### The frame and the heap while a region is under way -/
structure DI (w0 : World) (ops : Array Oper) (eff lite : Nat → Bool) (es : Nat → Env) (ss : Nat → St) (vs : Nat → Value) (M0 : Mp) (wi : World) (N : Nat) (dfr : List Deferred)
    (lo hi : Nat) (Mf : Mp) (S : Nat → Bool) (w : World) (a : Act) : Prop where
  lohi : lo ≤ hi
  hin : hi ≤ ops.size
  loud_lo : ∀ i o, ops[i]? = some o → loudK lite i o = true → i < lo → S i = true
  loud_hi : ∀ i o, ops[i]? = some o → loudK lite i o = true → hi ≤ i → S i = false
  mild : ∀ i j, lo ≤ i → i ≤ j → j ≤ hi → Mild (ss i) (ss j)
  top : hi = ops.size ∨ (eff hi = true ∧ ∃ o, ops[hi]? = some o ∧ loudK lite hi o = true)
  sm : ∀ j, lo ≤ j → j ≤ hi → Sm w0 (Mf.cut (ss j).next) (ss j) w
  dom : ∀ b x, Mf.blk b = some x → b < (ss hi).next
  free : ∀ i, lo ≤ i → i < hi → S i = false → ∀ b, (ss i).next ≤ b → b < (ss (i + 1)).next → Mf.blk b = none
  env : ∀ t, t < N → ∀ j, (∀ i, S i = true → dstAt ops i = some t → i < j) → VR (Mf.cut (ss (clip lo hi j)).next) (envS ops vs (es 0) S ops.size t) (a.tmps.getD t undef)
  gr : Gr M0 (ss 0) wi Mf (ss hi) w
  base : (ss 0).next ≤ (ss lo).next
  size : a.tmps.size = N
  defers : a.defers = dfr

theorem act_get (a : Act) (d : Option Tmp) (v : Value) (t : Tmp) (h : d ≠ some t) : (a.put d v).tmps.getD t undef = a.tmps.getD t undef := by
  cases d with
  | none => rfl
  | some d =>
    have : d ≠ t := fun e => h (by rw [e])
    simp only [Act.put, Array.getD_eq_getD_getElem?, Array.getElem?_setIfInBounds_ne this]
theorem act_get_eq (a : Act) (v : Value) (t : Tmp) (h : t < a.tmps.size) : (a.put (some t) v).tmps.getD t undef = v := by
  simp [Act.put, h]
theorem ev_VR1 {M : Mp} {s : St} {w : World} (h : Sm w0 M s w) (hG : G ≤ w0.heap.size) {e : Env} {a : Act} {x : Operand} (he : ∀ t, x = .tmp t → VR M (e t) (a.tmps.getD t undef)) {N : Nat} (hx : opdOk G N x = true) : VR M (ev e x) (a.eval x) := by
  cases x with
  | tmp t => exact he t rfl
  | const v => exact const_VR h hx
  | global g =>
    have : g < G := by simpa [opdOk] using hx
    exact .ptr ⟨g, 0, (h.old g (by omega)).1, rfl⟩
  | func f => exact .func (.other (by simp)) rfl (fun i v v' a => by simp at a) rfl (fun i v v' a => by simp at a)
theorem guard_sim1 {M : Mp} {all : Array Oper} {e : Env} {a : Act} {j : Nat} {b : Option Bool} (he : ∀ t, dstAt all j = some t → t < a.tmps.size ∧ VR M (e t) (a.tmps.getD t undef)) (h : guardV all e j = some b) : yielded all a.tmps j = b := by
  unfold guardV at h
  unfold yielded
  cases hj : (all[j]?).bind (·.dst) with
  | none => rw [hj] at h; cases h
  | some t =>
    rw [hj] at h
    simp only at h
    obtain ⟨ht, hr⟩ := he t hj
    have hget : a.tmps[t]? = some (a.tmps.getD t undef) := by simp [ht]
    simp only [Option.bind_some, hget]
    cases hv : e t with
    | bool c =>
      rw [hv] at h hr
      cases h
      cases hx : a.tmps.getD t undef <;> rw [hx] at hr <;> cases hr
      rfl
    | _ => rw [hv] at h hr; cases h; cases hx : a.tmps.getD t undef <;> rw [hx] at hr <;> first | rfl | cases hr
theorem looks_opd {o : Oper} {t : Tmp} (h : .tmp t ∈ o.op.operands) : t ∈ o.looksAt ops := by
  simp only [Oper.looksAt, List.mem_append, List.mem_filterMap]
  exact .inl ⟨.tmp t, by simpa using h, rfl⟩
theorem looks_guard {o : Oper} {j : Nat} {g : Bool} {t : Tmp} (h : o.guard = some (j, g)) (ht : dstAt ops j = some t) : t ∈ o.looksAt ops := by
  simp only [Oper.looksAt, List.mem_append, h]
  right
  unfold dstAt at ht
  rw [ht]; simp

variable {eff lite kp : Nat → Bool} {ss : Nat → St} {M0 : Mp} {wi : World} {N : Nat} {dfr : List Deferred} {lo hi : Nat} {Mf : Mp} {w : World} {a : Act}

theorem calm_step {D : Drw} {i : Nat} {o : Oper} {e : Env} {s s1 : St} {v : Value} (hs : (∃ j g b, o.guard = some (j, g) ∧ guardV ops e j = some b ∧ b ≠ some g ∧ v = undef ∧ s1 = s) ∨
   ((∀ j g, o.guard = some (j, g) → guardV ops e j = some (some g)) ∧ OpGood P w0 o e s v s1 ∧ Dok (some D) i s s1 ∧ (loudO o = false → s1 = s ∧ ∀ s2, OpGood P w0 o e s2 v s2) ∧ LiteOk P w0 (some D) i o e s v s1))
    (hn : ¬ (D.eff i = true ∧ loudK D.lite i o = true)) : Mild s s1 := by
  rcases hs with ⟨_, _, _, _, _, _, _, h5⟩ | ⟨_, _, h3, h4, h5⟩
  · rw [h5]; exact .refl _
  · cases hl : loudO o with
    | false => rw [(h4 hl).1]; exact .refl _
    | true =>
      rcases h3 with h3 | h3
      · exact h3
      · cases hli : (D.lite i && isLoad o.op) with
        | true =>
          simp only [Bool.and_eq_true] at hli
          rw [(h5 hli.1 hli.2).1]; exact .refl _
        | false => exact absurd ⟨h3.1, by simp [loudK, hl, hli]⟩ hn
theorem keep_all (hst : ∀ i o, ops[i]? = some o → StepAt P w0 ops (some ⟨eff, lite, kp, (ss 0).next⟩) i o (es i) (ss i) (vs i) (es (i + 1)) (ss (i + 1))) :
    ∀ m, m ≤ ops.size → (ss 0).next ≤ (ss m).next ∧ ∀ b, kp b = true → b < (ss 0).next → (ss m).heap b = (ss 0).heap b := by
  intro m
  induction m with
  | zero => intro _; exact ⟨Nat.le_refl _, fun _ _ _ => rfl⟩
  | succ m ih =>
    intro hm
    obtain ⟨i1, i2⟩ := ih (by omega)
    obtain ⟨_, hs⟩ := hst m _ (Array.getElem?_eq_getElem (by omega))
    rcases hs with ⟨_, _, _, _, _, _, _, h5⟩ | ⟨_, _, h3, _, _⟩
    · rw [h5]; exact ⟨i1, i2⟩
    · rcases h3 with h3 | ⟨_, h3, h4⟩
      · exact ⟨Nat.le_trans i1 h3.next, fun b hb hlt => (h3.heap b (by omega)).trans (i2 b hb hlt)⟩
      · exact ⟨Nat.le_trans i1 h3, fun b hb hlt => (h4 b hb hlt).trans (i2 b hb hlt)⟩
theorem DI.step {F : Fence} {n : Nat} {Q : Exit → Act → World → Prop} (hF : Fwide F) (hG : G ≤ w0.heap.size) (hok : ∀ o ∈ ops.toList, operOk G N o = true) (hdraw : drawOk ops eff lite = true)
    (hst : ∀ i o, ops[i]? = some o → StepAt P w0 ops (some ⟨eff, lite, kp, (ss 0).next⟩) i o (es i) (ss i) (vs i) (es (i + 1)) (ss (i + 1)))
    (hcl : ∀ j, S j = true → Pre ops S j) (hI : DI w0 ops eff lite es ss vs M0 wi N dfr lo hi Mf S w a) {k : Nat} (hk : S k = false) (hpre : Pre ops S k) {o : Oper} (ho : ops[k]? = some o)
    {S' : Nat → Bool} (hS' : ∀ i, i ≠ k → S' i = S i) (hSk : S' k = true) {K : Act → World → Prop} (hK : ∀ a' w' lo' hi' Mf', DI w0 ops eff lite es ss vs M0 wi N dfr lo' hi' Mf' S' w' a' → K a' w') :
    wpOpIn F n P ops Q k K a w := by
  have hkn : k < ops.size := (Array.getElem?_eq_some_iff.1 ho).1
  have hmem : o ∈ ops.toList := by have := Array.mem_of_getElem? ho; simpa using this
  obtain ⟨hdst, hopd⟩ := oper_ok (hok o hmem)
  have hes : ∀ i o, ops[i]? = some o → es (i + 1) = Ab.put (es i) o.dst (vs i) := fun i o h => (hst i o h).1
  have hapart : ∀ i, i ≠ k → ∀ o', ops[i]? = some o' → ((o'.apart ops o = false) → i < k → S i = true) ∧ ((o.apart ops o' = false) → k < i → S i = false) := fun i hne o' ho' => by
    refine ⟨fun h1 h2 => ?_, fun h1 h2 => ?_⟩
    · rcases (draw_pair hdraw ho' ho h2).1 with h | h
      · rw [h1] at h; cases h
      · exact reach_S hcl _ k hpre h
    · rcases (draw_pair hdraw ho ho' h2).1 with h | h
      · rw [h1] at h; cases h
      · cases hs : S i with
        | false => rfl
        | true => rw [reach_S hcl _ i (hcl i hs) h] at hk; cases hk
  -- what it reads was written by those ahead of it
  have hreads : ∀ t, t ∈ o.looksAt ops → envS ops vs (es 0) S ops.size t = es k t ∧ ∀ i, S i = true → dstAt ops i = some t → i < k := fun t ht => by
    have hlow : ∀ i, i < k → dstAt ops i = some t → S i = true := fun i hi hd => by
      obtain ⟨o', ho', hd'⟩ := Option.bind_eq_some_iff.1 hd
      refine (hapart i (by omega) o' ho').1 ?_ hi
      cases hap : o'.apart ops o with
      | false => rfl
      | true => exact absurd ht ((Oper.apart_spec hap).1 t hd')
    have hhigh : ∀ i, k ≤ i → dstAt ops i = some t → S i = false := fun i hi hd => by
      by_cases hik : i = k
      · rw [hik]; exact hk
      · obtain ⟨o', ho', hd'⟩ := Option.bind_eq_some_iff.1 hd
        refine (hapart i hik o' ho').2 ?_ (by omega)
        cases hap : o.apart ops o' with
        | false => rfl
        | true => exact absurd ht ((Oper.apart_spec hap).2.2 t hd')
    refine ⟨?_, fun i hs hd => ?_⟩
    · rw [envS_high ops.size (by omega : k ≤ ops.size) fun i h1 _ => hhigh i h1]
      exact envS_low hes k (by omega) hlow
    · rcases Nat.lt_or_ge i k with h | h
      · exact h
      · rw [hhigh i h hd] at hs; cases hs
  have hdd : ∀ i t, k < i → dstAt ops k = some t → dstAt ops i = some t → S i = false := fun i t h1 h2 h3 => by
    obtain ⟨o', ho', hd'⟩ := Option.bind_eq_some_iff.1 h3
    refine (hapart i (by omega) o' ho').2 ?_ h1
    cases hap : o.apart ops o' with
    | false => rfl
    | true =>
      have hdk : o.dst = some t := by simpa [dstAt, ho] using h2
      exact absurd hd' ((Oper.apart_spec hap).2.1 t hdk)
  have hdk : dstAt ops k = o.dst := by simp [dstAt, ho]
  have henvS : ∀ t, envS ops vs (es 0) S' ops.size t = Ab.put (envS ops vs (es 0) S ops.size) o.dst (vs k) t := fun t => by
    rw [envS_upd hk hS' hSk hdd ops.size hkn, hdk]
  have hSS : ∀ i, S i = true → S' i = true := fun i hs => by
    by_cases hik : i = k
    · rw [hik]; exact hSk
    · rw [hS' i hik]; exact hs
  -- the operation itself
  have exec : ∀ p s1, p = clip lo hi k → ((∃ j g b, o.guard = some (j, g) ∧ guardV ops (es k) j = some b ∧ b ≠ some g ∧ vs k = undef ∧ s1 = ss p) ∨ ((∀ j g, o.guard = some (j, g) → guardV ops (es k) j = some (some g)) ∧ OpGood P w0 o (es k) (ss p) (vs k) s1)) →
      (∀ v' w' M', Gr (Mf.cut (ss p).next) (ss p) w M' s1 w' → Sm w0 M' s1 w' → VR M' (vs k) v' → K (a.put o.dst v') w') → wpOpIn F n P ops Q k K a w := fun p s1 hp hs hn => by
    have hpl : lo ≤ p ∧ p ≤ hi := by rw [hp]; unfold clip; have := hI.lohi; omega
    have hSm := hI.sm p hpl.1 hpl.2
    have hread : ∀ t, t ∈ o.looksAt ops → t < N → VR (Mf.cut (ss p).next) (es k t) (a.tmps.getD t undef) := fun t ht hN => by
      obtain ⟨h1, h2⟩ := hreads t ht
      have := hI.env t hN k h2
      rw [h1, ← hp] at this; exact this
    have hgd : ∀ j b, (∃ g, o.guard = some (j, g)) → guardV ops (es k) j = some b → yielded ops a.tmps j = b := fun j b ⟨g, hg⟩ h => by
      refine guard_sim1 (M := Mf.cut (ss p).next) (fun t ht => ?_) h
      obtain ⟨o', ho', hd'⟩ := Option.bind_eq_some_iff.1 ht
      have htN : t < N := (oper_ok (hok o' (by have := Array.mem_of_getElem? ho'; simpa using this))).1 t hd'
      exact ⟨by rw [hI.size]; exact htN, hread t (looks_guard hg ht) htN⟩
    rw [wpOpIn, ho]
    simp only
    rcases hs with ⟨j, g, b, h1, h2, h3, h4, h5⟩ | ⟨h1, hop⟩
    · rw [if_neg (by simp only [Region.wanted, h1, hgd j b ⟨g, h1⟩ h2]; simp [h3])]
      subst h5
      exact ⟨fun f _ => hF.1 f, hn undef w _ (.refl _ _ _) hSm (by rw [h4]; exact VR_undef _)⟩
    · rw [if_pos (by
        unfold Region.wanted
        cases hg : o.guard with
        | none => rfl
        | some jg =>
          obtain ⟨j, g⟩ := jg
          simp only [hgd j g ⟨g, hg⟩ (h1 j g hg), beq_self_eq_true])]
      refine hop _ w a F n hF hSm (fun x hx => ?_) _ _ hn
      refine ev_VR1 hSm hG (fun t hxt => ?_) (hopd x hx)
      subst hxt
      have htN : t < N := by have := hopd _ hx; simpa [opdOk] using this
      exact hread t (looks_opd hx) htN
  obtain ⟨_, hstep⟩ := hst k o ho
  -- steps that stay within what is under way
  have calm : ∀ p p', p = clip lo hi k → lo ≤ p → p ≤ p' → p' ≤ hi → p' ≤ p + 1 → (p' ≠ p → k = p) → (p' = p → loudK lite k o = false) →
      ((∃ j g b, o.guard = some (j, g) ∧ guardV ops (es k) j = some b ∧ b ≠ some g ∧ vs k = undef ∧ ss p' = ss p) ∨ ((∀ j g, o.guard = some (j, g) → guardV ops (es k) j = some (some g)) ∧ OpGood P w0 o (es k) (ss p) (vs k) (ss p'))) →
      wpOpIn F n P ops Q k K a w := fun p p' hp h1 h2 h3 h4 h5 hq hs => by
    refine exec p (ss p') hp hs fun v' w' M' q1 q2 q3 => ?_
    have hfree : ∀ b, (ss p).next ≤ b → b < (ss p').next → Mf.blk b = none := fun b b1 b2 => by
      by_cases hpp : p' = p
      · rw [hpp] at b2; omega
      · have hkp := h5 hpp
        rw [show p' = p + 1 by omega] at b2
        exact hI.free p h1 (by omega) (hkp ▸ hk) b b1 b2
    obtain ⟨Mf', r1, r2, r3, r4, r5⟩ := absorb hI.sm hI.mild h1 h2 h3 h4 hfree hI.dom q1 q2 hI.gr (Nat.le_trans hI.base (hI.mild lo p (Nat.le_refl _) h1 (by omega)).next)
    refine hK _ w' lo hi Mf' ⟨hI.lohi, hI.hin, fun i o' ho' hl hi' => hSS i (hI.loud_lo i o' ho' hl hi'), fun i o' ho' hl hi' => ?_, hI.mild, hI.top, r3, fun b x hb => ?_, fun i i1 i2 i3 b b1 b2 => ?_, fun t ht j hj => ?_, r4, hI.base, by rw [act_size]; exact hI.size, by rw [act_defers]; exact hI.defers⟩
    · by_cases hik : i = k
      · subst hik
        rw [ho] at ho'; cases ho'
        by_cases hpp : p' = p
        · rw [hq hpp] at hl; cases hl
        · have := h5 hpp; omega
      · rw [hS' i hik]; exact hI.loud_hi i o' ho' hl hi'
    · rcases r5 b x hb with h | ⟨_, h⟩
      · exact hI.dom b x h
      · exact Nat.lt_of_lt_of_le h (hI.mild p' hi (by omega) h3 (Nat.le_refl _)).next
    · have hik : i ≠ k := fun e => by rw [e, hSk] at i3; cases i3
      rw [hS' i hik] at i3
      cases hb : Mf'.blk b with
      | none => rfl
      | some x =>
        rcases r5 b x hb with h | ⟨g1, g2⟩
        · rw [hI.free i i1 i2 i3 b b1 b2] at h; cases h
        · exfalso
          by_cases hpp : p' = p
          · rw [hpp] at g2; omega
          · have hkp := h5 hpp
            rcases Nat.lt_or_ge i p with e | e
            · have := (hI.mild (i + 1) p (by omega) (by omega) (by omega)).next; omega
            · have := (hI.mild p' i (by omega) (by omega) (by omega)).next; omega
    · rw [henvS t]
      by_cases hdt : o.dst = some t
      · rw [hdt, put_eq, act_get_eq a v' t (by rw [hI.size]; exact ht)]
        have hkj : k < j := hj k hSk (hdk.trans hdt)
        have hpj : p' ≤ clip lo hi j := by
          by_cases hpp : p' = p
          · rw [hpp, hp]; unfold clip; omega
          · have := h5 hpp; unfold clip; omega
        exact q3.mono (r2.trans (Mp.cut_le (hI.mild p' _ (by omega) hpj (by unfold clip; omega)).next))
      · rw [put_ne hdt, act_get a o.dst v' t hdt]
        exact (hI.env t ht j fun i hs hd => hj i (hSS i hs) hd).mono (r1 _ (by unfold clip; have := hI.lohi; omega) (by unfold clip; omega))
  by_cases hkl : lo ≤ k ∧ k < hi
  · -- within
    have hp : k = clip lo hi k := by unfold clip; omega
    refine calm k (k + 1) hp hkl.1 (by omega) (by omega) (Nat.le_refl _) (fun _ => rfl) (fun h => by omega) ?_
    rcases hstep with ⟨j, g, b, h1, h2, h3, h4, h5⟩ | ⟨h1, hop, _, _, _⟩
    · exact .inl ⟨j, g, b, h1, h2, h3, h4, h5⟩
    · exact .inr ⟨h1, hop⟩
  · by_cases hkh : k = hi
    · -- the one that changes what was there
      subst hkh
      obtain ⟨heff, hloud⟩ : eff k = true ∧ loudK lite k o = true := by
        rcases hI.top with h | ⟨h1, o', h2, h3⟩
        · omega
        · rw [ho] at h2; cases h2; exact ⟨h1, h3⟩
      have hp : k = clip lo k k := by unfold clip; have := hI.lohi; omega
      have hcut : Mf.cut (ss k).next = Mf := Mp.cut_all hI.dom
      refine exec k (ss (k + 1)) hp (by
        rcases hstep with ⟨j, g, b, h1, h2, h3, h4, h5⟩ | ⟨h1, hop, _, _, _⟩
        · exact .inl ⟨j, g, b, h1, h2, h3, h4, h5⟩
        · exact .inr ⟨h1, hop⟩) fun v' w' M' q1 q2 q3 => ?_
      rw [hcut] at q1
      obtain ⟨hi', n1, n2, n3, n4⟩ := next_wild (fun i => eff i = true ∧ ∃ o, ops[i]? = some o ∧ loudK lite i o = true) ops.size (ops.size - (k + 1)) (k + 1) (by omega)
      have hmild1 : ∀ i, k + 1 ≤ i → i < hi' → Mild (ss i) (ss (i + 1)) := fun i i1 i2 => by
        have hoi : ops[i]? = some ops[i] := Array.getElem?_eq_getElem (by omega)
        obtain ⟨_, hs⟩ := hst i _ hoi
        exact calm_step hs fun h => n3 i i1 i2 ⟨h.1, _, hoi, h.2⟩
      have hmild : ∀ i j, k + 1 ≤ i → i ≤ j → j ≤ hi' → Mild (ss i) (ss j) := fun i j i1 => by
        induction j with
        | zero => intro h1 h2; omega
        | succ j ih =>
          intro h1 h2
          by_cases hij : i = j + 1
          · rw [hij]; exact .refl _
          · exact (ih (by omega) (by omega)).trans (hmild1 j (by omega) (by omega))
      have hMlt : ∀ b x, M'.blk b = some x → b < (ss (k + 1)).next := fun b x hb => q2.blk_lt hb
      have hcut' : ∀ j, k + 1 ≤ j → j ≤ hi' → M'.cut (ss j).next = M' := fun j j1 j2 => Mp.cut_all fun b x hb => Nat.lt_of_lt_of_le (hMlt b x hb) (hmild (k + 1) j (Nat.le_refl _) j1 j2).next
      refine hK _ w' (k + 1) hi' M' ⟨n1, n2, fun i o' ho' hl hi1 => ?_, fun i o' ho' hl hi1 => ?_, hmild, n4, fun j j1 j2 => ?_, fun b x hb => ?_, fun i i1 i2 i3 b b1 b2 => ?_, fun t ht j hj => ?_, ?_, ?_, by rw [act_size]; exact hI.size, by rw [act_defers]; exact hI.defers⟩
      · by_cases hik : i = k
        · rw [hik]; exact hSk
        · rw [hS' i hik]
          exact reach_S hcl _ k hpre ((draw_pair hdraw ho' ho (by omega)).2 hl hloud (.inr heff))
      · rw [hS' i (by omega)]
        cases hs : S i with
        | false => rfl
        | true =>
          rw [reach_S hcl _ i (hcl i hs) ((draw_pair hdraw ho ho' (by omega)).2 hloud hl (.inl heff))] at hk; cases hk
      · rw [hcut' j j1 j2]; exact q2.mild (hmild (k + 1) j (Nat.le_refl _) j1 j2)
      · exact Nat.lt_of_lt_of_le (hMlt b x hb) (hmild (k + 1) hi' (Nat.le_refl _) n1 (Nat.le_refl _)).next
      · cases hb : M'.blk b with
        | none => rfl
        | some x =>
          have := hMlt b x hb
          have := (hmild (k + 1) i (Nat.le_refl _) i1 (by omega)).next
          omega
      · have hc := hcut' (clip (k + 1) hi' j) (by unfold clip; omega) (by unfold clip; omega)
        rw [hc, henvS t]
        by_cases hdt : o.dst = some t
        · rw [hdt, put_eq, act_get_eq a v' t (by rw [hI.size]; exact ht)]
          exact q3
        · rw [put_ne hdt, act_get a o.dst v' t hdt]
          have := hI.env t ht j fun i hs hd => hj i (hSS i hs) hd
          have hle : Mle (Mf.cut (ss (clip lo k j)).next) Mf := ⟨fun b x hb => (Mp.cut_some.1 hb).2, fun _ _ _ => rfl, fun _ _ _ => rfl⟩
          exact this.mono (hle.trans q1.le)
      · exact (hI.gr.trans q1).mild q2 (hmild (k + 1) hi' (Nat.le_refl _) n1 (Nat.le_refl _))
      · exact (hI.gr.trans q1).nxt
    · -- one that asks for no heap
      have hquiet : loudK lite k o = false := by
        cases hl : loudK lite k o with
        | false => rfl
        | true =>
          rcases Nat.lt_or_ge k lo with h | h
          · rw [hI.loud_lo k o ho hl h] at hk; cases hk
          · rcases hI.top with h' | ⟨h1, o', h2, h3⟩
            · omega
            · have := reach_S hcl _ k hpre ((draw_pair hdraw h2 ho (by omega)).2 h3 hl (.inl h1))
              rw [hI.loud_hi hi o' h2 h3 (Nat.le_refl _)] at this; cases this
      have hlh := hI.lohi
      refine calm (clip lo hi k) (clip lo hi k) rfl (by unfold clip; omega) (Nat.le_refl _) (by unfold clip; omega) (by omega) (fun h => absurd rfl h) (fun _ => hquiet) ?_
      rcases hstep with ⟨j, g, b, h1, h2, h3, h4, h5⟩ | ⟨h1, _, _, h4, h5⟩
      · exact .inl ⟨j, g, b, h1, h2, h3, h4, rfl⟩
      · refine .inr ⟨h1, ?_⟩
        cases hlo : loudO o with
        | false => exact (h4 hlo).2 _
        | true =>
          simp only [loudK, hlo, Bool.true_and, Bool.not_eq_false', Bool.and_eq_true] at hquiet
          obtain ⟨_, b, hb, hb0, hg⟩ := h5 hquiet.1 hquiet.2
          have hhi := hI.hin
          exact hg _ (((keep_all hst (clip lo hi k) (by unfold clip; omega)).2 b hb hb0).trans ((keep_all hst k (by omega)).2 b hb hb0).symm)
end
end Go.Ab
/- The simulation: a region whose order is drawn. -/
set_option linter.unusedVariables false
set_option linter.unusedSimpArgs false
namespace Go.Ab
open Go Go.RowKit

section
variable {P : Program} {w0 : World} {G : Nat}
variable {ops : Array Oper} {vs : Nat → Value} {es : Nat → Env} {eff lite kp : Nat → Bool} {ss : Nat → St} {M0 : Mp} {wi : World} {N : Nat} {dfr : List Deferred}

theorem cnt_lt {p q : Nat → Bool} (h : ∀ i, p i = true → q i = true) {k : Nat} (hq : q k = true) (hp : p k = false) : ∀ l : List Nat, k ∈ l → l.countP p < l.countP q := by
  intro l
  induction l with
  | nil => intro h; cases h
  | cons x l ih =>
    intro hk
    have hle : l.countP p ≤ l.countP q := List.countP_mono_left fun i _ => h i
    by_cases hx : x = k
    · subst hx
      rw [List.countP_cons_of_pos hq, List.countP_cons_of_neg (by simp [hp])]; omega
    · have := ih (by rcases List.mem_cons.1 hk with h | h; exact absurd h.symm hx; exact h)
      simp only [List.countP_cons]
      cases hpx : p x with
      | false => simp; split <;> omega
      | true => simp [h x hpx]; omega

theorem drawn_all {F : Fence} {n : Nat} {Q : Exit → Act → World → Prop} (hF : Fwide F) (hG : G ≤ w0.heap.size) (hok : ∀ o ∈ ops.toList, operOk G N o = true) (hdraw : drawOk ops eff lite = true) (hedge : edgesOk ops = true)
    (hst : ∀ i o, ops[i]? = some o → StepAt P w0 ops (some ⟨eff, lite, kp, (ss 0).next⟩) i o (es i) (ss i) (vs i) (es (i + 1)) (ss (i + 1)))
    (hQ : ∀ a' w' M', Gr M0 (ss 0) wi M' (ss ops.size) w' → Sm w0 M' (ss ops.size) w' → ER M' (es ops.size) a'.tmps → a'.tmps.size = N → a'.defers = dfr → Q .normal a' w') :
    ∀ (fuel : Nat) (listed : Array Bool) (a : Act) (w : World) (lo hi : Nat) (Mf : Mp), listed.size = ops.size → (List.range ops.size).countP (fun i => !(listed.getD i false)) ≤ fuel →
      (∀ j, listed.getD j false = true → Pre ops (fun i => listed.getD i false) j) → DI w0 ops eff lite es ss vs M0 wi N dfr lo hi Mf (fun i => listed.getD i false) w a → wpAnyIn F n P .any ops Q fuel listed a w := by
  have hes : ∀ i o, ops[i]? = some o → es (i + 1) = Ab.put (es i) o.dst (vs i) := fun i o h => (hst i o h).1
  -- the end
  have fin : ∀ (listed : Array Bool) (a : Act) (w : World) (lo hi : Nat) (Mf : Mp), (∀ i, i < ops.size → listed.getD i false = true) → DI w0 ops eff lite es ss vs M0 wi N dfr lo hi Mf (fun i => listed.getD i false) w a → Q .normal a w := fun listed a w lo hi Mf hall hI => by
    have hhi : hi = ops.size := by
      rcases hI.top with h | ⟨h1, o', h2, h3⟩
      · exact h
      · have := hI.loud_hi hi o' h2 h3 (Nat.le_refl _)
        rw [hall hi (Array.getElem?_eq_some_iff.1 h2).1] at this; cases this
    subst hhi
    have hcut : Mf.cut (ss ops.size).next = Mf := Mp.cut_all hI.dom
    have hs := hI.sm ops.size hI.lohi (Nat.le_refl _)
    rw [hcut] at hs
    refine hQ a w Mf hI.gr hs (fun t ht => ?_) hI.size hI.defers
    have := hI.env t (by rw [← hI.size]; exact ht) ops.size fun i _ hd => by
      obtain ⟨o', ho', _⟩ := Option.bind_eq_some_iff.1 hd
      exact (Array.getElem?_eq_some_iff.1 ho').1
    rw [show clip lo ops.size ops.size = ops.size by unfold clip; omega, hcut, envS_low hes ops.size (Nat.le_refl _) fun i hi _ => hall i hi] at this
    exact this
  have hnone : ∀ listed : Array Bool, listed.size = ops.size → Region.ready .any ops listed = [] → ∀ i, i < ops.size → listed.getD i false = true := fun listed hsz hr => by
    intro i
    induction i using Nat.strongRecOn with
    | ind i ih =>
      intro hi
      cases hl : listed.getD i false with
      | true => rfl
      | false =>
        exfalso
        have ho : ops[i]? = some ops[i] := Array.getElem?_eq_getElem hi
        have : i ∈ Region.ready .any ops listed := by
          rw [mem_ready]
          refine ⟨?_, ops[i], ho, fun e he hb => ih e.on ?_ ?_⟩
          · have : i < listed.size := by omega
            simp only [Array.getD, this, dif_pos] at hl ⊢; exact hl
          all_goals
            simp only [edgesOk, List.all_eq_true, List.mem_range] at hedge
            have := hedge i hi
            rw [ho] at this
            simp only [Option.map_some, Option.getD_some, List.all_eq_true, Bool.or_eq_true, Bool.not_eq_true', decide_eq_true_eq] at this
            have := this e (by simpa using he)
            rw [hb] at this
            have := this.resolve_left (by simp)
            omega
        rw [hr] at this; cases this
  intro fuel
  induction fuel with
  | zero =>
    intro listed a w lo hi Mf hsz hc hcl hI
    have hall : ∀ i, i < ops.size → listed.getD i false = true := fun i hi => by
      have := List.countP_eq_zero.1 (Nat.le_zero.1 hc) i (List.mem_range.2 hi)
      simpa using this
    refine ⟨?_, fin listed a w lo hi Mf hall hI⟩
    apply List.eq_nil_iff_forall_not_mem.2
    intro j hj
    rw [mem_ready] at hj
    obtain ⟨h0, o, ho, _⟩ := hj
    have hjn := (Array.getElem?_eq_some_iff.1 ho).1
    have h1 := hall j hjn
    have : j < listed.size := by omega
    simp only [Array.getD, this, dif_pos] at h0 h1
    rw [h0] at h1; cases h1
  | succ fuel ih =>
    intro listed a w lo hi Mf hsz hc hcl hI
    refine ⟨fun hr => fin listed a w lo hi Mf (hnone listed hsz hr) hI, fun k hk => ?_⟩
    rw [mem_ready] at hk
    obtain ⟨h0, o, ho, hpre⟩ := hk
    have hkn := (Array.getElem?_eq_some_iff.1 ho).1
    have hklt : k < listed.size := by omega
    have hSk : listed.getD k false = false := by simp only [Array.getD, hklt, dif_pos] at h0 ⊢; exact h0
    have hne : ∀ i, i ≠ k → (listed.setIfInBounds k true).getD i false = listed.getD i false := fun i hik => getD_set_ne false (Ne.symm hik)
    have heq : (listed.setIfInBounds k true).getD k false = true := by simp [hklt]
    have hP : Pre ops (fun i => listed.getD i false) k := fun o' ho' e he hb => by rw [ho] at ho'; cases ho'; exact hpre e he hb
    have hup : ∀ i, listed.getD i false = true → (listed.setIfInBounds k true).getD i false = true := fun i hi => getD_set_true hi
    refine DI.step hF hG hok hdraw hst hcl hI hSk hP ho (S' := fun i => (listed.setIfInBounds k true).getD i false) hne heq fun a' w' lo' hi' Mf' hI' => ?_
    refine ih (listed.setIfInBounds k true) a' w' lo' hi' Mf' (by simp [hsz]) ?_ ?_ hI'
    · have := cnt_lt (p := fun i => !((listed.setIfInBounds k true).getD i false)) (q := fun i => !(listed.getD i false)) (fun i hi => by
        cases hl : listed.getD i false with
        | false => rfl
        | true => rw [hup i hl] at hi; cases hi) (k := k) (by rw [hSk]; rfl) (by rw [heq]; rfl) (List.range ops.size) (List.mem_range.2 hkn)
      omega
    · intro j hj o' ho' e he hb
      by_cases hjk : j = k
      · subst hjk; exact hup _ (hP o' ho' e he hb)
      · exact hup _ (hcl j (by rw [← hne j hjk]; exact hj) o' ho' e he hb)

theorem drawn_region {F : Fence} {n : Nat} {id : Nat} {Q : Exit → Act → World → Prop} (hm : P.follows .mixedOrders = true) (hF : Fwide F) (hG : G ≤ w0.heap.size) (hok : ∀ o ∈ ops.toList, operOk G N o = true) (hdraw : drawOk ops eff lite = true) (hedge : edgesOk ops = true)
    {e e' : Env} {s s' : St} {M : Mp} {w : World} {a : Act} (hT : Tr P w0 ops (some ⟨eff, lite, kp, s.next⟩) 0 ops.toList e s e' s') (hS : Sm w0 M s w) (hE : ER M e a.tmps) (hN : a.tmps.size = N)
    (hQ : ∀ a' w' M', Gr M s w M' s' w' → Sm w0 M' s' w' → ER M' e' a'.tmps → a'.tmps.size = N → a'.defers = a.defers → Q .normal a' w') : (Code.region id ops true).wpIn F n P Q a w := by
  obtain ⟨es, ss, vs, rfl, rfl, h3, h4, hst⟩ := Tr.fam _ _ _ _ hT
  simp only [Nat.zero_add, Array.length_toList, Array.getElem?_toList] at h3 h4 hst
  subst h3; subst h4
  obtain ⟨hi, n1, n2, n3, n4⟩ := next_wild (fun i => eff i = true ∧ ∃ o, ops[i]? = some o ∧ loudK lite i o = true) ops.size ops.size 0 (by omega)
  have hmild1 : ∀ i, i < hi → Mild (ss i) (ss (i + 1)) := fun i i2 => by
    have hoi : ops[i]? = some ops[i] := Array.getElem?_eq_getElem (by omega)
    obtain ⟨_, hs⟩ := hst i _ hoi
    exact calm_step hs fun h => n3 i (Nat.zero_le _) i2 ⟨h.1, _, hoi, h.2⟩
  have hmild : ∀ i j, 0 ≤ i → i ≤ j → j ≤ hi → Mild (ss i) (ss j) := fun i j _ => by
    induction j with
    | zero => intro h1 h2; rw [show i = 0 by omega]; exact .refl _
    | succ j ih =>
      intro h1 h2
      by_cases hij : i = j + 1
      · rw [hij]; exact .refl _
      · exact (ih (by omega) (by omega)).trans (hmild1 j (by omega))
  have hrep : ∀ i, (Array.replicate ops.size false).getD i false = false := fun i => by
    simp only [Array.getD_eq_getD_getElem?, Array.getElem?_replicate]; split <;> rfl
  have hS' : Sm w0 M (ss 0) { w with drawn := w.drawn + 1 } := hS.drew
  have hlt : ∀ b x, M.blk b = some x → b < (ss 0).next := fun b x hb => hS.blk_lt hb
  have hcut : ∀ j, j ≤ hi → M.cut (ss j).next = M := fun j hj => Mp.cut_all fun b x hb => Nat.lt_of_lt_of_le (hlt b x hb) (hmild 0 j (Nat.le_refl _) (Nat.zero_le _) hj).next
  refine wpIn_region_any hm (drawn_all (G := G) (M0 := M) (wi := w) (N := N) (dfr := a.defers) hF hG hok hdraw hedge hst hQ ops.size _ _ _ 0 hi M (by simp) ?_ ?_ ?_)
  · exact Nat.le_trans List.countP_le_length (by simp)
  · intro j hj; rw [hrep] at hj; cases hj
  · refine ⟨n1, n2, fun i o _ _ h => by omega, fun i o _ _ _ => hrep i, hmild, n4, fun j _ j2 => by rw [hcut j j2]; exact hS'.mild (hmild 0 j (Nat.le_refl _) (Nat.zero_le _) j2), fun b x hb => Nat.lt_of_lt_of_le (hlt b x hb) (hmild 0 hi (Nat.le_refl _) n1 (Nat.le_refl _)).next, fun i _ i2 _ b b1 b2 => ?_, fun t ht j hj => ?_, ?_, Nat.le_refl _, hN, rfl⟩
    · cases hb : M.blk b with
      | none => rfl
      | some x =>
        have := hlt b x hb
        have := (hmild 0 i (Nat.le_refl _) (Nat.zero_le _) (by omega)).next
        omega
    · rw [hcut _ (by unfold clip; omega), envS_high (k := 0) ops.size (Nat.zero_le _) fun i _ _ _ => hrep i]
      exact hE t (by rw [hN]; exact ht)
    · have : Gr M (ss 0) w M (ss 0) { w with drawn := w.drawn + 1 } := Gr.drew (.refl M _ _)
      exact this.mild hS' (hmild 0 hi (Nat.le_refl _) n1 (Nat.le_refl _))
end
end Go.Ab
/- The simulation: what loops over functions lay on the heap; frames at a call. -/
set_option linter.unusedVariables false
set_option linter.unusedSimpArgs false
namespace Go.Ab
open Go Go.RowKit

theorem opdOk_mono {G G' N N' : Nat} (hG : G ≤ G') (hN : N ≤ N') {x : Operand} (h : opdOk G N x = true) : opdOk G' N' x = true := by
  cases x with
  | tmp t => simp only [opdOk, decide_eq_true_eq] at *; exact Nat.lt_of_lt_of_le h hN
  | const v => exact h
  | global g => simp only [opdOk, decide_eq_true_eq] at *; omega
  | func f => rfl
theorem operOk_mono {G G' N N' : Nat} (hG : G ≤ G') (hN : N ≤ N') {o : Oper} (h : operOk G N o = true) : operOk G' N' o = true := by
  simp only [operOk, Bool.and_eq_true, List.all_eq_true] at *
  refine ⟨?_, fun x hx => opdOk_mono hG hN (h.2 x hx)⟩
  cases hd : o.dst with
  | none => rfl
  | some t => have := h.1; rw [hd] at this; simp only [decide_eq_true_eq] at *; exact Nat.lt_of_lt_of_le this hN
theorem codeOk_mono {G G' N N' : Nat} (hG : G ≤ G') (hN : N ≤ N') : ∀ {c : Code}, codeOk G N c = true → codeOk G' N' c = true := by
  intro c
  induction c with
  | region i ops d => intro h; simp only [codeOk, List.all_eq_true] at *; exact fun x hx => operOk_mono hG hN (h x hx)
  | seq a b iha ihb => intro h; simp only [codeOk, Bool.and_eq_true] at *; exact ⟨iha h.1, ihb h.2⟩
  | cond c a b iha ihb => intro h; simp only [codeOk, Bool.and_eq_true] at *; exact ⟨⟨opdOk_mono hG hN h.1.1, iha h.1.2⟩, ihb h.2⟩
  | block i a ih => intro h; exact ih h
  | loop a ih => intro h; exact ih h
  | scope a ih => intro h; exact ih h
  | rangeFunc f ps a b iha ihb =>
    intro h
    simp only [codeOk, Bool.and_eq_true, List.all_eq_true, decide_eq_true_eq] at *
    obtain ⟨⟨⟨⟨⟨h1, h2⟩, h3⟩, h4⟩, h5⟩, h6⟩ := h
    exact ⟨⟨⟨⟨⟨opdOk_mono hG hN h1, fun t ht => Nat.lt_of_lt_of_le (h2 t ht) hN⟩, iha h3⟩, ihb h4⟩, h5⟩, h6⟩
  | _ => intro _; rfl

section
variable {P : Program} {w0 : World} {M : Mp} {s : St} {w : World}

/-! ### Blocks -/
theorem alloc_un (h : Sm w0 M s w) (O : Obj) : Sm w0 M s (w.alloc O) ∧ Gr M s w M s (w.alloc O) := by
  have hsz := h.size
  refine ⟨⟨⟨h.below.os, h.below.tape, h.below.output, by simp; omega, fun k hk => ?_⟩, h.nxt, h.old, h.olds, fun b y hb hge => ?_, h.inj⟩, ⟨.refl M, Nat.le_refl _, fun _ _ h _ => h, fun b y hb => .inl ⟨b, y, hb, rfl⟩, fun b y hb hg => .inl ⟨b, y, hb, hg, rfl⟩, fun B hB _ => heap_alloc_old w O B hB, by simp⟩⟩
  · rw [heap_alloc_old w O k (by omega)]; exact h.below.block k hk
  · obtain ⟨g1, g2, o', g3, g4⟩ := h.new b y hb hge
    exact ⟨g1, g2, o', by rw [heap_alloc_old w O y.1 (h.img_lt hb)]; exact g3, g4⟩

theorem put_free (h : Sm w0 M s w) {D : Nat} (hD : ∀ b x, M.blk b = some x → x.1 ≠ D) (hge : w0.heap.size ≤ D) (O : Obj) : Sm w0 M s (w.putObj D O) := by
  have hoth : ∀ k, k ≠ D → (w.putObj D O).heap[k]? = w.heap[k]? := fun k hk => World.putObj_heap_other hk
  have hsz : (w.putObj D O).heap.size = w.heap.size := by simp [World.putObj]
  refine ⟨⟨h.below.os, h.below.tape, h.below.output, by rw [hsz]; exact h.below.size, fun k hk => ?_⟩, h.nxt, h.old, h.olds, fun k y hk hkb => ?_, h.inj⟩
  · rw [hoth k (by omega)]; exact h.below.block k hk
  · obtain ⟨g1, g2, o1, g3, g4⟩ := h.new k y hk hkb
    exact ⟨g1, g2, o1, by rw [hoth _ (hD k y hk)]; exact g3, g4⟩
theorem Gr.put_free {M' : Mp} {s' : St} {w' : World} (h : Gr M s w M' s' w') {D : Nat} (hD : w.heap.size ≤ D) (O : Obj) : Gr M s w M' s' (w'.putObj D O) :=
  ⟨h.le, h.nxt, h.dom, h.img, h.live, fun B hB hn => by rw [World.putObj_heap_other (by omega)]; exact h.fr B hB hn, by simp [World.putObj]; exact h.size⟩
theorem loop_sim (h : Sm w0 M s w) {l l' : Nat} (hb : M.blk l = some (l', 0)) (hge : w0.heap.size ≤ l) {r : LoopRec} (hl : s.heap l = .loop r) :
    ∃ R G, w.heap[l']? = some (.loop R) ∧ LoopR G M r R ∧ G ≤ w0.heap.size ∧ R.tmps.size = M.sz l' := by
  obtain ⟨_, _, o, h3, h4⟩ := h.new l _ hb hge
  rw [hl] at h4
  obtain ⟨_, R, G, rfl, hR, hG, hz⟩ := h4
  exact ⟨R, G, h3, hR, hG, hz⟩

/-! ### Frames -/
theorem ER.args {M : Mp} {args : List Value} {args' : Array Value} (h : LR M args args'.toList) (k : Nat) : ER M (env0 args) (args' ++ Array.replicate k undef) := by
  intro t ht
  simp only [env0]
  rcases Nat.lt_or_ge t args.length with hlt | hge
  · have h1 : args[t]? = some args[t] := List.getElem?_eq_getElem hlt
    obtain ⟨v', e1, e2⟩ := h.at h1
    have h2 : args'[t]? = some v' := by simpa using e1
    have hlt' : t < args'.size := (Array.getElem?_eq_some_iff.1 h2).1
    rw [List.getD_eq_getElem?_getD, h1, Array.getD_eq_getD_getElem?, Array.getElem?_append_left hlt', h2]
    exact e2
  · have hsz : args.length = args'.size := by simpa using h.1
    rw [List.getD_eq_getElem?_getD, List.getElem?_eq_none hge, Array.getD_eq_getD_getElem?, Array.getElem?_append_right (by omega)]
    have : ((Array.replicate k undef)[t - args'.size]?).getD undef = undef := by
      simp only [Array.getElem?_replicate]; split <;> rfl
    rw [this]; exact VR_undef M
theorem fold_putAll {M : Mp} : ∀ (ps : List Tmp) (args args' : List Value) (e : Env) (tmps : Array Value), LR M args args' → ER M e tmps →
    ER M (putAll e (ps.zip args)) ((ps.zip args').foldl (fun t p => t.setIfInBounds p.1 p.2) tmps) ∧ ((ps.zip args').foldl (fun t p => t.setIfInBounds p.1 p.2) tmps).size = tmps.size := by
  intro ps
  induction ps with
  | nil => intro args args' e tmps _ h; exact ⟨h, rfl⟩
  | cons p ps ih =>
    intro args args' e tmps hl h
    cases args with
    | nil => rw [hl.inv_nil]; exact ⟨h, rfl⟩
    | cons v args =>
      obtain ⟨v', r, rfl, hv, hr⟩ := hl.inv_cons
      obtain ⟨a, b⟩ := ih args r (Ab.put e (some p) v) (tmps.setIfInBounds p v') hr (h.put hv (some p))
      exact ⟨a, by simpa using b⟩
theorem round_tmps {M : Mp} {ps : Array Tmp} {args : List Value} {args' : Array Value} {e : Env} {tmps : Array Value} (hl : LR M args args'.toList) (h : ER M e tmps) :
    ER M (putAll e (ps.toList.zip args)) ((ps.zip args').foldl (fun tmps (t, a) => tmps.setIfInBounds t a) tmps) ∧ ((ps.zip args').foldl (fun tmps (t, a) => tmps.setIfInBounds t a) tmps).size = tmps.size := by
  rw [← Array.foldl_toList, Array.toList_zip]
  exact fold_putAll ps.toList args args'.toList e tmps hl h

/-! ### Results -/
theorem res_sim (h : Sm w0 M s w) {e : Env} {tmps : Array Value} (he : ER M e tmps) {r : ResultVar} (hr : (match r with | .tmp t => decide (t < tmps.size) | .cell a _ => decide (a < tmps.size)) = true) {v : Value}
    (hv : resV P w0.heap.size e s r = some v) : ∃ v', ((match r with | .tmp t => pure (tmps.getD t undef) | .cell a t => do loadVar t (← asAddr (tmps.getD a undef))) : Sem Value).run P w = .ok v' w ∧ VR M v v' := by
  cases r with
  | tmp t =>
    simp only [decide_eq_true_eq] at hr
    simp only [resV, Option.some.injEq] at hv
    subst hv
    exact ⟨_, by simp only [Sem.run_pure], he t hr⟩
  | cell a t =>
    simp only [decide_eq_true_eq] at hr
    simp only [resV] at hv
    split at hv
    · rename_i ad had
      have hva := he a hr
      have hp : e a = .pointer (some ad) := by
        unfold ptrV at had
        split at had <;> first | (cases had; assumption) | cases had
      rw [hp] at hva
      obtain ⟨ad', hx, hA⟩ : ∃ ad', tmps.getD a undef = .pointer (some ad') ∧ AR M ad ad' := by
        cases hx : tmps.getD a undef <;> rw [hx] at hva <;> cases hva
        exact ⟨_, rfl, by assumption⟩
      obtain ⟨v', e1, e2⟩ := ldVar_sim (P := P) h hA hv
      refine ⟨v', ?_, e2⟩
      simp only [hx, Sem.run_bind, asAddr, Sem.run_pure, Result.andThen_ok, e1]
    · cases hv
theorem all_sim {e : Env} {f : ResultVar → Sem Value} : ∀ {rs : List ResultVar}, (∀ r ∈ rs, ∀ v, resV P w0.heap.size e s r = some v → ∃ v', (f r).run P w = .ok v' w ∧ VR M v v') → ∀ {vs : List Value}, allV P w0.heap.size e s rs = some vs →
    ∃ vs', LR M vs vs' ∧ (rs.mapM f).run P w = .ok vs' w := by
  intro rs
  induction rs with
  | nil =>
    intro _ vs hv
    simp only [allV, Option.some.injEq] at hv
    subst hv
    exact ⟨[], .nil M, by simp only [List.mapM_nil, Sem.run_pure]⟩
  | cons r rs ih =>
    intro hr vs hv
    simp only [allV] at hv
    split at hv
    · rename_i v vs' h1 h2
      cases hv
      obtain ⟨v', e1, e2⟩ := hr r (by simp) v h1
      obtain ⟨us, f1, f2⟩ := ih (fun r' hr' => hr r' (by simp [hr'])) h2
      refine ⟨v' :: us, .cons e2 f1, ?_⟩
      rw [List.mapM_cons]
      simp only [Sem.run_bind, e1, Result.andThen_ok, f2, Sem.run_pure]
    · cases hv
theorem results_sim (h : Sm w0 M s w) {fn : Func} {e : Env} {tmps : Array Value} (he : ER M e tmps) (hr : ∀ r ∈ fn.results.toList, (match r with | .tmp t => decide (t < tmps.size) | .cell a _ => decide (a < tmps.size)) = true) {v : Value} (hv : resultsV P w0.heap.size fn e s = some v) :
    ∃ v', (results fn tmps).run P w = .ok v' w ∧ VR M v v' := by
  have key : ∀ f : ResultVar → Sem Value, (∀ r ∈ fn.results.toList, ∀ v, resV P w0.heap.size e s r = some v → ∃ v', (f r).run P w = .ok v' w ∧ VR M v v') →
      ∃ v', (do let vs ← fn.results.mapM f; pure (if h : vs.size = 1 then vs[0] else .tuple vs) : Sem Value).run P w = .ok v' w ∧ VR M v v' := fun f hf => by
    unfold resultsV at hv
    cases ha : allV P w0.heap.size e s fn.results.toList with
    | none => rw [ha] at hv; cases hv
    | some vs =>
      obtain ⟨vs', hl, hrun⟩ := all_sim hf ha
      have hrun' : (fn.results.mapM f).run P w = .ok vs'.toArray w := by
        rw [Array.mapM_eq_mapM_toList, Sem.run_map, hrun]; rfl
      rw [ha] at hv
      simp only [Sem.run_bind, hrun', Result.andThen_ok, Sem.run_pure]
      cases vs with
      | nil =>
        obtain rfl := hl.inv_nil
        cases hv
        exact ⟨_, rfl, LR.tuple (by simpa using hl)⟩
      | cons u us =>
        obtain ⟨u', us', rfl, hu, hus⟩ := hl.inv_cons
        cases us with
        | nil =>
          obtain rfl := hus.inv_nil
          cases hv
          exact ⟨_, rfl, by simpa using hu⟩
        | cons u2 us =>
          obtain ⟨u2', us2, rfl, hu2, hus2⟩ := hus.inv_cons
          cases hv
          exact ⟨_, rfl, by simpa using LR.tuple (c := (u :: u2 :: us).toArray) (c' := (u' :: u2' :: us2).toArray) (by simpa using hl)⟩
  unfold results
  refine key _ fun r hrm v hrv => ?_
  have := res_sim (P := P) h he (hr r hrm) hrv
  cases r <;> exact this
end
end Go.Ab
/- The simulation: what runs in the abstract machine runs in the model. -/
set_option linter.unusedVariables false
set_option linter.unusedSimpArgs false
namespace Go.Ab
open Go Go.RowKit

section
variable {P : Program} {w0 : World}

def Good (P : Program) (w0 : World) : Jdg → Prop
  | .code c e s x e' s' => (x = .normal ∨ x = .ret ∨ ∃ i, x = .exit i) ∧ CodeGood P w0 w0.heap.size c e s x e' s' ∧ (∀ b, c = .loop b → LoopGood P w0 w0.heap.size b e s x e' s')
  | .ops all D k l e s e' s' => Tr P w0 all D k l e s e' s'
  | .call f args s v s' => (HasBody P f → CallGood P w0 f args s v s') ∧ (¬ HasBody P f → ExtGood P w0 f args s v s' ∧ noFn args = true)
  | .func fn args s v s' => FnGood P w0 fn args s v s'

theorem PostC.from {M M1 : Mp} {s s1 s' : St} {w w1 w' : World} {N lb : Nat} {x X : Exit} {e' : Env} {a : Act} (hg : Gr M s w M1 s1 w1) (h : PostC w0 M1 s1 w1 N lb x e' s' X a w') : PostC w0 M s w N lb x e' s' X a w' :=
  ⟨h.1, let ⟨M', g, rest⟩ := h.2; ⟨M', hg.trans g, rest⟩⟩
theorem rounds_mono {F : Fence} {n : Nat} {c : Code} {Q Q' : Exit → Act → World → Prop} (hq : ∀ X a w, Q X a w → Q' X a w) : ∀ m a w, Code.roundsIn F n P c Q m a w → Code.roundsIn F n P c Q' m a w := by
  intro m
  induction m with
  | zero => intro a w h; exact h
  | succ m ih =>
    intro a w h
    refine wpIn_mono h fun X a w hX => ?_
    cases X <;> first | exact ih _ _ hX | exact hq _ _ _ hX
theorem then_of {next : Act → World → Prop} {Q : Exit → Act → World → Prop} {X : Exit} {a : Act} {w : World} (hx : X ≠ .normal) (h : Q X a w) : Exit.then next Q X a w := by
  cases X <;> first | exact absurd rfl hx | exact h

theorem Marks.old {lb : Nat} {M : Mp} {w : World} : ∀ {ds : List Deferred}, Marks lb M w ds → ∀ D, ({ target := .collected D, args := #[] } : Deferred) ∈ ds → D < w.heap.size
  | [], _, D, h => by cases h
  | d :: ds, ⟨⟨D0, h1, h2, h3, h4, h5⟩, hr⟩, D, h => by
    rcases List.mem_cons.1 h with h | h
    · rw [h1] at h; cases h; exact (Array.getElem?_eq_some_iff.1 h3).1
    · exact Marks.old hr D h
theorem Marks.put {lb : Nat} {M : Mp} {w : World} {D : Nat} {O : Obj} : ∀ {ds : List Deferred}, Marks lb M w ds → (∀ D', ({ target := .collected D', args := #[] } : Deferred) ∈ ds → D' ≠ D) → Marks lb M (w.putObj D O) ds
  | [], _, _ => trivial
  | d :: ds, ⟨⟨D0, h1, h2, h3, h4, h5⟩, hr⟩, hn =>
    ⟨⟨D0, h1, h2, by rw [World.putObj_heap_other (hn D0 (by rw [h1]; simp))]; exact h3, h4, h5⟩, Marks.put hr fun D' h => hn D' (by simp [h])⟩

theorem leaves_sim {F : Fence} {n : Nat} {fn : Func} {tmps : Array Value} {R : Ending → World → Prop} {M0 M : Mp} {s0 s : St} {wi : World} (hb : w0.heap.size ≤ wi.heap.size)
    (hres : ∀ w', Sm w0 M s w' → Gr M0 s0 wi M s w' → ∃ v, (results fn tmps).run P w' = .ok v w' ∧ R (.returned v) w') :
    ∀ (ds : List Deferred) (w : World), Marks wi.heap.size M w ds → Sm w0 M s w → Gr M0 s0 wi M s w → LeavesInM F n P fn tmps R ds .returning w := by
  intro ds
  induction ds with
  | nil => intro w _ hS hG; exact hres w hS hG
  | cons d ds ih =>
    rintro w ⟨⟨D, h1, h2, h3, h4, h5⟩, hr⟩ hS hG
    exact ⟨by simp, .inl ⟨D, _, by rw [h1], run_takeDeferred h3, ih _ (hr.put h5) (put_free hS h4 (by omega) _) (hG.put_free h2 _)⟩⟩

/-- A range over a function, up to its end. -/
theorem range_sim {f : Operand} {ps : Array Tmp} {as body : Code} {e : Env} {s s1 : St} {fn : FuncId} {args : Array Value} {v : Value} {r : LoopRec}
    (hf : ev e f = .func (.func fn) #[] args) (hcall : CallGood P w0 fn (.func (.yield s.next) #[] #[] :: args.toList) (s.alloc (.loop ⟨e, ps, as, body, .ready, none⟩)) v s1)
    (hl : s1.heap s.next = .loop r) (hst : r.state ≠ .busy) {M : Mp} {w : World} {a : Act} {F : Fence} {n lb : Nat} (hat : CodeAt w0 w0.heap.size (.rangeFunc f ps as body) e s M w a F lb) {Q : Exit → Act → World → Prop}
    (hQ : ∀ a' w' M', Gr M s w M' (s1.upd s.next .gone) w' → Sm w0 M' (s1.upd s.next .gone) w' → ER M' e a'.tmps → a'.tmps.size = a.tmps.size → Marks lb M' w' a'.defers → lb ≤ w'.heap.size → (match r.pending with | none => Q .normal a' w' | some c => c.wpIn F n P Q a' w')) :
    (Code.rangeFunc f ps as body).wpIn F n P Q a w := by
  obtain ⟨hF, hS, hE, hok, hro, hmk, hlb, hG⟩ := hat
  have hro' : F.round = none := hro.resolve_right (by simp [noRF])
  simp only [codeOk, Bool.and_eq_true, List.all_eq_true, decide_eq_true_eq] at hok
  obtain ⟨⟨⟨⟨⟨o1, o2⟩, o3⟩, o4⟩, o5⟩, o6⟩ := hok
  have hv := ev_VR hS hG hE o1
  rw [hf] at hv
  obtain ⟨ca', hev, hca⟩ : ∃ ca', a.eval f = .func (.func fn) #[] ca' ∧ LR M args.toList ca'.toList := by
    cases hx : a.eval f <;> rw [hx] at hv <;> cases hv
    rename_i fn' fi' ca' h0 s1 h1 s2 h2
    cases h0
    have : fi' = #[] := by apply Array.eq_empty_of_size_eq_zero; simpa using s1.symm
    subst this
    exact ⟨_, rfl, LR.ofArr s2 h2⟩
  refine wpIn_rangeFunc fun fid hfid => ?_
  rw [hro']
  -- the two blocks
  obtain ⟨hSa, hGa⟩ := alloc_un hS (.deferred (some []))
  have hLR : LoopR w0.heap.size (M.ext s.next ((w.alloc (.deferred (some []))).heap.size, 0) none a.tmps.size) ⟨e, ps, as, body, .ready, none⟩
      { state := .ready, pending := none, fn := fid, tmps := a.tmps, params := ps, assign := as, body := body, defers := w.heap.size } := by
    have hle := Mle.ext hSa ((w.alloc (.deferred (some []))).heap.size, 0) none a.tmps.size fun b y hb e => by have := hSa.img_lt hb; simp only at e; omega
    exact ⟨hE.mono hle, rfl, rfl, rfl, rfl, rfl, o3, o4, fun t ht => o2 t ht, o5, o6⟩
  obtain ⟨hSb, hGb⟩ := alloc_sim hSa (.loop ⟨e, ps, as, body, .ready, none⟩) (.loop { state := .ready, pending := none, fn := fid, tmps := a.tmps, params := ps, assign := as, body := body, defers := w.heap.size }) none a.tmps.size
    ⟨rfl, _, _, rfl, hLR, Nat.le_refl _, by rw [Mp.ext_sz]⟩
  have hsz1 : (w.alloc (.deferred (some []))).heap.size = w.heap.size + 1 := by simp
  rw [hsz1] at hSb hGb
  obtain ⟨M1, hM1⟩ : ∃ M1, M1 = M.ext s.next (w.heap.size + 1, 0) none a.tmps.size := ⟨_, rfl⟩
  have hb1 : M1.blk s.next = some (w.heap.size + 1, 0) := by rw [hM1]; exact Mp.ext_blk ..
  rw [← hM1] at hSb hGb
  have hGab := hGa.trans hGb
  obtain ⟨W1, hW1⟩ : ∃ W1, W1 = (w.alloc (.deferred (some []))).alloc (.loop { state := .ready, pending := none, fn := fid, tmps := a.tmps, params := ps, assign := as, body := body, defers := w.heap.size }) := ⟨_, rfl⟩
  rw [← hW1] at hSb hGb hGab
  have hargs : LR M1 (Value.func (.yield s.next) #[] #[] :: args.toList) (#[Value.func (.yield (w.heap.size + 1)) #[] #[]] ++ ca').toList := by
    simp only [Array.toList_append, List.singleton_append]
    exact .cons (.func (.yield hb1) rfl (fun i v v' a => by simp at a) rfl (fun i v v' a => by simp at a)) (hca.mono hGab.le)
  obtain ⟨⟨fd, cd, hfd, hcd, hnm⟩, hC⟩ := hcall M1 _ _ F (n - 1) hF hSb hargs
  refine ⟨w.heap.size + 1, [{ target := .collected w.heap.size, args := #[] }], W1, { target := .fn (.func fn) ca', args := #[Value.func (.yield (w.heap.size + 1)) #[] #[]] }, W1, fn,
    #[Value.func (.yield (w.heap.size + 1)) #[] #[]] ++ ca', W1, by rw [hW1]; exact run_enterLoop_outer _ _ _ _ _, ?_, fun f' _ => hF.1 f', ?_, fun h => (by rw [hF.2.1] at h; cases h), hC.mono ?_⟩
  · simp only [resolve, hev]
    simp [go_sem]
  · simp only [invoke, callFunc, Sem.run_bind, run_program, hfd, Result.andThen_ok, beq_iff_eq, hnm, if_false, hcd, Option.isNone_some, Bool.false_eq_true, Sem.run_pure, Sem.run_ite]
  · rintro e' w2 ⟨v', M2, rfl, g2, S2, _⟩
    have hb2 : M2.blk s.next = some (w.heap.size + 1, 0) := g2.le.blk _ _ hb1
    obtain ⟨R, G2, hR1, hR2, hR3, hR4⟩ := loop_sim S2 hb2 hS.nxt hl
    have hp := put_sim S2 hb2 hS.nxt (by rw [hl]; rfl) .gone (.loop { R with state := .exhausted }) trivial
    refine ⟨_, _, run_endLoop hR1 (by rw [hR2.state]; exact hst), ?_⟩
    have hgr : Gr M s w M2 (s1.upd s.next .gone) (w2.putObj (w.heap.size + 1) (.loop { R with state := .exhausted })) := (hGab.trans g2).trans hp.2
    have hgr1 : Gr M s (w.alloc (.deferred (some []))) M2 (s1.upd s.next .gone) (w2.putObj (w.heap.size + 1) (.loop { R with state := .exhausted })) := (hGb.trans g2).trans hp.2
    have hunM : ∀ b x, M.blk b = some x → x.1 ≠ w.heap.size := fun b x hb e => by have := hS.img_lt hb; omega
    have := hQ { a with defers := { target := .collected w.heap.size, args := #[] } :: a.defers } _ M2 hgr hp.1 (hE.mono hgr.le) rfl
      ⟨⟨w.heap.size, rfl, hlb, ?_, fun b x hx e => ?_, fun D' hD' => by have := hmk.old D' hD'; omega⟩, hmk.grow hgr⟩ (Nat.le_trans hlb hgr.size)
    · rw [← hR2.pending] at this
      exact this
    · rw [hgr1.fr w.heap.size (by rw [hsz1]; omega) fun b x hb _ => hunM b x hb]
      exact Go.heap_alloc_new w _
    · rcases hgr1.img b x hx with ⟨b', x', q1, q2⟩ | q
      · exact hunM b' x' q1 (q2.trans e)
      · rw [hsz1] at q; omega

theorem bare_val {M : Mp} {v v' : Value} (hv : bareV v = true) (h : VR M v v') : v' = v := by
  have free : ∀ {v v' : Value}, oldOk 0 v = true → VR M v v' → v' = v := fun {v v'} hv h => by
    cases h <;> first | rfl | (simp [oldOk, oldA] at hv; done)
  have elems : ∀ {p : Value → Bool} {c c' : Array Value}, (∀ v v', p v = true → VR M v v' → v' = v) → c.toList.all p = true → c.size = c'.size → (∀ (i : Nat) v v', c[i]? = some v → c'[i]? = some v' → VR M v v') → c' = c := fun {p c c'} hp hc hs h => by
    apply Array.ext (hs.symm)
    intro i h1 h2
    have e1 : c[i]? = some c[i] := Array.getElem?_eq_getElem h2
    have e2 : c'[i]? = some c'[i] := Array.getElem?_eq_getElem h1
    refine hp _ _ ?_ (h i _ _ e1 e2)
    exact List.all_eq_true.1 hc _ (by have := Array.mem_of_getElem? e1; rw [Array.mem_toList_iff]; exact this)
  have one : ∀ v v', bareV1 v = true → VR M v v' → v' = v := fun v v' hv h => by
    cases v with
    | agg c => cases h with | agg s h o => rw [elems (fun _ _ => free) hv s h]
    | _ => exact free hv h
  cases v with
  | tuple c => cases h with | tuple s h => rw [elems one hv s h]
  | _ => exact one _ _ hv h
theorem bare_list {M : Mp} : ∀ {args args' : List Value}, args.all bareV = true → LR M args args' → args = args' := by
  intro args
  induction args with
  | nil => intro args' _ h; rw [h.inv_nil]
  | cons v l ih =>
    intro args' ha h
    obtain ⟨v', r, rfl, h1, h2⟩ := h.inv_cons
    simp only [List.all_cons, Bool.and_eq_true] at ha
    rw [bare_val ha.1 h1, ih ha.2 h2]
theorem bare_LR {M : Mp} {s : St} {w : World} (h : Sm w0 M s w) : ∀ {l : List Value}, l.all bareV = true → LR M l l := by
  intro l
  induction l with
  | nil => intro _; exact .nil M
  | cons v l ih =>
    intro ha
    simp only [List.all_cons, Bool.and_eq_true] at ha
    refine .cons ?_ (ih ha.2)
    have free : ∀ v, oldOk 0 v = true → VR M v v := fun v hv => ((free_LR h (l := [v]) (by simp [hv])).1).head
    have one : ∀ v, bareV1 v = true → VR M v v := fun v hv => by
      cases v with
      | agg c => obtain ⟨a, b⟩ := free_LR h hv; exact LR.agg a b
      | _ => exact free _ hv
    have many : ∀ {l : List Value}, l.all bareV1 = true → LR M l l := by
      intro l
      induction l with
      | nil => intro _; exact .nil M
      | cons v l ih => intro hl; simp only [List.all_cons, Bool.and_eq_true] at hl; exact .cons (one v hl.1) (ih hl.2)
    cases v with
    | tuple c => exact LR.tuple (many ha.1)
    | _ => exact one _ ha.1

theorem stepR_scope {b : Frame} {cs : List Frame} {k : List Item} {c : Code} {a : Act} {w : World} {P : Program} : Go.step P (lone (b.atR a (.code (.scope c) :: k)) cs w) = .next (lone (b.atR a (.code c :: .inScope c :: k)) cs w) :=
  step_lone_go (by simp [stepG, stepG.exec, Frame.atR])
theorem stepR_inScope {b : Frame} {cs : List Frame} {k : List Item} {c : Code} {a : Act} {w : World} {P : Program} : Go.step P (lone (b.atR a (.inScope c :: k)) cs w) = .next (lone (b.atR a k) cs w) :=
  step_lone_go (by simp [stepG, stepG.exec, Frame.atR])
theorem wpIn_scope {F : Fence} {n : Nat} {P : Program} {Q : Exit → Act → World → Prop} {a : Act} {w : World} {c : Code} (h : c.wpIn F n P (fun x a w => (∀ l, x ≠ .goto l) ∧ Q x a w) a w) : (Code.scope c).wpIn F n P Q a w := by
  intro b k cs hro hb hr
  have h0 : (lone (b.atR a (.code (.scope c) :: k)) cs w).fenced P F := fenced_calm hb hr rfl
  obtain ⟨e, a₁, w₁, ⟨hg, hq⟩, harr⟩ := h b (.inScope c :: k) cs hro hb hr
  cases e with
  | normal => exact ⟨.normal, a₁, w₁, hq, .head h0 stepR_scope (StepsIn.trans harr (.one (fenced_calm hb hr rfl) stepR_inScope))⟩
  | exit id' =>
    have hx : exitTo id' (.inScope c :: k) = exitTo id' k := by simp [exitTo]
    exact ⟨.exit id', a₁, w₁, hq, fun k' hk => .head h0 stepR_scope (harr.1 k' (by rw [hx]; exact hk)),
      fun hr' hk => let ⟨k₁, h1, h2⟩ := harr.2 hr' (by rw [hx]; exact hk); ⟨k₁, h1, .head h0 stepR_scope h2⟩⟩
  | goto l => exact absurd rfl (hg l)
  | ret => exact ⟨_, a₁, w₁, hq, .of_steps (.one h0 stepR_scope) harr⟩
  | panic ch => exact ⟨_, a₁, w₁, hq, .of_steps (.one h0 stepR_scope) harr⟩
  | outgrown => exact ⟨_, a₁, w₁, hq, .of_steps (.one h0 stepR_scope) harr⟩

theorem bare_noFn {args : List Value} (h : args.all bareV = true) : noFn args = true := by
  simp only [noFn, List.all_eq_true] at h ⊢
  intro v hv
  have := h v hv
  cases v <;> first | rfl | (simp [bareV, bareV1, oldOk] at this)
theorem call_body {f : FuncId} {l : Nat} {args : List Value} {s s' : St} {v : Value} (h : (HasBody P f → CallGood P w0 f (.func (.yield l) #[] #[] :: args) s v s') ∧ (¬ HasBody P f → ExtGood P w0 f (.func (.yield l) #[] #[] :: args) s v s' ∧ noFn (.func (.yield l) #[] #[] :: args) = true)) : CallGood P w0 f (.func (.yield l) #[] #[] :: args) s v s' := by
  by_cases hb : HasBody P f
  · exact h.1 hb
  · have := (h.2 hb).2
    simp [noFn] at this
theorem good (hm : P.follows .mixedOrders = true) : ∀ {base : Nat} {j : Jdg}, Ev P base j → ∀ (w0 : World) (G : Nat), base = w0.heap.size → progOk G P = true → G ≤ w0.heap.size → Good P w0 j := by
  intro base j h
  induction h with
  | skip =>
    intro w0 G0 hbase hP hG
    subst hbase
    exact ⟨.inl rfl, fun M w a F n lb ⟨hF, hS, hE, hok, hro, hmk, hlb, hG⟩ => wpIn_skip ⟨rfl, M, .refl _ _ _, hS, hE, rfl, hmk⟩, fun b h => by cases h⟩
  | label =>
    intro w0 G0 hbase hP hG
    subst hbase
    exact ⟨.inl rfl, fun M w a F n lb ⟨hF, hS, hE, hok, hro, hmk, hlb, hG⟩ => wpIn_label ⟨rfl, M, .refl _ _ _, hS, hE, rfl, hmk⟩, fun b h => by cases h⟩
  | exit =>
    intro w0 G0 hbase hP hG
    subst hbase
    exact ⟨.inr (.inr ⟨_, rfl⟩), fun M w a F n lb ⟨hF, hS, hE, hok, hro, hmk, hlb, hG⟩ => wpIn_exit ⟨rfl, M, .refl _ _ _, hS, hE, rfl, hmk⟩, fun b h => by cases h⟩
  | ret =>
    intro w0 G0 hbase hP hG
    subst hbase
    exact ⟨.inr (.inl rfl), fun M w a F n lb ⟨hF, hS, hE, hok, hro, hmk, hlb, hG⟩ => wpIn_ret ⟨rfl, M, .refl _ _ _, hS, hE, rfl, hmk⟩, fun b h => by cases h⟩
  | @seq base a b e s e1 s1 x e2 s2 h1 h2 ih1 ih2 =>
    intro w0 G0 hbase hP hG
    subst hbase
    replace ih1 := ih1 w0 G0 rfl hP hG
    replace ih2 := ih2 w0 G0 rfl hP hG
    refine ⟨ih2.1, fun M w act F n lb ⟨hF, hS, hE, hok, hro, hmk, hlb, hG⟩ => ?_, fun b h => by cases h⟩
    simp only [codeOk, Bool.and_eq_true] at hok
    simp only [noRF, Bool.and_eq_true] at hro
    refine wpIn_seq (wpIn_mono (ih1.2.1 M w act F n lb ⟨hF, hS, hE, hok.1, hro.imp_right And.left, hmk, hlb, hG⟩) ?_)
    rintro X a1 w1 ⟨rfl, M1, g1, S1, E1, N1, k1⟩
    refine wpIn_mono (ih2.2.1 M1 w1 a1 F n lb ⟨hF, S1, E1, by rw [N1]; exact hok.2, hro.imp_right And.right, k1, Nat.le_trans hlb g1.size, hG⟩) fun X a2 w2 h => ?_
    rw [N1] at h
    exact h.from g1
  | @seq_out base a b e s x e1 s1 h1 hx ih1 =>
    intro w0 G0 hbase hP hG
    subst hbase
    replace ih1 := ih1 w0 G0 rfl hP hG
    refine ⟨ih1.1, fun M w act F n lb ⟨hF, hS, hE, hok, hro, hmk, hlb, hG⟩ => ?_, fun b h => by cases h⟩
    simp only [codeOk, Bool.and_eq_true] at hok
    simp only [noRF, Bool.and_eq_true] at hro
    refine wpIn_seq (wpIn_mono (ih1.2.1 M w act F n lb ⟨hF, hS, hE, hok.1, hro.imp_right And.left, hmk, hlb, hG⟩) ?_)
    intro X a1 w1 h
    exact then_of (by rw [h.1]; exact hx) h
  | @cond base c a b e s x e1 s1 t hc h1 ih1 =>
    intro w0 G0 hbase hP hG
    subst hbase
    replace ih1 := ih1 w0 G0 rfl hP hG
    refine ⟨ih1.1, fun M w act F n lb ⟨hF, hS, hE, hok, hro, hmk, hlb, hG⟩ => ?_, fun b h => by cases h⟩
    simp only [codeOk, Bool.and_eq_true] at hok
    simp only [noRF, Bool.and_eq_true] at hro
    have hv := ev_VR hS hG hE hok.1.1
    rw [hc] at hv
    have hev : act.eval c = .bool t := by cases hx : act.eval c <;> rw [hx] at hv <;> cases hv; rfl
    refine wpIn_cond hev (ih1.2.1 M w act F n lb ⟨hF, hS, hE, ?_, ?_, hmk, hlb, hG⟩)
    · cases t
      · exact hok.2
      · exact hok.1.2
    · cases t
      · exact hro.imp_right And.right
      · exact hro.imp_right And.left
  | @block base i a e s x e1 s1 h1 hx ih1 =>
    intro w0 G0 hbase hP hG
    subst hbase
    replace ih1 := ih1 w0 G0 rfl hP hG
    refine ⟨ih1.1, fun M w act F n lb ⟨hF, hS, hE, hok, hro, hmk, hlb, hG⟩ => ?_, fun b h => by cases h⟩
    refine wpIn_block (wpIn_mono (ih1.2.1 M w act F n lb ⟨hF, hS, hE, hok, hro, hmk, hlb, hG⟩) ?_)
    intro X a1 w1 h
    have hX := h.1
    cases X with
    | exit j =>
      simp only [Exit.inBlock]
      rw [if_neg (fun e => hx (by rw [← hX, e]))]
      exact h
    | _ => exact h
  | @block_out base i a e s e1 s1 h1 ih1 =>
    intro w0 G0 hbase hP hG
    subst hbase
    replace ih1 := ih1 w0 G0 rfl hP hG
    refine ⟨.inl rfl, fun M w act F n lb ⟨hF, hS, hE, hok, hro, hmk, hlb, hG⟩ => ?_, fun b h => by cases h⟩
    refine wpIn_block (wpIn_mono (ih1.2.1 M w act F n lb ⟨hF, hS, hE, hok, hro, hmk, hlb, hG⟩) ?_)
    rintro X a1 w1 ⟨rfl, h⟩
    simp only [Exit.inBlock, if_true]
    exact ⟨rfl, h⟩
  | @loop base a e s e1 s1 x e2 s2 h1 h2 ih1 ih2 =>
    intro w0 G0 hbase hP hG
    subst hbase
    replace ih1 := ih1 w0 G0 rfl hP hG
    replace ih2 := ih2 w0 G0 rfl hP hG
    have hL : LoopGood P w0 w0.heap.size a e s x e2 s2 := by
      obtain ⟨m, hmr⟩ := ih2.2.2 a rfl
      refine ⟨m + 1, fun M w act F n lb ⟨hF, hS, hE, hok, hro, hmk, hlb, hG⟩ => ?_⟩
      refine wpIn_mono (ih1.2.1 M w act F n lb ⟨hF, hS, hE, hok, hro, hmk, hlb, hG⟩) ?_
      rintro X a1 w1 ⟨rfl, M1, g1, S1, E1, N1, k1⟩
      have := hmr M1 w1 a1 F n lb ⟨hF, S1, E1, by rw [N1]; exact hok, hro, k1, Nat.le_trans hlb g1.size, hG⟩
      rw [N1] at this
      exact rounds_mono (fun X a w h => h.from g1) m _ _ this
    refine ⟨ih2.1, fun M w act F n lb hat => ?_, fun b h => by cases h; exact hL⟩
    obtain ⟨m, hmr⟩ := hL
    exact wpIn_loop_rounds m (hmr M w act F n lb hat)
  | @loop_out base a e s x e1 s1 h1 hx ih1 =>
    intro w0 G0 hbase hP hG
    subst hbase
    replace ih1 := ih1 w0 G0 rfl hP hG
    have hL : LoopGood P w0 w0.heap.size a e s x e1 s1 := by
      refine ⟨1, fun M w act F n lb hat => ?_⟩
      refine wpIn_mono (ih1.2.1 M w act F n lb hat) fun X a1 w1 h => then_of (by rw [h.1]; exact hx) h
    refine ⟨ih1.1, fun M w act F n lb hat => ?_, fun b h => by cases h; exact hL⟩
    obtain ⟨m, hmr⟩ := hL
    exact wpIn_loop_rounds m (hmr M w act F n lb hat)
  | @scope base a e s x e1 s1 h1 hx ih1 =>
    intro w0 G0 hbase hP hG
    subst hbase
    replace ih1 := ih1 w0 G0 rfl hP hG
    refine ⟨ih1.1, fun M w act F n lb ⟨hF, hS, hE, hok, hro, hmk, hlb, hG⟩ => ?_, fun b h => by cases h⟩
    refine wpIn_scope (wpIn_mono (ih1.2.1 M w act F n lb ⟨hF, hS, hE, hok, hro, hmk, hlb, hG⟩) ?_)
    intro X a1 w1 h
    refine ⟨fun l hl => ?_, h⟩
    have hX := h.1
    rcases hx with rfl | rfl | ⟨i, rfl⟩ <;> (rw [hl] at hX; cases hX)
  | @region base i ops e s e1 s1 h1 ih1 =>
    intro w0 G0 hbase hP hG
    subst hbase
    replace ih1 := ih1 w0 G0 rfl hP hG
    refine ⟨.inl rfl, fun M w act F n lb ⟨hF, hS, hE, hok, hro, hmk, hlb, hG⟩ => ?_, fun b h => by cases h⟩
    simp only [codeOk, List.all_eq_true] at hok
    refine wpIn_region ?_
    rw [List.range_eq_range', ← Array.length_toList]
    refine plain_ops hF hG hok ops.toList 0 e s M w act ih1 rfl hS hE rfl ?_
    intro a' w' M' q1 q2 q3 q4 q5
    exact ⟨rfl, M', q1, q2, q3, q4, by rw [q5]; exact hmk.grow q1⟩
  | @region_draw base i ops e s e1 s1 eff lite kp hd he h1 ih1 =>
    intro w0 G0 hbase hP hG
    subst hbase
    replace ih1 := ih1 w0 G0 rfl hP hG
    refine ⟨.inl rfl, fun M w act F n lb ⟨hF, hS, hE, hok, hro, hmk, hlb, hG⟩ => ?_, fun b h => by cases h⟩
    simp only [codeOk, List.all_eq_true] at hok
    refine drawn_region (N := act.tmps.size) hm hF hG hok hd he ih1 hS hE rfl ?_
    intro a' w' M' q1 q2 q3 q4 q5
    exact ⟨rfl, M', q1, q2, q3, q4, by rw [q5]; exact hmk.grow q1⟩
  | @rangeFunc base f ps as body e s fn args v s1 r st hf h1 hl hs hst hp ih1 =>
    intro w0 G0 hbase hP hG
    subst hbase
    replace ih1 := ih1 w0 G0 rfl hP hG
    refine ⟨.inl rfl, fun M w act F n lb hat => ?_, fun b h => by cases h⟩
    refine range_sim hf (call_body ih1) hl (by rw [hs]; exact hst) hat fun a' w' M' q1 q2 q3 q4 q5 q6 => ?_
    rw [hp]
    exact ⟨rfl, M', q1, q2, q3, q4, q5⟩
  | @rangeFunc_out base f ps as body e s fn args v s1 r c x e2 s2 hf h1 hl hst hp hc h2 ih1 ih2 =>
    intro w0 G0 hbase hP hG
    subst hbase
    replace ih1 := ih1 w0 G0 rfl hP hG
    replace ih2 := ih2 w0 G0 rfl hP hG
    refine ⟨ih2.1, fun M w act F n lb hat => ?_, fun b h => by cases h⟩
    refine range_sim hf (call_body ih1) hl hst hat fun a' w' M' q1 q2 q3 q4 q5 q6 => ?_
    rw [hp]
    simp only
    obtain ⟨hF, hS, hE, hok, hro, hmk, hlb, hG⟩ := hat
    have hco : codeOk w0.heap.size a'.tmps.size c = true ∧ noRF c = true := by
      rcases hc with rfl | ⟨i, rfl⟩ <;> exact ⟨rfl, rfl⟩
    have := ih2.2.1 M' w' a' F n lb ⟨hF, q2, q3, hco.1, .inr hco.2, q5, q6, hG⟩
    rw [q4] at this
    exact wpIn_mono this fun X a w h => h.from q1
  | ops_nil =>
    intro w0 G0 hbase hP hG
    subst hbase
    exact ⟨rfl, rfl⟩
  | ops_not hg hb hw h ih =>
    intro w0 G0 hbase hP hG
    subst hbase
    replace ih := ih w0 G0 rfl hP hG
    exact .inl ⟨_, _, _, hg, hb, hw, ih⟩
  | @ops_plain base all D k o l e s v s1 e2 s2 hg hc hv hD hL h ih =>
    intro w0 G0 hbase hP hG
    subst hbase
    replace ih := ih w0 G0 rfl hP hG
    exact .inr ⟨v, s1, hg, op_plain_good o hc hv, hD, fun hl => ⟨(quiet_pop hl hc hv).1, fun s3 => op_plain_good o hc ((quiet_pop hl hc hv).2 s3)⟩, load_pop hv hL, ih⟩
  | @ops_call base all D k o l e s c fn args v s1 e2 s2 hg ho hb hcal hc hD h ih1 ih2 =>
    intro w0 G0 hbase hP hG
    subst hbase
    replace ih1 := ih1 w0 G0 rfl hP hG
    replace ih2 := ih2 w0 G0 rfl hP hG
    refine .inr ⟨v, s1, hg, op_call_good o ho hcal ih1, hD, fun hl => ?_, by unfold LiteOk; cases D <;> first | trivial | (intro _ h; rw [ho] at h; cases h), ih2⟩
    exfalso
    obtain ⟨callee, cargs, cts⟩ := c
    cases callee with
    | builtin b => simp [Callee.isB] at hb
    | value f => simp [loudO, ho] at hl
    | invoke r m => simp [loudO, ho] at hl
  | func h ih =>
    intro w0 G0 hbase hP hG
    subst hbase
    replace ih := ih w0 G0 rfl hP hG
    exact ⟨ih.1, fun hb => (ih.2 hb).1⟩
  | ext hb hn h =>
    intro w0 G0 hbase hP hG
    exact ⟨fun hb' => absurd hb' hb, fun _ => ⟨h w0 hbase.symm, hn⟩⟩
  | given hb h =>
    intro w0 G0 hbase hP hG
    exact ⟨fun _ => h w0 hbase.symm, fun hb' => absurd hb hb'⟩
  | @yield base l args s r e1 s1 x e2 s2 hl hn hst hold h1 hl1 h2 hl2 j hx ih1 ih2 =>
    intro w0 G0 hbase hP hG
    subst hbase
    replace ih1 := ih1 w0 G0 rfl hP hG
    replace ih2 := ih2 w0 G0 rfl hP hG
    intro M w l' args' F n hF hS hb hL
    obtain ⟨R, G1, hR1, hR2, hR3, hR4⟩ := loop_sim hS hb hold hl
    have hsz : args'.size = R.params.size := by rw [hR2.params, hn]; simpa using hL.1.symm
    have hy := run_yield (P := P) hR1 hsz
    refine ⟨_, _, _, _, hy, roundIn_of_wpIn (hF.1 _) ?_⟩
    rw [hR2.params, hR2.assign, hR2.body]
    obtain ⟨hE1, hN1⟩ := round_tmps (ps := r.params) hL hR2.env
    have hFr : Fwide (F.inRound l') := ⟨hF.1, hF.2⟩
    refine wpIn_mono (ih1.2.1 M w _ (F.inRound l') n w.heap.size ⟨hFr, hS, hE1, ?_, .inr hR2.rfA, trivial, Nat.le_refl _, Nat.le_refl _⟩) ?_
    · simp only [hN1]; exact codeOk_mono hR3 (Nat.le_refl _) hR2.okA
    · rintro X a1 w1 ⟨rfl, M1, g1, S1, E1, N1, k1⟩
      simp only [hN1] at N1
      have hb1 := g1.le.blk _ _ hb
      obtain ⟨R1, G1', hR1', hR2', hR3', hR4'⟩ := loop_sim S1 hb1 hold hl1
      refine ⟨_, run_beginRound hR1' (by rw [hR2'.state]; exact hst), ?_⟩
      obtain ⟨S1', g1'⟩ := put_sim S1 hb1 hold (by rw [hl1]; rfl) (.loop { r with state := .busy }) (.loop { R1 with state := .busy })
        ⟨rfl, _, _, rfl, ⟨hR2'.env, hR2'.params, hR2'.assign, hR2'.body, rfl, hR2'.pending, hR2'.okA, hR2'.okB, hR2'.okP, hR2'.rfA, hR2'.rfB⟩, hR3', hR4'⟩
      refine wpIn_mono (ih2.2.1 M1 _ a1 (F.inRound l') n w.heap.size ⟨hFr, S1', E1, ?_, .inr hR2.rfB, k1.grow g1', Nat.le_trans g1.size g1'.size, Nat.le_refl _⟩) ?_
      · rw [N1]; exact codeOk_mono hR3 (Nat.le_refl _) hR2.okB
      · rintro X a2 w2 ⟨rfl, M2, g2, S2, E2, N2, k2⟩
        have hb2 := g2.le.blk _ _ hb1
        obtain ⟨R2, G2', p1, p2, p3, p4⟩ := loop_sim S2 hb2 hold hl2
        have hend := run_endRound (P := P) j p1
        obtain ⟨S3, g3⟩ := put_sim S2 hb2 hold (by rw [hl2]; rfl) (.loop { r with state := (if j.isNone = true then .ready else .done), pending := j }) (.loop { R2 with state := (if j.isNone = true then .ready else .done), pending := j })
          ⟨rfl, _, _, rfl, ⟨p2.env, p2.params, p2.assign, p2.body, rfl, rfl, p2.okA, p2.okB, p2.okP, p2.rfA, p2.rfB⟩, p3, p4⟩
        have hgr := ((g1.trans g1').trans g2).trans g3
        rcases hx with ⟨rfl, rfl⟩ | ⟨rfl, rfl⟩ | ⟨i, rfl, rfl⟩
        · exact ⟨_, _, hend, _, M2, rfl, hgr, S3, .bool _⟩
        · exact ⟨_, _, hend, _, M2, rfl, hgr, S3, .bool _⟩
        · exact ⟨_, _, hend, _, M2, rfl, hgr, S3, .bool _⟩
  | @call base f args s fn c x e1 s1 v hf hb h hx hr ih =>
    intro w0 G0 hbase hP hG
    subst hbase
    replace ih := ih w0 G0 rfl hP hG
    refine ⟨fun _ => ?_, fun hnb => absurd ⟨fn, c, hf, hb⟩ hnb⟩
    intro M w args' F n hF hS hL
    have hfo : funcOk G0 fn = true := by
      simp only [progOk, List.all_eq_true] at hP
      exact hP fn (by have := Array.mem_of_getElem? hf; simpa using this)
    simp only [funcOk, hb, Bool.and_eq_true, List.all_eq_true, bne_iff_ne, ne_eq] at hfo
    obtain ⟨⟨ho1, ho2⟩, ho3⟩ := hfo
    refine ⟨⟨fn, c, hf, hb, ho3⟩, ?_⟩
    have key : CallsIn F.plain n P f args' w (fun e w' => ∃ v' M', e = .returned v' ∧ Gr M s w M' s1 w' ∧ Sm w0 M' s1 w' ∧ VR M' v v') := by
      refine callsIn_of_wp_marks hf hb (hF.1 f) ?_ rfl
      have hN : fn.ntmps ≤ (args' ++ Array.replicate (fn.ntmps - args'.size) undef).size := by simp; omega
      refine wpIn_mono (ih.2.1 M w _ F.plain n w.heap.size ⟨⟨hF.1, hF.2⟩, hS, ER.args hL _, codeOk_mono hG hN ho1, .inl rfl, trivial, Nat.le_refl _, Nat.le_refl _⟩) ?_
      rintro X a1 w1 ⟨rfl, M1, g1, S1, E1, N1, k1⟩
      have hlv : LeavesInM F.plain n P fn a1.tmps (fun e w' => ∃ v' M', e = .returned v' ∧ Gr M s w M' s1 w' ∧ Sm w0 M' s1 w' ∧ VR M' v v') a1.defers .returning w1 := by
        refine leaves_sim hS.below.size (fun w' hS' hG' => ?_) a1.defers w1 k1 S1 g1
        have hrs : ∀ r ∈ fn.results.toList, (match r with | .tmp t => decide (t < a1.tmps.size) | .cell a _ => decide (a < a1.tmps.size)) = true := fun r hr => by
          have := ho2 r hr
          rw [N1]
          cases r with
          | tmp t => simp only [decide_eq_true_eq] at *; exact Nat.lt_of_lt_of_le this hN
          | cell t _ => simp only [decide_eq_true_eq] at *; exact Nat.lt_of_lt_of_le this hN
        obtain ⟨v', e1, e2⟩ := results_sim (P := P) hS' (fn := fn) E1 hrs hr
        exact ⟨v', e1, v', M1, rfl, hG', hS', e2⟩
      rcases hx with rfl | rfl
      · exact hlv
      · exact hlv
    exact key
  | @closed base f args s v s1 g t hgb hP0 ha hv htn hth h ih =>
    intro w0 G0 hbase hP hG
    subst hbase
    have key : ∀ (M : Mp) (w : World) (args' : Array Value), Sm w0 M s w → LR M args args'.toList → args'.toList = args ∧ ∃ (w1 : World) (M1 : Mp), w1.heap.size = g ∧ Good P w1 (.call f args t v s1) ∧ Sm w1 M1 t w ∧ LR M1 args args ∧
        ∀ v' w' M2, Gr M1 t w M2 s1 w' → Sm w1 M2 s1 w' → VR M2 v v' → Gr M s w M s w' ∧ Sm w0 M s w' ∧ VR M v v' := by
      intro M w args' hS hL
      obtain rfl := bare_list ha (args' := args'.toList) hL
      refine ⟨rfl, ?_⟩
      have hgw : g ≤ w.heap.size := Nat.le_trans hgb hS.below.size
      have hsz : (w.heap.extract 0 g).size = g := by simp; omega
      have hex : ∀ b, b < g → (w.heap.extract 0 g)[b]? = w.heap[b]? := fun b hb => by
        rw [Array.getElem?_extract]; simp; omega
      have ih := ih { w with heap := w.heap.extract 0 g } g hsz.symm hP0 (by simp only [hsz]; omega)
      have hS0 : Sm { w with heap := w.heap.extract 0 g } ⟨fun b => if b < g then some (b, 0) else none, fun _ => none, fun _ => 0⟩ t w := by
        refine ⟨⟨rfl, rfl, rfl, by simp only [hsz]; omega, fun k hk => ?_⟩, by simp only [hsz]; omega, fun b hb => ?_, fun b hb => ?_, fun b x hb hge => ?_, fun b b' x x' h1 h2 hb => ?_⟩
        · simp only [hsz] at hk; exact (hex k hk).symm
        · simp only [hsz] at hb; simp [hb]
        · simp only [hsz] at hb
          rw [hth b hb, hS.olds b (by omega)]
          simp only [oldObj]
          rw [hex b hb, hS.below.block b (by omega)]
        · simp only [hsz] at hge; simp only at hb; rw [if_neg (by omega)] at hb; cases hb
        · simp only [hsz] at h1; simp only at hb; rw [if_neg (by omega)] at hb; cases hb
      refine ⟨_, _, hsz, ih, hS0, bare_LR hS0 ha, ?_⟩
      intro v' w' M1 g1 S1 hv'
      obtain rfl := bare_val hv hv'
      have hfr : ∀ B, B < w.heap.size → w'.heap[B]? = w.heap[B]? := fun B hB => by
        by_cases hBg : B < g
        · rw [S1.below.block B (by simp only [hsz]; exact hBg)]; exact hex B hBg
        · refine g1.fr B hB fun b x hb _ => ?_
          simp only at hb
          split at hb
          · cases hb; simp only; omega
          · cases hb
      refine ⟨⟨.refl M, Nat.le_refl _, fun _ _ h _ => h, fun b x h => .inl ⟨b, x, h, rfl⟩, fun b x h hg => .inl ⟨b, x, h, hg, rfl⟩, fun B hB _ => hfr B hB, g1.size⟩, ?_, (bare_LR hS (l := [v']) (by simp [hv])).head⟩
      have hb := S1.below
      refine ⟨⟨hb.os.trans hS.below.os, hb.tape.trans hS.below.tape, hb.output.trans hS.below.output, Nat.le_trans hS.below.size g1.size, fun k hk => (hfr k (Nat.lt_of_lt_of_le hk hS.below.size)).trans (hS.below.block k hk)⟩, hS.nxt, hS.old, hS.olds, fun b x hb hge => ?_, hS.inj⟩
      obtain ⟨k1, k2, o, k3, k4⟩ := hS.new b x hb hge
      exact ⟨k1, k2, o, (hfr x.1 (Array.getElem?_eq_some_iff.1 k3).1).trans k3, k4⟩
    refine ⟨fun hb => ?_, fun hb => ⟨?_, bare_noFn ha⟩⟩
    · intro M w args' F n hF hS hL
      obtain ⟨rfl, w1, M1, -, ih, hS0, hL0, post⟩ := key M w args' hS hL
      obtain ⟨h1, h2⟩ := ih.1 hb M1 w args' F n hF hS0 hL0
      refine ⟨h1, h2.mono ?_⟩
      rintro e w' ⟨v', M2, rfl, g1, S1, hv'⟩
      obtain ⟨p1, p2, p3⟩ := post v' w' M2 g1 S1 hv'
      exact ⟨v', M, rfl, p1, p2, p3⟩
    · intro M w args' hS hL
      obtain ⟨rfl, w1, M1, -, ih, hS0, hL0, post⟩ := key M w args' hS hL
      obtain ⟨v', w', M2, h1, g1, S1, hv'⟩ := (ih.2 hb).1 M1 w args' hS0 hL0
      obtain ⟨p1, p2, p3⟩ := post v' w' M2 g1 S1 hv'
      exact ⟨v', w', M, h1, p1, p2, p3⟩
end
end Go.Ab
/- What runs in the abstract machine, from a world's own old rows, runs in the model. -/
set_option linter.unusedVariables false
set_option linter.unusedSimpArgs false
namespace Go.Ab
open Go Go.RowKit

def St0 (w0 : World) : St := ⟨oldObj w0, w0.heap.size⟩
def Mp0 (w0 : World) : Mp := ⟨fun b => if b < w0.heap.size then some (b, 0) else none, fun _ => none, fun _ => 0⟩
theorem Sm0 (w0 : World) : Sm w0 (Mp0 w0) (St0 w0) w0 := by
  refine ⟨Below.refl _ _, Nat.le_refl _, fun b hb => ⟨by simp [Mp0, hb], rfl⟩, fun b hb => rfl, fun b x hb hge => ?_, fun b b' x x' h1 h2 h3 => ?_⟩
  · simp only [Mp0] at hb; rw [if_neg (by omega)] at hb; cases hb
  · simp only [Mp0] at h3; rw [if_neg (by omega)] at h3; cases h3

theorem old_args {w0 : World} : ∀ {args : List Value}, args.all (oldOk w0.heap.size) = true → LR (Mp0 w0) args args := by
  intro args
  induction args with
  | nil => intro _; exact .nil _
  | cons v l ih =>
    intro h
    simp only [List.all_cons, Bool.and_eq_true] at h
    exact .cons (oldVR (Sm0 w0) h.1).1 (ih h.2)
theorem old_agg {w0 : World} {c : Array Value} (h : c.toList.all (oldOk w0.heap.size) = true) : VR (Mp0 w0) (.agg c) (.agg c) :=
  LR.agg (old_args h) fun v hv => (oldVR (Sm0 w0) (List.all_eq_true.1 h v hv)).2
/-- An argument that leads to old rows alone. -/
def argOk (base : Nat) : Value → Bool
  | .agg c => c.toList.all (oldOk base)
  | v => oldOk base v
theorem arg_VR {w0 : World} {v : Value} (h : argOk w0.heap.size v = true) : VR (Mp0 w0) v v := by
  cases v with
  | agg c => exact old_agg h
  | _ => simp only [argOk] at h; exact (oldVR (Sm0 w0) h).1
theorem args_LR {w0 : World} : ∀ {args : List Value}, args.all (argOk w0.heap.size) = true → LR (Mp0 w0) args args := by
  intro args
  induction args with
  | nil => intro _; exact .nil _
  | cons v l ih =>
    intro h
    simp only [List.all_cons, Bool.and_eq_true] at h
    exact .cons (arg_VR h.1) (ih h.2)

theorem calls_of_WC {P : Program} (hm : P.follows .mixedOrders = true) {G : Nat} (hP : progOk G P = true) {w0 : World} (hG : G ≤ w0.heap.size) {f : FuncId} {args : Array Value} (ha : args.toList.all (argOk w0.heap.size) = true) (hb : HasBody P f)
    (h : WC P w0.heap.size f args.toList (St0 w0) (fun v _ => v = .bool true)) : Calls P f args w0 (fun e w' => e = .returned (.bool true) ∧ Below w0.heap.size w0 w') := by
  obtain ⟨v, s', hE, rfl⟩ := h
  obtain ⟨_, hC⟩ := (good hm hE w0 G rfl hP hG).1 hb (Mp0 w0) w0 args Fence.wide 0 ⟨fun _ => trivial, rfl, rfl⟩ (Sm0 w0) (args_LR ha)
  refine (hC.calls fun k d hd => by cases hd).mono fun e w' ⟨v', M', h1, h2, h3, h4⟩ => ⟨?_, h3.below⟩
  cases h4
  exact h1
end Go.Ab
/- What the reading of a row's arguments tells of the cells. -/
set_option linter.unusedVariables false
set_option linter.unusedSimpArgs false
namespace Go.Ab
open Go Go.RowKit

inductive CK where
  | int (k : IntKind)
  | bool
  | str
  | sl (es : List CK)

/-- The fields of a struct lie one behind the other. -/
def offsOk (P : Program) : List Field → Nat → Bool
  | [], _ => true
  | f :: r, o => decide (f.offset = o) && offsOk P r (o + P.cellsOf f.type)
def flat (P : Program) : Nat → TypeId → Option (List CK)
  | 0, _ => none
  | n + 1, t =>
    let all : Option (List CK) := match P.underlying t with
      | some .bool => some [.bool]
      | some (.int k) => some [.int k]
      | some .string => some [.str]
      | some (.slice e) => (flat P n e).map fun l => [.sl l]
      | some (.struct fs) => if offsOk P fs.toList 0 = true then fs.toList.foldr (fun f acc => match flat P n f.type, acc with | some l, some r => some (l ++ r) | _, _ => none) (some []) else none
      | some (.array k e) => (flat P n e).map fun l => (List.replicate k l).flatten
      | _ => none
    match all with
    | some l => if l.length = P.cellsOf t then some l else none
    | none => none
mutual
def okCell (w : World) : CK → Value → Prop
  | .int k, v => ∃ n, v = .int k n ∧ (Lit.int k n).wf = true
  | .bool, v => ∃ b, v = .bool b
  | .str, v => ∃ s, v = .string s ∧ s.size ≤ maxLen
  | .sl es, v => v = .slice none 0 0 ∨ ∃ a len cap, v = .slice (some a) len cap ∧ len ≤ cap ∧ cap ≤ maxLen ∧
      ∀ i, i < cap → ∃ l, w.cells? 0 (a.add (i * es.length)) es.length = some l ∧ okCells w es l
def okCells (w : World) : List CK → List Value → Prop
  | [], vs => vs = []
  | k :: ks, vs => ∃ v r, vs = v :: r ∧ okCell w k v ∧ okCells w ks r
end

theorem okCells_append {w : World} : ∀ {a b : List CK} {l m : List Value}, okCells w a l → okCells w b m → okCells w (a ++ b) (l ++ m) := by
  intro a
  induction a with
  | nil => intro b l m h1 h2; simp only [okCells] at h1; subst h1; exact h2
  | cons k a ih =>
    intro b l m h1 h2
    simp only [okCells] at h1
    obtain ⟨v, r, rfl, h3, h4⟩ := h1
    simp only [List.cons_append, okCells]
    exact ⟨v, r ++ m, rfl, h3, ih h4 h2⟩
theorem okCells_length {w : World} : ∀ {a : List CK} {l : List Value}, okCells w a l → l.length = a.length := by
  intro a
  induction a with
  | nil => intro l h; simp only [okCells] at h; subst h; rfl
  | cons k a ih =>
    intro l h
    simp only [okCells] at h
    obtain ⟨v, r, rfl, _, h4⟩ := h
    simp [ih h4]
theorem okCells_one {w : World} {k : CK} {v : Value} (h : okCell w k v) : okCells w [k] [v] := by
  simp only [okCells]; exact ⟨v, [], rfl, h, rfl⟩

theorem flat_len {P : Program} {m : Nat} {t : TypeId} {l : List CK} (h : flat P m t = some l) : l.length = P.cellsOf t := by
  cases m with
  | zero => cases h
  | succ m =>
    simp only [flat] at h
    split at h
    · split at h
      · cases h; assumption
      · cases h
    · cases h

theorem trod_ok {H : Type} {enc : TypeId × Value → H} {P : Program} {w : World} {held : Bool} : ∀ (n fuel : Nat) (t : TypeId) (ks : List CK) (cs : List Value) (x : DataW H × List MemPlace),
    flat P n t = some ks → DataW.trod enc P w 0 (fun _ => true) held fuel t cs = some x → okCells w ks cs := by
  intro n
  induction n with
  | zero => intro fuel t ks cs x h; cases h
  | succ n ih =>
    intro fuel t ks cs x hf h
    have hkl := flat_len hf
    simp only [flat] at hf
    split at hf
    · rename_i l hl
      split at hf
      · cases hf
        cases hu : P.underlying t with
        | none => rw [hu] at hl; cases hl
        | some D =>
          rw [hu] at hl
          cases D with
          | bool =>
            cases hl
            obtain ⟨b, rfl, _⟩ := DataW.trod_bool hu h
            exact okCells_one ⟨b, rfl⟩
          | int k =>
            cases hl
            obtain ⟨b, rfl, _, hw⟩ := DataW.trod_int hu h
            exact okCells_one ⟨b, rfl, hw⟩
          | string =>
            cases hl
            obtain ⟨b, rfl, _, hw⟩ := DataW.trod_string hu h
            exact okCells_one ⟨b, rfl, hw⟩
          | slice e =>
            simp only [Option.map_eq_some_iff] at hl
            obtain ⟨es, he, rfl⟩ := hl
            have hel := flat_len he
            rcases DataW.trod_slice hu h with ⟨rfl, _⟩ | ⟨a, len, cap, elems, rest, m, rfl, rfl, _, _, h2, h3, h4, h5, h6, _⟩
            · exact okCells_one (.inl rfl)
            · refine okCells_one (.inr ⟨a, len, cap, rfl, h2, h3, fun i hi => ?_⟩)
              rw [hel]
              obtain ⟨h6, h7⟩ := h6 rfl
              have main : ∀ y, (w.cells? 0 (a.add (i * P.cellsOf e)) (P.cellsOf e)).bind (DataW.trod enc P w 0 (fun _ => true) held m e) = some y → ∃ l, w.cells? 0 (a.add (i * P.cellsOf e)) (P.cellsOf e) = some l ∧ okCells w es l := fun y hy => by
                obtain ⟨l, hl, hy⟩ := Option.bind_eq_some_iff.1 hy
                exact ⟨l, hl, ih _ _ _ _ _ he hy⟩
              rcases Nat.lt_or_ge i len with hil | hil
              · exact main elems[i] (by rw [h5 i hil, List.getElem?_eq_getElem (by omega)])
              · have := h7 (i - len) (by omega)
                rw [show len + (i - len) = i by omega] at this
                exact main rest[i - len] (by rw [this, List.getElem?_eq_getElem (by omega)])
          | struct fs =>
            obtain ⟨xs, m, rfl, _, h1, h2, h3⟩ := DataW.trod_struct hu h
            have hoff : offsOk P fs.toList 0 = true := by
              simp only at hl; split at hl
              · assumption
              · cases hl
            simp only [hoff, if_true] at hl
            have key : ∀ (r : List Field) (o : Nat) (ls : List CK), (∃ i, r = fs.toList.drop i) → offsOk P r o = true → r.foldr (fun f acc => match flat P n f.type, acc with | some l, some r => some (l ++ r) | _, _ => none) (some []) = some ls →
                cs.length = o + ls.length → okCells w ls (cs.drop o) := by
              intro r
              induction r with
              | nil =>
                intro o ls _ _ hls hlen
                cases hls
                simp only [okCells]
                exact List.drop_eq_nil_of_le (by simp at hlen; omega)
              | cons f r ihr =>
                rintro o ls ⟨i, hi⟩ ho hls hlen
                simp only [offsOk, Bool.and_eq_true, decide_eq_true_eq] at ho
                simp only [List.foldr_cons] at hls
                split at hls
                · rename_i l1 r1 hl1 hr1
                  cases hls
                  have hfi : fs[i]? = some f := by
                    have : (fs.toList.drop i)[0]? = some f := by rw [← hi]; rfl
                    simpa using this
                  have hr' : r = fs.toList.drop (i + 1) := by
                    have : (fs.toList.drop i).tail = r := by rw [← hi]; rfl
                    rw [← this, List.tail_drop]
                  have hx := h3 i f hfi
                  have hlt : i < xs.length := by rw [h2]; exact (Array.getElem?_eq_some_iff.1 hfi).1
                  rw [List.getElem?_eq_getElem hlt, ho.1] at hx
                  have hk := ih _ _ _ _ _ hl1 hx
                  have hl1' := flat_len hl1
                  have := ihr (o + P.cellsOf f.type) r1 ⟨i + 1, hr'⟩ ho.2 hr1 (by simp at hlen; omega)
                  have e : cs.drop o = (cs.drop o).take (P.cellsOf f.type) ++ cs.drop (o + P.cellsOf f.type) := by
                    rw [← List.drop_drop, List.take_append_drop]
                  rw [e]
                  exact okCells_append hk this
                · cases hls
            have := key fs.toList 0 ks ⟨0, rfl⟩ hoff hl (by rw [h1, hkl]; omega)
            simpa using this
          | array k e =>
            simp only [Option.map_eq_some_iff] at hl
            obtain ⟨es, he, rfl⟩ := hl
            have hel := flat_len he
            obtain ⟨xs, m, rfl, _, h1, h2, h3⟩ := DataW.trod_array hu h
            have key : ∀ (r o : Nat), o + r = k → cs.length = o * P.cellsOf e + r * P.cellsOf e → okCells w (List.replicate r es).flatten (cs.drop (o * P.cellsOf e)) := by
              intro r
              induction r with
              | zero =>
                intro o _ hlen
                simp only [List.replicate_zero, List.flatten_nil, okCells]
                exact List.drop_eq_nil_of_le (by omega)
              | succ r ihr =>
                intro o ho hlen
                have hx := h3 o (by omega)
                rw [List.getElem?_eq_getElem (by omega)] at hx
                have hk := ih _ _ _ _ _ he hx
                have := ihr (o + 1) (by omega) (by rw [Nat.add_mul] at *; omega)
                have e1 : cs.drop (o * P.cellsOf e) = (cs.drop (o * P.cellsOf e)).take (P.cellsOf e) ++ cs.drop ((o + 1) * P.cellsOf e) := by
                  rw [Nat.add_mul, Nat.one_mul, ← List.drop_drop, List.take_append_drop]
                rw [e1, List.replicate_succ, List.flatten_cons]
                exact okCells_append hk this
            have := key k 0 (by omega) (by rw [h1, ← hkl]; simp [hel])
            simpa using this
          | _ => cases hl
      · cases hf
    · cases hf
end Go.Ab
/- A row, closed: what runs to true in the abstract machine is the law's statement. -/
set_option linter.unusedVariables false
set_option linter.unusedSimpArgs false
namespace Go.Ab
open Go Go.RowKit Go.ChangeShapes Go.WideShapes Go.ChangeAt

def isAggT (P : Program) (t : TypeId) : Bool := match P.underlying t with | some (.struct _) | some (.array _ _) => true | _ => false
/-- What is told of an argument. -/
def hasRow (W : World) (u : Value) : Prop := ∀ a len cap, u = .slice (some a) len cap → a.spot = none ∧ a.block < W.heap.size ∧ ∃ c ty fr, W.heap[a.block]? = some (.cells c ty fr)
def ArgR (P : Program) (W : World) (t : TypeId) (v : Value) : Prop :=
  ∃ ks, flat P 16 t = some ks ∧ okCells W ks v.cells.toList ∧ (isAggT P t = true → ∃ cs, v = .agg cs) ∧ (isAggT P t = false → v.cells = #[v]) ∧ ∀ u ∈ v.cells.toList, hasRow W u
def ArgsR (P : Program) (W : World) : List TypeId → List Value → Prop
  | [], vs => vs = []
  | t :: ts, vs => ∃ v r, vs = v :: r ∧ ArgR P W t v ∧ ArgsR P W ts r

theorem cell_old {P : Program} {W : World} {base : Nat} {u : TypeId} {k : CK} {v : Value} (h : okCell W k v) (hw : Cell.okWide P W .any base u v) : oldOk W.heap.size v = true := by
  cases k with
  | int k => simp only [okCell] at h; obtain ⟨n, rfl, _⟩ := h; rfl
  | bool => simp only [okCell] at h; obtain ⟨n, rfl⟩ := h; rfl
  | str => simp only [okCell] at h; obtain ⟨n, rfl, _⟩ := h; rfl
  | sl es =>
    simp only [okCell] at h
    rcases h with rfl | ⟨a, len, cap, rfl, h1, h2, h3⟩
    · rfl
    · have hh : ∃ e, W.has P .any base a e cap := by
        cases hu : P.underlying u with
        | none => simp [Cell.okWide, Cell.ok, hu] at hw
        | some D => cases D <;> simp [Cell.okWide, Cell.ok, hu] at hw; exact ⟨_, hw.2.2⟩
      obtain ⟨e, _, _, row, cells, hs, _⟩ := hh
      have hlt : a.block < W.heap.size := by
        unfold World.shape? at hs
        rcases Nat.lt_or_ge a.block W.heap.size with h | h
        · exact h
        · rw [Array.getElem?_eq_none h] at hs; simp at hs
      simp [oldOk, oldA, hlt]
theorem cell_has {P : Program} {W : World} {base : Nat} {u : TypeId} {v : Value} (hw : Cell.okWide P W .any base u v) : hasRow W v := by
  rintro a len cap rfl
  have hh : ∃ e, W.has P .any base a e cap := by
    cases hu : P.underlying u with
    | none => simp [Cell.okWide, Cell.ok, hu] at hw
    | some D => cases D <;> simp [Cell.okWide, Cell.ok, hu] at hw; exact ⟨_, hw.2.2⟩
  obtain ⟨e, _, hsp, row, cells, hs, _⟩ := hh
  have hlt : a.block < W.heap.size := by
    unfold World.shape? at hs
    rcases Nat.lt_or_ge a.block W.heap.size with h | h
    · exact h
    · rw [Array.getElem?_eq_none h] at hs; simp at hs
  refine ⟨hsp, hlt, ?_⟩
  unfold World.shape? at hs
  split at hs
  · rename_i c ty fr hc; exact ⟨c, ty, fr, hc⟩
  · cases hs
theorem cells_old {P : Program} {W : World} {base : Nat} : ∀ {ks : List CK} {l : List Value}, okCells W ks l → (∀ v ∈ l, ∃ u, Cell.okWide P W .any base u v) → l.all (oldOk W.heap.size) = true := by
  intro ks
  induction ks with
  | nil => intro l h _; simp only [okCells] at h; subst h; rfl
  | cons k ks ih =>
    intro l h hw
    simp only [okCells] at h
    obtain ⟨v, r, rfl, h1, h2⟩ := h
    obtain ⟨u, hu⟩ := hw v (by simp)
    simp only [List.all_cons, Bool.and_eq_true]
    exact ⟨cell_old h1 hu, ih h2 fun v hv => hw v (by simp [hv])⟩

theorem arg_told {H : Type} {enc : TypeId × Value → H} {P : Program} {W : World} {base : Nat} {t : TypeId} {v : Value} {d : DataW H} {ps : List MemPlace} (hf : (flat P 16 t).isSome = true)
    (hok : Value.okWide P W .any base t v) (h : DataW.Trod enc P W 0 (fun _ => true) true t v d ps) : ArgR P W t v ∧ argOk W.heap.size v = true := by
  obtain ⟨ks, hks⟩ := Option.isSome_iff_exists.1 hf
  obtain ⟨fuel, hd⟩ := h
  have hc := trod_ok 16 fuel t ks _ _ hks hd
  cases hag : isAggT P t with
  | true =>
    obtain ⟨cs, rfl, hrow⟩ : ∃ cs, v = .agg cs ∧ Row.okWide P W .any base t cs := by
      unfold isAggT at hag
      unfold Value.okWide at hok
      split at hag
      · rename_i fs hu; rw [hu] at hok; exact ⟨hok.choose, hok.choose_spec.1, hok.choose_spec.2.2⟩
      · rename_i k e hu; rw [hu] at hok; exact ⟨hok.choose, hok.choose_spec.1, hok.choose_spec.2.2⟩
      · cases hag
    obtain ⟨ts, _, _, hr⟩ := hrow
    have hall : ∀ u ∈ cs.toList, ∃ x, Cell.okWide P W .any base x u := fun u hu => by
      obtain ⟨i, hi⟩ := List.mem_iff_getElem?.1 hu
      obtain ⟨x, _, hx⟩ := hr i u (by simpa using hi)
      exact ⟨x, hx⟩
    refine ⟨⟨ks, hks, hc, fun _ => ⟨cs, rfl⟩, fun h => (by rw [hag] at h; cases h), fun u hu => cell_has (hall u hu).choose_spec⟩, ?_⟩
    exact cells_old (P := P) (base := base) (l := cs.toList) (by simpa [Value.cells] using hc) hall
  | false =>
    have hcell : Cell.okWide P W .any base t v := by
      unfold isAggT at hag
      unfold Value.okWide at hok
      split at hag
      · cases hag
      · cases hag
      · rename_i h1 h2
        split at hok
        · rename_i fs hu; exact absurd hu (h1 fs)
        · rename_i k e hu; exact absurd hu (h2 k e)
        · exact hok
    have hne : (∀ c, v ≠ .agg c) ∧ (∀ c, v ≠ .tuple c) := by
      constructor <;>
      · rintro c rfl
        cases hu : P.underlying t with
        | none => simp [Cell.okWide, Cell.ok, hu] at hcell
        | some D => cases D <;> simp [Cell.okWide, Cell.ok, hu] at hcell
    have hone : v.cells = #[v] := by
      cases v with
      | agg cs => exact absurd rfl (hne.1 cs)
      | tuple cs => exact absurd rfl (hne.2 cs)
      | _ => rfl
    refine ⟨⟨ks, hks, hc, fun h => (by rw [hag] at h; cases h), fun _ => hone, fun u hu => (by rw [hone] at hu; simp at hu; rw [hu]; exact cell_has hcell)⟩, ?_⟩
    have hall := cells_old (P := P) (base := base) hc fun u hu => ⟨t, by rw [hone] at hu; simp at hu; rw [hu]; exact hcell⟩
    rw [hone] at hall
    simp at hall
    cases v with
    | agg cs => exact absurd rfl (hne.1 cs)
    | _ => exact hall

theorem args_told {H : Type} {enc : TypeId × Value → H} {P : Program} {W : World} {base : Nat} : ∀ (ts : List TypeId) (vs : List Value) (ds : List (DataW H)) (ps : List MemPlace), ts.all (fun t => (flat P 16 t).isSome) = true →
    (∀ (j : Nat) t v, ts[j]? = some t → vs[j]? = some v → Value.okWide P W .any base t v) → DataW.TrodAll enc P W 0 (fun _ => true) true ts vs ds ps → ArgsR P W ts vs ∧ vs.all (argOk W.heap.size) = true := by
  intro ts
  induction ts with
  | nil => intro vs ds ps _ _ h; obtain ⟨rfl, _, _⟩ := trodAll_nil h; exact ⟨rfl, rfl⟩
  | cons t ts ih =>
    intro vs ds ps hf hok h
    obtain ⟨v, vs', d, ds', p, q, rfl, rfl, rfl, h1, h2⟩ := trodAll_cons h
    simp only [List.all_cons, Bool.and_eq_true] at hf ⊢
    obtain ⟨a1, a2⟩ := arg_told hf.1 (hok 0 t v rfl rfl) h1
    obtain ⟨b1, b2⟩ := ih vs' ds' q hf.2 (fun j t v h1 h2 => hok (j + 1) t v (by simpa using h1) (by simpa using h2)) h2
    exact ⟨⟨v, vs', rfl, a1, b1⟩, a2, b2⟩

theorem below_all {H : Type} {enc : TypeId × Value → H} {P : Program} (hl : laidOutB P = true) {W W' : World} (hb : Below W.heap.size W W') : ∀ (ts : List TypeId) (vs : List Value) (ds : List (DataW H)) (ps : List MemPlace),
    ts.all (fun t => P.readableRec t && decide (t < P.types.size)) = true → DataW.TrodAll enc P W 0 (fun _ => true) true ts vs ds ps → DataW.TrodAll enc P W' 0 (fun b => decide (b < W.heap.size)) true ts vs ds ps := by
  intro ts
  induction ts with
  | nil => intro vs ds ps _ h; obtain ⟨rfl, rfl, rfl⟩ := trodAll_nil h; exact rfl
  | cons t ts ih =>
    intro vs ds ps hf h
    obtain ⟨v, vs', d, ds', p, q, rfl, rfl, rfl, h1, h2⟩ := trodAll_cons h
    simp only [List.all_cons, Bool.and_eq_true, decide_eq_true_eq] at hf
    obtain ⟨fuel, hd⟩ := h1
    exact ⟨p, q, Below.trod hl hf.1.1 hf.1.2 ⟨fuel, hd⟩ hb (DataW.trod_lt fuel _ _ _ hd), ih vs' ds' q (by simpa using hf.2) h2, rfl⟩

end Go.Ab
/- An evaluator of the abstract machine, and that it is right: closed calls are run by the kernel. -/
set_option linter.unusedVariables false
set_option linter.unusedSimpArgs false
namespace Go.Ab
open Go Go.RowKit

/-- What was there stays, but for these blocks. -/
structure Unch (s s' : St) (low : List Nat) : Prop where
  next : s.next ≤ s'.next
  heap : ∀ b, b < s.next → b ∉ low → s'.heap b = s.heap b
theorem Unch.refl (s : St) (n : List Nat) : Unch s s n := ⟨Nat.le_refl _, fun _ _ _ => rfl⟩
theorem Unch.trans {s s1 s2 : St} {n m : List Nat} (h : Unch s s1 n) (k : Unch s1 s2 m) : Unch s s2 (n ++ m) :=
  ⟨Nat.le_trans h.next k.next, fun b hb hl => (k.heap b (Nat.lt_of_lt_of_le hb h.next) (fun e => hl (List.mem_append.2 (.inr e)))).trans (h.heap b hb (fun e => hl (List.mem_append.2 (.inl e))))⟩
theorem Unch.le {s s' : St} {n m : List Nat} (h : Unch s s' n) (hm : ∀ b ∈ n, b < s.next → b ∈ m) : Unch s s' m := ⟨h.next, fun b hb hl => h.heap b hb fun e => hl (hm b e hb)⟩
theorem Unch.mild {s s' : St} {n : List Nat} (h : Unch s s' n) (hn : ∀ b ∈ n, s.next ≤ b) : Mild s s' := ⟨h.next, fun b hb => h.heap b hb fun e => by have := hn b e; omega⟩
theorem Unch.of_mild {s s' : St} (h : Mild s s') (n : List Nat) : Unch s s' n := ⟨h.next, fun b hb _ => h.heap b hb⟩
theorem Unch.upd (s : St) (b : Nat) (o : AObj) : Unch s (s.upd b o) [b] := ⟨Nat.le_refl _, fun k _ hk => heap_upd_ne _ _ (by simpa using hk)⟩
theorem Unch.cut {s s' : St} {n : List Nat} (h : Unch s s' n) : Unch s s' (n.filter fun b => decide (b < s.next)) := h.le fun b hb hlt => List.mem_filter.2 ⟨hb, by simpa using hlt⟩

/-! ### The evaluator -/
/-- A state, and the blocks that were changed. -/
structure SL where
  s : St
  low : List Nat

/-! ### It is right -/
end Go.Ab
