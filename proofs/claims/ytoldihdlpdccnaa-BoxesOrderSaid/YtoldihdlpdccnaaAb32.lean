/- Rows whose program's variables are laid: what is told of them, and the closer. -/
import Derived.Test.YtoldihdlpdccnaaAb31
import Derived.LaidMore
import Derived.OpenShut
import Derived.Stop.Joined
import Derived.Handed
import Derived.FnData
set_option linter.unusedVariables false
set_option linter.unusedSimpArgs false
namespace Go.Ab
open Go Go.RowKit Go.ChangeShapes Go.WideShapes Go.ChangeAt

theorem var_row {P : Program} {W : World} {n : String} {g : Nat} {cs : Array Value} (hg : P.globalNamed n = some g) (h : W.var? P n = some cs) : (St0 W).heap g = .row cs.toList ∧ g < W.heap.size := by
  simp only [World.var?, hg, Option.bind_some] at h
  split at h
  · rename_i c ty fr hc
    cases h
    refine ⟨old_row hc, ?_⟩
    rcases Nat.lt_or_ge g W.heap.size with h | h
    · exact h
    · rw [Array.getElem?_eq_none h] at hc; cases hc
  · cases h
theorem trod_ints {H : Type} {enc : TypeId × Value → H} {P : Program} {w : World} {ok : Nat → Bool} {held : Bool} {fuel : Nat} {t e : TypeId} {n : Nat} {k : IntKind} {cs : List Value} {ns : List Int} {x : DataW H × List MemPlace}
    (ht : P.underlying t = some (.array n e)) (he : P.underlying e = some (.int k)) (hc : P.cellsOf e = 1) (hct : P.cellsOf t = n) (hn : ns.length = n)
    (h : DataW.trod enc P w 0 ok held fuel t cs = some x) (hd : x.1 = .agg (ns.map fun m => .lit (.int k m))) : cs = ns.map (.int k) := by
  obtain ⟨xs, m, rfl, rfl, h1, h2, h3⟩ := DataW.trod_array ht h
  simp only [DataW.agg.injEq] at hd
  rw [hct] at h1
  apply List.ext_getElem
  · rw [h1, List.length_map, hn]
  · intro i hi1 hi2
    have hin : i < n := by omega
    have h4 := h3 i hin
    rw [hc, Nat.mul_one, List.drop_eq_getElem_cons hi1, List.take_succ_cons, List.take_zero, List.getElem?_eq_getElem (by omega : i < xs.length)] at h4
    obtain ⟨v, e1, e2, _⟩ := DataW.trod_int he h4
    have e3 : (xs.map (·.1))[i]? = (ns.map fun m => (.lit (.int k m) : DataW H))[i]? := by rw [hd]
    simp only [List.getElem?_map, List.getElem?_eq_getElem (by omega : i < xs.length), List.getElem?_eq_getElem (by omega : i < ns.length), Option.map_some, Option.some.injEq] at e3
    rw [e2] at e3
    simp only [DataW.lit.injEq, Lit.int.injEq, true_and] at e3
    simp only [List.cons.injEq, and_true] at e1
    rw [e1, List.getElem_map, e3]

theorem row_lift_laid {C : Checked} {f : FuncId} {fn : Func} {s : ChangeSpec} {conds : List PathCond} {os : Os} {H : Type} {enc : TypeId × Value → H} {G : Nat} {tb : TypeId} {laid : List (String × DataW Unit)}
    (own : ownKnob C.prog.godebug = none) (started : os.Started) (noInit : C.prog.inits.idxOf? f = none) (hfn : C.prog.funcs[f]? = some fn)
    (witness : ∃ (w : World) (tape : Tape) (i : Input), w.os = os ∧ (w.forCall tape i).Shaped C.prog ∧ i.vars = [] ∧ Input.okWide C.prog (w.forCall tape i) .any w.heap.size f i ∧
      ((s.pre enc C.prog fn conds false (w.forCall tape i).memory i.args ∧ laidMetH C.prog laid (w.forCall tape i).memory) ∧ sizedMet enc C.prog fn (OpenSpec.ofChange s) false (w.forCall tape i).memory i.args) ∧
      ({} : Assume).holds C.prog (lone (Frame.enter C.prog f i.args .normal) [] (w.forCall tape i)))
    (hvars : s.vars = []) (hspec : ∀ ds : List (DataW H), ds.length = fn.params.size → s.fn H ds = { results := [.lit (.bool true)], args := ds })
    (hres : fn.resultTypes = #[tb]) (hb : C.prog.underlying tb = some .bool) (hl : laidOutB C.prog = true)
    (hts : fn.params.toList.all (fun t => C.prog.readableRec t && decide (t < C.prog.types.size)) = true) (hfl : fn.params.toList.all (fun t => (flat C.prog 16 t).isSome) = true)
    (hm : C.prog.follows .mixedOrders = true) (hP : progOk G C.prog = true) (hG : ∀ W : World, laidMetH C.prog laid W → G ≤ W.heap.size)
    (law : ∀ (W : World) (args : List Value), laidMetH C.prog laid W → ArgsR C.prog W fn.params.toList args → WC C.prog W.heap.size f args (St0 W) (fun v _ => v = .bool true)) :
    ReturnsInHanded {} C os f .any (fun w args => (s.pre enc C.prog fn conds false w args ∧ laidMetH C.prog laid w) ∧ sizedMet enc C.prog fn (OpenSpec.ofChange s) false w args) (s.post enc C.prog fn false true false false) := by
  refine returnsInHanded_of_change_and (C := C) (X := fun w _ => laidMetH C.prog laid w) (fun _ _ _ hh h => h.of_heap hh) own started noInit hfn witness ?_
  intro W base args ds gs before hval hW _ _ hL _
  have hW' := hW
  obtain ⟨p, q, hA, hV, rfl, hfz, hnd⟩ := hW
  obtain ⟨ha, ho⟩ := args_told fn.params.toList args.toList ds p hfl (fun j t v h1 h2 => hval j t v (by simpa using h1) (by simpa using h2)) hA
  refine (calls_of_WC hm hP (hG W hL) ho (law W args.toList hL ha)).mono fun e W' ⟨he, bel⟩ => ?_
  subst he
  rw [hvars] at hV
  obtain ⟨rfl, rfl⟩ := trodVars_none hV
  have hlen : ds.length = fn.params.size := by
    have : ∀ (ts : List TypeId) (vs : List Value) (ds : List (DataW H)) (ps : List MemPlace), DataW.TrodAll enc C.prog W 0 (fun _ => true) true ts vs ds ps → ds.length = ts.length := by
      intro ts
      induction ts with
      | nil => intro vs ds ps h; obtain ⟨rfl, rfl, rfl⟩ := trodAll_nil h; rfl
      | cons t ts ih => intro vs ds ps h; obtain ⟨v, vs', d, ds', p, q, rfl, rfl, rfl, h1, h2⟩ := trodAll_cons h; simp [ih _ _ _ h2]
    simpa using this _ _ _ _ hA
  have hs : s.fn H (ds ++ []) = { results := [.lit (.bool true)], args := ds } := by rw [List.append_nil]; exact hspec ds hlen
  refine ⟨_, rfl, ds, [], _, [], p, [], hW', ?_, ?_, ?_, bel.frame _, fun h => by cases h⟩
  · rw [hs, hres]
    exact trodAll_mk1 (shut_bool hb _)
  · rw [hs]
    exact below_all hl bel _ _ _ _ hts hA
  · rw [hs, hvars]; rfl
end Go.Ab
