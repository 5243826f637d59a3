/- What is laid in this seat's program, and what is open (SHAPED, PINNED). -/
import Derived.Test.YthjpfllmecpliaaDoorRow0
namespace Go.Proofs.YthjpfllmecpliaaDoor
open Go Go.Ab
abbrev laidVars : List (String × DataW Unit) := [("unicode/utf8.acceptRanges", Rows.laid_unicode_utf8_acceptRanges), ("bellbuoy/script.words", Rows.laid_bellbuoy_script_words), ("bellbuoy/script.classes", Rows.laid_bellbuoy_script_classes), ("unicode/utf8.first", Rows.laid_unicode_utf8_first)]
theorem gWords : Tryd.prog.globalNamed "bellbuoy/script.words" = some 0 := by kernel_rfl
theorem gClasses : Tryd.prog.globalNamed "bellbuoy/script.classes" = some 1 := by kernel_rfl
theorem gFirst : Tryd.prog.globalNamed "unicode/utf8.first" = some 3 := by kernel_rfl
theorem tWords : (Tryd.prog.globals[0]?).map (·.type) = some 52 := by kernel_rfl
theorem tClasses : (Tryd.prog.globals[1]?).map (·.type) = some 52 := by kernel_rfl
theorem uStrs : Tryd.prog.underlying 52 = some (.slice 9) := by kernel_rfl
theorem uStr : Tryd.prog.underlying 9 = some .string := by kernel_rfl
/-- The world behind the door, the pinned table in its place. -/
noncomputable def doorW (os : Os) : World :=
  let w := World.doorLaid Tryd.prog 400 os
  { w with heap := w.heap.setIfInBounds 3 (.cells (Go.Pinned.utf8FirstZ.map fun (n : Nat) => Value.int .u8 (n : Int)).toArray ((Tryd.prog.globals[3]?).map (·.type) |>.getD 0) (0, 0)) }
theorem door_met (os : Os) (args : Array Value) : laidMetH Tryd.prog laidVars ((doorW os).forCall (fun _ _ => 0) ⟨#[], args, []⟩).memory :=
  laidMetH_of_parts3 (fuel := 8) (laidMet_of_run' 8 (by kernel_rfl) (by kernel_rfl)) (by kernel_rfl) (by kernel_rfl)
theorem laid_strs {W : World} {g fuel : Nat} {n : String} {C : Array Value} {p : List MemPlace} {ws : List (List UInt8)} (hg : Tryd.prog.globalNamed n = some g) (hv : W.var? Tryd.prog n = some C) (hws : ws ≠ []) (hm : ws.length ≤ 1000)
    (hd : DataW.trod (fun _ => ()) Tryd.prog W 0 (fun _ => true) false fuel 52 C.toList = some (.slice (ws.map fun w => (.lit (.string w) : DataW Unit)) [], p)) :
    g < W.heap.size ∧ ∃ u, (St0 W).heap g = .row [u] ∧ Sl W.heap.size (St0 W) 1 u (ws.map fun w => [Value.string ⟨w.toArray⟩]) ∧ oldOk W.heap.size u = true := by
  obtain ⟨hr, hlt⟩ := var_row hg hv
  obtain ⟨a, cap, hC, hcap, hel⟩ := open_row uStrs (by kernel_rfl) hd
  rw [List.length_map] at hC hcap
  have hn : 0 < ws.length := List.length_pos_iff.2 hws
  have hcell : ∀ i (h : i < ws.length), W.cell? (a.add i) = some (.string ⟨ws[i].toArray⟩) := by
    intro i h
    obtain ⟨v, m, q, h1, h2⟩ := hel i (.lit (.string ws[i])) (by simp [h])
    obtain ⟨b, e1, e2, -⟩ := DataW.trod_string uStr h2
    cases e1
    rw [h1]
    simp only [Prod.mk.injEq, DataW.lit.injEq, Lit.string.injEq] at e2
    rw [e2.1]
  have h0 := hcell 0 hn
  unfold World.cell? at h0
  split at h0
  rotate_left
  · cases h0
  rename_i c ty fr hc
  rw [add_block] at hc
  split at h0
  · cases h0
  rename_i hs0
  have hs : a.spot = none := by
    obtain ⟨b, o, sp⟩ := a
    cases sp with
    | none => rfl
    | some x => simp [Addr.add] at hs0
  have hc' : ∀ i (h : i < ws.length), c[a.off + i]? = some (.string ⟨ws[i].toArray⟩) := by
    intro i h
    have := hcell i h
    unfold World.cell? at this
    rw [add_block, hc] at this
    obtain ⟨b, o, sp⟩ := a
    simp only at hs
    subst hs
    rw [add_lit] at this
    simpa using this
  have hblt : a.block < W.heap.size := (Array.getElem?_eq_some_iff.1 hc).1
  refine ⟨hlt, .slice (some a) ws.length cap, ?_, ?_, by simpa [oldOk, oldA] using hblt⟩
  · rw [hr, hC]
    have : normV g (.slice (some a) ws.length cap) = .slice (some a) ws.length cap := normV_else fun b e => by simp only [Value.slice.injEq] at e; omega
    simp [this]
  · have hrow := old_row (W := W) hc
    have hfl : (ws.map fun w => [Value.string ⟨w.toArray⟩]).flatten = ws.map fun w => Value.string ⟨w.toArray⟩ := by
      clear hel hcell hc' hC hcap hd hws hm h0 hn
      induction ws with
      | nil => rfl
      | cons w ws ih => simp only [List.map_cons, List.flatten_cons, ih]; rfl
    refine .mk (by simp) hcap (fun l hl => by obtain ⟨w, -, rfl⟩ := List.mem_map.1 hl; rfl) (fun _ => ?_) (by unfold kindB; rw [hrow]) hblt
    rw [hfl]
    refine ⟨hs, hblt, .inr ?_, c.toList.map (normV a.block), by rw [hrow]; rfl, ?_⟩
    · rw [List.all_eq_true]
      intro x hx
      obtain ⟨w, -, rfl⟩ := List.mem_map.1 hx
      rfl
    · have hsz : a.off + ws.length ≤ c.size := by
        have := hc' (ws.length - 1) (by omega)
        obtain ⟨h2, -⟩ := Array.getElem?_eq_some_iff.1 this
        omega
      unfold getL
      rw [if_pos (by simp; omega)]
      refine congrArg some (List.ext_getElem? fun i => ?_)
      by_cases hi : i < ws.length
      · rw [List.getElem?_take_of_lt (by simpa using hi), List.getElem?_drop, List.getElem?_map]
        have := hc' i hi
        rw [Array.getElem?_toList, this]
        simp [hi, normV]
      · rw [List.getElem?_eq_none (by simp; omega), List.getElem?_eq_none (by simp; omega)]
/-- What the law needs of what is laid. -/
theorem of_laid {W : World} (h : laidMetH Tryd.prog laidVars W) :
    (∃ u, (St0 W).heap 0 = .row [u] ∧ Sl W.heap.size (St0 W) 1 u (([[], [114, 117, 110], [102, 108, 105, 112], [114, 101, 108, 101, 97, 115, 101], [99, 97, 110, 99, 101, 108], [99, 114, 97, 115, 104], [114, 101, 115, 116, 97, 114, 116], [115, 112, 101, 101, 100]] : List (List UInt8)).map fun w => [Value.string ⟨w.toArray⟩]) ∧ oldOk W.heap.size u = true) ∧
    (∃ u, (St0 W).heap 1 = .row [u] ∧ Sl W.heap.size (St0 W) 1 u (([[], [101, 100, 102], [100, 109], [102, 105, 120, 101, 100]] : List (List UInt8)).map fun w => [Value.string ⟨w.toArray⟩]) ∧ oldOk W.heap.size u = true) := by
  rw [MakeChecks.laidMetH_plain _ _ _ (by kernel_rfl)] at h
  obtain ⟨ps, ⟨g0, t0, cs0, f0, p0, q0, -, -, -, -, ⟨g1, t1, cs1, f1, p1, q1, hg1, ht1, hv1, hd1, ⟨g2, t2, cs2, f2, p2, q2, hg2, ht2, hv2, hd2, -, -⟩, -⟩, -⟩, -, -⟩ := h
  obtain rfl := Option.some.inj (gWords.symm.trans hg1)
  obtain rfl := Option.some.inj (tWords.symm.trans ht1)
  obtain rfl := Option.some.inj (gClasses.symm.trans hg2)
  obtain rfl := Option.some.inj (tClasses.symm.trans ht2)
  exact ⟨(laid_strs hg1 hv1 (by simp) (by simp) hd1).2, (laid_strs hg2 hv2 (by simp) (by simp) hd2).2⟩
/-- The library's own variable holds some number; and how much is laid. -/
theorem of_shaped {W : World} (h : W.ShapedOpen Tryd.prog) : 5 ≤ W.heap.size ∧ ∃ m : Int, (St0 W).heap 2 = .row [.int .i64 m] := by
  have h4 : (((begin Tryd.prog (fun _ _ => 0) default).world.heap[4]?).bind Obj.row?).isSome = true := by kernel_rfl
  obtain ⟨⟨z4, t4⟩, e4⟩ := Option.isSome_iff_exists.1 h4
  obtain ⟨cs4, hh4, -, -⟩ := h.1 4 z4 t4 (of_decide_eq_true (by kernel_rfl)) e4
  have hlt4 : 4 < W.heap.size := (Array.getElem?_eq_some_iff.1 hh4).1
  obtain ⟨cs, hh, hs, hr⟩ := h.1 2 #[.int .i64 0] 3 (of_decide_eq_true (by kernel_rfl)) (by kernel_rfl)
  obtain ⟨m, hm⟩ := cell_of_shapedOpen_int (P := Tryd.prog) (g := 2) (t := 3) (zero := #[.int .i64 0]) (k := .i64) h (of_decide_eq_true (by kernel_rfl)) (by kernel_rfl) rfl (by kernel_rfl) (by kernel_rfl) Tryd.underlying3
  refine ⟨hlt4, m, ?_⟩
  have h1 : 0 < cs.size := by have : cs.size = 1 := hs; omega
  have hc : cs[0] = .int .i64 m := by
    have : W.cell? ⟨2, 0, none⟩ = some cs[0] := by simp [World.cell?, hh, h1]
    rw [this] at hm
    exact Option.some.inj hm
  rw [old_row hh]
  have : cs = #[.int .i64 m] := by
    have hz : cs.size = 1 := hs
    apply Array.ext
    · simp [hz]
    · intro i hi1 hi2
      have : i = 0 := by omega
      subst this
      simpa using hc
  exact congrArg (fun c : Array Value => AObj.row (c.toList.map (normV 2))) this
end Go.Proofs.YthjpfllmecpliaaDoor
