/- A frame's text, and its body, are read as the frame; and a text that is read is its frame's. In plain words. -/
import Derived.Test.YtdhmjnpaoacpfaaDoorTypes
import Derived.Test.YtdhmjnpaoacpfaaDoorRow0
import Derived.Test.YtdhmjnpaoacpfaaDoorAbC
import Derived.Test.YtdhmjnpaoacpfaaDoorBits
import Derived.Test.YtdhmjnpaoacpfaaDoorOwnOf
import Derived.Test.YtdhmjnpaoacpfaaDoorPack
import Derived.Test.YtdhmjnpaoacpfaaDoorUnpack
import Derived.Test.YtdhmjnpaoacpfaaDoorRight
import Derived.Test.YtdhmjnpaoacpfaaDoorHead
import Derived.Test.YtdhmjnpaoacpfaaDoorCrcLaws
import Derived.Test.YtdhmjnpaoacpfaaDoorFrDef
import Derived.Test.YtdhmjnpaoacpfaaDoorFrText
set_option linter.all false
set_option maxRecDepth 20000
namespace Go.Proofs.YtdhmjnpaoacpfaaDoor
open Go Go.Ab
theorem dig_hex {d : Nat} (h : d < 16) : digI (hexAt d).toNat = d := by
  have : ∀ i : Fin 16, digI (hexAt i.val).toNat = (i.val : Int) := by decide
  exact this ⟨d, h⟩
theorem hex_dig {c : UInt8} (h : 0 ≤ digI c.toNat) : hexAt (digI c.toNat).toNat = c := by
  have : ∀ i : Fin 256, 0 ≤ digI i.val → hexAt (digI i.val).toNat = UInt8.ofNat i.val := by decide +kernel
  have := this ⟨c.toNat, c.toNat_lt⟩ h
  rwa [UInt8.ofNat_toNat] at this
theorem hex_sep (d : Nat) : sepB (hexAt d) = false := by
  by_cases h : d < 16
  · have : ∀ i : Fin 16, sepB (hexAt i.val) = false := by decide
    exact this ⟨d, h⟩
  · unfold hexAt
    rw [List.getD_eq_getElem?_getD, List.getElem?_eq_none (by simp [hexD]; omega)]; rfl
theorem hexL_succ (k n : Nat) : hexL (k + 1) n = hexL k (n / 16) ++ [hexAt (n % 16)] := by
  unfold hexL
  rw [List.range_succ, List.map_append]
  congr 1
  · apply List.map_congr_left
    intro j hj
    have := List.mem_range.1 hj
    rw [Nat.div_div_eq_div_mul, ← Nat.pow_succ', show (k - 1 - j).succ = k + 1 - 1 - j by omega]
  · simp
theorem hexL_ok : ∀ (k n : Nat), hexOk (hexL k n) = true ∧ hexN (hexL k n) = n % 16 ^ k := by
  intro k
  induction k with
  | zero => intro n; simp [hexL, hexOk, hexN, Nat.mod_one]
  | succ k ih =>
    intro n
    obtain ⟨h1, h2⟩ := ih (n / 16)
    rw [hexL_succ, hexOk_snoc, hexN_snoc, h1, h2, dig_hex (Nat.mod_lt _ (by omega))]
    refine ⟨by simp only [Bool.true_and, decide_eq_true_eq]; omega, ?_⟩
    rw [Int.toNat_natCast, Nat.pow_succ, Nat.mul_comm (16 ^ k) 16, Nat.mod_mul]
    omega
theorem hexL_back : ∀ (k : Nat) (t : List UInt8), t.length = k → hexOk t = true → hexL k (hexN t) = t := by
  intro k
  induction k with
  | zero => intro t ht _; rw [List.eq_nil_of_length_eq_zero ht]; rfl
  | succ k ih =>
    intro t ht ho
    have hne : t ≠ [] := fun e => by rw [e] at ht; simp at ht
    obtain ⟨u, c, rfl⟩ : ∃ u c, t = u ++ [c] := ⟨t.dropLast, t.getLast hne, (List.dropLast_concat_getLast hne).symm⟩
    rw [hexOk_snoc, Bool.and_eq_true, decide_eq_true_eq] at ho
    have hlu : u.length = k := by simpa using ht
    have hb := digI_in c.toNat
    rw [hexL_succ, hexN_snoc, show (hexN u * 16 + (digI c.toNat).toNat) / 16 = hexN u by omega, show (hexN u * 16 + (digI c.toNat).toNat) % 16 = (digI c.toNat).toNat by omega, ih u hlu ho.1, hex_dig ho.2]
theorem hexL_sep (k n : Nat) : ∀ c ∈ hexL k n, sepB c = false := by
  intro c hc
  obtain ⟨i, _, rfl⟩ := List.mem_map.1 hc
  exact hex_sep _
theorem idT_par {e : Bool} {n : Nat} (hi : idOk e n = true) : iparOk (idT e n) = true ∧ decide ((idT e n).length = 8) = e ∧ hexN (idT e n) = n := by
  have h1 := hi
  simp only [idOk, decide_eq_true_eq] at h1
  unfold idT iparOk
  rw [if_pos hi]
  cases e
  · simp only [Bool.false_eq_true, if_false] at h1 ⊢
    obtain ⟨a, b⟩ := hexL_ok 3 n
    rw [hexL_len, a, b, Nat.mod_eq_of_lt (by omega)]
    refine ⟨?_, rfl, rfl⟩
    rw [show decide ((3 : Nat) = 8) = false from rfl, hi]; rfl
  · simp only [if_true] at h1 ⊢
    obtain ⟨a, b⟩ := hexL_ok 8 n
    rw [hexL_len, a, b, Nat.mod_eq_of_lt (by omega)]
    refine ⟨?_, rfl, rfl⟩
    rw [show decide ((8 : Nat) = 8) = true from rfl, hi]; rfl
theorem idT_sep (e : Bool) (n : Nat) : ∀ c ∈ idT e n, sepB c = false := by
  unfold idT
  split
  · exact hexL_sep _ _
  · intro c hc; simp at hc
theorem par_idT {t : List UInt8} (h : iparOk t = true) : idT (decide (t.length = 8)) (hexN t) = t ∧ idOk (decide (t.length = 8)) (hexN t) = true := by
  simp only [iparOk, Bool.and_eq_true, decide_eq_true_eq] at h
  obtain ⟨⟨h1, h2⟩, h3⟩ := h
  refine ⟨?_, h3⟩
  unfold idT
  rw [if_pos h3]
  rcases h1 with h1 | h1
  · rw [h1]; exact hexL_back 3 t h1 h2
  · rw [h1]; exact hexL_back 8 t h1 h2
theorem sepN_app {t rest : List UInt8} {c : UInt8} (ht : ∀ x ∈ t, sepB x = false) (hc : sepB c = true) : sepN (t ++ c :: rest) = t.length ∧ (t ++ c :: rest).take t.length = t ∧ (t ++ c :: rest).getD t.length 0 = c ∧ (t ++ c :: rest).drop (t.length + 1) = rest := by
  have hg : (t ++ c :: rest).getD t.length 0 = c := by simp [List.getD_eq_getElem?_getD]
  refine ⟨sepN_is (by simp) (fun j hj => ?_) (.inr (by rw [hg]; exact hc)), by simp, hg, by simp [List.drop_append]⟩
  rw [List.getD_eq_getElem?_getD, List.getElem?_append_left hj, List.getElem?_eq_getElem hj]
  exact ht _ (List.getElem_mem hj)
theorem byT_cons (x : Nat) (ys : List Nat) : byT (x :: ys) = hexAt (x / 16 % 16) :: hexAt (x % 16) :: byT ys := rfl
theorem byT_at : ∀ (ys : List Nat) (j : Nat), j < ys.length → (byT ys).getD (2 * j) 0 = hexAt (ys.getD j 0 / 16 % 16) ∧ (byT ys).getD (2 * j + 1) 0 = hexAt (ys.getD j 0 % 16) := by
  intro ys
  induction ys with
  | nil => intro j hj; simp at hj
  | cons x ys ih =>
    intro j hj
    rw [byT_cons]
    cases j with
    | zero => exact ⟨rfl, rfl⟩
    | succ j =>
      rw [show 2 * (j + 1) = 2 * j + 1 + 1 by omega]
      simp only [List.getD_cons_succ]
      exact ih j (by simpa using hj)
theorem byT_ok (ys : List Nat) : hexOk (byT ys) = true := by
  induction ys with
  | nil => rfl
  | cons x ys ih =>
    rw [byT_cons]
    unfold hexOk at *
    rw [List.all_cons, List.all_cons, ih, dig_hex (Nat.mod_lt _ (by omega)), dig_hex (Nat.mod_lt _ (by omega))]
    simp only [Bool.and_true, Bool.and_eq_true, decide_eq_true_eq]; omega
/-- What is asked of a frame's bytes. -/
theorem right_rest {e : Bool} {n : Nat} {r : Bool} {l : Int} {ds : List Nat} (h : rightF e n r l ds = 0) : ∀ j, (if r then 0 else l.toNat) ≤ j → ds.getD j 0 = 0 := by
  obtain ⟨hi, h0, h8⟩ := rightF_zero h
  intro j hj
  unfold rightF at h
  rw [if_neg (by rw [hi]; simp), if_neg (by omega)] at h
  by_cases ha : (ds.drop (if r then 0 else l.toNat)).any (fun x => x != 0) = true
  · rw [if_pos ha] at h; omega
  · by_cases hjl : j < ds.length
    · by_cases hz : ds.getD j 0 = 0
      · exact hz
      · refine absurd (List.any_eq_true.2 ⟨ds.getD j 0, ?_, by simpa using hz⟩) ha
        rw [List.getD_eq_getElem?_getD, List.getElem?_eq_getElem hjl]
        refine List.mem_drop_iff_getElem.2 ⟨j - (if r then 0 else l.toNat), by omega, ?_⟩
        simp only [Option.getD_some]
        congr 1; omega
    · rw [List.getD_eq_getElem?_getD, List.getElem?_eq_none (by omega)]; rfl
theorem list8 {ds es : List Nat} (h : ds.length = 8) (h' : es.length = 8) (he : ∀ j, j < 8 → ds.getD j 0 = es.getD j 0) : ds = es := by
  apply List.ext_getElem (by omega)
  intro j h1 h2
  have := he j (by omega)
  simpa [List.getD_eq_getElem?_getD, h1, h2] using this
theorem zero8_at (j : Nat) : zero8.getD j 0 = 0 := by
  by_cases h : j < 8
  · have : ∀ i : Fin 8, zero8.getD i.val 0 = 0 := by decide
    exact this ⟨j, h⟩
  · rw [List.getD_eq_getElem?_getD, List.getElem?_eq_none (by simp; omega)]; rfl
/-- A frame's text is read as the frame. -/
theorem read_text {e : Bool} {n : Nat} {r : Bool} {l : Int} {ds : List Nat} (hd : ds.length = 8) (hy : ∀ y ∈ ds, y < 256) (h : rightF e n r l ds = 0) : readV (frT e n r l ds) = .tuple #[frV e n r l ds, .bool true] := by
  obtain ⟨hi, h0, h8⟩ := rightF_zero h
  obtain ⟨m, rfl, hm⟩ : ∃ m : Nat, l = m ∧ m ≤ 8 := ⟨l.toNat, by omega, by omega⟩
  have hr := right_rest h
  obtain ⟨p1, p2, p3⟩ := idT_par hi
  unfold frT
  rw [if_pos h, Int.toNat_natCast]
  cases r with
  | true =>
    simp only [if_true]
    rw [List.append_assoc]
    obtain ⟨s1, s2, s3, s4⟩ := sepN_app (t := idT e n) (c := 63) (rest := [hexAt m]) (idT_sep e n) rfl
    unfold readV
    rw [show idT e n ++ ([63] ++ [hexAt m]) = idT e n ++ 63 :: [hexAt m] from rfl, s1, s2, s3, s4, if_pos ⟨by simp, p1⟩, if_pos rfl, p2, p3]
    have hx : (hexAt m).toNat = 48 + m := by rw [hexAt_num (by omega), if_pos (by omega)]
    unfold askV
    rw [show ([hexAt m] : List UInt8).getD 0 0 = hexAt m from rfl, hx, if_pos ⟨rfl, by omega, by omega⟩, show 48 + m - 48 = m by omega]
    have hz : ds = zero8 := list8 hd rfl fun j hj => by rw [zero8_at]; exact hr j (by simp)
    rw [hz]
  | false =>
    simp only [Bool.false_eq_true, if_false]
    rw [List.append_assoc]
    obtain ⟨s1, s2, s3, s4⟩ := sepN_app (t := idT e n) (c := 35) (rest := byT (ds.take m)) (idT_sep e n) rfl
    unfold readV
    rw [show idT e n ++ ([35] ++ byT (ds.take m)) = idT e n ++ 35 :: byT (ds.take m) from rfl, s1, s2, s3, s4, if_pos ⟨by simp, p1⟩, if_neg (by decide), p2, p3]
    have hl : (ds.take m).length = m := by rw [List.length_take]; omega
    unfold fillV
    rw [if_pos ⟨by rw [byT_len]; omega, by rw [byT_len]; omega, byT_ok _⟩, byT_len, hl, show 2 * m / 2 = m by omega]
    have hz : datT (byT (ds.take m)) (2 * m) = ds := by
      refine list8 (datT_len _ _) hd fun j hj => ?_
      rw [datT_at hj]
      by_cases hjm : j < m
      · obtain ⟨b1, b2⟩ := byT_at (ds.take m) j (by omega)
        have ht : (ds.take m).getD j 0 = ds.getD j 0 := by simp only [List.getD_eq_getElem?_getD, List.getElem?_take_of_lt hjm]
        have hlt : ds.getD j 0 < 256 := by
          rw [List.getD_eq_getElem?_getD, List.getElem?_eq_getElem (by omega)]; exact hy _ (List.getElem_mem _)
        rw [if_pos (by omega)]
        unfold dig
        rw [b1, b2, ht, dig_hex (Nat.mod_lt _ (by omega)), dig_hex (Nat.mod_lt _ (by omega))]
        simp only [Int.toNat_natCast]
        omega
      · rw [if_neg (by omega), if_neg (by omega)]
        exact (hr j (by simp; omega)).symm
    rw [hz]
theorem byT_back {q : List UInt8} (ho : hexOk q = true) (hl : q.length ≤ 16) (he : q.length % 2 = 0) : byT ((datT q q.length).take (q.length / 2)) = q := by
  have key : ∀ j, j ≤ q.length / 2 → byT ((datT q q.length).take j) = q.take (2 * j) := by
    intro j
    induction j with
    | zero => intro _; rfl
    | succ j ih =>
      intro hj
      have hlt : j < (datT q q.length).length := by rw [datT_len]; omega
      have hat : (datT q q.length)[j] = 16 * dig q (2 * j) + dig q (2 * j + 1) := by
        have := datT_at (l := q) (i := q.length) (j := j) (by omega)
        rw [if_pos (by omega)] at this
        rw [← this]; simp [List.getD_eq_getElem?_getD, hlt]
      have d1 := dig_lt q (2 * j)
      have d2 := dig_lt q (2 * j + 1)
      have hex : ∀ i, i < q.length → hexAt (dig q i) = q.getD i 0 := fun i hi => by
        refine hex_dig ?_
        have := List.all_eq_true.1 ho (q.getD i 0) (by rw [List.getD_eq_getElem?_getD, List.getElem?_eq_getElem hi]; exact List.getElem_mem hi)
        exact of_decide_eq_true this
      rw [List.take_succ_eq_append_getElem hlt, byT_snoc, ih (by omega), hat, show (16 * dig q (2 * j) + dig q (2 * j + 1)) / 16 % 16 = dig q (2 * j) by omega, show (16 * dig q (2 * j) + dig q (2 * j + 1)) % 16 = dig q (2 * j + 1) by omega, hex _ (by omega), hex _ (by omega), show 2 * (j + 1) = 2 * j + 1 + 1 by omega, take_snoc (by omega), take_snoc (by omega), List.append_assoc]
      rfl
  have := key (q.length / 2) (Nat.le_refl _)
  rw [this, List.take_of_length_le (by omega)]
/-- A text that is read is its frame's. -/
theorem text_read {q : List UInt8} {e : Bool} {n : Nat} {r : Bool} {l : Int} {ds : List Nat} (hd : ds.length = 8) (h : readV q = .tuple #[frV e n r l ds, .bool true]) : rightF e n r l ds = 0 ∧ frT e n r l ds = q := by
  have inj : ∀ {e' n' r' l' ds'}, (.tuple #[frV e' n' r' l' ds', .bool true] : Value) = .tuple #[frV e n r l ds, .bool true] → e' = e ∧ n' = n ∧ r' = r ∧ l' = l ∧ bC ds' = bC ds := by
    intro e' n' r' l' ds' hh
    simp only [Value.tuple.injEq, Array.mk.injEq, List.cons.injEq, Value.agg.injEq, Value.bool.injEq, Value.int.injEq, true_and, and_true] at hh
    obtain ⟨h1, h2, h3, h4, h5⟩ := hh
    exact ⟨h1, by omega, h3, h4, h5⟩
  have hbC : ∀ {a b : List Nat}, bC a = bC b → a = b := by
    intro a
    induction a with
    | nil => intro b hb; cases b with
      | nil => rfl
      | cons y b => simp [bC] at hb
    | cons x a ih => intro b hb; cases b with
      | nil => simp [bC] at hb
      | cons y b =>
        simp only [bC, List.map_cons, List.cons.injEq, Value.int.injEq, true_and] at hb
        rw [ih hb.2, show x = y by omega]
  have hbad : ¬ badF = .tuple #[frV e n r l ds, .bool true] := by
    unfold badF
    intro hh
    simp at hh
  unfold readV at h
  split at h
  rotate_left
  · exact absurd h hbad
  rename_i hk
  obtain ⟨hk, hp⟩ := hk
  obtain ⟨t1, t2⟩ := par_idT hp
  have hsep : sepB (q.getD (sepN q) 0) = true := by
    rw [List.getD_eq_getElem?_getD, List.getElem?_eq_getElem hk]
    exact List.findIdx_getElem (w := hk)
  have hsplit : q = q.take (sepN q) ++ q.getD (sepN q) 0 :: q.drop (sepN q + 1) := by
    rw [List.getD_eq_getElem?_getD, List.getElem?_eq_getElem hk]
    simp
  generalize q.take (sepN q) = t at *
  generalize q.drop (sepN q + 1) = rest at *
  generalize q.getD (sepN q) 0 = c at *
  split at h
  · rename_i hc
    subst hc
    unfold askV at h
    split at h
    rotate_left
    · exact absurd h hbad
    rename_i ha
    obtain ⟨a1, a2, a3⟩ := ha
    obtain ⟨d, rfl⟩ : ∃ d, rest = [d] := by
      match rest, a1 with
      | [d], _ => exact ⟨d, rfl⟩
    simp only [List.getD_cons_zero] at h a2 a3
    obtain ⟨rfl, rfl, rfl, rfl, h5⟩ := inj h
    obtain rfl := hbC h5
    have hR : rightF (decide (t.length = 8)) (hexN t) true ((d.toNat - 48 : Nat) : Int) zero8 = 0 := rightF_good t2 (by omega) (by omega) fun j hj hne => absurd (zero8_at j) hne
    refine ⟨hR, ?_⟩
    unfold frT
    rw [if_pos hR, if_pos rfl, Int.toNat_natCast, t1, hsplit, List.append_assoc]
    have hx : hexAt (d.toNat - 48) = d := by
      apply UInt8.toNat_inj.1
      rw [hexAt_num (by omega), if_pos (by omega)]; omega
    rw [hx]; rfl
  · rename_i hc
    have hc35 : c = 35 := by
      rcases (sepB_iff c).1 hsep with h1 | h1
      · exact absurd (UInt8.toNat_inj.1 h1) hc
      · exact UInt8.toNat_inj.1 h1
    subst hc35
    unfold fillV at h
    split at h
    rotate_left
    · exact absurd h hbad
    rename_i ha
    obtain ⟨a1, a2, a3⟩ := ha
    obtain ⟨rfl, rfl, rfl, rfl, h5⟩ := inj h
    obtain rfl := hbC h5
    have hR : rightF (decide (t.length = 8)) (hexN t) false ((rest.length / 2 : Nat) : Int) (datT rest rest.length) = 0 := rightF_good t2 (by omega) (by omega) fun j hj hne hcc => by
      rw [datT_len] at hj
      rcases hcc with hcc | hcc
      · refine hne ?_
        rw [datT_at hj, if_neg (by omega), if_neg (by omega)]
      · cases hcc
    refine ⟨hR, ?_⟩
    unfold frT
    rw [if_pos hR, if_neg (by simp), Int.toNat_natCast, t1, hsplit, byT_back a3 a2 a1, List.append_assoc]; rfl
/-! ### A body is read as the frame, whatever stands behind -/
theorem unp_grp {ys : List Nat} {m j : Nat} (hm : ys.length = m) (hj : j < m) : grp (unpackL ys (8 * m)) (unpackL ys (8 * m)).length j = bitsOf (ys.getD j 0) 8 := by
  unfold grp
  rw [List.take_of_length_le (Nat.le_refl _)]
  apply List.ext_getElem
  · rw [List.length_take, List.length_drop, unpackL_len, bitsOf_len]; omega
  intro i h1 h2
  rw [bitsOf_len] at h2
  rw [List.getElem_take, List.getElem_drop]
  simp only [unpackL, bitsOf, List.getElem_map, List.getElem_range]
  rw [show (8 * j + i) / 8 = j by omega, show 7 - (8 * j + i) % 8 = 8 - 1 - i by omega]
theorem pk_unp {ys : List Nat} {m : Nat} (hm : ys.length = m) (hy : ∀ y ∈ ys, y < 256) : pkYs (unpackL ys (8 * m)) (unpackL ys (8 * m)).length = ys := by
  apply List.ext_getElem
  · rw [pkYs_len, unpackL_len]; omega
  intro j h1 h2
  have hj : j < m := by omega
  have := pkYs_at (xs := unpackL ys (8 * m)) (i := (unpackL ys (8 * m)).length) (j := j) (by rw [unpackL_len]; omega)
  rw [List.getElem?_eq_getElem h1] at this
  rw [Option.some.inj this]
  unfold pkb
  rw [unp_grp hm hj, bitsOf_len, numOf_bits]
  have hlt : ys[j] < 256 := hy _ (List.getElem_mem _)
  rw [List.getD_eq_getElem?_getD, List.getElem?_eq_getElem h2]
  simp only [Option.getD_some]
  rw [Nat.mod_eq_of_lt (by omega)]; simp
theorem unp_one (ys : List Nat) (n : Nat) : (unpackL ys n).map one = unpackL ys n := by
  unfold unpackL
  rw [List.map_map]
  apply List.map_congr_left
  intro i _
  have := Nat.mod_lt (ys.getD (i / 8) 0 / 2 ^ (7 - i % 8)) (show 0 < 2 by omega)
  simp only [Function.comp, one]
  split <;> omega
theorem body_back {e : Bool} {n : Nat} {r : Bool} {l : Int} {ds more : List Nat} (hd : ds.length = 8) (hy : ∀ y ∈ ds, y < 256) (h : rightF e n r l ds = 0) :
    parV (sealL (bodyL e n r l.toNat ds) ++ more) = .tuple #[frV e n r l ds, .int .i64 ((sealL (bodyL e n r l.toNat ds)).length : Int), .int .i64 0] := by
  obtain ⟨hi, h0, h8⟩ := rightF_zero h
  obtain ⟨m, rfl, hm⟩ : ∃ m : Nat, l = m ∧ m ≤ 8 := ⟨l.toNat, by omega, by omega⟩
  have hrest := right_rest h
  rw [Int.toNat_natCast] at hrest ⊢
  have hw := whole_seal (bodyL e n r m ds)
  have hdat : sealL (bodyL e n r m ds) = headL e n r m ++ ((if r then [] else datL ds m) ++ bitsOf (sumOf (bodyL e n r m ds)) 15) := by
    unfold sealL
    rw [show (bodyL e n r m ds).map one = headL e n r m ++ (if r then [] else datL ds m) by
      rw [bodyL_eq hi, List.map_append, head_one]; cases r
      · simp only [Bool.false_eq_true, if_false]; rw [datL, unp_one]
      · rfl, List.append_assoc]
  have hlen : (sealL (bodyL e n r m ds)).length = (if e then 54 else 34) + (if r then 0 else 8 * m) := by
    obtain ⟨c, -, hh⟩ := body_head (r := r) (ds := ds) hi hm; exact hh
  generalize hc : bitsOf (sumOf (bodyL e n r m ds)) 15 = crc at hdat
  have hcl : crc.length = 15 := by rw [← hc, bitsOf_len]
  generalize sealL (bodyL e n r m ds) = X at hw hdat hlen ⊢
  have hH := head_of (c := ((if r then [] else datL ds m) ++ crc) ++ more) (r := r) hi hm
  rw [← List.append_assoc, ← hdat] at hH
  have hf := hH.frm
  have hsz : sizN (X ++ more) = X.length := by
    unfold sizN
    rw [hH.rem, hH.len, hf, hlen]; cases e <;> cases r <;> simp <;> omega
  have htold : toldB (X ++ more) = true := by
    refine decide_eq_true ⟨?_, ?_⟩
    · rw [List.length_append, hlen]; cases e <;> cases r <;> simp <;> omega
    · rw [List.length_append, hlen, hf]; cases e <;> cases r <;> simp <;> omega
  have hfirst : (X ++ more).getD 0 0 = 0 := by rw [hdat]; simp [headL]
  have herr : errN (X ++ more) = 0 := by
    unfold errN
    rw [if_neg (fun hh => hh.2 hfirst), if_neg (by rw [htold, hsz, List.length_append]; simp), hsz, List.take_left, hw]
    simp
  have hdN : datN (X ++ more) = ds := by
    unfold datN
    rw [hH.rem, hH.len]
    cases r with
    | true =>
      simp only [if_true]
      exact list8 (by simp) hd fun j hj => by
        rw [hrest j (by simp), List.getD_eq_getElem?_getD, List.getElem?_replicate, if_pos hj]; rfl
    | false =>
      simp only [Bool.false_eq_true, if_false] at hdat hlen hf hrest ⊢
      have hl : (ds.take m).length = m := by rw [List.length_take]; omega
      have hseg : segD (X ++ more) = unpackL (ds.take m) (8 * m) := by
        unfold segD
        rw [hsz, hf, hdat, List.append_assoc, List.append_assoc]
        have hh := headL_len e n false m
        refine seg_app (by rw [hh]; cases e <;> rfl) ?_
        have hX : (headL e n false m ++ (datL ds m ++ crc)).length = X.length := by rw [hdat]
        rw [hX, hlen, datL, unpackL_len]
        cases e <;> simp <;> omega
      rw [hseg, pk_unp hl (fun y hyy => hy y (List.mem_of_mem_take hyy))]
      refine list8 (by simp; omega) hd fun j hj => ?_
      by_cases hjm : j < m
      · rw [List.getD_eq_getElem?_getD, List.getElem?_append_left (by omega), List.getElem?_take_of_lt hjm, ← List.getD_eq_getElem?_getD]
      · rw [hrest j (by omega), List.getD_eq_getElem?_getD, List.getElem?_append_right (by omega), List.getElem?_replicate]
        split <;> rfl
  unfold parV
  rw [if_pos herr, hH.ext, hH.id, hH.rem, hH.len, hdN, hsz]
end Go.Proofs.YtdhmjnpaoacpfaaDoor
