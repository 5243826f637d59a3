/- What a text is as a frame: plain. -/
import Derived.Test.YtdhmjnpaoacpfaaDoorTypes
import Derived.Test.YtdhmjnpaoacpfaaDoorRow0
import Derived.Test.YtdhmjnpaoacpfaaDoorAbC
import Derived.Test.YtdhmjnpaoacpfaaDoorRight
import Derived.Test.YtdhmjnpaoacpfaaDoorStr
import Derived.Test.YtdhmjnpaoacpfaaDoorHex
import Derived.Test.YtdhmjnpaoacpfaaDoorIdText
import Derived.Lib.IndexLaws
import Derived.Lib.IndexBytes
set_option linter.all false
set_option maxRecDepth 20000
namespace Go.Proofs.YtdhmjnpaoacpfaaDoor
open Go Go.Ab
def dig (l : List UInt8) (i : Nat) : Nat := (digI (l.getD i 0).toNat).toNat
theorem dig_lt (l : List UInt8) (i : Nat) : dig l i < 16 := by have := digI_in (l.getD i 0).toNat; unfold dig; omega
def datT (l : List UInt8) (i : Nat) : List Nat := (List.range 8).map fun j => if 2 * j + 1 < i then 16 * dig l (2 * j) + dig l (2 * j + 1) else if 2 * j < i then dig l (2 * j) else 0
theorem datT_len (l : List UInt8) (i : Nat) : (datT l i).length = 8 := by simp [datT]
theorem datT_zero (l : List UInt8) : datT l 0 = [0, 0, 0, 0, 0, 0, 0, 0] := by simp [datT]; rfl
theorem datT_at {l : List UInt8} {i j : Nat} (hj : j < 8) : (datT l i).getD j 0 = if 2 * j + 1 < i then 16 * dig l (2 * j) + dig l (2 * j + 1) else if 2 * j < i then dig l (2 * j) else 0 := by
  simp [datT, List.getD_eq_getElem?_getD, hj]
theorem datT_set {l : List UInt8} {i n k : Nat} (hi : i < 8) (hk : k = 2 * i + 1 ∨ k = 2 * i + 2) (hn : n = 2 * i ∨ n = 2 * i + 1) (hnk : n < k) : (datT l n).set i (if 2 * i + 1 < k then 16 * dig l (2 * i) + dig l (2 * i + 1) else dig l (2 * i)) = datT l k := by
  apply List.ext_getElem
  · simp [datT]
  intro j h1 h2
  have hj : j < 8 := by simpa [datT] using h2
  rw [List.getElem_set]
  by_cases hji : i = j
  · subst hji
    simp only [if_true, datT, List.getElem_map, List.getElem_range]
    by_cases hc : 2 * i + 1 < k
    · rw [if_pos hc, if_pos hc]
    · rw [if_neg hc, if_neg hc, if_pos (by omega)]
  · rw [if_neg hji]
    simp only [datT, List.getElem_map, List.getElem_range]
    have e1 : (2 * j + 1 < n) = (2 * j + 1 < k) := propext ⟨fun h => by omega, fun h => by omega⟩
    have e2 : (2 * j < n) = (2 * j < k) := propext ⟨fun h => by omega, fun h => by omega⟩
    simp only [e1, e2]
theorem datT_two {l : List UInt8} {i : Nat} (hi : i < 8) : (datT l (2 * i)).set i (16 * dig l (2 * i) + dig l (2 * i + 1)) = datT l (2 * (i + 1)) := by
  have := datT_set (l := l) (i := i) (n := 2 * i) (k := 2 * (i + 1)) hi (.inr rfl) (.inl rfl) (by omega)
  rwa [if_pos (by omega)] at this
theorem datT_one {l : List UInt8} {i : Nat} (hi : i < 16) : (datT l i).getD (i / 2) 0 < 16 ∧ (datT l i).set (i / 2) ((datT l i).getD (i / 2) 0 * 16 + dig l i) = datT l (i + 1) := by
  have hat := datT_at (l := l) (i := i) (j := i / 2) (by omega)
  rcases Nat.mod_two_eq_zero_or_one i with h | h
  · have e : i = 2 * (i / 2) := by omega
    have hz : (datT l i).getD (i / 2) 0 = 0 := by rw [hat, if_neg (by omega), if_neg (by omega)]
    have := datT_set (l := l) (i := i / 2) (n := i) (k := i + 1) (by omega) (by omega) (by omega) (by omega)
    rw [if_neg (by omega), ← e] at this
    rw [hz, Nat.zero_mul, Nat.zero_add]
    exact ⟨by omega, this⟩
  · have e : i = 2 * (i / 2) + 1 := by omega
    have hz : (datT l i).getD (i / 2) 0 = dig l (2 * (i / 2)) := by rw [hat, if_neg (by omega), if_pos (by omega)]
    have := datT_set (l := l) (i := i / 2) (n := i) (k := i + 1) (by omega) (by omega) (by omega) (by omega)
    rw [if_pos (by omega), ← e] at this
    rw [hz, Nat.mul_comm (dig _ _) 16]
    exact ⟨dig_lt _ _, this⟩
abbrev zero8 : List Nat := [0, 0, 0, 0, 0, 0, 0, 0]
def badF : Value := .tuple #[frV false 0 false 0 zero8, .bool false]
def askV (e : Bool) (n : Nat) (l : List UInt8) : Value :=
  if l.length = 1 ∧ 48 ≤ (l.getD 0 0).toNat ∧ (l.getD 0 0).toNat ≤ 56 then .tuple #[frV e n true (((l.getD 0 0).toNat - 48 : Nat) : Int) zero8, .bool true] else badF
def fillV (e : Bool) (n : Nat) (l : List UInt8) : Value :=
  if l.length % 2 = 0 ∧ l.length ≤ 16 ∧ hexOk l = true then .tuple #[frV e n false ((l.length / 2 : Nat) : Int) (datT l l.length), .bool true] else badF
def sepB (c : UInt8) : Bool := c == 63 || c == 35
def sepN (l : List UInt8) : Nat := l.findIdx sepB
def readV (l : List UInt8) : Value :=
  if sepN l < l.length ∧ iparOk (l.take (sepN l)) = true then
    (if l.getD (sepN l) 0 = 63 then askV (decide ((l.take (sepN l)).length = 8)) (hexN (l.take (sepN l))) (l.drop (sepN l + 1))
     else fillV (decide ((l.take (sepN l)).length = 8)) (hexN (l.take (sepN l))) (l.drop (sepN l + 1)))
  else badF
theorem sepN_is {l : List UInt8} {i : Nat} (hi : i ≤ l.length) (h : ∀ j, j < i → sepB (l.getD j 0) = false) (he : i = l.length ∨ sepB (l.getD i 0) = true) : sepN l = i := by
  have hget : ∀ (j : Nat) (hj : j < l.length), l.getD j 0 = l[j] := fun j hj => by simp [List.getD_eq_getElem?_getD, hj]
  unfold sepN
  rcases Nat.lt_or_ge i l.length with hlt | hge
  · refine (List.findIdx_eq hlt).2 ⟨?_, fun j hj => ?_⟩
    · rcases he with he | he
      · omega
      · rwa [hget i hlt] at he
    · have := h j hj
      rwa [hget j (by omega)] at this
  · have : i = l.length := by omega
    subst this
    refine List.findIdx_eq_length.2 fun x hx => ?_
    obtain ⟨j, hj, rfl⟩ := List.getElem_of_mem hx
    have := h j hj
    rwa [hget j hj] at this
theorem sepB_iff (c : UInt8) : sepB c = true ↔ c.toNat = 63 ∨ c.toNat = 35 := by
  unfold sepB
  rw [Bool.or_eq_true, beq_iff_eq, beq_iff_eq]
  constructor
  · rintro (rfl | rfl)
    · exact .inl rfl
    · exact .inr rfl
  · rintro (h | h)
    · exact .inl (UInt8.toNat_inj.1 h)
    · exact .inr (UInt8.toNat_inj.1 h)
theorem ixB_hex (c : UInt8) : Lib.indexByte hexD c = digI c.toNat := by
  have : ∀ i : Fin 256, Lib.indexByte hexD (UInt8.ofNat i.val) = digI i.val := by decide +kernel
  have := this ⟨c.toNat, c.toNat_lt⟩
  rwa [UInt8.ofNat_toNat] at this
theorem ixB_nine (c : UInt8) : Lib.indexByte (hexD.take 9) c = if 48 ≤ c.toNat ∧ c.toNat ≤ 56 then (c.toNat : Int) - 48 else -1 := by
  have : ∀ i : Fin 256, Lib.indexByte (hexD.take 9) (UInt8.ofNat i.val) = if 48 ≤ i.val ∧ i.val ≤ 56 then (i.val : Int) - 48 else -1 := by decide +kernel
  have := this ⟨c.toNat, c.toNat_lt⟩
  rwa [UInt8.ofNat_toNat] at this
theorem ix_sep (l : List UInt8) : let a := Lib.indexByte l 63; let k := Lib.indexByte l 35
    (if a < 0 ∨ (0 ≤ k ∧ k < a) then k else a) = if sepN l < l.length then (sepN l : Int) else -1 := by
  intro a k
  have ha := Lib.indexByte_ge l 63
  have hk := Lib.indexByte_ge l 35
  have key : ∀ {o : Nat} {c : UInt8}, Lib.indexByte l c = o → o < l.length ∧ l.getD o 0 = c ∧ ∀ j, j < o → l.getD j 0 ≠ c := by
    intro o c h
    obtain ⟨h1, h2⟩ := Lib.indexByte_some h
    have hlt : o < l.length := by rw [List.getElem?_eq_some_iff] at h1; exact h1.1
    refine ⟨hlt, by simp [List.getD_eq_getElem?_getD, h1], fun j hj he => h2 j hj ?_⟩
    rw [List.getD_eq_getElem?_getD, List.getElem?_eq_getElem (by omega)] at he
    rw [List.getElem?_eq_getElem (by omega)]
    exact congrArg some he
  have knone : ∀ {c : UInt8}, Lib.indexByte l c = -1 → ∀ j, j < l.length → l.getD j 0 ≠ c := by
    intro c h j hj he
    refine Lib.indexByte_none h j ?_
    rw [List.getD_eq_getElem?_getD, List.getElem?_eq_getElem hj] at he
    rw [List.getElem?_eq_getElem hj]
    exact congrArg some he
  have hsep : ∀ c : UInt8, sepB c = false ↔ c ≠ 63 ∧ c ≠ 35 := by
    intro c; simp [sepB]
  rcases Int.lt_or_le a 0 with h0 | h0
  · have ea : Lib.indexByte l 63 = -1 := by omega
    rw [if_pos (.inl h0)]
    rcases Int.lt_or_le k 0 with h1 | h1
    · have ek : Lib.indexByte l 35 = -1 := by omega
      have := sepN_is (l := l) (Nat.le_refl _) (fun j hj => (hsep _).2 ⟨knone ea j hj, knone ek j hj⟩) (.inl rfl)
      rw [this, if_neg (Nat.lt_irrefl _)]; exact ek
    · obtain ⟨o, ho⟩ := Int.eq_ofNat_of_zero_le h1
      obtain ⟨g1, g2, g3⟩ := key ho
      have := sepN_is (l := l) (i := o) (by omega) (fun j hj => (hsep _).2 ⟨knone ea j (by omega), g3 j hj⟩) (.inr (by rw [g2]; rfl))
      rw [this, if_pos g1]; exact ho
  · obtain ⟨p, hp⟩ := Int.eq_ofNat_of_zero_le h0
    obtain ⟨f1, f2, f3⟩ := key hp
    rcases Int.lt_or_le k 0 with h1 | h1
    · have ek : Lib.indexByte l 35 = -1 := by omega
      rw [if_neg (by omega)]
      have := sepN_is (l := l) (i := p) (by omega) (fun j hj => (hsep _).2 ⟨f3 j hj, knone ek j (by omega)⟩) (.inr (by rw [f2]; rfl))
      rw [this, if_pos f1]; exact hp
    · obtain ⟨o, ho⟩ := Int.eq_ofNat_of_zero_le h1
      obtain ⟨g1, g2, g3⟩ := key ho
      have hpo : p ≠ o := by intro e; subst e; rw [f2] at g2; cases g2
      rcases Nat.lt_or_ge o p with hlt | hge
      · rw [if_pos (.inr (by omega))]
        have := sepN_is (l := l) (i := o) (by omega) (fun j hj => (hsep _).2 ⟨f3 j (by omega), g3 j hj⟩) (.inr (by rw [g2]; rfl))
        rw [this, if_pos g1]; exact ho
      · rw [if_neg (by omega)]
        have := sepN_is (l := l) (i := p) (by omega) (fun j hj => (hsep _).2 ⟨f3 j hj, g3 j (by omega)⟩) (.inr (by rw [f2]; rfl))
        rw [this, if_pos f1]; exact hp
end Go.Proofs.YtdhmjnpaoacpfaaDoor
