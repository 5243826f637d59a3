/- Texts as lists of bytes: what the machine does with them, as equations. -/
import Derived.Test.YthjpfllmecpliaaDoorTypes
import Derived.Test.YthjpfllmecpliaaDoorRow0
import Derived.Test.YthjpfllmecpliaaDoorAbC
import Derived.Lib.Strings
set_option linter.all false
set_option maxRecDepth 20000
namespace Go.Proofs.YthjpfllmecpliaaDoor
open Go Go.Ab
abbrev strB (l : List UInt8) : ByteArray := ⟨l.toArray⟩
theorem str_size (l : List UInt8) : (strB l).size = l.length := by rw [Lib.size_eq]
theorem str_list (l : List UInt8) : (strB l).toList = l := ByteArray.toList_mk l
theorem str_extract (l : List UInt8) (a b : Nat) : (strB l).extract a b = strB ((l.drop a).take (b - a)) := by rw [Lib.extract_eq]
theorem str_app (l m : List UInt8) : strB l ++ strB m = strB (l ++ m) := by
  apply ByteArray.ext
  simp [strB]
variable {P : Program} {base : Nat} {s : St}
theorem idxStr {t : TypeId} {l : List UInt8} {k : IntKind} {i : Int} (ht : strT P t = true) (h0 : 0 ≤ i) (h1 : i < l.length) : indexV P t (.string (strB l)) (.int k i) = some (.int .u8 ((l.getD i.toNat 0).toNat : Nat)) := by
  simp only [indexV, intOf?]
  rw [if_pos ⟨ht, h0, by rw [str_size]; exact h1⟩]
theorem slcStr {t : TypeId} {l : List UInt8} {k k' : IntKind} {a b : Int} (ht : strT P t = true) (h0 : 0 ≤ a) (h1 : a ≤ b) (h2 : b ≤ l.length) : sliceV P s t (.string (strB l)) (some (.int k a)) (some (.int k' b)) none = some (.string (strB ((l.take b.toNat).drop a.toNat))) := by
  simp only [sliceV]
  rw [if_pos ⟨ht, trivial⟩]
  simp only [cutV, intOf?, str_size]
  rw [if_pos ⟨h0, h1, h2, Int.le_refl _⟩]
  simp only [str_extract]
  rw [List.take_drop, Nat.add_sub_cancel' (by omega)]
theorem slcStrHi {t : TypeId} {l : List UInt8} {k' : IntKind} {b : Int} (ht : strT P t = true) (h1 : 0 ≤ b) (h2 : b ≤ l.length) : sliceV P s t (.string (strB l)) none (some (.int k' b)) none = some (.string (strB (l.take b.toNat))) := by
  simp only [sliceV]
  rw [if_pos ⟨ht, trivial⟩]
  simp only [cutV, intOf?, str_size]
  rw [if_pos ⟨Int.le_refl _, h1, h2, Int.le_refl _⟩]
  simp only [str_extract, Int.toNat_zero, List.drop_zero, Nat.sub_zero]
theorem slcStrLo {t : TypeId} {l : List UInt8} {k : IntKind} {a : Int} (ht : strT P t = true) (h0 : 0 ≤ a) (h1 : a ≤ l.length) : sliceV P s t (.string (strB l)) (some (.int k a)) none none = some (.string (strB (l.drop a.toNat))) := by
  simp only [sliceV]
  rw [if_pos ⟨ht, trivial⟩]
  simp only [cutV, intOf?, str_size, Option.isSome_none, Bool.false_eq_true, if_false]
  rw [if_pos ⟨h0, h1, Int.le_refl _, Int.le_refl _⟩]
  simp only [str_extract, Int.toNat_natCast]
  rw [List.take_of_length_le (by rw [List.length_drop]; omega)]
theorem lenStr {t : TypeId} {ts : List TypeId} {l : List UInt8} (ht : strT P t = true) (ha : arrT P t = none) : lenB P (t :: ts) [.string (strB l)] = some (.int .i64 (l.length : Int)) := by
  simp only [lenB, ha]
  rw [if_pos ht, str_size]
theorem addStrV {l m : List UInt8} (h : l.length + m.length ≤ 1000000) : strV .add (strB l) (strB m) = some (.string (strB (l ++ m))) := by
  simp only [strV, str_size, str_app]
  rw [if_pos (by rw [show IntKind.i64.max = 9223372036854775807 from rfl]; omega)]
theorem eqlStrV {l m : List UInt8} : strV .eql (strB l) (strB m) = some (.bool (decide (l = m))) := by
  simp only [strV, str_list]
  congr 2
  rw [Bool.eq_iff_iff]; simp
theorem eqlStr {t : TypeId} {l m : List UInt8} : binV P .eql t (.string (strB l)) (.string (strB m)) = some (.bool (decide (l = m))) := by
  simp only [binV, strV, str_list]
  congr 2
  rw [Bool.eq_iff_iff]; simp
theorem neqStr {t : TypeId} {l m : List UInt8} : binV P .neq t (.string (strB l)) (.string (strB m)) = some (.bool (decide (¬ l = m))) := by
  simp only [binV, strV, str_list]
  congr 2
  rw [Bool.eq_iff_iff]; simp
end Go.Proofs.YthjpfllmecpliaaDoor
