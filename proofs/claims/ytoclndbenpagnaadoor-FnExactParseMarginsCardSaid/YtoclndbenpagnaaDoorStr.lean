/-
  Strings as lists of bytes; the checks on letters.
-/
import Derived.Test.YtoclndbenpagnaaDoorIn
import Derived.WalkLawsBesides
namespace Go.Proofs.YtoclndbenpagnaaDoor
open Go.RowKit
def bytes (s : ByteArray) : List UInt8 := s.data.toList
theorem bytes_len (s : ByteArray) : (bytes s).length = s.size := by simp [bytes]
theorem bytes_drop (s : ByteArray) (k : Nat) (h : k < s.size) : (bytes s).drop k = s[k] :: (bytes s).drop (k + 1) := by
  rw [List.drop_eq_getElem_cons (by rw [bytes_len]; exact h)]; rfl
theorem bytes_get (s : ByteArray) (k : Nat) (h : k < s.size) : (bytes s)[k]? = some s[k] := by
  rw [List.getElem?_eq_getElem (by rw [bytes_len]; exact h)]; rfl
theorem bytes_ext {s t : ByteArray} (h : bytes s = bytes t) : s = t := by
  cases s with | mk a => cases t with | mk b => simp [bytes] at h; rw [h]
theorem ne_t {a b : Int} (h : a ≠ b) : (a != b) = true ∧ (a == b) = false := by simp [h]
theorem ne_f {a b : Int} (h : a = b) : (a != b) = false ∧ (a == b) = true := by simp [h]
def str (l : List UInt8) : ByteArray := ⟨l.toArray⟩
theorem bytes_str (l : List UInt8) : bytes (str l) = l := by simp [bytes, str]
theorem str_bytes (s : ByteArray) : str (bytes s) = s := bytes_ext (bytes_str _)
theorem str_size (l : List UInt8) : (str l).size = l.length := by simp [str, ByteArray.size]
theorem str_append (l m : List UInt8) : str l ++ str m = str (l ++ m) := bytes_ext (by simp [bytes, str])
theorem str_toList (l : List UInt8) : (str l).toList = l := by rw [ByteArray.toList_eq]; simp [str]
/-- a letter -/
def leC (c : UInt8) : Bool := decide (97 ≤ (c.toNat : Int)) && decide ((c.toNat : Int) ≤ 122)
def leB : List UInt8 → Bool
  | [] => true
  | c :: r => leC c && leB r
theorem leC_cases (c : UInt8) : (leC c = true ∧ 97 ≤ (c.toNat : Int) ∧ (c.toNat : Int) ≤ 122) ∨ (leC c = false ∧ (c.toNat : Int) < 97) ∨ (leC c = false ∧ 97 ≤ (c.toNat : Int) ∧ 122 < (c.toNat : Int)) := by
  by_cases h1 : (c.toNat : Int) < 97
  · exact .inr (.inl ⟨by simp [leC]; omega, h1⟩)
  · by_cases h2 : 122 < (c.toNat : Int)
    · exact .inr (.inr ⟨by simp [leC]; omega, by omega, h2⟩)
    · exact .inl ⟨by simp [leC]; omega, by omega, by omega⟩
def letB (s : ByteArray) (lo hi : Int) : Bool := leB (bytes s) && inB s.size lo hi
end Go.Proofs.YtoclndbenpagnaaDoor
