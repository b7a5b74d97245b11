/-
  Strings as lists of bytes; the checks on letters.
-/
import Derived.Test.YtfdmenhnejfhjaaIn
import Derived.WalkLawsBesides
namespace Go.Proofs.Ytfdmenhnejfhjaa
open Go.RowKit
def bytes (s : ByteArray) : List UInt8 := s.data.toList
theorem bytes_len (s : ByteArray) : (bytes s).length = s.size := by simp [bytes]
theorem bytes_drop (s : ByteArray) (k : Nat) (h : k < s.size) : (bytes s).drop k = s[k] :: (bytes s).drop (k + 1) := by
  rw [List.drop_eq_getElem_cons (by rw [bytes_len]; exact h)]; rfl
theorem bytes_get (s : ByteArray) (k : Nat) (h : k < s.size) : (bytes s)[k]? = some s[k] := by
  rw [List.getElem?_eq_getElem (by rw [bytes_len]; exact h)]; rfl
theorem bytes_ext {s t : ByteArray} (h : bytes s = bytes t) : s = t := by
  cases s with | mk a => cases t with | mk b => simp [bytes] at h; rw [h]
theorem ne_t {a b : Int} (h : a ≠ b) : (a != b) = true ∧ (a == b) = false := by simp [h]
theorem ne_f {a b : Int} (h : a = b) : (a != b) = false ∧ (a == b) = true := by simp [h]
def str (l : List UInt8) : ByteArray := ⟨l.toArray⟩
theorem bytes_str (l : List UInt8) : bytes (str l) = l := by simp [bytes, str]
theorem str_bytes (s : ByteArray) : str (bytes s) = s := bytes_ext (bytes_str _)
theorem str_size (l : List UInt8) : (str l).size = l.length := by simp [str, ByteArray.size]
theorem str_append (l m : List UInt8) : str l ++ str m = str (l ++ m) := bytes_ext (by simp [bytes, str])
theorem str_toList (l : List UInt8) : (str l).toList = l := by rw [ByteArray.toList_eq]; simp [str]
/-- a letter -/
def leC (c : UInt8) : Bool := decide (97 ≤ (c.toNat : Int)) && decide ((c.toNat : Int) ≤ 122)
def leB : List UInt8 → Bool
  | [] => true
  | c :: r => leC c && leB r
theorem leC_cases (c : UInt8) : (leC c = true ∧ 97 ≤ (c.toNat : Int) ∧ (c.toNat : Int) ≤ 122) ∨ (leC c = false ∧ (c.toNat : Int) < 97) ∨ (leC c = false ∧ 97 ≤ (c.toNat : Int) ∧ 122 < (c.toNat : Int)) := by
  by_cases h1 : (c.toNat : Int) < 97
  · exact .inr (.inl ⟨by simp [leC]; omega, h1⟩)
  · by_cases h2 : 122 < (c.toNat : Int)
    · exact .inr (.inr ⟨by simp [leC]; omega, by omega, h2⟩)
    · exact .inl ⟨by simp [leC]; omega, by omega, by omega⟩
def letB (s : ByteArray) (lo hi : Int) : Bool := leB (bytes s) && inB s.size lo hi
theorem tyLetters_any (s : ByteArray) (m : Int) (w : World) (hs : s.size ≤ 1048576) : Calls Try.prog 41 #[.string s, .int .i64 m] w fun e w' => e = .returned (.bool (letB s 1 m)) ∧ w = w' := by
  go_enter Try.func41, Try.ntmps41
  go_wp2
  go_loop [5] (fun i => ∃ k : Nat, k ≤ s.size ∧ i = .int .i64 k ∧ leB ((bytes s).drop k) = leB (bytes s)) (fun i => s.size - (intOf i).toNat)
  case atStart => exact ⟨0, Nat.zero_le _, rfl, rfl⟩
  case round =>
    obtain ⟨k, hk, rfl, hR⟩ := hrel
    have HR := Lib.hid hR; clear hR
    by_cases hlt : k < s.size
    · have HD := Lib.hid (bytes_drop s k hlt)
      rcases leC_cases s[k] with ⟨hp, g1, g2⟩ | ⟨hp, g1⟩ | ⟨hp, g1, g2⟩
      · have HP := Lib.hid hp; clear hp
        go_wp2
        go_round
        case rel => exact ⟨k + 1, by omega, by go_num, by rw [← HR.out, HD.out, leB, HP.out, Bool.true_and]⟩
        case measure => simp [intOf]; omega
      all_goals
        have HP := Lib.hid hp; clear hp
        go_wp2
        go_ret
        have hF : leB (bytes s) = false := by rw [← HR.out, HD.out, leB, HP.out, Bool.false_and]
        exact ⟨ret_bool (by simp [letB, hF]), rfl⟩
    · have HF := Lib.hid (show leB (bytes s) = true by rw [← HR.out, List.drop_of_length_le (by rw [bytes_len]; omega)]; rfl)
      go_wp2_with (go_at_call 39; refine (in_any _ _ _ _).mono ?_; rintro e1 w1 ⟨rfl, rfl⟩)
      go_ret
      exact ⟨ret_bool (by simp [letB, HF.out]), rfl⟩
theorem areLetters_any (s : ByteArray) (l m : Int) (w : World) (hs : s.size ≤ 1048576) : Calls Try.prog 49 #[.string s, .int .i64 l, .int .i64 m] w fun e w' => e = .returned (.bool (letB s l m)) ∧ w = w' := by
  go_enter Try.func49, Try.ntmps49
  go_wp2
  go_loop [7] (fun i => ∃ k : Nat, k ≤ s.size ∧ i = .int .i64 k ∧ leB ((bytes s).drop k) = leB (bytes s)) (fun i => s.size - (intOf i).toNat)
  case atStart => exact ⟨0, Nat.zero_le _, rfl, rfl⟩
  case round =>
    obtain ⟨k, hk, rfl, hR⟩ := hrel
    have HR := Lib.hid hR; clear hR
    by_cases hlt : k < s.size
    · have HD := Lib.hid (bytes_drop s k hlt)
      rcases leC_cases s[k] with ⟨hp, g1, g2⟩ | ⟨hp, g1⟩ | ⟨hp, g1, g2⟩
      · have HP := Lib.hid hp; clear hp
        go_wp2
        go_round
        case rel => exact ⟨k + 1, by omega, by go_num, by rw [← HR.out, HD.out, leB, HP.out, Bool.true_and]⟩
        case measure => simp [intOf]; omega
      all_goals
        have HP := Lib.hid hp; clear hp
        go_wp2
        go_ret
        have hF : leB (bytes s) = false := by rw [← HR.out, HD.out, leB, HP.out, Bool.false_and]
        exact ⟨ret_bool (by simp [letB, hF]), rfl⟩
    · have HF := Lib.hid (show leB (bytes s) = true by rw [← HR.out, List.drop_of_length_le (by rw [bytes_len]; omega)]; rfl)
      go_wp2_with (go_at_call 47; refine (within_any _ _ _ _).mono ?_; rintro e1 w1 ⟨rfl, rfl⟩)
      go_ret
      exact ⟨ret_bool (by simp [letB, HF.out]), rfl⟩
end Go.Proofs.Ytfdmenhnejfhjaa
