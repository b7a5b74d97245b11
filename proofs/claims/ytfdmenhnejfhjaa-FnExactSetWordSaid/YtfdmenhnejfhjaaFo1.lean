/-
  Contracts: a sort is valid; a code is found in a font.
-/
import Derived.Test.YtfdmenhnejfhjaaSSort
import Derived.Test.YtfdmenhnejfhjaaStr
import Derived.Deep.RegionHeld3
import Derived.BigQuiet
namespace Go.Proofs.Ytfdmenhnejfhjaa
open Go.RowKit
def sortB (b : Srt) : Bool := letB b.code 1 3 && inB b.set_ 1 54
theorem tySort_any (b : Srt) (w : World) (hs : b.code.size ≤ 1048576) : Calls Try.prog 38 #[.agg #[.string b.code, .int .i64 b.set_]] w fun e w' => e = .returned (.bool (sortB b)) ∧ Below w.heap.size w w' := by
  go_enter Try.func38, Try.ntmps38
  go_wp2_with (first | (go_at_call 39; refine (in_any _ _ _ _).mono ?_; rintro e1 w1 ⟨rfl, rfl⟩) | (go_at_call 41; refine (tyLetters_any _ _ _ hs).mono ?_; rintro e1 w1 ⟨rfl, rfl⟩))
  all_goals go_ret
  all_goals exact ⟨ret_bool (by simp_all [sortB]), (by (repeat (first | exact Below.refl _ _ | exact hb | apply Below.drew | (refine Below.alloc ?_ (by first | (simp; done) | (simp; omega) | (have := hb.size; simp at this ⊢; omega)) _) | (refine Below.setCell ?_ (by simp) _))))⟩
theorem tySort_is (b : Srt) (w : World) (hs : b.code.size ≤ 1048576) {v : Bool} (hv : sortB b = v) : Calls Try.prog 38 #[.agg #[.string b.code, .int .i64 b.set_]] w fun e w' => e = .returned (.bool v) ∧ Below w.heap.size w w' := by
  subst hv; exact tySort_any b w hs
theorem isCodeS_any (s : ByteArray) (w : World) (hs : s.size ≤ 1048576) : Calls Try.prog 57 #[.string s] w fun e w' => e = .returned (.bool (letB s 1 3)) ∧ w = w' := by
  go_enter Try.func57, Try.ntmps57
  go_wp2_with (go_at_call 49; refine (areLetters_any _ _ _ _ hs).mono ?_; rintro e1 w1 ⟨rfl, rfl⟩)
  go_ret
  exact ⟨rfl, rfl⟩
theorem isSort_any (b : Srt) (w : World) (hs : b.code.size ≤ 1048576) : Calls Try.prog 46 #[.agg #[.string b.code, .int .i64 b.set_]] w fun e w' => e = .returned (.bool (sortB b)) ∧ Below w.heap.size w w' := by
  go_enter Try.func46, Try.ntmps46
  go_wp2_with (first | (go_at_call 47; refine (within_any _ _ _ _).mono ?_; rintro e1 w1 ⟨rfl, rfl⟩) | (go_at_call 57; refine (isCodeS_any _ _ hs).mono ?_; rintro e1 w1 ⟨rfl, rfl⟩))
  all_goals go_ret
  all_goals exact ⟨ret_bool (by simp_all [sortB]), (by (repeat (first | exact Below.refl _ _ | exact hb | apply Below.drew | (refine Below.alloc ?_ (by first | (simp; done) | (simp; omega) | (have := hb.size; simp at this ⊢; omega)) _) | (refine Below.setCell ?_ (by simp) _))))⟩
theorem isSort_is (b : Srt) (w : World) (hs : b.code.size ≤ 1048576) {v : Bool} (hv : sortB b = v) : Calls Try.prog 46 #[.agg #[.string b.code, .int .i64 b.set_]] w fun e w' => e = .returned (.bool v) ∧ Below w.heap.size w w' := by
  subst hv; exact isSort_any b w hs
def eqS2 (a b : ByteArray) : Bool := a.toList == b.toList
def lessS2 (a b : ByteArray) : Bool := Go.Op.bytesLess a.toList b.toList
def findT (c : ByteArray) : List Srt → Int → Int
  | [], _ => -1
  | b :: r, i => if eqS2 b.code c then i else findT c r (i + 1)
theorem findT_bd {c : ByteArray} : ∀ {ms : List Srt} {i : Int}, 0 ≤ i → findT c ms i = -1 ∨ (i ≤ findT c ms i ∧ findT c ms i < i + ms.length)
  | [], _, _ => .inl rfl
  | b :: r, i, h => by
    rw [findT]
    split
    · right; simp only [List.length_cons]; omega
    · rcases findT_bd (c := c) (ms := r) (i := i + 1) (by omega) with h1 | h1
      · exact .inl h1
      · right; simp only [List.length_cons]; omega
theorem tyFind_any {A : Option Addr} {n cp : Nat} {ms : List Srt} {c : ByteArray} {w : World} (hr : RSrts w w.heap.size A n ms) (hn : n ≤ 1048576) :
    Calls Try.prog 56 #[.slice A n cp, .string c] w fun e w' => e = .returned (.int .i64 (findT c ms 0)) ∧ Below w.heap.size w w' := by
  have HL := Lib.hid hr.len
  go_enter Try.func56, Try.ntmps56
  go_wp2_with fail
  go_loopw [9] (fun u wr => ∃ k : Nat, k ≤ n ∧ u = .int .i64 k ∧ findT c (ms.drop k) k = findT c ms 0 ∧ Below w.heap.size w wr) (fun u _ => n - (intOf u).toNat)
  case atStart => exact ⟨0, Nat.zero_le _, rfl, rfl, Below.refl _ _⟩
  case round =>
    obtain ⟨k, hk, rfl, hR, hb⟩ := hrel
    by_cases hlt : k < n
    · obtain ⟨bb, off, b, rfl, _, hd, _, c0, c1⟩ := RSrts.at_ (hr.below hb) hlt
      have HR := Lib.hid (show (if eqS2 b.code c then (k : Int) else findT c (ms.drop (k + 1)) ((k + 1 : Nat) : Int)) = findT c ms 0 by rw [← hR, hd, findT]; rfl)
      clear hd hR
      replace hb := hb.alloc hb.size (.cells #[.string b.code, .int .i64 b.set_] 50)
      cases h1 : eqS2 b.code c
      · have e1 : (b.code.toList == c.toList) = false := h1
        have H1 := Lib.hid h1; clear h1
        go_wp2_with fail
        go_roundw
        case rel => exact ⟨k + 1, by omega, by go_num, by rw [← HR.out, H1.out]; simp, hb⟩
        case measure => simp [intOf]; omega
      · have e1 : (b.code.toList == c.toList) = true := h1
        have H1 := Lib.hid h1; clear h1
        go_wp2_with fail
        go_ret
        exact ⟨ret_int (by rw [← HR.out, H1.out]; rfl), hb⟩
    · have HR := Lib.hid (show findT c ms 0 = -1 by rw [← hR, drop_end HL.out hlt]; rfl)
      clear hR
      go_wp2_with fail
      go_ret
      exact ⟨ret_int (by rw [HR.out]), hb⟩
end Go.Proofs.Ytfdmenhnejfhjaa
