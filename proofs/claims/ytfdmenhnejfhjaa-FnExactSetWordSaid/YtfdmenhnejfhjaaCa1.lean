/-
  Contracts: a case of boxes is one.
-/
import Derived.Test.YtfdmenhnejfhjaaSBox
import Derived.Test.YtfdmenhnejfhjaaStr
namespace Go.Proofs.Ytfdmenhnejfhjaa
open Go.RowKit
def boxB (b : Bx) : Bool := letB b.code 1 3 && (inB b.line 0 9 && (inB b.column 0 9 && inB b.count 0 9999))
theorem caBox_any (b : Bx) (w : World) (hs : b.code.size ≤ 1048576) : Calls Try.prog 62 #[.agg #[.string b.code, .int .i64 b.line, .int .i64 b.column, .int .i64 b.count]] w fun e w' => e = .returned (.bool (boxB b)) ∧ Below w.heap.size w w' := by
  go_enter Try.func62, Try.ntmps62
  go_wp2_with (first | (go_at_call 39; refine (in_any _ _ _ _).mono ?_; rintro e1 w1 ⟨rfl, rfl⟩) | (go_at_call 41; refine (tyLetters_any _ _ _ hs).mono ?_; rintro e1 w1 ⟨rfl, rfl⟩))
  all_goals go_ret
  all_goals exact ⟨ret_bool (by simp_all [boxB]), (by (repeat (first | exact Below.refl _ _ | exact hb | apply Below.drew | (refine Below.alloc ?_ (by first | (simp; done) | (simp; omega) | (have := hb.size; simp at this ⊢; omega)) _) | (refine Below.setCell ?_ (by simp) _))))⟩
theorem isCode_any (s : ByteArray) (w : World) (hs : s.size ≤ 1048576) : Calls Try.prog 57 #[.string s] w fun e w' => e = .returned (.bool (letB s 1 3)) ∧ w = w' := by
  go_enter Try.func57, Try.ntmps57
  go_wp2_with (go_at_call 49; refine (areLetters_any _ _ _ _ hs).mono ?_; rintro e1 w1 ⟨rfl, rfl⟩)
  go_ret
  exact ⟨rfl, rfl⟩
theorem isPlace_any (n : Int) (w : World) : Calls Try.prog 66 #[.int .i64 n] w fun e w' => e = .returned (.bool (inB n 0 9)) ∧ w = w' := by
  go_enter Try.func66, Try.ntmps66
  go_wp2_with (go_at_call 47; refine (within_any _ _ _ _).mono ?_; rintro e1 w1 ⟨rfl, rfl⟩)
  go_ret
  exact ⟨rfl, rfl⟩
theorem isBox_any (b : Bx) (w : World) (hs : b.code.size ≤ 1048576) : Calls Try.prog 63 #[.agg #[.string b.code, .int .i64 b.line, .int .i64 b.column, .int .i64 b.count]] w fun e w' => e = .returned (.bool (boxB b)) ∧ Below w.heap.size w w' := by
  go_enter Try.func63, Try.ntmps63
  go_wp2_with (first | (go_at_call 47; refine (within_any _ _ _ _).mono ?_; rintro e1 w1 ⟨rfl, rfl⟩) | (go_at_call 57; refine (isCode_any _ _ hs).mono ?_; rintro e1 w1 ⟨rfl, rfl⟩) | (go_at_call 66; refine (isPlace_any _ _).mono ?_; rintro e1 w1 ⟨rfl, rfl⟩))
  all_goals go_ret
  all_goals exact ⟨ret_bool (by simp_all [boxB]), (by (repeat (first | exact Below.refl _ _ | exact hb | apply Below.drew | (refine Below.alloc ?_ (by first | (simp; done) | (simp; omega) | (have := hb.size; simp at this ⊢; omega)) _) | (refine Below.setCell ?_ (by simp) _))))⟩
def takB (r c : Int) : List Bx → Bool
  | [] => false
  | x :: t => (decide (x.line = r) && decide (x.column = c)) || takB r c t
theorem isTaken_any {A : Option Addr} {n c : Nat} {ms : List Bx} {p q : Int} {w : World} (hr : RBxs w w.heap.size A n ms) (hn : n ≤ 1048576) :
    Calls Try.prog 64 #[.slice A n c, .int .i64 p, .int .i64 q] w fun e w' => e = .returned (.bool (takB p q ms)) ∧ Below w.heap.size w w' := by
  have HL := Lib.hid hr.len
  go_enter Try.func64, Try.ntmps64
  go_wp2_with fail
  go_loopw [11] (fun u wr => ∃ k : Nat, k ≤ n ∧ u = .int .i64 k ∧ takB p q (ms.drop k) = takB p q ms ∧ Below w.heap.size w wr) (fun u _ => n - (intOf u).toNat)
  case atStart => exact ⟨0, Nat.zero_le _, rfl, rfl, Below.refl _ _⟩
  case round =>
    obtain ⟨k, hk, rfl, hR, hb⟩ := hrel
    by_cases hlt : k < n
    · obtain ⟨bb, off, b, rfl, _, hd, _, c0, c1, c2, c3⟩ := RBxs.at_ (hr.below hb) hlt
      have HR := Lib.hid (show ((decide (b.line = p) && decide (b.column = q)) || takB p q (ms.drop (k + 1))) = takB p q ms by rw [← hR, hd, takB])
      clear hd hR
      replace hb := hb.alloc hb.size (.cells #[.string b.code, .int .i64 b.line, .int .i64 b.column, .int .i64 b.count] 71)
      by_cases h1 : b.line = p
      · have e1 : (b.line == p) = true := by simp [h1]
        have H1 := Lib.hid h1; clear h1
        by_cases h2 : b.column = q
        · have e2 : (b.column == q) = true := by simp [h2]
          have H2 := Lib.hid h2; clear h2
          go_wp2_with fail
          go_ret
          exact ⟨ret_bool (by rw [← HR.out]; simp [H1.out, H2.out]), hb⟩
        · have e2 : (b.column == q) = false := by simp [h2]
          have H2 := Lib.hid h2; clear h2
          go_wp2_with fail
          go_roundw
          case rel => exact ⟨k + 1, by omega, by go_num, by rw [← HR.out]; simp [H2.out], hb⟩
          case measure => simp [intOf]; omega
      · have e1 : (b.line == p) = false := by simp [h1]
        have H1 := Lib.hid h1; clear h1
        go_wp2_with fail
        go_roundw
        case rel => exact ⟨k + 1, by omega, by go_num, by rw [← HR.out]; simp [H1.out], hb⟩
        case measure => simp [intOf]; omega
    · have HR := Lib.hid (show takB p q ms = false by rw [← hR, drop_end HL.out hlt]; rfl)
      clear hR
      go_wp2_with fail
      go_ret
      exact ⟨ret_bool HR.out.symm, hb⟩
end Go.Proofs.Ytfdmenhnejfhjaa
