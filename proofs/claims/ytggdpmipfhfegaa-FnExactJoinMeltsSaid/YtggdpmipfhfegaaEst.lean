/-
  Contracts of the small functions of the estimates: bounds, rounding up, tariffs.
-/
import Derived.Test.YtggdpmipfhfegaaWords
import Derived.Test.YtggdpmipfhfegaaChecked
import Derived.WalkSpells
import Derived.Outline
namespace Go.Proofs.Ytggdpmipfhfegaa
open Go.RowKit

theorem in_any (n lo hi : Int) (w : World) : Calls Try.prog 42 #[.int .i64 n, .int .i64 lo, .int .i64 hi] w fun e w' => e = .returned (.bool (inB n lo hi)) ∧ w = w' := by
  go_enter Try.func42, Try.ntmps42
  go_wp2
  all_goals go_ret
  all_goals exact ⟨ret_bool (by simp [inB]; omega), rfl⟩
theorem within_any (n lo hi : Int) (w : World) : Calls Try.prog 45 #[.int .i64 n, .int .i64 lo, .int .i64 hi] w fun e w' => e = .returned (.bool (inB n lo hi)) ∧ w = w' := by
  go_enter Try.func45, Try.ntmps45
  go_wp2
  all_goals go_ret
  all_goals exact ⟨ret_bool (by simp [inB]; omega), rfl⟩

theorem isCopyCount_any (n : Int) (w : World) : Calls Try.prog 44 #[.int .i64 n] w fun e w' => e = .returned (.bool (inB n 0 1000000)) ∧ w = w' := by
  go_enter Try.func44, Try.ntmps44
  go_wp2_with (go_at_call 45; refine (within_any _ _ _ _).mono ?_; rintro e w' ⟨rfl, rfl⟩)
  go_ret
  exact ⟨rfl, rfl⟩
theorem isEns_any (n : Int) (w : World) : Calls Try.prog 48 #[.int .i64 n] w fun e w' => e = .returned (.bool (inB n 0 3000000)) ∧ w = w' := by
  go_enter Try.func48, Try.ntmps48
  go_wp2_with (go_at_call 45; refine (within_any _ _ _ _).mono ?_; rintro e w' ⟨rfl, rfl⟩)
  go_ret
  exact ⟨rfl, rfl⟩
theorem esEns_any (n : Int) (w : World) : Calls Try.prog 47 #[.int .i64 n] w fun e w' => e = .returned (.bool (inB n 0 3000000)) ∧ w = w' := by
  go_enter Try.func47, Try.ntmps47
  go_wp2_with (go_at_call 42; refine (in_any _ _ _ _).mono ?_; rintro e w' ⟨rfl, rfl⟩)
  go_ret
  exact ⟨rfl, rfl⟩
theorem isPence_any (n : Int) (w : World) : Calls Try.prog 51 #[.int .i64 n] w fun e w' => e = .returned (.bool (inB n 0 100000)) ∧ w = w' := by
  go_enter Try.func51, Try.ntmps51
  go_wp2_with (go_at_call 45; refine (within_any _ _ _ _).mono ?_; rintro e w' ⟨rfl, rfl⟩)
  go_ret
  exact ⟨rfl, rfl⟩
theorem isJobSize_any (n : Int) (w : World) : Calls Try.prog 56 #[.int .i64 n] w fun e w' => e = .returned (.bool (inB n 0 10000)) ∧ w = w' := by
  go_enter Try.func56, Try.ntmps56
  go_wp2_with (go_at_call 45; refine (within_any _ _ _ _).mono ?_; rintro e w' ⟨rfl, rfl⟩)
  go_ret
  exact ⟨rfl, rfl⟩

/-- rounding up -/
def upI (a b : Int) : Int := (a + b - 1) / b
theorem up_any (a b : Int) (w : World) (ha : 0 ≤ a) (ha' : a ≤ 4000000000000000) (hb : 1 ≤ b) (hb' : b ≤ 4000000000000000) : Calls Try.prog 46 #[.int .i64 a, .int .i64 b] w fun e w' => e = .returned (.int .i64 (upI a b)) ∧ w = w' := by
  go_enter Try.func46, Try.ntmps46
  go_wp2
  go_ret
  exact ⟨ret_int (by simp [upI]), rfl⟩
theorem esUp_any (a b : Int) (w : World) (ha : 0 ≤ a) (ha' : a ≤ 4000000000000000) (hb : 1 ≤ b) (hb' : b ≤ 4000000000000000) : Calls Try.prog 43 #[.int .i64 a, .int .i64 b] w fun e w' => e = .returned (.int .i64 (upI a b)) ∧ w = w' := by
  go_enter Try.func43, Try.ntmps43
  go_wp2
  go_ret
  exact ⟨ret_int (by simp [upI]), rfl⟩

/-- PagesForLines. -/
def pfl (l d b e : Int) : Int × Bool :=
  if inB l 0 1000000 && (inB d 40 2000 && (inB b 4 72 && (inB e 0 20 && decide (b ≤ d)))) then (upI l ((d + e) / (b + e)), true) else (0, false)
theorem div_ge_one {a b : Int} (hb : 0 < b) (h : b ≤ a) : 1 ≤ a / b := (Int.le_ediv_iff_mul_le hb).2 (by omega)
theorem div_le_self' {a b : Int} (h : 0 ≤ a) : a / b ≤ a := Int.ediv_le_self _ h
theorem pages_impl (l d b e : Int) (w : World) : Calls Try.prog 14 #[.int .i64 l, .int .i64 d, .int .i64 b, .int .i64 e] w fun x w' => x = .returned (.tuple #[.int .i64 (pfl l d b e).1, .bool (pfl l d b e).2]) ∧ w = w' := by
  cases h1 : inB l 0 1000000
  · (go_enter Try.func14, Try.ntmps14; go_wp2_with (first | (go_at_call 45; refine (within_any _ _ _ _).mono ?_; rintro e w' ⟨rfl, rfl⟩) | (go_at_call 44; refine (isCopyCount_any _ _).mono ?_; rintro e w' ⟨rfl, rfl⟩) | (go_at_call 46; refine (up_any _ _ _ (by omega) (by omega) (by omega) (by omega)).mono ?_; rintro e w' ⟨rfl, rfl⟩)); go_ret2; refine ⟨?_, rfl⟩; first | (simp [pfl, *]; done) | (have := (show ¬ b ≤ d by omega); simp [pfl, *]; done))
  cases h2 : inB d 40 2000
  · (go_enter Try.func14, Try.ntmps14; go_wp2_with (first | (go_at_call 45; refine (within_any _ _ _ _).mono ?_; rintro e w' ⟨rfl, rfl⟩) | (go_at_call 44; refine (isCopyCount_any _ _).mono ?_; rintro e w' ⟨rfl, rfl⟩) | (go_at_call 46; refine (up_any _ _ _ (by omega) (by omega) (by omega) (by omega)).mono ?_; rintro e w' ⟨rfl, rfl⟩)); go_ret2; refine ⟨?_, rfl⟩; first | (simp [pfl, *]; done) | (have := (show ¬ b ≤ d by omega); simp [pfl, *]; done))
  cases h3 : inB b 4 72
  · (go_enter Try.func14, Try.ntmps14; go_wp2_with (first | (go_at_call 45; refine (within_any _ _ _ _).mono ?_; rintro e w' ⟨rfl, rfl⟩) | (go_at_call 44; refine (isCopyCount_any _ _).mono ?_; rintro e w' ⟨rfl, rfl⟩) | (go_at_call 46; refine (up_any _ _ _ (by omega) (by omega) (by omega) (by omega)).mono ?_; rintro e w' ⟨rfl, rfl⟩)); go_ret2; refine ⟨?_, rfl⟩; first | (simp [pfl, *]; done) | (have := (show ¬ b ≤ d by omega); simp [pfl, *]; done))
  cases h4 : inB e 0 20
  · (go_enter Try.func14, Try.ntmps14; go_wp2_with (first | (go_at_call 45; refine (within_any _ _ _ _).mono ?_; rintro e w' ⟨rfl, rfl⟩) | (go_at_call 44; refine (isCopyCount_any _ _).mono ?_; rintro e w' ⟨rfl, rfl⟩) | (go_at_call 46; refine (up_any _ _ _ (by omega) (by omega) (by omega) (by omega)).mono ?_; rintro e w' ⟨rfl, rfl⟩)); go_ret2; refine ⟨?_, rfl⟩; first | (simp [pfl, *]; done) | (have := (show ¬ b ≤ d by omega); simp [pfl, *]; done))
  by_cases h5 : b ≤ d
  · obtain ⟨p1, q1⟩ := inB_true.1 h1
    obtain ⟨p2, q2⟩ := inB_true.1 h2
    obtain ⟨p3, q3⟩ := inB_true.1 h3
    obtain ⟨p4, q4⟩ := inB_true.1 h4
    have k1 := div_ge_one (a := d + e) (b := b + e) (by omega) (by omega)
    have k2 := div_le_self' (a := d + e) (b := b + e) (by omega)
    (go_enter Try.func14, Try.ntmps14; go_wp2_with (first | (go_at_call 45; refine (within_any _ _ _ _).mono ?_; rintro e w' ⟨rfl, rfl⟩) | (go_at_call 44; refine (isCopyCount_any _ _).mono ?_; rintro e w' ⟨rfl, rfl⟩) | (go_at_call 46; refine (up_any _ _ _ (by omega) (by omega) (by omega) (by omega)).mono ?_; rintro e w' ⟨rfl, rfl⟩)); go_ret2; refine ⟨?_, rfl⟩; first | (simp [pfl, *]; done) | (have := (show ¬ b ≤ d by omega); simp [pfl, *]; done))
  · (go_enter Try.func14, Try.ntmps14; go_wp2_with (first | (go_at_call 45; refine (within_any _ _ _ _).mono ?_; rintro e w' ⟨rfl, rfl⟩) | (go_at_call 44; refine (isCopyCount_any _ _).mono ?_; rintro e w' ⟨rfl, rfl⟩) | (go_at_call 46; refine (up_any _ _ _ (by omega) (by omega) (by omega) (by omega)).mono ?_; rintro e w' ⟨rfl, rfl⟩)); go_ret2; refine ⟨?_, rfl⟩; first | (simp [pfl, *]; done) | (have := (show ¬ b ≤ d by omega); simp [pfl, *]; done))
theorem pages_spec (l d b e : Int) (w : World) : Calls Try.prog 13 #[.int .i64 l, .int .i64 d, .int .i64 b, .int .i64 e] w fun x w' => x = .returned (.tuple #[.int .i64 (pfl l d b e).1, .bool (pfl l d b e).2]) ∧ w = w' := by
  cases h1 : inB l 0 1000000
  · (go_enter Try.func13, Try.ntmps13; go_wp2_with (first | (go_at_call 42; refine (in_any _ _ _ _).mono ?_; rintro e w' ⟨rfl, rfl⟩) | (go_at_call 43; refine (esUp_any _ _ _ (by omega) (by omega) (by omega) (by omega)).mono ?_; rintro e w' ⟨rfl, rfl⟩)); go_ret2; refine ⟨?_, rfl⟩; first | (simp [pfl, *]; done) | (have := (show ¬ b ≤ d by omega); simp [pfl, *]; done))
  cases h2 : inB d 40 2000
  · (go_enter Try.func13, Try.ntmps13; go_wp2_with (first | (go_at_call 42; refine (in_any _ _ _ _).mono ?_; rintro e w' ⟨rfl, rfl⟩) | (go_at_call 43; refine (esUp_any _ _ _ (by omega) (by omega) (by omega) (by omega)).mono ?_; rintro e w' ⟨rfl, rfl⟩)); go_ret2; refine ⟨?_, rfl⟩; first | (simp [pfl, *]; done) | (have := (show ¬ b ≤ d by omega); simp [pfl, *]; done))
  cases h3 : inB b 4 72
  · (go_enter Try.func13, Try.ntmps13; go_wp2_with (first | (go_at_call 42; refine (in_any _ _ _ _).mono ?_; rintro e w' ⟨rfl, rfl⟩) | (go_at_call 43; refine (esUp_any _ _ _ (by omega) (by omega) (by omega) (by omega)).mono ?_; rintro e w' ⟨rfl, rfl⟩)); go_ret2; refine ⟨?_, rfl⟩; first | (simp [pfl, *]; done) | (have := (show ¬ b ≤ d by omega); simp [pfl, *]; done))
  cases h4 : inB e 0 20
  · (go_enter Try.func13, Try.ntmps13; go_wp2_with (first | (go_at_call 42; refine (in_any _ _ _ _).mono ?_; rintro e w' ⟨rfl, rfl⟩) | (go_at_call 43; refine (esUp_any _ _ _ (by omega) (by omega) (by omega) (by omega)).mono ?_; rintro e w' ⟨rfl, rfl⟩)); go_ret2; refine ⟨?_, rfl⟩; first | (simp [pfl, *]; done) | (have := (show ¬ b ≤ d by omega); simp [pfl, *]; done))
  by_cases h5 : b ≤ d
  · obtain ⟨p1, q1⟩ := inB_true.1 h1
    obtain ⟨p2, q2⟩ := inB_true.1 h2
    obtain ⟨p3, q3⟩ := inB_true.1 h3
    obtain ⟨p4, q4⟩ := inB_true.1 h4
    have k1 := div_ge_one (a := d + e) (b := b + e) (by omega) (by omega)
    have k2 := div_le_self' (a := d + e) (b := b + e) (by omega)
    (go_enter Try.func13, Try.ntmps13; go_wp2_with (first | (go_at_call 42; refine (in_any _ _ _ _).mono ?_; rintro e w' ⟨rfl, rfl⟩) | (go_at_call 43; refine (esUp_any _ _ _ (by omega) (by omega) (by omega) (by omega)).mono ?_; rintro e w' ⟨rfl, rfl⟩)); go_ret2; refine ⟨?_, rfl⟩; first | (simp [pfl, *]; done) | (have := (show ¬ b ≤ d by omega); simp [pfl, *]; done))
  · (go_enter Try.func13, Try.ntmps13; go_wp2_with (first | (go_at_call 42; refine (in_any _ _ _ _).mono ?_; rintro e w' ⟨rfl, rfl⟩) | (go_at_call 43; refine (esUp_any _ _ _ (by omega) (by omega) (by omega) (by omega)).mono ?_; rintro e w' ⟨rfl, rfl⟩)); go_ret2; refine ⟨?_, rfl⟩; first | (simp [pfl, *]; done) | (have := (show ¬ b ≤ d by omega); simp [pfl, *]; done))
end Go.Proofs.Ytggdpmipfhfegaa
