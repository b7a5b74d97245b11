/-
  Contracts of the small checks on ints that are used everywhere.
-/
import Derived.Test.YtfgnjokiadlieaaOwn
import Derived.Deep.QuietTactic
import Derived.BigQuiet
namespace Go.Proofs.Ytfgnjokiadlieaa
open Go.RowKit
theorem in_any (n lo hi : Int) (w : World) : Calls Try.prog 82 #[.int .i64 n, .int .i64 lo, .int .i64 hi] w fun e w' => e = .returned (.bool (inB n lo hi)) ∧ w = w' := by
  go_enter Try.func82, Try.ntmps82
  go_wp2
  all_goals go_ret
  all_goals exact ⟨ret_bool (by simp [inB]; omega), rfl⟩
theorem within_any (n lo hi : Int) (w : World) : Calls Try.prog 57 #[.int .i64 n, .int .i64 lo, .int .i64 hi] w fun e w' => e = .returned (.bool (inB n lo hi)) ∧ w = w' := by
  go_enter Try.func57, Try.ntmps57
  go_wp2
  all_goals go_ret
  all_goals exact ⟨ret_bool (by simp [inB]; omega), rfl⟩
theorem allB_mem {lo hi : Int} {xs : List Int} (h : allB lo hi xs = true) : ∀ x ∈ xs, lo ≤ x ∧ x ≤ hi := by
  induction xs with
  | nil => simp
  | cons y r ih =>
    simp only [allB, Bool.and_eq_true] at h
    intro x hx
    rcases List.mem_cons.1 hx with rfl | hx
    · exact inB_true.1 h.1
    · exact ih h.2 x hx
theorem drop_end {α : Type _} {xs : List α} {n k : Nat} (hl : xs.length = n) (h : ¬ k < n) : xs.drop k = [] := List.drop_of_length_le (by omega)
theorem all_any (A : Option Addr) (n c B : Nat) (xs : List Int) (lo hi : Int) (w : World) (hr : RInts w B A n xs) (hn : n ≤ 1048576) :
    Calls Try.prog 83 #[.slice A n c, .int .i64 lo, .int .i64 hi] w fun e w' => e = .returned (.bool (allB lo hi xs)) ∧ w = w' := by
  go_enter Try.func83, Try.ntmps83
  go_wp2
  have HL := Lib.hid hr.len
  go_loop [11] (fun i => ∃ k : Nat, k ≤ n ∧ i = .int .i64 k ∧ allB lo hi (xs.drop k) = allB lo hi xs) (fun i => n - (intOf i).toNat)
  case atStart => exact ⟨0, Nat.zero_le _, rfl, rfl⟩
  case round =>
    obtain ⟨k, hk, rfl, hR⟩ := hrel
    have HR := Lib.hid hR; clear hR
    by_cases hlt : k < n
    · obtain ⟨ad, y, rfl, _, hd, _, hc⟩ := hr.at_ hlt
      have HD := Lib.hid hd; clear hd
      go_wp2_with (go_at_call 82; refine (in_any _ _ _ _).mono ?_; rintro e1 w1 ⟨rfl, rfl⟩)
      · go_ret
        exact ⟨ret_bool (by rw [← HR.out, HD.out]; simp_all [allB]), rfl⟩
      · go_round
        case rel => exact ⟨k + 1, by omega, by go_num, by rw [← HR.out, HD.out]; simp_all [allB]⟩
        case measure => simp [intOf]; omega
    · go_wp2
      go_ret
      exact ⟨ret_bool (by rw [← HR.out, drop_end HL.out hlt]; rfl), rfl⟩
end Go.Proofs.Ytfgnjokiadlieaa
