/-
  Contracts of the functions on a press and its jobs: the checks, the washing between two jobs, the sheets and the minutes of a job.
-/
import Derived.Test.YtfjkmocjlmcjdaaSPressJob
import Derived.Test.YtfjkmocjlmcjdaaIn
import Derived.Deep.QuietTactic
import Derived.BigQuiet
namespace Go.Proofs.Ytfjkmocjlmcjdaa
open Go.RowKit
def prB (a b c : Int) (xs : List Int) : Bool := inB a 1 5000 && (inB b 0 600 && (inB c 0 500 && (decide (xs.length = 5) && allB 0 300 xs)))
def jobB (m : PJob) : Bool := inB m.ink 0 4 && (inB m.sheets 1 20000 && inB m.due 0 100000)
def allJ : List PJob → Bool
  | [] => true
  | m :: r => jobB m && allJ r
def jobsB (ms : List PJob) : Bool := allJ ms && decide (ms.length ≤ 7)
theorem prJob_any (m : PJob) (w : World) : Calls Try.prog 49 #[.agg #[.int .i64 m.ink, .int .i64 m.sheets, .int .i64 m.due]] w fun e w' => e = .returned (.bool (jobB m)) ∧ Below w.heap.size w w' := by
  go_enter Try.func49, Try.ntmps49
  go_wp2_with (go_at_call 47; refine (in_any _ _ _ _).mono ?_; rintro e1 w1 ⟨rfl, rfl⟩)
  all_goals go_ret
  all_goals exact ⟨ret_bool (by simp_all [jobB]), (by (repeat (first | exact Below.refl _ _ | exact hb | apply Below.drew | (refine Below.alloc ?_ (by first | (simp; done) | (simp; omega) | (have := hb.size; simp at this ⊢; omega)) _) | (refine Below.setCell ?_ (by simp) _))))⟩
theorem inkNo_any (k : Int) (w : World) : Calls Try.prog 41 #[.int .i64 k] w fun e w' => e = .returned (.bool (inB k 0 4)) ∧ w = w' := by
  go_enter Try.func41, Try.ntmps41
  go_wp2_with (go_at_call 53; refine (within_any _ _ _ _).mono ?_; rintro e1 w1 ⟨rfl, rfl⟩)
  go_ret
  exact ⟨rfl, rfl⟩
theorem prInk_any (k : Int) (w : World) : Calls Try.prog 34 #[.int .i64 k] w fun e w' => e = .returned (.bool (inB k 0 4)) ∧ w = w' := by
  go_enter Try.func34, Try.ntmps34
  go_wp2_with (go_at_call 47; refine (in_any _ _ _ _).mono ?_; rintro e1 w1 ⟨rfl, rfl⟩)
  go_ret
  exact ⟨rfl, rfl⟩
theorem isPressJob_any (m : PJob) (w : World) : Calls Try.prog 54 #[.agg #[.int .i64 m.ink, .int .i64 m.sheets, .int .i64 m.due]] w fun e w' => e = .returned (.bool (jobB m)) ∧ Below w.heap.size w w' := by
  go_enter Try.func54, Try.ntmps54
  go_wp2_with (first | (go_at_call 53; refine (within_any _ _ _ _).mono ?_; rintro e1 w1 ⟨rfl, rfl⟩) | (go_at_call 41; refine (inkNo_any _ _).mono ?_; rintro e1 w1 ⟨rfl, rfl⟩))
  all_goals go_ret
  all_goals exact ⟨ret_bool (by simp_all [jobB]), (by (repeat (first | exact Below.refl _ _ | exact hb | apply Below.drew | (refine Below.alloc ?_ (by first | (simp; done) | (simp; omega) | (have := hb.size; simp at this ⊢; omega)) _) | (refine Below.setCell ?_ (by simp) _))))⟩
theorem jobs_drop {ms r : List PJob} {m : PJob} {k : Nat} (hd : ms.drop k = m :: r) (hR : allJ (ms.drop k) = allJ ms) : (jobB m = false → allJ ms = false) ∧ (jobB m = true → allJ r = allJ ms) := by
  rw [← hR, hd]
  constructor <;> intro h <;> simp [allJ, h]
theorem prJobs_any {A : Option Addr} {n cp : Nat} {ms : List PJob} {w : World} (hr : RPJobs w w.heap.size A n ms) (hn0 : n ≤ 1048576) :
    Calls Try.prog 35 #[.slice A n cp] w fun e w' => e = .returned (.bool (jobsB ms)) ∧ Below w.heap.size w w' := by
  have HL := Lib.hid hr.len
  go_enter Try.func35, Try.ntmps35
  go_wp2_with fail
  go_loopw [7] (fun i wr => ∃ k : Nat, k ≤ n ∧ i = .int .i64 k ∧ allJ (ms.drop k) = allJ ms ∧ Below w.heap.size w wr) (fun i _ => n - (intOf i).toNat)
  case atStart => exact ⟨0, Nat.zero_le _, rfl, rfl, Below.refl _ _⟩
  case round =>
    obtain ⟨k, hk, rfl, hR, hb⟩ := hrel
    by_cases hlt : k < n
    · obtain ⟨b, off, m, rfl, _, hd, _, c0, c1, c2⟩ := RPJobs.at_ (hr.below hb) hlt
      have HJ := Lib.hid (jobs_drop hd hR)
      clear hd hR
      cases h1 : jobB m
      · go_wp2_with fail
        refine (prJob_any m _).mono ?_
        rintro e1 w1 ⟨rfl, hn⟩
        replace hb := (hb.alloc hb.size _).trans (hn.mono (by have := hb.size; simp; omega))
        clear c0 c1 c2 hn
        go_wp2_with fail
        go_ret
        exact ⟨ret_bool (by simp [jobsB, HJ.out.1 h1]), hb⟩
      · go_wp2_with fail
        refine (prJob_any m _).mono ?_
        rintro e1 w1 ⟨rfl, hn⟩
        replace hb := (hb.alloc hb.size _).trans (hn.mono (by have := hb.size; simp; omega))
        clear c0 c1 c2 hn
        go_wp2_with fail
        go_roundw
        case rel => exact ⟨k + 1, by omega, by go_num, HJ.out.2 h1, hb⟩
        case measure => simp [intOf]; omega
    · have HA := Lib.hid (show allJ ms = true by rw [← hR, drop_end HL.out hlt]; rfl)
      clear hR
      go_wp2_with fail
      go_ret
      exact ⟨ret_bool (by rw [jobsB, HA.out, HL.out, Bool.true_and]; congr 1; simp; omega), hb⟩
theorem areJobs_any {A : Option Addr} {n cp : Nat} {ms : List PJob} {w : World} (hr : RPJobs w w.heap.size A n ms) (hn0 : n ≤ 1048576) :
    Calls Try.prog 42 #[.slice A n cp] w fun e w' => e = .returned (.bool (jobsB ms)) ∧ Below w.heap.size w w' := by
  have HL := Lib.hid hr.len
  go_enter Try.func42, Try.ntmps42
  go_wp2_with fail
  go_loopw [7] (fun i wr => ∃ k : Nat, k ≤ n ∧ i = .int .i64 k ∧ allJ (ms.drop k) = allJ ms ∧ Below w.heap.size w wr) (fun i _ => n - (intOf i).toNat)
  case atStart => exact ⟨0, Nat.zero_le _, rfl, rfl, Below.refl _ _⟩
  case round =>
    obtain ⟨k, hk, rfl, hR, hb⟩ := hrel
    by_cases hlt : k < n
    · obtain ⟨b, off, m, rfl, _, hd, _, c0, c1, c2⟩ := RPJobs.at_ (hr.below hb) hlt
      have HJ := Lib.hid (jobs_drop hd hR)
      clear hd hR
      cases h1 : jobB m
      · go_wp2_with fail
        refine (isPressJob_any m _).mono ?_
        rintro e1 w1 ⟨rfl, hn⟩
        replace hb := (hb.alloc hb.size _).trans (hn.mono (by have := hb.size; simp; omega))
        clear c0 c1 c2 hn
        go_wp2_with fail
        go_ret
        exact ⟨ret_bool (by simp [jobsB, HJ.out.1 h1]), hb⟩
      · go_wp2_with fail
        refine (isPressJob_any m _).mono ?_
        rintro e1 w1 ⟨rfl, hn⟩
        replace hb := (hb.alloc hb.size _).trans (hn.mono (by have := hb.size; simp; omega))
        clear c0 c1 c2 hn
        go_wp2_with fail
        go_roundw
        case rel => exact ⟨k + 1, by omega, by go_num, HJ.out.2 h1, hb⟩
        case measure => simp [intOf]; omega
    · have HA := Lib.hid (show allJ ms = true by rw [← hR, drop_end HL.out hlt]; rfl)
      clear hR
      go_wp2_with fail
      go_ret
      exact ⟨ret_bool (by rw [jobsB, HA.out, HL.out, Bool.true_and]; congr 1; simp; omega), hb⟩
theorem prGood_any {a b c : Int} {A : Option Addr} {n cp : Nat} {xs : List Int} {w : World} (hr : RInts w w.heap.size A n xs) (hn0 : n ≤ 1048576) :
    Calls Try.prog 33 #[.agg #[.int .i64 a, .int .i64 b, .int .i64 c, .slice A n cp]] w fun e w' => e = .returned (.bool (prB a b c xs)) ∧ Below w.heap.size w w' := by
  have hl := hr.len
  have HL := Lib.hid hl; clear hl
  have hr1 := hr.alloc (Nat.le_refl _) (.cells #[.int .i64 a, .int .i64 b, .int .i64 c, .slice A n cp] 30)
  by_cases h5 : n = 5
  · subst h5
    go_enter Try.func33, Try.ntmps33
    go_wp2_with (first | (go_at_call 47; refine (in_any _ _ _ _).mono ?_; rintro e1 w1 ⟨rfl, rfl⟩) | (go_at_call 48; refine (all_any _ _ _ _ _ _ _ _ hr1 (by omega)).mono ?_; rintro e1 w1 ⟨rfl, rfl⟩))
    all_goals go_ret
    all_goals
      have hl := HL.out
      exact ⟨ret_bool (by simp_all [prB]), (by (repeat (first | exact Below.refl _ _ | exact hb | apply Below.drew | (refine Below.alloc ?_ (by first | (simp; done) | (simp; omega) | (have := hb.size; simp at this ⊢; omega)) _) | (refine Below.setCell ?_ (by simp) _))))⟩
  · have h6 : ((n : Int) == 5) = false := by rw [beq_eq_false_iff_ne]; omega
    have HN := Lib.hid h5; clear h5
    go_enter Try.func33, Try.ntmps33
    go_wp2_with (go_at_call 47; refine (in_any _ _ _ _).mono ?_; rintro e1 w1 ⟨rfl, rfl⟩)
    all_goals go_ret
    all_goals
      have hl := HL.out
      have hne : ¬ xs.length = 5 := by rw [hl]; exact HN.out
      exact ⟨ret_bool (by simp_all [prB]), (by (repeat (first | exact Below.refl _ _ | exact hb | apply Below.drew | (refine Below.alloc ?_ (by first | (simp; done) | (simp; omega) | (have := hb.size; simp at this ⊢; omega)) _) | (refine Below.setCell ?_ (by simp) _))))⟩
theorem isPress_any {a b c : Int} {A : Option Addr} {n cp : Nat} {xs : List Int} {w : World} (hr : RInts w w.heap.size A n xs) (hn0 : n ≤ 1048576) :
    Calls Try.prog 40 #[.agg #[.int .i64 a, .int .i64 b, .int .i64 c, .slice A n cp]] w fun e w' => e = .returned (.bool (prB a b c xs)) ∧ Below w.heap.size w w' := by
  have hl := hr.len
  have HL := Lib.hid hl; clear hl
  have hr1 := hr.alloc (Nat.le_refl _) (.cells #[.int .i64 a, .int .i64 b, .int .i64 c, .slice A n cp] 30)
  go_enter Try.func40, Try.ntmps40
  go_wp2_with fail
  go_loop [8] (fun i => ∃ k : Nat, k ≤ n ∧ i = .int .i64 k ∧ allB 0 300 (xs.drop k) = allB 0 300 xs) (fun i => n - (intOf i).toNat)
  case atStart => exact ⟨0, Nat.zero_le _, rfl, rfl⟩
  case round =>
    obtain ⟨k, hk, rfl, hR⟩ := hrel
    have HR := Lib.hid hR; clear hR
    by_cases hlt : k < n
    · obtain ⟨ad, y, rfl, _, hd, _, hc⟩ := RInts.at_ hr1 hlt
      have HD := Lib.hid hd; clear hd
      cases h : inB y 0 300
      · go_wp2_with (go_at_call 53; refine (within_any _ _ _ _).mono ?_; rintro e1 w1 ⟨rfl, rfl⟩)
        go_ret
        exact ⟨ret_bool (by have h0 : allB 0 300 xs = false := (by rw [← HR.out, HD.out]; simp [allB, h]); simp [prB, h0]), (by (repeat (first | exact Below.refl _ _ | exact hb | apply Below.drew | (refine Below.alloc ?_ (by first | (simp; done) | (simp; omega) | (have := hb.size; simp at this ⊢; omega)) _) | (refine Below.setCell ?_ (by simp) _))))⟩
      · go_wp2_with (go_at_call 53; refine (within_any _ _ _ _).mono ?_; rintro e1 w1 ⟨rfl, rfl⟩)
        go_round
        case rel => exact ⟨k + 1, by omega, by go_num, by rw [← HR.out, HD.out]; simp [allB, h]⟩
        case measure => simp [intOf]; omega
    · have hA : allB 0 300 xs = true := by rw [← HR.out, drop_end HL.out hlt]; rfl
      have HA := Lib.hid hA; clear hA
      by_cases h5 : n = 5
      · have h6 : ((n : Int) == 5) = true := by rw [beq_iff_eq]; omega
        have HN := Lib.hid h5; clear h5
        go_wp2_with (go_at_call 53; refine (within_any _ _ _ _).mono ?_; rintro e1 w1 ⟨rfl, rfl⟩)
        all_goals go_ret
        all_goals
          have hl := HL.out
          have hA := HA.out
          have hl5 : xs.length = 5 := by rw [hl]; exact HN.out
          exact ⟨ret_bool (by simp_all [prB]), (by (repeat (first | exact Below.refl _ _ | exact hb | apply Below.drew | (refine Below.alloc ?_ (by first | (simp; done) | (simp; omega) | (have := hb.size; simp at this ⊢; omega)) _) | (refine Below.setCell ?_ (by simp) _))))⟩
      · have h6 : ((n : Int) == 5) = false := by rw [beq_eq_false_iff_ne]; omega
        have HN := Lib.hid h5; clear h5
        go_wp2_with (go_at_call 53; refine (within_any _ _ _ _).mono ?_; rintro e1 w1 ⟨rfl, rfl⟩)
        all_goals go_ret
        all_goals
          have hl := HL.out
          have hne : ¬ xs.length = 5 := by rw [hl]; exact HN.out
          exact ⟨ret_bool (by simp_all [prB]), (by (repeat (first | exact Below.refl _ _ | exact hb | apply Below.drew | (refine Below.alloc ?_ (by first | (simp; done) | (simp; omega) | (have := hb.size; simp at this ⊢; omega)) _) | (refine Below.setCell ?_ (by simp) _))))⟩
end Go.Proofs.Ytfjkmocjlmcjdaa
