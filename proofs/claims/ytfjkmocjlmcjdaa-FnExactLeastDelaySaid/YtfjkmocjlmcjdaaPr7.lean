/-
  Contracts: the press's work and orders are what they should be.
-/
import Derived.Test.YtfjkmocjlmcjdaaPr6
namespace Go.Proofs.Ytfjkmocjlmcjdaa
open Go.RowKit
theorem RInts_take {w : World} {B : Nat} {A : Option Addr} {n k : Nat} {xs : List Int} (h : RInts w B A n xs) (hk : k ≤ n) : RInts w B A k (xs.take k) := by
  refine ⟨by have := h.len; simp; omega, fun hp => ?_⟩
  obtain ⟨ad, e, hb, hc⟩ := h.2 (by omega)
  refine ⟨ad, e, hb, fun j u hu => hc j u ?_⟩
  rw [List.map_take, List.getElem?_take] at hu
  split at hu
  · exact hu
  · cases hu
theorem hasL_any {A : Option Addr} {n c B : Nat} {xs : List Int} {y : Int} {w : World} (hr : RInts w B A n xs) (hn : n ≤ 1048576) :
    Calls Try.prog 37 #[.slice A n c, .int .i64 y] w fun e w' => e = .returned (.bool (decide (y ∈ xs))) ∧ w = w' := by
  have HL := Lib.hid hr.len
  go_enter Try.func37, Try.ntmps37
  go_wp2_with fail
  go_loop [9] (fun i => ∃ k : Nat, k ≤ n ∧ i = .int .i64 k ∧ decide (y ∈ xs.drop k) = decide (y ∈ xs)) (fun i => n - (intOf i).toNat)
  case atStart => exact ⟨0, Nat.zero_le _, rfl, rfl⟩
  case round =>
    obtain ⟨k, hk, rfl, hR⟩ := hrel
    by_cases hlt : k < n
    · obtain ⟨ad, z, rfl, _, hd, _, hc⟩ := hr.at_ hlt
      by_cases hz : z = y
      · have e1 : (z == y) = true := by simp [hz]
        have HR := Lib.hid (show decide (y ∈ xs) = true by rw [← hR, hd, hz]; simp)
        clear hR hd hz
        go_wp2_with fail
        go_ret
        exact ⟨ret_bool HR.out.symm, rfl⟩
      · have e1 : (z == y) = false := by simp [hz]
        have HR := Lib.hid (show decide (y ∈ xs.drop (k + 1)) = decide (y ∈ xs) by rw [← hR, hd]; simp [Ne.symm hz])
        clear hR hd hz
        go_wp2_with fail
        go_round
        case rel => exact ⟨k + 1, by omega, by go_num, HR.out⟩
        case measure => simp [intOf]; omega
    · have HR := Lib.hid (show decide (y ∈ xs) = false by rw [← hR, drop_end HL.out hlt]; simp)
      clear hR
      go_wp2_with fail
      go_ret
      exact ⟨ret_bool HR.out.symm, rfl⟩
def bothB (a b c : Int) (xs : List Int) (ink : Int) (ms : List PJob) : Bool := prB a b c xs && (inB ink 0 4 && jobsB ms)
def ordB (ms : List PJob) (os : List Int) : Bool := decide (os.length = ms.length) && (allB 0 ((ms.length : Int) - 1) os && dupL [] os)
def askB (a b c : Int) (xs : List Int) (ink : Int) (ms : List PJob) (os : List Int) : Bool := bothB a b c xs ink ms && ordB ms os
theorem prBoth_any {a b c ink : Int} {A B : Option Addr} {n cp q cq : Nat} {xs : List Int} {ms : List PJob} {w : World} (hr : RInts w w.heap.size A n xs) (hn0 : n ≤ 1048576) (hs : RPJobs w w.heap.size B q ms) (hq0 : q ≤ 1048576) :
    Calls Try.prog 21 #[.agg #[.int .i64 a, .int .i64 b, .int .i64 c, .slice A n cp], .int .i64 ink, .slice B q cq] w fun e w' => e = .returned (.bool (bothB a b c xs ink ms)) ∧ Below w.heap.size w w' := by
  have hP := Blk.new' w 30 #[.int .i64 a, .int .i64 b, .int .i64 c, .slice A n cp]; have hb : Below w.heap.size w (w.alloc (.cells #[.int .i64 a, .int .i64 b, .int .i64 c, .slice A n cp] 30)) := (by (repeat (first | exact Below.refl _ _ | exact hb | apply Below.drew | (refine Below.alloc ?_ (by first | (simp; done) | (simp; omega) | (have := hb.size; simp at this ⊢; omega)) _) | (refine Below.setCell ?_ (by simp) _)))); have hr1 := (hr.alloc (Nat.le_refl _) (.cells #[.int .i64 a, .int .i64 b, .int .i64 c, .slice A n cp] 30)).more (B' := (w.alloc (.cells #[.int .i64 a, .int .i64 b, .int .i64 c, .slice A n cp] 30)).heap.size) (by simp <;> omega); have hs1 := (RRow.alloc hs (Nat.le_refl _) (.cells #[.int .i64 a, .int .i64 b, .int .i64 c, .slice A n cp] 30)).more (B' := (w.alloc (.cells #[.int .i64 a, .int .i64 b, .int .i64 c, .slice A n cp] 30)).heap.size) (by simp <;> omega)
  cases h1 : prB a b c xs
  · (go_enter Try.func21, Try.ntmps21; go_wp2_with fail; refine (prGood_any hr1 hn0).mono ?_; rintro e1 w1 ⟨rfl, hn⟩; replace hb := hb.trans (hn.mono hb.size); replace hP := hP.below hn hP.lt; replace hs1 := (RPJobs.below hs1 hn).more hn.size; clear hn; clear hr1)
    go_wp2_with fail
    go_ret
    exact ⟨ret_bool (by simp [bothB, h1]), hb⟩
  cases h2 : inB ink 0 4
  · (go_enter Try.func21, Try.ntmps21; go_wp2_with fail; refine (prGood_any hr1 hn0).mono ?_; rintro e1 w1 ⟨rfl, hn⟩; replace hb := hb.trans (hn.mono hb.size); replace hP := hP.below hn hP.lt; replace hs1 := (RPJobs.below hs1 hn).more hn.size; clear hn; clear hr1)
    go_wp2_with (go_at_call 34; refine (prInk_any _ _).mono ?_; rintro e1 w1 ⟨rfl, rfl⟩)
    go_ret
    exact ⟨ret_bool (by simp [bothB, h2]), hb⟩
  · (go_enter Try.func21, Try.ntmps21; go_wp2_with fail; refine (prGood_any hr1 hn0).mono ?_; rintro e1 w1 ⟨rfl, hn⟩; replace hb := hb.trans (hn.mono hb.size); replace hP := hP.below hn hP.lt; replace hs1 := (RPJobs.below hs1 hn).more hn.size; clear hn; clear hr1)
    go_wp2_with (go_at_call 34; refine (prInk_any _ _).mono ?_; rintro e1 w1 ⟨rfl, rfl⟩)
    refine (prJobs_any hs1 hq0).mono ?_
    rintro e1 w2 ⟨rfl, hn⟩
    replace hb := hb.trans (hn.mono hb.size)
    go_wp2_with fail
    go_ret
    exact ⟨ret_bool (by simp [bothB, h1, h2]), hb⟩
theorem isPressWork_any {a b c ink : Int} {A B : Option Addr} {n cp q cq : Nat} {xs : List Int} {ms : List PJob} {w : World} (hr : RInts w w.heap.size A n xs) (hn0 : n ≤ 1048576) (hs : RPJobs w w.heap.size B q ms) (hq0 : q ≤ 1048576) :
    Calls Try.prog 26 #[.agg #[.int .i64 a, .int .i64 b, .int .i64 c, .slice A n cp], .int .i64 ink, .slice B q cq] w fun e w' => e = .returned (.bool (bothB a b c xs ink ms)) ∧ Below w.heap.size w w' := by
  have hP := Blk.new' w 30 #[.int .i64 a, .int .i64 b, .int .i64 c, .slice A n cp]; have hb : Below w.heap.size w (w.alloc (.cells #[.int .i64 a, .int .i64 b, .int .i64 c, .slice A n cp] 30)) := (by (repeat (first | exact Below.refl _ _ | exact hb | apply Below.drew | (refine Below.alloc ?_ (by first | (simp; done) | (simp; omega) | (have := hb.size; simp at this ⊢; omega)) _) | (refine Below.setCell ?_ (by simp) _)))); have hr1 := (hr.alloc (Nat.le_refl _) (.cells #[.int .i64 a, .int .i64 b, .int .i64 c, .slice A n cp] 30)).more (B' := (w.alloc (.cells #[.int .i64 a, .int .i64 b, .int .i64 c, .slice A n cp] 30)).heap.size) (by simp <;> omega); have hs1 := (RRow.alloc hs (Nat.le_refl _) (.cells #[.int .i64 a, .int .i64 b, .int .i64 c, .slice A n cp] 30)).more (B' := (w.alloc (.cells #[.int .i64 a, .int .i64 b, .int .i64 c, .slice A n cp] 30)).heap.size) (by simp <;> omega)
  cases h1 : prB a b c xs
  · (go_enter Try.func26, Try.ntmps26; go_wp2_with fail; refine (isPress_any hr1 hn0).mono ?_; rintro e1 w1 ⟨rfl, hn⟩; replace hb := hb.trans (hn.mono hb.size); replace hP := hP.below hn hP.lt; replace hs1 := (RPJobs.below hs1 hn).more hn.size; clear hn; clear hr1)
    go_wp2_with fail
    go_ret
    exact ⟨ret_bool (by simp [bothB, h1]), hb⟩
  cases h2 : inB ink 0 4
  · (go_enter Try.func26, Try.ntmps26; go_wp2_with fail; refine (isPress_any hr1 hn0).mono ?_; rintro e1 w1 ⟨rfl, hn⟩; replace hb := hb.trans (hn.mono hb.size); replace hP := hP.below hn hP.lt; replace hs1 := (RPJobs.below hs1 hn).more hn.size; clear hn; clear hr1)
    go_wp2_with (go_at_call 41; refine (inkNo_any _ _).mono ?_; rintro e1 w1 ⟨rfl, rfl⟩)
    go_ret
    exact ⟨ret_bool (by simp [bothB, h2]), hb⟩
  · (go_enter Try.func26, Try.ntmps26; go_wp2_with fail; refine (isPress_any hr1 hn0).mono ?_; rintro e1 w1 ⟨rfl, hn⟩; replace hb := hb.trans (hn.mono hb.size); replace hP := hP.below hn hP.lt; replace hs1 := (RPJobs.below hs1 hn).more hn.size; clear hn; clear hr1)
    go_wp2_with (go_at_call 41; refine (inkNo_any _ _).mono ?_; rintro e1 w1 ⟨rfl, rfl⟩)
    refine (areJobs_any hs1 hq0).mono ?_
    rintro e1 w2 ⟨rfl, hn⟩
    replace hb := hb.trans (hn.mono hb.size)
    go_wp2_with fail
    go_ret
    exact ⟨ret_bool (by simp [bothB, h1, h2]), hb⟩
theorem askB_true {a b c ink : Int} {xs os : List Int} {ms : List PJob} (h : askB a b c xs ink ms os = true) : ((1 ≤ a ∧ a ≤ 5000) ∧ (0 ≤ b ∧ b ≤ 600) ∧ (0 ≤ c ∧ c ≤ 500) ∧ xs.length = 5 ∧ ∀ x ∈ xs, 0 ≤ x ∧ x ≤ 300) ∧ (0 ≤ ink ∧ ink ≤ 4) ∧ (ms.length ≤ 7 ∧ ∀ m ∈ ms, (0 ≤ m.ink ∧ m.ink ≤ 4) ∧ (1 ≤ m.sheets ∧ m.sheets ≤ 20000) ∧ (0 ≤ m.due ∧ m.due ≤ 100000)) ∧ os.length = ms.length ∧ ∀ i ∈ os, 0 ≤ i ∧ i ≤ (ms.length : Int) - 1 := by
  simp only [askB, bothB, ordB, Bool.and_eq_true, inB_true, decide_eq_true_eq] at h
  obtain ⟨⟨h1, h2, h3⟩, h4, h5, _⟩ := h
  exact ⟨prB_true h1, h2, jobsB_true h3, h4, allB_mem h5⟩
end Go.Proofs.Ytfjkmocjlmcjdaa
