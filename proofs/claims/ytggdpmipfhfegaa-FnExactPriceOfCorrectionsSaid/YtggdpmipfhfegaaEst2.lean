/-
  Contracts of EnsOf, LinesForEns, EnsForPrice, PriceOfJob, PriceOfCorrections.
-/
import Derived.Test.YtggdpmipfhfegaaTar
import Derived.Deep.RegionHeld3
import Derived.Deep.QuietTactic
import Derived.BigQuiet
namespace Go.Proofs.Ytggdpmipfhfegaa
open Go.RowKit

def lfe (e m : Int) : Int × Bool := if inB e 0 3000000 && inB m 1 200 then (upI e m, true) else (0, false)
theorem lines_impl (e m : Int) (w : World) : Calls Try.prog 16 #[.int .i64 e, .int .i64 m] w fun x w' => x = .returned (.tuple #[.int .i64 (lfe e m).1, .bool (lfe e m).2]) ∧ w = w' := by
  cases h1 : inB e 0 3000000
  · cases h2 : inB m 1 200 <;> (go_enter Try.func16, Try.ntmps16; go_wp2_with (first | (go_at_call 45; refine (within_any _ _ _ _).mono ?_; rintro e1 w1 ⟨rfl, rfl⟩) | (go_at_call 48; refine (isEns_any _ _).mono ?_; rintro e1 w1 ⟨rfl, rfl⟩) | (go_at_call 46; refine (up_any _ _ _ (by omega) (by omega) (by omega) (by omega)).mono ?_; rintro e1 w1 ⟨rfl, rfl⟩)); go_ret2; exact ⟨by simp [lfe, h1, h2], rfl⟩)
  cases h2 : inB m 1 200
  · (go_enter Try.func16, Try.ntmps16; go_wp2_with (first | (go_at_call 45; refine (within_any _ _ _ _).mono ?_; rintro e1 w1 ⟨rfl, rfl⟩) | (go_at_call 48; refine (isEns_any _ _).mono ?_; rintro e1 w1 ⟨rfl, rfl⟩) | (go_at_call 46; refine (up_any _ _ _ (by omega) (by omega) (by omega) (by omega)).mono ?_; rintro e1 w1 ⟨rfl, rfl⟩)); go_ret2; exact ⟨by simp [lfe, h1, h2], rfl⟩)
  have t1 := inB_true.1 h1
  have t2 := inB_true.1 h2
  (go_enter Try.func16, Try.ntmps16; go_wp2_with (first | (go_at_call 45; refine (within_any _ _ _ _).mono ?_; rintro e1 w1 ⟨rfl, rfl⟩) | (go_at_call 48; refine (isEns_any _ _).mono ?_; rintro e1 w1 ⟨rfl, rfl⟩) | (go_at_call 46; refine (up_any _ _ _ (by omega) (by omega) (by omega) (by omega)).mono ?_; rintro e1 w1 ⟨rfl, rfl⟩)); go_ret2; exact ⟨by simp [lfe, h1, h2], rfl⟩)
theorem lines_spec (e m : Int) (w : World) : Calls Try.prog 15 #[.int .i64 e, .int .i64 m] w fun x w' => x = .returned (.tuple #[.int .i64 (lfe e m).1, .bool (lfe e m).2]) ∧ w = w' := by
  cases h1 : inB e 0 3000000
  · cases h2 : inB m 1 200 <;> (go_enter Try.func15, Try.ntmps15; go_wp2_with (first | (go_at_call 42; refine (in_any _ _ _ _).mono ?_; rintro e1 w1 ⟨rfl, rfl⟩) | (go_at_call 47; refine (esEns_any _ _).mono ?_; rintro e1 w1 ⟨rfl, rfl⟩) | (go_at_call 43; refine (esUp_any _ _ _ (by omega) (by omega) (by omega) (by omega)).mono ?_; rintro e1 w1 ⟨rfl, rfl⟩)); go_ret2; exact ⟨by simp [lfe, h1, h2], rfl⟩)
  cases h2 : inB m 1 200
  · (go_enter Try.func15, Try.ntmps15; go_wp2_with (first | (go_at_call 42; refine (in_any _ _ _ _).mono ?_; rintro e1 w1 ⟨rfl, rfl⟩) | (go_at_call 47; refine (esEns_any _ _).mono ?_; rintro e1 w1 ⟨rfl, rfl⟩) | (go_at_call 43; refine (esUp_any _ _ _ (by omega) (by omega) (by omega) (by omega)).mono ?_; rintro e1 w1 ⟨rfl, rfl⟩)); go_ret2; exact ⟨by simp [lfe, h1, h2], rfl⟩)
  have t1 := inB_true.1 h1
  have t2 := inB_true.1 h2
  (go_enter Try.func15, Try.ntmps15; go_wp2_with (first | (go_at_call 42; refine (in_any _ _ _ _).mono ?_; rintro e1 w1 ⟨rfl, rfl⟩) | (go_at_call 47; refine (esEns_any _ _).mono ?_; rintro e1 w1 ⟨rfl, rfl⟩) | (go_at_call 43; refine (esUp_any _ _ _ (by omega) (by omega) (by omega) (by omega)).mono ?_; rintro e1 w1 ⟨rfl, rfl⟩)); go_ret2; exact ⟨by simp [lfe, h1, h2], rfl⟩)

def enB (a b c : Int) : Bool := inB a 0 1000000 && (inB b 0 1000000 && inB c 0 1000000)
theorem enB_all (a b c : Int) : allB 0 1000000 [a, b, c] = enB a b c := by simp [allB, enB]
theorem enB_true {a b c : Int} (h : enB a b c = true) : (0 ≤ a ∧ a ≤ 1000000) ∧ (0 ≤ b ∧ b ≤ 1000000) ∧ (0 ≤ c ∧ c ≤ 1000000) := by simpa [enB, inB_true] using h
def ens (a b c : Int) : Int × Bool := if enB a b c then (upI (18 * a) 20 + upI b 2 + upI (3 * c) 2, true) else (0, false)
theorem upI_bd {a b : Int} (ha : 0 ≤ a) (hb : 1 ≤ b) : 0 ≤ upI a b ∧ upI a b ≤ a := by
  unfold upI
  refine ⟨Int.ediv_nonneg (by omega) (by omega), ?_⟩
  by_cases h : a = 0
  · subst h
    rw [Int.ediv_eq_zero_of_lt (by omega) (by omega)]
    omega
  · have : (a + b - 1) / b < a + 1 := Int.ediv_lt_of_lt_mul (by omega) (by
      have : (a + 1) * b = a * b + b := by rw [Int.add_mul, Int.one_mul]
      have h2 : a * 1 ≤ a * b := Int.mul_le_mul_of_nonneg_left hb ha
      omega)
    omega
theorem ens_impl (a b c : Int) (w : World) : Calls Try.prog 18 #[.int .i64 a, .int .i64 b, .int .i64 c] w fun x w' => x = .returned (.tuple #[.int .i64 (ens a b c).1, .bool (ens a b c).2]) ∧ Below w.heap.size w w' := by
  cases h1 : inB a 0 1000000
  · cases h2 : inB b 0 1000000 <;> cases h3 : inB c 0 1000000 <;> (go_enter Try.func18, Try.ntmps18; go_wp2_with (first | (go_at_call 44; refine (isCopyCount_any _ _).mono ?_; rintro e1 w1 ⟨rfl, rfl⟩) | (go_at_call 46; refine (up_any _ _ _ (by omega) (by omega) (by omega) (by omega)).mono ?_; rintro e1 w1 ⟨rfl, rfl⟩)); go_ret2; exact ⟨by simp [ens, enB, h1, h2, h3], (by (repeat (first | exact Below.refl _ _ | exact hb | apply Below.drew | (refine Below.alloc ?_ (by first | (simp; done) | (simp; omega) | (have := hb.size; simp at this ⊢; omega)) _) | (refine Below.setCell ?_ (by simp) _))))⟩)
  cases h2 : inB b 0 1000000
  · cases h3 : inB c 0 1000000 <;> (go_enter Try.func18, Try.ntmps18; go_wp2_with (first | (go_at_call 44; refine (isCopyCount_any _ _).mono ?_; rintro e1 w1 ⟨rfl, rfl⟩) | (go_at_call 46; refine (up_any _ _ _ (by omega) (by omega) (by omega) (by omega)).mono ?_; rintro e1 w1 ⟨rfl, rfl⟩)); go_ret2; exact ⟨by simp [ens, enB, h1, h2, h3], (by (repeat (first | exact Below.refl _ _ | exact hb | apply Below.drew | (refine Below.alloc ?_ (by first | (simp; done) | (simp; omega) | (have := hb.size; simp at this ⊢; omega)) _) | (refine Below.setCell ?_ (by simp) _))))⟩)
  cases h3 : inB c 0 1000000
  · (go_enter Try.func18, Try.ntmps18; go_wp2_with (first | (go_at_call 44; refine (isCopyCount_any _ _).mono ?_; rintro e1 w1 ⟨rfl, rfl⟩) | (go_at_call 46; refine (up_any _ _ _ (by omega) (by omega) (by omega) (by omega)).mono ?_; rintro e1 w1 ⟨rfl, rfl⟩)); go_ret2; exact ⟨by simp [ens, enB, h1, h2, h3], (by (repeat (first | exact Below.refl _ _ | exact hb | apply Below.drew | (refine Below.alloc ?_ (by first | (simp; done) | (simp; omega) | (have := hb.size; simp at this ⊢; omega)) _) | (refine Below.setCell ?_ (by simp) _))))⟩)
  have t1 := inB_true.1 h1
  have t2 := inB_true.1 h2
  have t3 := inB_true.1 h3
  have u1 := upI_bd (a := 18 * a) (b := 20) (by omega) (by omega)
  have u2 := upI_bd (a := b) (b := 2) (by omega) (by omega)
  have u3 := upI_bd (a := 3 * c) (b := 2) (by omega) (by omega)
  (go_enter Try.func18, Try.ntmps18; go_wp2_with (first | (go_at_call 44; refine (isCopyCount_any _ _).mono ?_; rintro e1 w1 ⟨rfl, rfl⟩) | (go_at_call 46; refine (up_any _ _ _ (by omega) (by omega) (by omega) (by omega)).mono ?_; rintro e1 w1 ⟨rfl, rfl⟩)); go_ret2; exact ⟨by simp [ens, enB, h1, h2, h3], (by (repeat (first | exact Below.refl _ _ | exact hb | apply Below.drew | (refine Below.alloc ?_ (by first | (simp; done) | (simp; omega) | (have := hb.size; simp at this ⊢; omega)) _) | (refine Below.setCell ?_ (by simp) _))))⟩)
theorem ens_spec (a b c : Int) (w : World) : Calls Try.prog 17 #[.int .i64 a, .int .i64 b, .int .i64 c] w fun x w' => x = .returned (.tuple #[.int .i64 (ens a b c).1, .bool (ens a b c).2]) ∧ Below w.heap.size w w' := by
  have hr := rints_new (w := w) (e := 3) [a, b, c] #[.int .i64 a, .int .i64 b, .int .i64 c] rfl
  have HR := Lib.hid hr; clear hr
  have he := enB_all a b c
  cases h0 : enB a b c
  · rw [h0] at he
    (go_enter Try.func17, Try.ntmps17; go_wp2_with (first | (go_at_call 49; refine (all_any _ _ _ _ [a, b, c] _ _ _ (by simpa using HR.out) (by omega)).mono ?_; rintro e1 w1 ⟨rfl, rfl⟩) | (go_at_call 43; refine (esUp_any _ _ _ (by omega) (by omega) (by omega) (by omega)).mono ?_; rintro e1 w1 ⟨rfl, rfl⟩)); go_ret2; exact ⟨by simp [ens, h0], (by (repeat (first | exact Below.refl _ _ | exact hb | apply Below.drew | (refine Below.alloc ?_ (by first | (simp; done) | (simp; omega) | (have := hb.size; simp at this ⊢; omega)) _) | (refine Below.setCell ?_ (by simp) _))))⟩)
  obtain ⟨t1, t2, t3⟩ := enB_true h0
  rw [h0] at he
  have u1 := upI_bd (a := 18 * a) (b := 20) (by omega) (by omega)
  have u2 := upI_bd (a := b) (b := 2) (by omega) (by omega)
  have u3 := upI_bd (a := 3 * c) (b := 2) (by omega) (by omega)
  (go_enter Try.func17, Try.ntmps17; go_wp2_with (first | (go_at_call 49; refine (all_any _ _ _ _ [a, b, c] _ _ _ (by simpa using HR.out) (by omega)).mono ?_; rintro e1 w1 ⟨rfl, rfl⟩) | (go_at_call 43; refine (esUp_any _ _ _ (by omega) (by omega) (by omega) (by omega)).mono ?_; rintro e1 w1 ⟨rfl, rfl⟩)); go_ret2; exact ⟨by simp [ens, h0], (by (repeat (first | exact Below.refl _ _ | exact hb | apply Below.drew | (refine Below.alloc ?_ (by first | (simp; done) | (simp; omega) | (have := hb.size; simp at this ⊢; omega)) _) | (refine Below.setCell ?_ (by simp) _))))⟩)

/-- The binary search. -/
def bsF (a p : Int) : Nat → Int → Int → Int
  | 0, lo, _ => lo
  | n + 1, lo, hi => if lo < hi then (if setP a ((lo + hi + 1) / 2) ≤ p then bsF a p n ((lo + hi + 1) / 2) hi else bsF a p n lo ((lo + hi + 1) / 2 - 1)) else lo
theorem bsF_end {a p : Int} {n : Nat} {lo hi : Int} (h : ¬ lo < hi) : bsF a p n lo hi = lo := by cases n <;> simp [bsF, h]
def efp (a b c d p : Int) : Int × Bool := if tarB a b c d && inB p 0 1000000000 then (bsF a p 3000000 0 3000000, true) else (0, false)
theorem efp_impl (a b c d p : Int) (w : World) : Calls Try.prog 25 #[.agg #[.int .i64 a, .int .i64 b, .int .i64 c, .int .i64 d], .int .i64 p] w fun x w' => x = .returned (.tuple #[.int .i64 (efp a b c d p).1, .bool (efp a b c d p).2]) ∧ Below w.heap.size w w' := by
  have hc : True := trivial; have hf : True := trivial; have hb := Below.refl (w.alloc (.cells #[.int .i64 a, .int .i64 b, .int .i64 c, .int .i64 d] 32)).heap.size (w.alloc (.cells #[.int .i64 a, .int .i64 b, .int .i64 c, .int .i64 d] 32))
  cases h1 : tarB a b c d
  · cases h2 : inB p 0 1000000000 <;> (go_enter Try.func25, Try.ntmps25; go_wp2_with (first | (go_at_call 21; refine (isTariff_any _ _ _ _ _).mono ?_; rintro e1 w1 ⟨rfl, hn⟩; replace hb := hb.trans (hn.mono hb.size); clear hc hf hn; obtain ⟨hc, hf⟩ := bcell hb) | (go_at_call 45; refine (within_any _ _ _ _).mono ?_; rintro e1 w1 ⟨rfl, rfl⟩)); go_ret2; exact ⟨by simp [efp, h1, h2], Below.trans (by (repeat (first | exact Below.refl _ _ | exact hb | apply Below.drew | (refine Below.alloc ?_ (by first | (simp; done) | (simp; omega) | (have := hb.size; simp at this ⊢; omega)) _) | (refine Below.setCell ?_ (by simp) _)))) (hb.mono (by simp))⟩)
  cases h2 : inB p 0 1000000000
  · go_enter Try.func25, Try.ntmps25; go_wp2_with (first | (go_at_call 21; refine (isTariff_any _ _ _ _ _).mono ?_; rintro e1 w1 ⟨rfl, hn⟩; replace hb := hb.trans (hn.mono hb.size); clear hc hf hn; obtain ⟨hc, hf⟩ := bcell hb) | (go_at_call 45; refine (within_any _ _ _ _).mono ?_; rintro e1 w1 ⟨rfl, rfl⟩)); go_ret2; exact ⟨by simp [efp, h1, h2], Below.trans (by (repeat (first | exact Below.refl _ _ | exact hb | apply Below.drew | (refine Below.alloc ?_ (by first | (simp; done) | (simp; omega) | (have := hb.size; simp at this ⊢; omega)) _) | (refine Below.setCell ?_ (by simp) _)))) (hb.mono (by simp))⟩
  obtain ⟨t1, _⟩ := tarB_true h1
  have t2 := inB_true.1 h2
  go_enter Try.func25, Try.ntmps25; go_wp2_with (first | (go_at_call 21; refine (isTariff_any _ _ _ _ _).mono ?_; rintro e1 w1 ⟨rfl, hn⟩; replace hb := hb.trans (hn.mono hb.size); clear hc hf hn; obtain ⟨hc, hf⟩ := bcell hb) | (go_at_call 45; refine (within_any _ _ _ _).mono ?_; rintro e1 w1 ⟨rfl, rfl⟩))
  go_loopw [6, 7] (fun l h wr => ∃ (n : Nat) (lo hi : Int), l = .int .i64 lo ∧ h = .int .i64 hi ∧ 0 ≤ lo ∧ lo ≤ hi ∧ hi ≤ 3000000 ∧ hi - lo ≤ n ∧ bsF a p n lo hi = bsF a p 3000000 0 3000000 ∧ Below (w.alloc (.cells #[.int .i64 a, .int .i64 b, .int .i64 c, .int .i64 d] 32)).heap.size (w.alloc (.cells #[.int .i64 a, .int .i64 b, .int .i64 c, .int .i64 d] 32)) wr) (fun l h _ => (intOf h - intOf l).toNat)
  case atStart => exact ⟨3000000, 0, 3000000, rfl, rfl, by omega, by omega, by omega, by omega, rfl, hb⟩
  case round =>
    obtain ⟨n, lo, hi, rfl, rfl, g1, g2, g3, g4, hR, hb⟩ := hrel
    clear hc hf
    obtain ⟨hc, hf⟩ := bcell hb
    have HR := Lib.hid hR; clear hR
    by_cases hlt : lo < hi
    · obtain ⟨m, rfl⟩ : ∃ m, n = m + 1 := ⟨n - 1, by omega⟩
      have e1 : 0 ≤ (lo + hi + 1) / 2 := by omega
      have e2 : (lo + hi + 1) / 2 ≤ 3000000 := by omega
      by_cases ht : setP a ((lo + hi + 1) / 2) ≤ p
      · go_wp2_with (go_at_call 53; refine (settingPrice_any _ _ _ _ _ _ (by omega) (by omega)).mono ?_; rintro e1 w1 ⟨rfl, hn⟩; replace hb := hb.trans (hn.mono hb.size); clear hc hf hn; obtain ⟨hc, hf⟩ := bcell hb)
        go_roundw
        case rel => exact ⟨m, _, _, rfl, rfl, by omega, by omega, by omega, by omega, by rw [← HR.out, bsF, if_pos hlt, if_pos ht], hb⟩
        case measure => simp [intOf]; omega
      · go_wp2_with (go_at_call 53; refine (settingPrice_any _ _ _ _ _ _ (by omega) (by omega)).mono ?_; rintro e1 w1 ⟨rfl, hn⟩; replace hb := hb.trans (hn.mono hb.size); clear hc hf hn; obtain ⟨hc, hf⟩ := bcell hb)
        go_roundw
        case rel => exact ⟨m, _, _, rfl, rfl, by omega, by omega, by omega, by omega, by rw [← HR.out, bsF, if_pos hlt, if_neg (by omega)], hb⟩
        case measure => simp [intOf]; omega
    · go_wp2
      go_ret2
      have R : bsF a p 3000000 0 3000000 = lo := by rw [← HR.out, bsF_end (by omega)]
      exact ⟨by simp [efp, h1, h2, R], Below.trans (by (repeat (first | exact Below.refl _ _ | exact hb | apply Below.drew | (refine Below.alloc ?_ (by first | (simp; done) | (simp; omega) | (have := hb.size; simp at this ⊢; omega)) _) | (refine Below.setCell ?_ (by simp) _)))) (hb.mono (by simp))⟩
theorem efp_spec (a b c d p : Int) (w : World) : Calls Try.prog 24 #[.agg #[.int .i64 a, .int .i64 b, .int .i64 c, .int .i64 d], .int .i64 p] w fun x w' => x = .returned (.tuple #[.int .i64 (efp a b c d p).1, .bool (efp a b c d p).2]) ∧ Below w.heap.size w w' := by
  have hc : True := trivial; have hf : True := trivial; have hb := Below.refl (w.alloc (.cells #[.int .i64 a, .int .i64 b, .int .i64 c, .int .i64 d] 32)).heap.size (w.alloc (.cells #[.int .i64 a, .int .i64 b, .int .i64 c, .int .i64 d] 32))
  cases h1 : tarB a b c d
  · cases h2 : inB p 0 1000000000 <;> (go_enter Try.func24, Try.ntmps24; go_wp2_with (first | (go_at_call 50; refine (esTariff_any _ _ _ _ _).mono ?_; rintro e1 w1 ⟨rfl, hn⟩; replace hb := hb.trans (hn.mono hb.size); clear hc hf hn; obtain ⟨hc, hf⟩ := bcell hb) | (go_at_call 42; refine (in_any _ _ _ _).mono ?_; rintro e1 w1 ⟨rfl, rfl⟩)); go_ret2; exact ⟨by simp [efp, h1, h2], Below.trans (by (repeat (first | exact Below.refl _ _ | exact hb | apply Below.drew | (refine Below.alloc ?_ (by first | (simp; done) | (simp; omega) | (have := hb.size; simp at this ⊢; omega)) _) | (refine Below.setCell ?_ (by simp) _)))) (hb.mono (by simp))⟩)
  cases h2 : inB p 0 1000000000
  · go_enter Try.func24, Try.ntmps24; go_wp2_with (first | (go_at_call 50; refine (esTariff_any _ _ _ _ _).mono ?_; rintro e1 w1 ⟨rfl, hn⟩; replace hb := hb.trans (hn.mono hb.size); clear hc hf hn; obtain ⟨hc, hf⟩ := bcell hb) | (go_at_call 42; refine (in_any _ _ _ _).mono ?_; rintro e1 w1 ⟨rfl, rfl⟩)); go_ret2; exact ⟨by simp [efp, h1, h2], Below.trans (by (repeat (first | exact Below.refl _ _ | exact hb | apply Below.drew | (refine Below.alloc ?_ (by first | (simp; done) | (simp; omega) | (have := hb.size; simp at this ⊢; omega)) _) | (refine Below.setCell ?_ (by simp) _)))) (hb.mono (by simp))⟩
  obtain ⟨t1, _⟩ := tarB_true h1
  have t2 := inB_true.1 h2
  go_enter Try.func24, Try.ntmps24; go_wp2_with (first | (go_at_call 50; refine (esTariff_any _ _ _ _ _).mono ?_; rintro e1 w1 ⟨rfl, hn⟩; replace hb := hb.trans (hn.mono hb.size); clear hc hf hn; obtain ⟨hc, hf⟩ := bcell hb) | (go_at_call 42; refine (in_any _ _ _ _).mono ?_; rintro e1 w1 ⟨rfl, rfl⟩))
  go_loopw [6, 7] (fun l h wr => ∃ (n : Nat) (lo hi : Int), l = .int .i64 lo ∧ h = .int .i64 hi ∧ 0 ≤ lo ∧ lo ≤ hi ∧ hi ≤ 3000000 ∧ hi - lo ≤ n ∧ bsF a p n lo hi = bsF a p 3000000 0 3000000 ∧ Below (w.alloc (.cells #[.int .i64 a, .int .i64 b, .int .i64 c, .int .i64 d] 32)).heap.size (w.alloc (.cells #[.int .i64 a, .int .i64 b, .int .i64 c, .int .i64 d] 32)) wr) (fun l h _ => (intOf h - intOf l).toNat)
  case atStart => exact ⟨3000000, 0, 3000000, rfl, rfl, by omega, by omega, by omega, by omega, rfl, hb⟩
  case round =>
    obtain ⟨n, lo, hi, rfl, rfl, g1, g2, g3, g4, hR, hb⟩ := hrel
    clear hc hf
    obtain ⟨hc, hf⟩ := bcell hb
    have HR := Lib.hid hR; clear hR
    by_cases hlt : lo < hi
    · obtain ⟨m, rfl⟩ : ∃ m, n = m + 1 := ⟨n - 1, by omega⟩
      have e1 : 0 ≤ (lo + hi + 1) / 2 := by omega
      have e2 : (lo + hi + 1) / 2 ≤ 3000000 := by omega
      by_cases ht : setP a ((lo + hi + 1) / 2) ≤ p
      · go_wp2_with (go_at_call 52; refine (esSetting_any _ _ _ _ _ _ (by omega) (by omega)).mono ?_; rintro e1 w1 ⟨rfl, hn⟩; replace hb := hb.trans (hn.mono hb.size); clear hc hf hn; obtain ⟨hc, hf⟩ := bcell hb)
        go_roundw
        case rel => exact ⟨m, _, _, rfl, rfl, by omega, by omega, by omega, by omega, by rw [← HR.out, bsF, if_pos hlt, if_pos ht], hb⟩
        case measure => simp [intOf]; omega
      · go_wp2_with (go_at_call 52; refine (esSetting_any _ _ _ _ _ _ (by omega) (by omega)).mono ?_; rintro e1 w1 ⟨rfl, hn⟩; replace hb := hb.trans (hn.mono hb.size); clear hc hf hn; obtain ⟨hc, hf⟩ := bcell hb)
        go_roundw
        case rel => exact ⟨m, _, _, rfl, rfl, by omega, by omega, by omega, by omega, by rw [← HR.out, bsF, if_pos hlt, if_neg (by omega)], hb⟩
        case measure => simp [intOf]; omega
    · go_wp2
      go_ret2
      have R : bsF a p 3000000 0 3000000 = lo := by rw [← HR.out, bsF_end (by omega)]
      exact ⟨by simp [efp, h1, h2, R], Below.trans (by (repeat (first | exact Below.refl _ _ | exact hb | apply Below.drew | (refine Below.alloc ?_ (by first | (simp; done) | (simp; omega) | (have := hb.size; simp at this ⊢; omega)) _) | (refine Below.setCell ?_ (by simp) _)))) (hb.mono (by simp))⟩
end Go.Proofs.Ytggdpmipfhfegaa
