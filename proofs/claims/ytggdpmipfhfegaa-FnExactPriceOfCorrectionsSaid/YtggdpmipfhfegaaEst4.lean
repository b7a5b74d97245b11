/-
  Contracts of the prices of corrections, and the last laws on estimates.
-/
import Derived.Test.YtggdpmipfhfegaaEst3
namespace Go.Proofs.Ytggdpmipfhfegaa
open Go.RowKit
def pocG (a b c d : Int) (xs : List Int) : Bool := tarB a b c d && (decide (xs.length ≤ 40) && allB 0 600 xs)
def poc (a b c d : Int) (xs : List Int) : Int × Bool := if pocG a b c d xs then (corP c (sumI xs), true) else (0, false)
theorem allB_mem {lo hi : Int} {xs : List Int} (h : allB lo hi xs = true) : ∀ x ∈ xs, lo ≤ x ∧ x ≤ hi := by
  induction xs with
  | nil => simp
  | cons y r ih =>
    simp only [allB, Bool.and_eq_true] at h
    intro x hx
    rcases List.mem_cons.1 hx with rfl | hx
    · exact inB_true.1 h.1
    · exact ih h.2 x hx
theorem sumI_bd {hi : Int} : ∀ {xs : List Int}, (∀ x ∈ xs, 0 ≤ x ∧ x ≤ hi) → 0 ≤ sumI xs ∧ sumI xs ≤ hi * xs.length
  | [], _ => by simp [sumI]
  | x :: r, h => by
    have h1 := h x (by simp)
    have h2 := sumI_bd (fun y hy => h y (List.mem_cons_of_mem _ hy))
    simp only [sumI, List.length_cons]
    have : hi * ((r.length + 1 : Nat) : Int) = hi * r.length + hi := by rw [Int.natCast_add, Int.mul_add]; simp
    omega
theorem poc_spec (a b c d : Int) (A : Option Addr) (n cp : Nat) (xs : List Int) (w : World) (hr : RInts w w.heap.size A n xs) (hn0 : n ≤ 1048576) :
    Calls Try.prog 28 #[.agg #[.int .i64 a, .int .i64 b, .int .i64 c, .int .i64 d], .slice A n cp] w fun x w' => x = .returned (.tuple #[.int .i64 (poc a b c d xs).1, .bool (poc a b c d xs).2]) ∧ Below w.heap.size w w' := by
  have HL := Lib.hid hr.len
  have hc : True := trivial; have hf : True := trivial; have hb := Below.refl (w.alloc (.cells #[.int .i64 a, .int .i64 b, .int .i64 c, .int .i64 d] 32)).heap.size (w.alloc (.cells #[.int .i64 a, .int .i64 b, .int .i64 c, .int .i64 d] 32))
  cases h1 : tarB a b c d
  · (go_enter Try.func28, Try.ntmps28; go_wp2_with (first | (go_at_call 50; refine (esTariff_any _ _ _ _ _).mono ?_; rintro e1 w1 ⟨rfl, hn⟩; replace hb := hb.trans (hn.mono hb.size); clear hc hf hn; obtain ⟨hc, hf⟩ := bcell hb) | (go_at_call 49; refine (all_any _ _ _ _ _ _ _ _ ((hr.alloc (Nat.le_refl _) _).below (hb.mono (by simp))) (by omega)).mono ?_; rintro e1 w1 ⟨rfl, rfl⟩))); go_ret2; exact ⟨by simp [poc, pocG, h1], Below.trans (by (repeat (first | exact Below.refl _ _ | exact hb | apply Below.drew | (refine Below.alloc ?_ (by first | (simp; done) | (simp; omega) | (have := hb.size; simp at this ⊢; omega)) _) | (refine Below.setCell ?_ (by simp) _)))) (hb.mono (by simp))⟩
  by_cases h2' : n ≤ 40
  · have h2 : xs.length ≤ 40 := by have := HL.out; omega
    cases h3 : allB 0 600 xs
    · (go_enter Try.func28, Try.ntmps28; go_wp2_with (first | (go_at_call 50; refine (esTariff_any _ _ _ _ _).mono ?_; rintro e1 w1 ⟨rfl, hn⟩; replace hb := hb.trans (hn.mono hb.size); clear hc hf hn; obtain ⟨hc, hf⟩ := bcell hb) | (go_at_call 49; refine (all_any _ _ _ _ _ _ _ _ ((hr.alloc (Nat.le_refl _) _).below (hb.mono (by simp))) (by omega)).mono ?_; rintro e1 w1 ⟨rfl, rfl⟩))); go_ret2; exact ⟨by simp [poc, pocG, h1, h2, h3], Below.trans (by (repeat (first | exact Below.refl _ _ | exact hb | apply Below.drew | (refine Below.alloc ?_ (by first | (simp; done) | (simp; omega) | (have := hb.size; simp at this ⊢; omega)) _) | (refine Below.setCell ?_ (by simp) _)))) (hb.mono (by simp))⟩
    obtain ⟨t1, t2, t3, t4⟩ := tarB_true h1
    have hm := allB_mem h3
    have sb := sumI_bd hm
    have HM := Lib.hid hm; clear hm
    (go_enter Try.func28, Try.ntmps28; go_wp2_with (first | (go_at_call 50; refine (esTariff_any _ _ _ _ _).mono ?_; rintro e1 w1 ⟨rfl, hn⟩; replace hb := hb.trans (hn.mono hb.size); clear hc hf hn; obtain ⟨hc, hf⟩ := bcell hb) | (go_at_call 49; refine (all_any _ _ _ _ _ _ _ _ ((hr.alloc (Nat.le_refl _) _).below (hb.mono (by simp))) (by omega)).mono ?_; rintro e1 w1 ⟨rfl, rfl⟩)))
    have hr1 := (hr.alloc (Nat.le_refl _) _).below (hb.mono (by simp))
    clear hc hf
    go_region_held3 (fun w' => Below ((w.alloc (.cells #[.int .i64 a, .int .i64 b, .int .i64 c, .int .i64 d] 32))).heap.size (w.alloc (.cells #[.int .i64 a, .int .i64 b, .int .i64 c, .int .i64 d] 32)) w' ∧ w'.cell? ⟨w.heap.size, 0, none⟩ = some (.int .i64 a) ∧ w'.cell? ⟨w.heap.size, 1, none⟩ = some (.int .i64 b) ∧ w'.cell? ⟨w.heap.size, 2, none⟩ = some (.int .i64 c) ∧ w'.cell? ⟨w.heap.size, 3, none⟩ = some (.int .i64 d)) (((first | exact ⟨hb.drew, box4 hb.drew⟩ | (have hh : Below _ _ _ ∧ _ ∧ _ ∧ _ ∧ _ := (by assumption); have hh0 := hh.1.trans (hn.mono hh.1.size); exact ⟨hh0, box4 hh0⟩) | assumption | go_keep)))
      (first | (go_at_call 59; refine (juSum_any _ _ _ _ xs _ (by exact hr1) (by omega) (fun x hx => by have := HM.out x hx; omega)).mono ?_; rintro e1 w1 ⟨rfl, rfl⟩) | (go_at_call 58; refine (esMinutes_any _ _ _ _ _ _ (by omega) (by omega)).mono ?_; rintro e1 w1 ⟨rfl, hn⟩))
    go_wp2
    go_ret2
    have hh : Below _ _ _ ∧ _ ∧ _ ∧ _ ∧ _ := (by assumption)
    exact ⟨by simp [poc, pocG, h1, h2, h3], Below.trans (by (repeat (first | exact Below.refl _ _ | exact hb | apply Below.drew | (refine Below.alloc ?_ (by first | (simp; done) | (simp; omega) | (have := hb.size; simp at this ⊢; omega)) _) | (refine Below.setCell ?_ (by simp) _)))) (hh.1.mono (by simp))⟩
  · (go_enter Try.func28, Try.ntmps28; go_wp2_with (first | (go_at_call 50; refine (esTariff_any _ _ _ _ _).mono ?_; rintro e1 w1 ⟨rfl, hn⟩; replace hb := hb.trans (hn.mono hb.size); clear hc hf hn; obtain ⟨hc, hf⟩ := bcell hb) | (go_at_call 49; refine (all_any _ _ _ _ _ _ _ _ ((hr.alloc (Nat.le_refl _) _).below (hb.mono (by simp))) (by omega)).mono ?_; rintro e1 w1 ⟨rfl, rfl⟩))); go_ret2; exact ⟨by have : ¬ xs.length ≤ 40 := (by have := HL.out; omega); simp [poc, pocG, h1, this], Below.trans (by (repeat (first | exact Below.refl _ _ | exact hb | apply Below.drew | (refine Below.alloc ?_ (by first | (simp; done) | (simp; omega) | (have := hb.size; simp at this ⊢; omega)) _) | (refine Below.setCell ?_ (by simp) _)))) (hb.mono (by simp))⟩
theorem poc_impl (a b c d : Int) (A : Option Addr) (n cp : Nat) (xs : List Int) (w : World) (hr : RInts w w.heap.size A n xs) (hn0 : n ≤ 1048576) :
    Calls Try.prog 30 #[.agg #[.int .i64 a, .int .i64 b, .int .i64 c, .int .i64 d], .slice A n cp] w fun x w' => x = .returned (.tuple #[.int .i64 (poc a b c d xs).1, .bool (poc a b c d xs).2]) ∧ Below w.heap.size w w' := by
  have HL := Lib.hid hr.len
  have hr0 := hr.alloc (Nat.le_refl _) (.cells #[.int .i64 a, .int .i64 b, .int .i64 c, .int .i64 d] 32)
  have hc : True := trivial; have hf : True := trivial; have hb := Below.refl (w.alloc (.cells #[.int .i64 a, .int .i64 b, .int .i64 c, .int .i64 d] 32)).heap.size (w.alloc (.cells #[.int .i64 a, .int .i64 b, .int .i64 c, .int .i64 d] 32))
  go_enter Try.func30, Try.ntmps30
  go_wp2
  go_loop [10] (fun i => ∃ k : Nat, k ≤ n ∧ i = .int .i64 k ∧ allB 0 600 (xs.drop k) = allB 0 600 xs) (fun i => n - (intOf i).toNat)
  case atStart => exact ⟨0, Nat.zero_le _, rfl, rfl⟩
  case round =>
    obtain ⟨k, hk, rfl, hR⟩ := hrel
    have HR := Lib.hid hR; clear hR
    by_cases hlt : k < n
    · obtain ⟨ad, y, rfl, _, hd, _, hcc⟩ := RInts.at_ hr0 hlt
      have HD := Lib.hid hd; clear hd
      go_wp2_with (go_at_call 45; refine (within_any _ _ _ _).mono ?_; rintro e1 w1 ⟨rfl, rfl⟩)
      · go_ret2
        have h3 : allB 0 600 xs = false := by rw [← HR.out, HD.out]; simp_all [allB]
        exact ⟨by simp [poc, pocG, h3], Below.trans (by (repeat (first | exact Below.refl _ _ | exact hb | apply Below.drew | (refine Below.alloc ?_ (by first | (simp; done) | (simp; omega) | (have := hb.size; simp at this ⊢; omega)) _) | (refine Below.setCell ?_ (by simp) _)))) (hb.mono (by simp))⟩
      · go_round
        case rel => exact ⟨k + 1, by omega, by go_num, by rw [← HR.out, HD.out]; simp_all [allB]⟩
        case measure => simp [intOf]; omega
    · have h3 : allB 0 600 xs = true := by rw [← HR.out, List.drop_of_length_le (by have := HL.out; omega)]; rfl
      have hm := allB_mem h3
      have sb := sumI_bd hm
      have HM := Lib.hid hm; clear hm
      have H3 := Lib.hid h3; clear h3
      have hl40 : (xs.length : Int) = n := by have := HL.out; omega
      have hl0 : 0 ≤ sumI xs ∧ (n ≤ 40 → sumI xs ≤ 24000) := by omega
      clear hl40 sb
      cases h1 : tarB a b c d
      · go_wp2_with (go_at_call 21; refine (isTariff_any _ _ _ _ _).mono ?_; rintro e1 w1 ⟨rfl, hn⟩; replace hb := hb.trans (hn.mono hb.size); clear hc hf hn; obtain ⟨hc, hf⟩ := bcell hb)
        go_ret2
        exact ⟨by simp [poc, pocG, h1], Below.trans (by (repeat (first | exact Below.refl _ _ | exact hb | apply Below.drew | (refine Below.alloc ?_ (by first | (simp; done) | (simp; omega) | (have := hb.size; simp at this ⊢; omega)) _) | (refine Below.setCell ?_ (by simp) _)))) (hb.mono (by simp))⟩
      obtain ⟨t1, t2, t3, t4⟩ := tarB_true h1
      by_cases h2 : n ≤ 40
      · have hl1 := hl0.2 h2
        go_wp2_with (go_at_call 21; refine (isTariff_any _ _ _ _ _).mono ?_; rintro e1 w1 ⟨rfl, hn⟩; replace hb := hb.trans (hn.mono hb.size); clear hc hf hn; obtain ⟨hc, hf⟩ := bcell hb)
        have hr1 := Reads.below hr0 (hb.mono (by simp))
        clear hc hf
        go_region_held3 (fun w' => Below ((w.alloc (.cells #[.int .i64 a, .int .i64 b, .int .i64 c, .int .i64 d] 32))).heap.size (w.alloc (.cells #[.int .i64 a, .int .i64 b, .int .i64 c, .int .i64 d] 32)) w' ∧ w'.cell? ⟨w.heap.size, 0, none⟩ = some (.int .i64 a) ∧ w'.cell? ⟨w.heap.size, 1, none⟩ = some (.int .i64 b) ∧ w'.cell? ⟨w.heap.size, 2, none⟩ = some (.int .i64 c) ∧ w'.cell? ⟨w.heap.size, 3, none⟩ = some (.int .i64 d)) (((first | exact ⟨hb.drew, box4 hb.drew⟩ | (have hh : Below _ _ _ ∧ _ ∧ _ ∧ _ ∧ _ := (by assumption); have hh0 := hh.1.trans (hn.mono hh.1.size); exact ⟨hh0, box4 hh0⟩) | assumption | go_keep)))
          (first | (go_at_call 61; refine (sum_impl _ _ _ _ xs _ (by exact hr1) (by omega) (fun x hx => by have := HM.out x hx; omega)).mono ?_; rintro e1 w1 ⟨rfl, rfl⟩) | (go_at_call 60; refine (correctionPrice_any _ _ _ _ _ _ (by omega) (by omega)).mono ?_; rintro e1 w1 ⟨rfl, hn⟩))
        go_wp2
        go_ret2
        have hh : Below _ _ _ ∧ _ ∧ _ ∧ _ ∧ _ := (by assumption)
        have h4 : xs.length ≤ 40 := by have := HL.out; omega
        exact ⟨by simp [poc, pocG, h1, H3.out, h4], Below.trans (by (repeat (first | exact Below.refl _ _ | exact hb | apply Below.drew | (refine Below.alloc ?_ (by first | (simp; done) | (simp; omega) | (have := hb.size; simp at this ⊢; omega)) _) | (refine Below.setCell ?_ (by simp) _)))) (hh.1.mono (by simp))⟩
      · go_wp2_with (go_at_call 21; refine (isTariff_any _ _ _ _ _).mono ?_; rintro e1 w1 ⟨rfl, hn⟩; replace hb := hb.trans (hn.mono hb.size); clear hc hf hn; obtain ⟨hc, hf⟩ := bcell hb)
        go_ret2
        have h4 : ¬ xs.length ≤ 40 := by have := HL.out; omega
        exact ⟨by simp [poc, pocG, h4], Below.trans (by (repeat (first | exact Below.refl _ _ | exact hb | apply Below.drew | (refine Below.alloc ?_ (by first | (simp; done) | (simp; omega) | (have := hb.size; simp at this ⊢; omega)) _) | (refine Below.setCell ?_ (by simp) _)))) (hb.mono (by simp))⟩

theorem jobLaw (W : World) (a b c d : Int) (_ : -9223372036854775808 ≤ a ∧ a ≤ 9223372036854775807) (_ : -9223372036854775808 ≤ b ∧ b ≤ 9223372036854775807) (_ : -9223372036854775808 ≤ c ∧ c ≤ 9223372036854775807) (_ : -9223372036854775808 ≤ d ∧ d ≤ 9223372036854775807) (e : Int) (_ : -9223372036854775808 ≤ e ∧ e ≤ 9223372036854775807) (p : Int) (_ : -9223372036854775808 ≤ p ∧ p ≤ 9223372036854775807) (m : Int) (_ : -9223372036854775808 ≤ m ∧ m ≤ 9223372036854775807) : Calls Try.prog 9 #[.agg #[.int .i64 a, .int .i64 b, .int .i64 c, .int .i64 d], .int .i64 e, .int .i64 p, .int .i64 m] W fun e W' => e = .returned (.bool true) ∧ Below W.heap.size W W' := by
  have hc : True := trivial; have hf : True := trivial; have hb := Below.refl (W.alloc (.cells #[.int .i64 a, .int .i64 b, .int .i64 c, .int .i64 d] 30)).heap.size (W.alloc (.cells #[.int .i64 a, .int .i64 b, .int .i64 c, .int .i64 d] 30))
  go_enter Try.func9, Try.ntmps9
  go_wp2_with (first | (go_at_call 20; refine (toTariff_any _ _ _ _ _).mono ?_; rintro e1 w1 ⟨rfl, hn⟩; replace hb := hb.trans (hn.mono hb.size); clear hc hf hn; obtain ⟨hc, hf⟩ := bcell hb) | (go_at_call 26; refine (pj_spec _ _ _ _ _ _ _ _).mono ?_; rintro e1 w1 ⟨rfl, hn⟩; replace hb := hb.trans (hn.mono hb.size); clear hc hf hn; obtain ⟨hc, hf⟩ := bcell hb) | (go_at_call 27; refine (pj_impl _ _ _ _ _ _ _ _).mono ?_; rintro e1 w1 ⟨rfl, hn⟩; replace hb := hb.trans (hn.mono hb.size); clear hc hf hn; obtain ⟨hc, hf⟩ := bcell hb))
  go_ret; exact ⟨rfl, Below.trans (by (repeat (first | exact Below.refl _ _ | exact hb | apply Below.drew | (refine Below.alloc ?_ (by first | (simp; done) | (simp; omega) | (have := hb.size; simp at this ⊢; omega)) _) | (refine Below.setCell ?_ (by simp) _)))) (hb.mono (by simp))⟩
theorem corLaw (W : World) (a b c d : Int) (_ : -9223372036854775808 ≤ a ∧ a ≤ 9223372036854775807) (_ : -9223372036854775808 ≤ b ∧ b ≤ 9223372036854775807) (_ : -9223372036854775808 ≤ c ∧ c ≤ 9223372036854775807) (_ : -9223372036854775808 ≤ d ∧ d ≤ 9223372036854775807) (A : Option Addr) (n cp : Nat) (xs : List Int) (hr : RInts W W.heap.size A n xs) (hn0 : n ≤ maxLen) (_ : ∀ x ∈ xs, (Lit.int .i64 x).wf = true) : Calls Try.prog 10 #[.agg #[.int .i64 a, .int .i64 b, .int .i64 c, .int .i64 d], .slice A n cp] W fun e W' => e = .returned (.bool true) ∧ Below W.heap.size W W' := by
  unfold maxLen at hn0
  have HL := Lib.hid hr.len
  have hr0 := hr.alloc (Nat.le_refl _) (.cells #[.int .i64 a, .int .i64 b, .int .i64 c, .int .i64 d] 30)
  have hc : True := trivial; have hf : True := trivial; have hb := Below.refl (W.alloc (.cells #[.int .i64 a, .int .i64 b, .int .i64 c, .int .i64 d] 30)).heap.size (W.alloc (.cells #[.int .i64 a, .int .i64 b, .int .i64 c, .int .i64 d] 30))
  by_cases hbig : 1048576 < n
  · go_enter Try.func10, Try.ntmps10
    go_wp2_with fail
    go_ret; exact ⟨rfl, Below.trans (by (repeat (first | exact Below.refl _ _ | exact hb | apply Below.drew | (refine Below.alloc ?_ (by first | (simp; done) | (simp; omega) | (have := hb.size; simp at this ⊢; omega)) _) | (refine Below.setCell ?_ (by simp) _)))) (hb.mono (by simp))⟩
  have hn1 : n ≤ 1048576 := by omega
  have el : (n : Int) ≤ 1048576 := by omega
  go_enter Try.func10, Try.ntmps10
  go_wp2_with fail; refine (toTariff_any _ _ _ _ _).mono ?_; rintro e1 w1 ⟨rfl, hn⟩; replace hb := hb.trans (hn.mono hb.size); clear hc hf hn; obtain ⟨hc, hf⟩ := bcell hb
  go_wp2_with fail; refine (toIntS_any _ _ _ _ xs _ (RInts.below hr0 (hb.mono (by simp))) (by have := hb.size; simp at this; omega) hn1).mono ?_; rintro e1 w1 ⟨ghk1, rfl, hghk1, hk1, hn⟩; replace hb := hb.trans (hn.mono hb.size); clear hc hf; obtain ⟨hc, hf⟩ := bcell hb
  have hx := hk1.rintsN HL.out
  clear hk1 hn
  go_wp2_with fail; refine (poc_spec _ _ _ _ _ _ _ xs _ hx hn1).mono ?_; rintro e1 w1 ⟨rfl, hn⟩; replace hb := hb.trans (hn.mono hb.size); clear hc hf; obtain ⟨hc, hf⟩ := bcell hb
  clear hx hn
  go_wp2_with fail; refine (toIntS_any _ _ _ _ xs _ (RInts.below hr0 (hb.mono (by simp))) (by have := hb.size; simp at this; omega) hn1).mono ?_; rintro e1 w1 ⟨ghk2, rfl, hghk2, hk2, hn⟩; replace hb := hb.trans (hn.mono hb.size); clear hc hf; obtain ⟨hc, hf⟩ := bcell hb
  have hx := hk2.rintsN HL.out
  clear hk2 hn
  go_wp2_with fail; refine (toTariff_any _ _ _ _ _).mono ?_; rintro e1 w1 ⟨rfl, hn⟩; replace hb := hb.trans (hn.mono hb.size); clear hc hf; obtain ⟨hc, hf⟩ := bcell hb
  replace hx := (RInts.below hx hn).more hn.size
  go_wp2_with fail; refine (poc_impl _ _ _ _ _ _ _ xs _ hx hn1).mono ?_; rintro e1 w1 ⟨rfl, hn⟩; replace hb := hb.trans (hn.mono hb.size); clear hc hf; obtain ⟨hc, hf⟩ := bcell hb
  replace hx := (RInts.below hx hn).more hn.size
  go_wp2_with fail; refine (toIntS_any _ _ _ _ xs _ (RInts.below hr0 (hb.mono (by simp))) (by have := hb.size; simp at this; omega) hn1).mono ?_; rintro e1 w1 ⟨ghk3, rfl, hghk3, hk3, hn⟩; replace hb := hb.trans (hn.mono hb.size); clear hc hf; obtain ⟨hc, hf⟩ := bcell hb
  replace hx := (RInts.below hx hn).more hn.size
  have hy := hk3.rintsN HL.out
  have he : eqI xs xs = true := by simp [eqI]
  go_wp2_with fail; refine (eqIntS_any _ _ _ _ _ _ _ _ xs xs _ hx hy hn1 (by omega)).mono ?_; rintro e1 w1 ⟨rfl, hn⟩; replace hb := hb.trans (hn.mono hb.size); clear hc hf; obtain ⟨hc, hf⟩ := bcell hb
  go_wp2_with fail
  go_ret; exact ⟨rfl, Below.trans (by (repeat (first | exact Below.refl _ _ | exact hb | apply Below.drew | (refine Below.alloc ?_ (by first | (simp; done) | (simp; omega) | (have := hb.size; simp at this ⊢; omega)) _) | (refine Below.setCell ?_ (by simp) _)))) (hb.mono (by simp))⟩
end Go.Proofs.Ytggdpmipfhfegaa
