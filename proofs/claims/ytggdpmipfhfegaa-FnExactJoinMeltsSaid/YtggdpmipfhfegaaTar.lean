/-
  Contracts of the functions on tariffs and prices.
-/
import Derived.Test.YtggdpmipfhfegaaEst
namespace Go.Proofs.Ytggdpmipfhfegaa
open Go.RowKit

theorem all_any (A : Option Addr) (n c B : Nat) (xs : List Int) (lo hi : Int) (w : World) (hr : RInts w B A n xs) (hn : n ≤ 1048576) :
    Calls Try.prog 49 #[.slice A n c, .int .i64 lo, .int .i64 hi] w fun e w' => e = .returned (.bool (allB lo hi xs)) ∧ w = w' := by
  go_enter Try.func49, Try.ntmps49
  go_wp2
  have HL := Lib.hid hr.len
  go_loop [11] (fun i => ∃ k : Nat, k ≤ n ∧ i = .int .i64 k ∧ allB lo hi (xs.drop k) = allB lo hi xs) (fun i => n - (intOf i).toNat)
  case atStart => exact ⟨0, Nat.zero_le _, rfl, rfl⟩
  case round =>
    obtain ⟨k, hk, rfl, hR⟩ := hrel
    have HR := Lib.hid hR; clear hR
    by_cases hlt : k < n
    · obtain ⟨ad, y, rfl, _, hd, _, hc⟩ := hr.at_ hlt
      have HD := Lib.hid hd; clear hd
      go_wp2_with (go_at_call 42; refine (in_any _ _ _ _).mono ?_; rintro e w' ⟨rfl, rfl⟩)
      · go_ret
        exact ⟨ret_bool (by rw [← HR.out, HD.out]; simp_all [allB]), rfl⟩
      · go_round
        case rel => exact ⟨k + 1, by omega, by go_num, by rw [← HR.out, HD.out]; simp_all [allB]⟩
        case measure => simp [intOf]; omega
    · go_wp2
      go_ret
      exact ⟨ret_bool (by rw [← HR.out, List.drop_of_length_le (by have := HL.out; omega)]; rfl), rfl⟩

def tarB (a b c d : Int) : Bool := inB a 0 100000 && (inB b 0 100000 && (inB c 0 100000 && inB d 0 100000))
theorem tarB_all (a b c d : Int) : allB 0 100000 [a, b, c, d] = tarB a b c d := by simp [allB, tarB]

theorem toTariff_any (a b c d : Int) (w : World) : Calls Try.prog 20 #[.agg #[.int .i64 a, .int .i64 b, .int .i64 c, .int .i64 d]] w fun e w' => e = .returned (.agg #[.int .i64 a, .int .i64 b, .int .i64 c, .int .i64 d]) ∧ Below w.heap.size w w' := by
  go_enter Try.func20, Try.ntmps20
  go_wp2
  exact bodyPost_ret (v := .agg #[.int .i64 a, .int .i64 b, .int .i64 c, .int .i64 d]) (by simp [results, Try.results20, go_sem]) rfl ⟨rfl, (by (repeat (first | exact Below.refl _ _ | exact hb | apply Below.drew | (refine Below.alloc ?_ (by first | (simp; done) | (simp; omega) | (have := hb.size; simp at this ⊢; omega)) _) | (refine Below.setCell ?_ (by simp) _))))⟩
theorem esTariff_any (a b c d : Int) (w : World) : Calls Try.prog 50 #[.agg #[.int .i64 a, .int .i64 b, .int .i64 c, .int .i64 d]] w fun e w' => e = .returned (.bool (tarB a b c d)) ∧ Below w.heap.size w w' := by
  have hr := rints_new (w := w.alloc (.cells #[.int .i64 a, .int .i64 b, .int .i64 c, .int .i64 d] 32)) (e := 3) [a, b, c, d] #[.int .i64 a, .int .i64 b, .int .i64 c, .int .i64 d] rfl
  have HR := Lib.hid hr; clear hr
  go_enter Try.func50, Try.ntmps50
  go_wp2_with fail
  refine (all_any _ _ _ _ [a, b, c, d] _ _ _ (by simpa using HR.out) (by omega)).mono ?_
  rintro e w' ⟨rfl, rfl⟩
  go_wp2_with fail
  go_ret
  exact ⟨ret_bool (tarB_all a b c d), (by (repeat (first | exact Below.refl _ _ | exact hb | apply Below.drew | (refine Below.alloc ?_ (by first | (simp; done) | (simp; omega) | (have := hb.size; simp at this ⊢; omega)) _) | (refine Below.setCell ?_ (by simp) _))))⟩
theorem specIsTariff_any (a b c d : Int) (w : World) : Calls Try.prog 19 #[.agg #[.int .i64 a, .int .i64 b, .int .i64 c, .int .i64 d]] w fun e w' => e = .returned (.bool (tarB a b c d)) ∧ Below w.heap.size w w' := by
  go_enter Try.func19, Try.ntmps19
  go_wp2_with fail
  refine (esTariff_any _ _ _ _ _).mono ?_
  rintro e w' ⟨rfl, hn⟩
  have hb : Below w.heap.size w w' := by (refine Below.trans ?_ (hn.mono (by simp)); (repeat (first | exact Below.refl _ _ | exact hb | apply Below.drew | (refine Below.alloc ?_ (by first | (simp; done) | (simp; omega) | (have := hb.size; simp at this ⊢; omega)) _) | (refine Below.setCell ?_ (by simp) _))))
  go_wp2_with fail
  go_ret
  exact ⟨rfl, hb⟩
theorem isTariff_any (a b c d : Int) (w : World) : Calls Try.prog 21 #[.agg #[.int .i64 a, .int .i64 b, .int .i64 c, .int .i64 d]] w fun e w' => e = .returned (.bool (tarB a b c d)) ∧ Below w.heap.size w w' := by
  go_enter Try.func21, Try.ntmps21
  go_wp2_with (go_at_call 51; refine (isPence_any _ _).mono ?_; rintro e w' ⟨rfl, rfl⟩)
  all_goals go_ret
  all_goals exact ⟨ret_bool (by simp_all [tarB]), (by (repeat (first | exact Below.refl _ _ | exact hb | apply Below.drew | (refine Below.alloc ?_ (by first | (simp; done) | (simp; omega) | (have := hb.size; simp at this ⊢; omega)) _) | (refine Below.setCell ?_ (by simp) _))))⟩

def setP (a e : Int) : Int := upI (a * e) 1000
theorem esSetting_any (a b c d e : Int) (w : World) (ha : 0 ≤ a ∧ a ≤ 100000) (he : 0 ≤ e ∧ e ≤ 3000000) : Calls Try.prog 52 #[.agg #[.int .i64 a, .int .i64 b, .int .i64 c, .int .i64 d], .int .i64 e] w fun x w' => x = .returned (.int .i64 (setP a e)) ∧ Below w.heap.size w w' := by
  have k0 : 0 ≤ a * e := Int.mul_nonneg ha.1 he.1
  have k1 : a * e ≤ 100000 * 3000000 := Int.mul_le_mul ha.2 he.2 he.1 (by omega)
  go_enter Try.func52, Try.ntmps52
  go_wp2_with (go_at_call 43; refine (esUp_any _ _ _ (by omega) (by omega) (by omega) (by omega)).mono ?_; rintro e w' ⟨rfl, rfl⟩)
  go_ret
  exact ⟨rfl, (by (repeat (first | exact Below.refl _ _ | exact hb | apply Below.drew | (refine Below.alloc ?_ (by first | (simp; done) | (simp; omega) | (have := hb.size; simp at this ⊢; omega)) _) | (refine Below.setCell ?_ (by simp) _))))⟩
theorem settingPrice_any (a b c d e : Int) (w : World) (ha : 0 ≤ a ∧ a ≤ 100000) (he : 0 ≤ e ∧ e ≤ 3000000) : Calls Try.prog 53 #[.agg #[.int .i64 a, .int .i64 b, .int .i64 c, .int .i64 d], .int .i64 e] w fun x w' => x = .returned (.int .i64 (setP a e)) ∧ Below w.heap.size w w' := by
  have k0 : 0 ≤ e * a := Int.mul_nonneg he.1 ha.1
  have k1 : e * a ≤ 3000000 * 100000 := Int.mul_le_mul he.2 ha.2 ha.1 (by omega)
  go_enter Try.func53, Try.ntmps53
  go_wp2_with (go_at_call 46; refine (up_any _ _ _ (by omega) (by omega) (by omega) (by omega)).mono ?_; rintro e w' ⟨rfl, rfl⟩)
  go_ret
  exact ⟨ret_int (by rw [setP, Int.mul_comm]), (by (repeat (first | exact Below.refl _ _ | exact hb | apply Below.drew | (refine Below.alloc ?_ (by first | (simp; done) | (simp; omega) | (have := hb.size; simp at this ⊢; omega)) _) | (refine Below.setCell ?_ (by simp) _))))⟩

def priceB (a b c d e : Int) : Int × Bool := if tarB a b c d && inB e 0 3000000 then (setP a e, true) else (0, false)
theorem tarB_true {a b c d : Int} (h : tarB a b c d = true) : (0 ≤ a ∧ a ≤ 100000) ∧ (0 ≤ b ∧ b ≤ 100000) ∧ (0 ≤ c ∧ c ≤ 100000) ∧ (0 ≤ d ∧ d ≤ 100000) := by
  simpa [tarB, inB_true] using h
theorem price_impl (a b c d e : Int) (w : World) : Calls Try.prog 23 #[.agg #[.int .i64 a, .int .i64 b, .int .i64 c, .int .i64 d], .int .i64 e] w fun x w' => x = .returned (.tuple #[.int .i64 (priceB a b c d e).1, .bool (priceB a b c d e).2]) ∧ Below w.heap.size w w' := by
  have hc : True := trivial; have hf : True := trivial; have hb := Below.refl (w.alloc (.cells #[.int .i64 a, .int .i64 b, .int .i64 c, .int .i64 d] 32)).heap.size (w.alloc (.cells #[.int .i64 a, .int .i64 b, .int .i64 c, .int .i64 d] 32))
  cases h1 : tarB a b c d
  · cases h2 : inB e 0 3000000 <;> (go_enter Try.func23, Try.ntmps23; go_wp2_with (first | (go_at_call 21; refine (isTariff_any _ _ _ _ _).mono ?_; rintro e1 w1 ⟨rfl, hn⟩; replace hb := hb.trans (hn.mono hb.size); clear hc hf hn; obtain ⟨hc, hf⟩ := bcell hb) | (go_at_call 48; refine (isEns_any _ _).mono ?_; rintro e1 w1 ⟨rfl, rfl⟩) | (go_at_call 53; refine (settingPrice_any _ _ _ _ _ _ (by omega) (by omega)).mono ?_; rintro e1 w1 ⟨rfl, hn⟩; replace hb := hb.trans (hn.mono hb.size); clear hc hf hn; obtain ⟨hc, hf⟩ := bcell hb)); go_ret2; exact ⟨by simp [priceB, h1, h2], Below.trans (by (repeat (first | exact Below.refl _ _ | exact hb | apply Below.drew | (refine Below.alloc ?_ (by first | (simp; done) | (simp; omega) | (have := hb.size; simp at this ⊢; omega)) _) | (refine Below.setCell ?_ (by simp) _)))) (hb.mono (by simp))⟩)
  cases h2 : inB e 0 3000000
  · (go_enter Try.func23, Try.ntmps23; go_wp2_with (first | (go_at_call 21; refine (isTariff_any _ _ _ _ _).mono ?_; rintro e1 w1 ⟨rfl, hn⟩; replace hb := hb.trans (hn.mono hb.size); clear hc hf hn; obtain ⟨hc, hf⟩ := bcell hb) | (go_at_call 48; refine (isEns_any _ _).mono ?_; rintro e1 w1 ⟨rfl, rfl⟩) | (go_at_call 53; refine (settingPrice_any _ _ _ _ _ _ (by omega) (by omega)).mono ?_; rintro e1 w1 ⟨rfl, hn⟩; replace hb := hb.trans (hn.mono hb.size); clear hc hf hn; obtain ⟨hc, hf⟩ := bcell hb)); go_ret2; exact ⟨by simp [priceB, h1, h2], Below.trans (by (repeat (first | exact Below.refl _ _ | exact hb | apply Below.drew | (refine Below.alloc ?_ (by first | (simp; done) | (simp; omega) | (have := hb.size; simp at this ⊢; omega)) _) | (refine Below.setCell ?_ (by simp) _)))) (hb.mono (by simp))⟩)
  obtain ⟨t1, _⟩ := tarB_true h1
  have t2 := inB_true.1 h2
  (go_enter Try.func23, Try.ntmps23; go_wp2_with (first | (go_at_call 21; refine (isTariff_any _ _ _ _ _).mono ?_; rintro e1 w1 ⟨rfl, hn⟩; replace hb := hb.trans (hn.mono hb.size); clear hc hf hn; obtain ⟨hc, hf⟩ := bcell hb) | (go_at_call 48; refine (isEns_any _ _).mono ?_; rintro e1 w1 ⟨rfl, rfl⟩) | (go_at_call 53; refine (settingPrice_any _ _ _ _ _ _ (by omega) (by omega)).mono ?_; rintro e1 w1 ⟨rfl, hn⟩; replace hb := hb.trans (hn.mono hb.size); clear hc hf hn; obtain ⟨hc, hf⟩ := bcell hb)); go_ret2; exact ⟨by simp [priceB, h1, h2], Below.trans (by (repeat (first | exact Below.refl _ _ | exact hb | apply Below.drew | (refine Below.alloc ?_ (by first | (simp; done) | (simp; omega) | (have := hb.size; simp at this ⊢; omega)) _) | (refine Below.setCell ?_ (by simp) _)))) (hb.mono (by simp))⟩)
theorem price_spec (a b c d e : Int) (w : World) : Calls Try.prog 22 #[.agg #[.int .i64 a, .int .i64 b, .int .i64 c, .int .i64 d], .int .i64 e] w fun x w' => x = .returned (.tuple #[.int .i64 (priceB a b c d e).1, .bool (priceB a b c d e).2]) ∧ Below w.heap.size w w' := by
  have hc : True := trivial; have hf : True := trivial; have hb := Below.refl (w.alloc (.cells #[.int .i64 a, .int .i64 b, .int .i64 c, .int .i64 d] 32)).heap.size (w.alloc (.cells #[.int .i64 a, .int .i64 b, .int .i64 c, .int .i64 d] 32))
  cases h1 : tarB a b c d
  · cases h2 : inB e 0 3000000 <;> (go_enter Try.func22, Try.ntmps22; go_wp2_with (first | (go_at_call 50; refine (esTariff_any _ _ _ _ _).mono ?_; rintro e1 w1 ⟨rfl, hn⟩; replace hb := hb.trans (hn.mono hb.size); clear hc hf hn; obtain ⟨hc, hf⟩ := bcell hb) | (go_at_call 47; refine (esEns_any _ _).mono ?_; rintro e1 w1 ⟨rfl, rfl⟩) | (go_at_call 52; refine (esSetting_any _ _ _ _ _ _ (by omega) (by omega)).mono ?_; rintro e1 w1 ⟨rfl, hn⟩; replace hb := hb.trans (hn.mono hb.size); clear hc hf hn; obtain ⟨hc, hf⟩ := bcell hb)); go_ret2; exact ⟨by simp [priceB, h1, h2], Below.trans (by (repeat (first | exact Below.refl _ _ | exact hb | apply Below.drew | (refine Below.alloc ?_ (by first | (simp; done) | (simp; omega) | (have := hb.size; simp at this ⊢; omega)) _) | (refine Below.setCell ?_ (by simp) _)))) (hb.mono (by simp))⟩)
  cases h2 : inB e 0 3000000
  · (go_enter Try.func22, Try.ntmps22; go_wp2_with (first | (go_at_call 50; refine (esTariff_any _ _ _ _ _).mono ?_; rintro e1 w1 ⟨rfl, hn⟩; replace hb := hb.trans (hn.mono hb.size); clear hc hf hn; obtain ⟨hc, hf⟩ := bcell hb) | (go_at_call 47; refine (esEns_any _ _).mono ?_; rintro e1 w1 ⟨rfl, rfl⟩) | (go_at_call 52; refine (esSetting_any _ _ _ _ _ _ (by omega) (by omega)).mono ?_; rintro e1 w1 ⟨rfl, hn⟩; replace hb := hb.trans (hn.mono hb.size); clear hc hf hn; obtain ⟨hc, hf⟩ := bcell hb)); go_ret2; exact ⟨by simp [priceB, h1, h2], Below.trans (by (repeat (first | exact Below.refl _ _ | exact hb | apply Below.drew | (refine Below.alloc ?_ (by first | (simp; done) | (simp; omega) | (have := hb.size; simp at this ⊢; omega)) _) | (refine Below.setCell ?_ (by simp) _)))) (hb.mono (by simp))⟩)
  obtain ⟨t1, _⟩ := tarB_true h1
  have t2 := inB_true.1 h2
  (go_enter Try.func22, Try.ntmps22; go_wp2_with (first | (go_at_call 50; refine (esTariff_any _ _ _ _ _).mono ?_; rintro e1 w1 ⟨rfl, hn⟩; replace hb := hb.trans (hn.mono hb.size); clear hc hf hn; obtain ⟨hc, hf⟩ := bcell hb) | (go_at_call 47; refine (esEns_any _ _).mono ?_; rintro e1 w1 ⟨rfl, rfl⟩) | (go_at_call 52; refine (esSetting_any _ _ _ _ _ _ (by omega) (by omega)).mono ?_; rintro e1 w1 ⟨rfl, hn⟩; replace hb := hb.trans (hn.mono hb.size); clear hc hf hn; obtain ⟨hc, hf⟩ := bcell hb)); go_ret2; exact ⟨by simp [priceB, h1, h2], Below.trans (by (repeat (first | exact Below.refl _ _ | exact hb | apply Below.drew | (refine Below.alloc ?_ (by first | (simp; done) | (simp; omega) | (have := hb.size; simp at this ⊢; omega)) _) | (refine Below.setCell ?_ (by simp) _)))) (hb.mono (by simp))⟩)
end Go.Proofs.Ytggdpmipfhfegaa
