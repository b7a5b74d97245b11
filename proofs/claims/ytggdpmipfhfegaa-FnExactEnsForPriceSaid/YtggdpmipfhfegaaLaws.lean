/-
  The walks of the laws on estimates.
-/
import Derived.Test.YtggdpmipfhfegaaEst2
namespace Go.Proofs.Ytggdpmipfhfegaa
open Go.RowKit
theorem linesLaw (W : World) (a : Int) (_ : -9223372036854775808 ≤ a ∧ a ≤ 9223372036854775807) (b : Int) (_ : -9223372036854775808 ≤ b ∧ b ≤ 9223372036854775807) : Calls Try.prog 4 #[.int .i64 a, .int .i64 b] W fun e W' => e = .returned (.bool true) ∧ Below W.heap.size W W' := by
  go_enter Try.func4, Try.ntmps4
  go_wp2_with (first | (go_at_call 15; refine (lines_spec _ _ _).mono ?_; rintro e1 w1 ⟨rfl, rfl⟩) | (go_at_call 16; refine (lines_impl _ _ _).mono ?_; rintro e1 w1 ⟨rfl, rfl⟩))
  go_ret
  exact ⟨rfl, Below.refl _ _⟩
theorem ensLaw (W : World) (a : Int) (_ : -9223372036854775808 ≤ a ∧ a ≤ 9223372036854775807) (b : Int) (_ : -9223372036854775808 ≤ b ∧ b ≤ 9223372036854775807) (c : Int) (_ : -9223372036854775808 ≤ c ∧ c ≤ 9223372036854775807) : Calls Try.prog 5 #[.int .i64 a, .int .i64 b, .int .i64 c] W fun e W' => e = .returned (.bool true) ∧ Below W.heap.size W W' := by
  have hc : True := trivial
  have hf : True := trivial
  have hb := Below.refl W.heap.size W
  go_enter Try.func5, Try.ntmps5
  go_wp2_with (first | (go_at_call 17; refine (ens_spec _ _ _ _).mono ?_; rintro e1 w1 ⟨rfl, hn⟩; replace hb := hb.trans (hn.mono hb.size); clear hc hf hn; obtain ⟨hc, hf⟩ := bcell hb) | (go_at_call 18; refine (ens_impl _ _ _ _).mono ?_; rintro e1 w1 ⟨rfl, hn⟩; replace hb := hb.trans (hn.mono hb.size); clear hc hf hn; obtain ⟨hc, hf⟩ := bcell hb))
  go_ret
  exact ⟨rfl, hb⟩
theorem isTariffLaw (W : World) (a b c d : Int) (_ : -9223372036854775808 ≤ a ∧ a ≤ 9223372036854775807) (_ : -9223372036854775808 ≤ b ∧ b ≤ 9223372036854775807) (_ : -9223372036854775808 ≤ c ∧ c ≤ 9223372036854775807) (_ : -9223372036854775808 ≤ d ∧ d ≤ 9223372036854775807) : Calls Try.prog 6 #[.agg #[.int .i64 a, .int .i64 b, .int .i64 c, .int .i64 d]] W fun e W' => e = .returned (.bool true) ∧ Below W.heap.size W W' := by
  have hc : True := trivial; have hf : True := trivial; have hb := Below.refl (W.alloc (.cells #[.int .i64 a, .int .i64 b, .int .i64 c, .int .i64 d] 30)).heap.size (W.alloc (.cells #[.int .i64 a, .int .i64 b, .int .i64 c, .int .i64 d] 30))
  go_enter Try.func6, Try.ntmps6
  go_wp2_with (first | (go_at_call 20; refine (toTariff_any _ _ _ _ _).mono ?_; rintro e1 w1 ⟨rfl, hn⟩; replace hb := hb.trans (hn.mono hb.size); clear hc hf hn; obtain ⟨hc, hf⟩ := bcell hb) | (go_at_call 19; refine (specIsTariff_any _ _ _ _ _).mono ?_; rintro e1 w1 ⟨rfl, hn⟩; replace hb := hb.trans (hn.mono hb.size); clear hc hf hn; obtain ⟨hc, hf⟩ := bcell hb) | (go_at_call 21; refine (isTariff_any _ _ _ _ _).mono ?_; rintro e1 w1 ⟨rfl, hn⟩; replace hb := hb.trans (hn.mono hb.size); clear hc hf hn; obtain ⟨hc, hf⟩ := bcell hb))
  go_ret; exact ⟨rfl, Below.trans (by (repeat (first | exact Below.refl _ _ | exact hb | apply Below.drew | (refine Below.alloc ?_ (by first | (simp; done) | (simp; omega) | (have := hb.size; simp at this ⊢; omega)) _) | (refine Below.setCell ?_ (by simp) _)))) (hb.mono (by simp))⟩
theorem priceLaw (W : World) (a b c d : Int) (_ : -9223372036854775808 ≤ a ∧ a ≤ 9223372036854775807) (_ : -9223372036854775808 ≤ b ∧ b ≤ 9223372036854775807) (_ : -9223372036854775808 ≤ c ∧ c ≤ 9223372036854775807) (_ : -9223372036854775808 ≤ d ∧ d ≤ 9223372036854775807) (e : Int) (_ : -9223372036854775808 ≤ e ∧ e ≤ 9223372036854775807) : Calls Try.prog 7 #[.agg #[.int .i64 a, .int .i64 b, .int .i64 c, .int .i64 d], .int .i64 e] W fun e W' => e = .returned (.bool true) ∧ Below W.heap.size W W' := by
  have hc : True := trivial; have hf : True := trivial; have hb := Below.refl (W.alloc (.cells #[.int .i64 a, .int .i64 b, .int .i64 c, .int .i64 d] 30)).heap.size (W.alloc (.cells #[.int .i64 a, .int .i64 b, .int .i64 c, .int .i64 d] 30))
  go_enter Try.func7, Try.ntmps7
  go_wp2_with (first | (go_at_call 20; refine (toTariff_any _ _ _ _ _).mono ?_; rintro e1 w1 ⟨rfl, hn⟩; replace hb := hb.trans (hn.mono hb.size); clear hc hf hn; obtain ⟨hc, hf⟩ := bcell hb) | (go_at_call 22; refine (price_spec _ _ _ _ _ _).mono ?_; rintro e1 w1 ⟨rfl, hn⟩; replace hb := hb.trans (hn.mono hb.size); clear hc hf hn; obtain ⟨hc, hf⟩ := bcell hb) | (go_at_call 23; refine (price_impl _ _ _ _ _ _).mono ?_; rintro e1 w1 ⟨rfl, hn⟩; replace hb := hb.trans (hn.mono hb.size); clear hc hf hn; obtain ⟨hc, hf⟩ := bcell hb))
  go_ret; exact ⟨rfl, Below.trans (by (repeat (first | exact Below.refl _ _ | exact hb | apply Below.drew | (refine Below.alloc ?_ (by first | (simp; done) | (simp; omega) | (have := hb.size; simp at this ⊢; omega)) _) | (refine Below.setCell ?_ (by simp) _)))) (hb.mono (by simp))⟩
theorem efpLaw (W : World) (a b c d : Int) (_ : -9223372036854775808 ≤ a ∧ a ≤ 9223372036854775807) (_ : -9223372036854775808 ≤ b ∧ b ≤ 9223372036854775807) (_ : -9223372036854775808 ≤ c ∧ c ≤ 9223372036854775807) (_ : -9223372036854775808 ≤ d ∧ d ≤ 9223372036854775807) (e : Int) (_ : -9223372036854775808 ≤ e ∧ e ≤ 9223372036854775807) : Calls Try.prog 8 #[.agg #[.int .i64 a, .int .i64 b, .int .i64 c, .int .i64 d], .int .i64 e] W fun e W' => e = .returned (.bool true) ∧ Below W.heap.size W W' := by
  have hc : True := trivial; have hf : True := trivial; have hb := Below.refl (W.alloc (.cells #[.int .i64 a, .int .i64 b, .int .i64 c, .int .i64 d] 30)).heap.size (W.alloc (.cells #[.int .i64 a, .int .i64 b, .int .i64 c, .int .i64 d] 30))
  go_enter Try.func8, Try.ntmps8
  go_wp2_with (first | (go_at_call 20; refine (toTariff_any _ _ _ _ _).mono ?_; rintro e1 w1 ⟨rfl, hn⟩; replace hb := hb.trans (hn.mono hb.size); clear hc hf hn; obtain ⟨hc, hf⟩ := bcell hb) | (go_at_call 24; refine (efp_spec _ _ _ _ _ _).mono ?_; rintro e1 w1 ⟨rfl, hn⟩; replace hb := hb.trans (hn.mono hb.size); clear hc hf hn; obtain ⟨hc, hf⟩ := bcell hb) | (go_at_call 25; refine (efp_impl _ _ _ _ _ _).mono ?_; rintro e1 w1 ⟨rfl, hn⟩; replace hb := hb.trans (hn.mono hb.size); clear hc hf hn; obtain ⟨hc, hf⟩ := bcell hb))
  go_ret; exact ⟨rfl, Below.trans (by (repeat (first | exact Below.refl _ _ | exact hb | apply Below.drew | (refine Below.alloc ?_ (by first | (simp; done) | (simp; omega) | (have := hb.size; simp at this ⊢; omega)) _) | (refine Below.setCell ?_ (by simp) _)))) (hb.mono (by simp))⟩
end Go.Proofs.Ytggdpmipfhfegaa
