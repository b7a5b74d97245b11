/-
  Contracts of the functions on melts and blends.
-/
import Derived.Test.YtggdpmipfhfegaaTar
namespace Go.Proofs.Ytggdpmipfhfegaa
open Go.RowKit
def melB (a b c : Int) : Bool := inB a 0 1000000 && (inB b 0 1000000 && inB c 0 1000000)
theorem melB_all (a b c : Int) : allB 0 1000000 [a, b, c] = melB a b c := by simp [allB, melB]
theorem melB_true {a b c : Int} (h : melB a b c = true) : (0 ≤ a ∧ a ≤ 1000000) ∧ (0 ≤ b ∧ b ≤ 1000000) ∧ (0 ≤ c ∧ c ≤ 1000000) := by simpa [melB, inB_true] using h
theorem toMelt_any (a b c : Int) (w : World) : Calls Try.prog 33 #[.agg #[.int .i64 a, .int .i64 b, .int .i64 c]] w fun e w' => e = .returned (.agg #[.int .i64 a, .int .i64 b, .int .i64 c]) ∧ Below w.heap.size w w' := by
  go_enter Try.func33, Try.ntmps33
  go_wp2
  exact bodyPost_ret (v := .agg #[.int .i64 a, .int .i64 b, .int .i64 c]) (by simp [results, Try.results33, go_sem]) rfl ⟨rfl, (by (repeat (first | exact Below.refl _ _ | exact hb | apply Below.drew | (refine Below.alloc ?_ (by first | (simp; done) | (simp; omega) | (have := hb.size; simp at this ⊢; omega)) _) | (refine Below.setCell ?_ (by simp) _))))⟩
theorem toBlend_any (p q r s : Int) (w : World) : Calls Try.prog 34 #[.agg #[.int .i64 p, .int .i64 q, .int .i64 r, .int .i64 s]] w fun e w' => e = .returned (.agg #[.int .i64 p, .int .i64 q, .int .i64 r, .int .i64 s]) ∧ Below w.heap.size w w' := by
  go_enter Try.func34, Try.ntmps34
  go_wp2
  exact bodyPost_ret (v := .agg #[.int .i64 p, .int .i64 q, .int .i64 r, .int .i64 s]) (by simp [results, Try.results34, go_sem]) rfl ⟨rfl, (by (repeat (first | exact Below.refl _ _ | exact hb | apply Below.drew | (refine Below.alloc ?_ (by first | (simp; done) | (simp; omega) | (have := hb.size; simp at this ⊢; omega)) _) | (refine Below.setCell ?_ (by simp) _))))⟩
theorem meParts_any (a b c : Int) (w : World) : Calls Try.prog 74 #[.agg #[.int .i64 a, .int .i64 b, .int .i64 c]] w fun e w' => ∃ g, e = .returned (.slice (some ⟨g, 0, none⟩) 3 3) ∧ Below w.heap.size w w' ∧ RInts w' w'.heap.size (some ⟨g, 0, none⟩) 3 [a, b, c] := by
  have hr : RInts ((w.alloc (.cells #[.int .i64 a, .int .i64 b, .int .i64 c] 49)).alloc (.cells #[.int .i64 a, .int .i64 b, .int .i64 c] 3)) (w.heap.size + 2) (some ⟨w.heap.size + 1, 0, none⟩) 3 [a, b, c] := by
    simpa using rints_new (w := w.alloc (.cells #[.int .i64 a, .int .i64 b, .int .i64 c] 49)) (e := 3) [a, b, c] #[.int .i64 a, .int .i64 b, .int .i64 c] rfl
  have HR := Lib.hid hr; clear hr
  go_enter Try.func74, Try.ntmps74
  go_wp2
  go_ret
  refine ⟨_, rfl, ?_, ?_⟩
  · exact (by (repeat (first | exact Below.refl _ _ | exact hb | apply Below.drew | (refine Below.alloc ?_ (by first | (simp; done) | (simp; omega) | (have := hb.size; simp at this ⊢; omega)) _) | (refine Below.setCell ?_ (by simp) _))))
  · have h := HR.out
    exact h.more (by simp)
theorem meGood_any (a b c : Int) (w : World) : Calls Try.prog 62 #[.agg #[.int .i64 a, .int .i64 b, .int .i64 c]] w fun e w' => e = .returned (.bool (melB a b c)) ∧ Below w.heap.size w w' := by
  go_enter Try.func62, Try.ntmps62
  go_wp2_with fail
  refine (meParts_any _ _ _ _).mono ?_
  rintro e w1 ⟨g, rfl, hn, hr⟩
  go_wp2_with fail
  refine (all_any _ _ _ _ [a, b, c] _ _ _ hr (by omega)).mono ?_
  rintro e w' ⟨rfl, rfl⟩
  go_wp2_with fail
  go_ret
  exact ⟨ret_bool (melB_all a b c), by (refine Below.trans ?_ (hn.mono (by simp)); (repeat (first | exact Below.refl _ _ | exact hb | apply Below.drew | (refine Below.alloc ?_ (by first | (simp; done) | (simp; omega) | (have := hb.size; simp at this ⊢; omega)) _) | (refine Below.setCell ?_ (by simp) _))))⟩
theorem isMelt_any (a b c : Int) (w : World) : Calls Try.prog 67 #[.agg #[.int .i64 a, .int .i64 b, .int .i64 c]] w fun e w' => e = .returned (.bool (melB a b c)) ∧ Below w.heap.size w w' := by
  have hg : ∀ (n : Int) (w : World), Calls Try.prog 75 #[.int .i64 n] w fun e w' => e = .returned (.bool (inB n 0 1000000)) ∧ w = w' := by
    intro n w
    go_enter Try.func75, Try.ntmps75
    go_wp2_with (go_at_call 45; refine (within_any _ _ _ _).mono ?_; rintro e1 w1 ⟨rfl, rfl⟩)
    go_ret
    exact ⟨rfl, rfl⟩
  have HG := Lib.hid hg; clear hg
  go_enter Try.func67, Try.ntmps67
  go_wp2_with (go_at_call 75; refine (HG.out _ _).mono ?_; rintro e1 w1 ⟨rfl, rfl⟩)
  all_goals go_ret
  all_goals exact ⟨ret_bool (by simp_all [melB]), (by (repeat (first | exact Below.refl _ _ | exact hb | apply Below.drew | (refine Below.alloc ?_ (by first | (simp; done) | (simp; omega) | (have := hb.size; simp at this ⊢; omega)) _) | (refine Below.setCell ?_ (by simp) _))))⟩
def shB (l h : Int) : Bool := inB l 0 1000 && inB h l 1000
def bleB (p q r s : Int) : Bool := shB p q && shB r s
theorem bleB_true {p q r s : Int} (h : bleB p q r s = true) : (0 ≤ p ∧ p ≤ q ∧ q ≤ 1000) ∧ (0 ≤ r ∧ r ≤ s ∧ s ≤ 1000) := by
  simp only [bleB, shB, Bool.and_eq_true, inB_true] at h
  omega
theorem shares_any (l h : Int) (w : World) : Calls Try.prog 76 #[.int .i64 l, .int .i64 h] w fun e w' => e = .returned (.bool (shB l h)) ∧ w = w' := by
  go_enter Try.func76, Try.ntmps76
  go_wp2
  all_goals go_ret
  all_goals exact ⟨ret_bool (by rw [Bool.eq_iff_iff]; simp [shB, inB]; omega), rfl⟩
theorem isBlend_any (p q r s : Int) (w : World) : Calls Try.prog 68 #[.agg #[.int .i64 p, .int .i64 q, .int .i64 r, .int .i64 s]] w fun e w' => e = .returned (.bool (bleB p q r s)) ∧ Below w.heap.size w w' := by
  go_enter Try.func68, Try.ntmps68
  go_wp2_with (go_at_call 76; refine (shares_any _ _ _).mono ?_; rintro e1 w1 ⟨rfl, rfl⟩)
  all_goals go_ret
  all_goals exact ⟨ret_bool (by simp_all [bleB]), (by (repeat (first | exact Below.refl _ _ | exact hb | apply Below.drew | (refine Below.alloc ?_ (by first | (simp; done) | (simp; omega) | (have := hb.size; simp at this ⊢; omega)) _) | (refine Below.setCell ?_ (by simp) _))))⟩
theorem meBlend_any (p q r s : Int) (w : World) : Calls Try.prog 63 #[.agg #[.int .i64 p, .int .i64 q, .int .i64 r, .int .i64 s]] w fun e w' => e = .returned (.bool (bleB p q r s)) ∧ Below w.heap.size w w' := by
  go_enter Try.func63, Try.ntmps63
  go_wp2_with (go_at_call 42; refine (in_any _ _ _ _).mono ?_; rintro e1 w1 ⟨rfl, rfl⟩)
  all_goals go_ret
  all_goals exact ⟨ret_bool (by simp_all [bleB, shB]), (by (repeat (first | exact Below.refl _ _ | exact hb | apply Below.drew | (refine Below.alloc ?_ (by first | (simp; done) | (simp; omega) | (have := hb.size; simp at this ⊢; omega)) _) | (refine Below.setCell ?_ (by simp) _))))⟩
theorem grams_any (a b c : Int) (w : World) (h : (0 ≤ a ∧ a ≤ 1000000) ∧ (0 ≤ b ∧ b ≤ 1000000) ∧ (0 ≤ c ∧ c ≤ 1000000)) : Calls Try.prog 69 #[.agg #[.int .i64 a, .int .i64 b, .int .i64 c]] w fun e w' => e = .returned (.int .i64 (a + b + c)) ∧ Below w.heap.size w w' := by
  go_enter Try.func69, Try.ntmps69
  go_wp2
  go_ret
  exact ⟨rfl, (by (repeat (first | exact Below.refl _ _ | exact hb | apply Below.drew | (refine Below.alloc ?_ (by first | (simp; done) | (simp; omega) | (have := hb.size; simp at this ⊢; omega)) _) | (refine Below.setCell ?_ (by simp) _))))⟩
theorem meGrams_any (a b c : Int) (w : World) (h : (0 ≤ a ∧ a ≤ 1000000) ∧ (0 ≤ b ∧ b ≤ 1000000) ∧ (0 ≤ c ∧ c ≤ 1000000)) : Calls Try.prog 64 #[.agg #[.int .i64 a, .int .i64 b, .int .i64 c]] w fun e w' => e = .returned (.int .i64 (a + b + c)) ∧ Below w.heap.size w w' := by
  go_enter Try.func64, Try.ntmps64
  go_wp2
  go_ret
  exact ⟨rfl, (by (repeat (first | exact Below.refl _ _ | exact hb | apply Below.drew | (refine Below.alloc ?_ (by first | (simp; done) | (simp; omega) | (have := hb.size; simp at this ⊢; omega)) _) | (refine Below.setCell ?_ (by simp) _))))⟩
theorem plus_any (a b c d e f : Int) (w : World) (h : (0 ≤ a ∧ a ≤ 1000000) ∧ (0 ≤ b ∧ b ≤ 1000000) ∧ (0 ≤ c ∧ c ≤ 1000000)) (h' : (0 ≤ d ∧ d ≤ 1000000) ∧ (0 ≤ e ∧ e ≤ 1000000) ∧ (0 ≤ f ∧ f ≤ 1000000)) :
    Calls Try.prog 71 #[.agg #[.int .i64 a, .int .i64 b, .int .i64 c], .agg #[.int .i64 d, .int .i64 e, .int .i64 f]] w fun x w' => x = .returned (.agg #[.int .i64 (a + d), .int .i64 (b + e), .int .i64 (c + f)]) ∧ Below w.heap.size w w' := by
  go_enter Try.func71, Try.ntmps71
  go_wp2
  exact bodyPost_ret (v := .agg #[.int .i64 (a + d), .int .i64 (b + e), .int .i64 (c + f)]) (by simp [results, Try.results71, go_sem]) rfl ⟨rfl, (by (repeat (first | exact Below.refl _ _ | exact hb | apply Below.drew | (refine Below.alloc ?_ (by first | (simp; done) | (simp; omega) | (have := hb.size; simp at this ⊢; omega)) _) | (refine Below.setCell ?_ (by simp) _))))⟩
theorem meJoin_any (a b c d e f : Int) (w : World) (h : (0 ≤ a ∧ a ≤ 1000000) ∧ (0 ≤ b ∧ b ≤ 1000000) ∧ (0 ≤ c ∧ c ≤ 1000000)) (h' : (0 ≤ d ∧ d ≤ 1000000) ∧ (0 ≤ e ∧ e ≤ 1000000) ∧ (0 ≤ f ∧ f ≤ 1000000)) :
    Calls Try.prog 66 #[.agg #[.int .i64 a, .int .i64 b, .int .i64 c], .agg #[.int .i64 d, .int .i64 e, .int .i64 f]] w fun x w' => x = .returned (.agg #[.int .i64 (a + d), .int .i64 (b + e), .int .i64 (c + f)]) ∧ Below w.heap.size w w' := by
  go_enter Try.func66, Try.ntmps66
  go_wp2
  exact bodyPost_ret (v := .agg #[.int .i64 (a + d), .int .i64 (b + e), .int .i64 (c + f)]) (by simp [results, Try.results66, go_sem]) rfl ⟨rfl, (by (repeat (first | exact Below.refl _ _ | exact hb | apply Below.drew | (refine Below.alloc ?_ (by first | (simp; done) | (simp; omega) | (have := hb.size; simp at this ⊢; omega)) _) | (refine Below.setCell ?_ (by simp) _))))⟩
def fitB (a b c p q r s : Int) : Bool := inB (1000 * b) (p * (a + b + c)) (q * (a + b + c)) && inB (1000 * c) (r * (a + b + c)) (s * (a + b + c))
theorem mul_bd3 {a b A B : Int} (ha : 0 ≤ a) (ha' : a ≤ A) (hb : 0 ≤ b) (hb' : b ≤ B) : 0 ≤ a * b ∧ a * b ≤ A * B :=
  ⟨Int.mul_nonneg ha hb, Int.mul_le_mul ha' hb' hb (by omega)⟩
theorem meFits_any (a b c p q r s : Int) (w : World) (h : (0 ≤ a ∧ a ≤ 1000000) ∧ (0 ≤ b ∧ b ≤ 1000000) ∧ (0 ≤ c ∧ c ≤ 1000000)) (h' : (0 ≤ p ∧ p ≤ q ∧ q ≤ 1000) ∧ (0 ≤ r ∧ r ≤ s ∧ s ≤ 1000)) :
    Calls Try.prog 65 #[.agg #[.int .i64 a, .int .i64 b, .int .i64 c], .agg #[.int .i64 p, .int .i64 q, .int .i64 r, .int .i64 s]] w fun x w' => x = .returned (.bool (fitB a b c p q r s)) ∧ Below w.heap.size w w' := by
  have k1 := mul_bd3 (A := 1000) (B := 3000000) (a := p) (b := a + b + c) (by omega) (by omega) (by omega) (by omega)
  have k2 := mul_bd3 (A := 1000) (B := 3000000) (a := q) (b := a + b + c) (by omega) (by omega) (by omega) (by omega)
  have k3 := mul_bd3 (A := 1000) (B := 3000000) (a := r) (b := a + b + c) (by omega) (by omega) (by omega) (by omega)
  have k4 := mul_bd3 (A := 1000) (B := 3000000) (a := s) (b := a + b + c) (by omega) (by omega) (by omega) (by omega)
  have hc : True := trivial
  have hf : True := trivial
  have hb := Below.refl ((w.alloc (.cells #[.int .i64 a, .int .i64 b, .int .i64 c] 49)).alloc (.cells #[.int .i64 p, .int .i64 q, .int .i64 r, .int .i64 s] 51)).heap.size ((w.alloc (.cells #[.int .i64 a, .int .i64 b, .int .i64 c] 49)).alloc (.cells #[.int .i64 p, .int .i64 q, .int .i64 r, .int .i64 s] 51))
  go_enter Try.func65, Try.ntmps65
  go_wp2_with (first | (go_at_call 64; refine (meGrams_any _ _ _ _ (by omega)).mono ?_; rintro e1 w1 ⟨rfl, hn⟩; replace hb := hb.trans (hn.mono hb.size); clear hc hf hn; obtain ⟨hc, hf⟩ := bcell hb) | (go_at_call 42; refine (in_any _ _ _ _).mono ?_; rintro e1 w1 ⟨rfl, rfl⟩))
  all_goals go_ret
  all_goals exact ⟨ret_bool (by simp_all [fitB]), Below.trans (by (repeat (first | exact Below.refl _ _ | exact hb | apply Below.drew | (refine Below.alloc ?_ (by first | (simp; done) | (simp; omega) | (have := hb.size; simp at this ⊢; omega)) _) | (refine Below.setCell ?_ (by simp) _)))) (hb.mono (by simp; omega))⟩
theorem fits_any (a b c p q r s : Int) (w : World) (h : (0 ≤ a ∧ a ≤ 1000000) ∧ (0 ≤ b ∧ b ≤ 1000000) ∧ (0 ≤ c ∧ c ≤ 1000000)) (h' : (0 ≤ p ∧ p ≤ q ∧ q ≤ 1000) ∧ (0 ≤ r ∧ r ≤ s ∧ s ≤ 1000)) :
    Calls Try.prog 70 #[.agg #[.int .i64 a, .int .i64 b, .int .i64 c], .agg #[.int .i64 p, .int .i64 q, .int .i64 r, .int .i64 s]] w fun x w' => x = .returned (.bool (fitB a b c p q r s)) ∧ Below w.heap.size w w' := by
  have k1 := mul_bd3 (A := 1000) (B := 3000000) (a := p) (b := a + b + c) (by omega) (by omega) (by omega) (by omega)
  have k2 := mul_bd3 (A := 1000) (B := 3000000) (a := q) (b := a + b + c) (by omega) (by omega) (by omega) (by omega)
  have k3 := mul_bd3 (A := 1000) (B := 3000000) (a := r) (b := a + b + c) (by omega) (by omega) (by omega) (by omega)
  have k4 := mul_bd3 (A := 1000) (B := 3000000) (a := s) (b := a + b + c) (by omega) (by omega) (by omega) (by omega)
  have hc : True := trivial
  have hf : True := trivial
  have hb := Below.refl ((w.alloc (.cells #[.int .i64 a, .int .i64 b, .int .i64 c] 49)).alloc (.cells #[.int .i64 p, .int .i64 q, .int .i64 r, .int .i64 s] 51)).heap.size ((w.alloc (.cells #[.int .i64 a, .int .i64 b, .int .i64 c] 49)).alloc (.cells #[.int .i64 p, .int .i64 q, .int .i64 r, .int .i64 s] 51))
  go_enter Try.func70, Try.ntmps70
  go_wp2_with (first | (go_at_call 69; refine (grams_any _ _ _ _ (by omega)).mono ?_; rintro e1 w1 ⟨rfl, hn⟩; replace hb := hb.trans (hn.mono hb.size); clear hc hf hn; obtain ⟨hc, hf⟩ := bcell hb) | (go_at_call 45; refine (within_any _ _ _ _).mono ?_; rintro e1 w1 ⟨rfl, rfl⟩))
  all_goals go_ret
  all_goals exact ⟨ret_bool (by simp_all [fitB]), Below.trans (by (repeat (first | exact Below.refl _ _ | exact hb | apply Below.drew | (refine Below.alloc ?_ (by first | (simp; done) | (simp; omega) | (have := hb.size; simp at this ⊢; omega)) _) | (refine Below.setCell ?_ (by simp) _)))) (hb.mono (by simp; omega))⟩
end Go.Proofs.Ytggdpmipfhfegaa
