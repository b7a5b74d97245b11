/-
  Contracts of the prices of corrections and of jobs.
-/
import Derived.Test.YtggdpmipfhfegaaEst2
import Derived.Test.YtggdpmipfhfegaaInts
namespace Go.Proofs.Ytggdpmipfhfegaa
open Go.RowKit

def sumI : List Int → Int
  | [] => 0
  | x :: r => x + sumI r
theorem sum_impl (A : Option Addr) (n c B : Nat) (xs : List Int) (w : World) (hr : RInts w B A n xs) (hn : n ≤ 1048576) (hx : ∀ x ∈ xs, -1000000 ≤ x ∧ x ≤ 1000000) :
    Calls Try.prog 61 #[.slice A n c] w fun e w' => e = .returned (.int .i64 (sumI xs)) ∧ w = w' := by
  have HL := Lib.hid hr.len
  have HX := Lib.hid hx; clear hx
  go_enter Try.func61, Try.ntmps61
  go_wp2
  go_loop [3, 8] (fun t i => ∃ (k : Nat) (s : Int), k ≤ n ∧ i = .int .i64 k ∧ t = .int .i64 s ∧ -1000000 * (k : Int) ≤ s ∧ s ≤ 1000000 * k ∧ s + sumI (xs.drop k) = sumI xs) (fun _ i => n - (intOf i).toNat)
  case atStart => exact ⟨0, 0, Nat.zero_le _, rfl, rfl, by omega, by omega, by simp⟩
  case round =>
    obtain ⟨k, s, hk, rfl, rfl, b1, b2, hR⟩ := hrel
    have HR := Lib.hid hR; clear hR
    by_cases hlt : k < n
    · obtain ⟨ad, y, rfl, _, hd, hy, hc⟩ := hr.at_ hlt
      obtain ⟨y1, y2⟩ := HX.out y (List.mem_of_getElem? hy)
      have HD := Lib.hid hd; clear hd hy
      go_wp2
      go_round
      case rel => exact ⟨k + 1, _, by omega, by go_num, rfl, by omega, by omega, by rw [← HR.out, HD.out, sumI]; omega⟩
      case measure => simp [intOf]; omega
    · go_wp2
      go_ret
      exact ⟨ret_int (by rw [← HR.out, List.drop_of_length_le (by have := HL.out; omega)]; simp [sumI]), rfl⟩
theorem juSum_any (A : Option Addr) (n c B : Nat) (xs : List Int) (w : World) (hr : RInts w B A n xs) (hn : n ≤ 1048576) (hx : ∀ x ∈ xs, -1000000 ≤ x ∧ x ≤ 1000000) :
    Calls Try.prog 59 #[.slice A n c] w fun e w' => e = .returned (.int .i64 (sumI xs)) ∧ w = w' := by
  have HL := Lib.hid hr.len
  have HX := Lib.hid hx; clear hx
  go_enter Try.func59, Try.ntmps59
  go_wp2
  go_loop [3, 8] (fun t i => ∃ (k : Nat) (s : Int), k ≤ n ∧ i = .int .i64 k ∧ t = .int .i64 s ∧ -1000000 * (k : Int) ≤ s ∧ s ≤ 1000000 * k ∧ s + sumI (xs.drop k) = sumI xs) (fun _ i => n - (intOf i).toNat)
  case atStart => exact ⟨0, 0, Nat.zero_le _, rfl, rfl, by omega, by omega, by simp⟩
  case round =>
    obtain ⟨k, s, hk, rfl, rfl, b1, b2, hR⟩ := hrel
    have HR := Lib.hid hR; clear hR
    by_cases hlt : k < n
    · obtain ⟨ad, y, rfl, _, hd, hy, hc⟩ := hr.at_ hlt
      obtain ⟨y1, y2⟩ := HX.out y (List.mem_of_getElem? hy)
      have HD := Lib.hid hd; clear hd hy
      go_wp2
      go_round
      case rel => exact ⟨k + 1, _, by omega, by go_num, rfl, by omega, by omega, by rw [← HR.out, HD.out, sumI]; omega⟩
      case measure => simp [intOf]; omega
    · go_wp2
      go_ret
      exact ⟨ret_int (by rw [← HR.out, List.drop_of_length_le (by have := HL.out; omega)]; simp [sumI]), rfl⟩

/-- The price of minutes of corrections. -/
def corP (h m : Int) : Int := upI (upI m 15 * h) 4
theorem mul_bd {a b A B : Int} (ha : 0 ≤ a) (ha' : a ≤ A) (hb : 0 ≤ b) (hb' : b ≤ B) : 0 ≤ a * b ∧ a * b ≤ A * B :=
  ⟨Int.mul_nonneg ha hb, Int.mul_le_mul ha' hb' hb (by omega)⟩
theorem corP_bd {h m : Int} (hh : 0 ≤ h ∧ h ≤ 100000) (hm : 0 ≤ m ∧ m ≤ 100000) : 0 ≤ corP h m ∧ corP h m ≤ 10000000000 := by
  have u1 := upI_bd (a := m) (b := 15) (by omega) (by omega)
  have u2 := mul_bd (A := 100000) (B := 100000) u1.1 (by omega) hh.1 hh.2
  have u3 := upI_bd (a := upI m 15 * h) (b := 4) (by omega) (by omega)
  unfold corP
  omega
theorem esMinutes_any (a b c d m : Int) (w : World) (hh : 0 ≤ c ∧ c ≤ 100000) (hm : 0 ≤ m ∧ m ≤ 100000) : Calls Try.prog 58 #[.agg #[.int .i64 a, .int .i64 b, .int .i64 c, .int .i64 d], .int .i64 m] w fun x w' => x = .returned (.int .i64 (corP c m)) ∧ Below w.heap.size w w' := by
  have u1 := upI_bd (a := m) (b := 15) (by omega) (by omega)
  have u2 := mul_bd (A := 100000) (B := 100000) hh.1 hh.2 u1.1 (by omega)
  go_enter Try.func58, Try.ntmps58
  go_wp2
  go_quiet ((go_at_call 43; exact Calls.quiet_of_same ((esUp_any _ _ _ (by omega) (by omega) (by omega) (by omega)).mono fun _ _ h => ⟨h.1, h.2.symm⟩)))
  go_wp2
  go_ret
  exact ⟨ret_int (by rw [corP, Int.mul_comm]), below_drewN (by (repeat (first | exact Below.refl _ _ | exact hb | apply Below.drew | (refine Below.alloc ?_ (by first | (simp; done) | (simp; omega) | (have := hb.size; simp at this ⊢; omega)) _) | (refine Below.setCell ?_ (by simp) _)))) _⟩
theorem correctionPrice_any (a b c d m : Int) (w : World) (hh : 0 ≤ c ∧ c ≤ 100000) (hm : 0 ≤ m ∧ m ≤ 100000) : Calls Try.prog 60 #[.agg #[.int .i64 a, .int .i64 b, .int .i64 c, .int .i64 d], .int .i64 m] w fun x w' => x = .returned (.int .i64 (corP c m)) ∧ Below w.heap.size w w' := by
  have u1 := upI_bd (a := m) (b := 15) (by omega) (by omega)
  have u2 := mul_bd (A := 100000) (B := 100000) u1.1 (by omega) hh.1 hh.2
  go_enter Try.func60, Try.ntmps60
  go_wp2
  go_quiet ((go_at_call 46; exact Calls.quiet_of_same ((up_any _ _ _ (by omega) (by omega) (by omega) (by omega)).mono fun _ _ h => ⟨h.1, h.2.symm⟩)))
  go_wp2
  go_ret
  exact ⟨ret_int rfl, below_drewN (by (repeat (first | exact Below.refl _ _ | exact hb | apply Below.drew | (refine Below.alloc ?_ (by first | (simp; done) | (simp; omega) | (have := hb.size; simp at this ⊢; omega)) _) | (refine Below.setCell ?_ (by simp) _)))) _⟩

def maxI (a b : Int) : Int := if b ≤ a then a else b
theorem most_any (a b : Int) (w : World) : Calls Try.prog 73 #[.int .i64 a, .int .i64 b] w fun x w' => x = .returned (.int .i64 (maxI a b)) ∧ w = w' := by
  go_enter Try.func73, Try.ntmps73
  go_wp2
  all_goals go_ret
  all_goals exact ⟨ret_int (by unfold maxI; split <;> omega), rfl⟩
/-- The price of a job. -/
def jobP (a b c d e p m : Int) : Int := maxI d (setP a e + b * p + corP c m)
theorem esPrice_any (a b c d e p m : Int) (w : World) (ha : 0 ≤ a ∧ a ≤ 100000) (hb' : 0 ≤ b ∧ b ≤ 100000) (hc' : 0 ≤ c ∧ c ≤ 100000) (_ : 0 ≤ d ∧ d ≤ 100000) (he : 0 ≤ e ∧ e ≤ 3000000) (hp : 0 ≤ p ∧ p ≤ 10000) (hm : 0 ≤ m ∧ m ≤ 10000) :
    Calls Try.prog 55 #[.agg #[.int .i64 a, .int .i64 b, .int .i64 c, .int .i64 d], .int .i64 e, .int .i64 p, .int .i64 m] w fun x w' => x = .returned (.int .i64 (jobP a b c d e p m)) ∧ Below w.heap.size w w' := by
  have u1 := mul_bd (A := 100000) (B := 10000) hb'.1 hb'.2 hp.1 hp.2
  have u2 := corP_bd hc' (m := m) (by omega)
  have u3 := mul_bd (A := 100000) (B := 3000000) ha.1 ha.2 he.1 he.2
  have u4 := upI_bd (a := a * e) (b := 1000) (by omega) (by omega)
  have u5 : 0 ≤ setP a e ∧ setP a e ≤ 300000000000 := by unfold setP; omega
  clear u3 u4
  go_enter Try.func55, Try.ntmps55
  go_wp2
  go_region_held3 (fun w' => Below ((w.alloc (.cells #[.int .i64 a, .int .i64 b, .int .i64 c, .int .i64 d] 32))).heap.size (w.alloc (.cells #[.int .i64 a, .int .i64 b, .int .i64 c, .int .i64 d] 32)) w' ∧ w'.cell? ⟨w.heap.size, 0, none⟩ = some (.int .i64 a) ∧ w'.cell? ⟨w.heap.size, 1, none⟩ = some (.int .i64 b) ∧ w'.cell? ⟨w.heap.size, 2, none⟩ = some (.int .i64 c) ∧ w'.cell? ⟨w.heap.size, 3, none⟩ = some (.int .i64 d))
    ((first | (refine ⟨Below.drew (Below.refl _ _), ?_, ?_, ?_, ?_⟩ <;> (simp [go_sem]; done)) | (have hh : Below _ _ _ ∧ _ ∧ _ ∧ _ ∧ _ := (by assumption); obtain ⟨hh0, hh1, hh2, hh3, hh4⟩ := hh; exact ⟨hh0.trans (hn.mono hh0.size), (hn.cell (by have := hh0.size; simp at this ⊢; try omega)).trans hh1, (hn.cell (by have := hh0.size; simp at this ⊢; try omega)).trans hh2, (hn.cell (by have := hh0.size; simp at this ⊢; try omega)).trans hh3, (hn.cell (by have := hh0.size; simp at this ⊢; try omega)).trans hh4⟩) | assumption | go_keep))
    (first | (go_at_call 52; refine (esSetting_any _ _ _ _ _ _ (by omega) (by omega)).mono ?_; rintro e1 w1 ⟨rfl, hn⟩) | (go_at_call 58; refine (esMinutes_any _ _ _ _ _ _ (by omega) (by omega)).mono ?_; rintro e1 w1 ⟨rfl, hn⟩) | (go_at_call 73; refine (most_any _ _ _).mono ?_; rintro e1 w1 ⟨rfl, rfl⟩))
  have hh : Below _ _ _ ∧ _ ∧ _ ∧ _ ∧ _ := (by assumption)
  have hb := hh.1
  clear hh
  go_wp2
  go_ret
  exact ⟨ret_int (by rw [wrapI (n := b * p) (by omega) (by omega), wrapI (n := setP a e + b * p) (by omega) (by omega), wrapI (n := setP a e + b * p + corP c m) (by omega) (by omega), jobP]), Below.trans (by (repeat (first | exact Below.refl _ _ | exact hb | apply Below.drew | (refine Below.alloc ?_ (by first | (simp; done) | (simp; omega) | (have := hb.size; simp at this ⊢; omega)) _) | (refine Below.setCell ?_ (by simp) _)))) (hb.mono (by simp))⟩
theorem jobPrice_any (a b c d e p m : Int) (w : World) (ha : 0 ≤ a ∧ a ≤ 100000) (hb' : 0 ≤ b ∧ b ≤ 100000) (hc' : 0 ≤ c ∧ c ≤ 100000) (_ : 0 ≤ d ∧ d ≤ 100000) (he : 0 ≤ e ∧ e ≤ 3000000) (hp : 0 ≤ p ∧ p ≤ 10000) (hm : 0 ≤ m ∧ m ≤ 10000) :
    Calls Try.prog 57 #[.agg #[.int .i64 a, .int .i64 b, .int .i64 c, .int .i64 d], .int .i64 e, .int .i64 p, .int .i64 m] w fun x w' => x = .returned (.int .i64 (jobP a b c d e p m)) ∧ Below w.heap.size w w' := by
  have u1 := mul_bd (A := 10000) (B := 100000) hp.1 hp.2 hb'.1 hb'.2
  have u2 := corP_bd hc' (m := m) (by omega)
  have u3 := mul_bd (A := 100000) (B := 3000000) ha.1 ha.2 he.1 he.2
  have u4 := upI_bd (a := a * e) (b := 1000) (by omega) (by omega)
  have u5 : 0 ≤ setP a e ∧ setP a e ≤ 300000000000 := by unfold setP; omega
  clear u3 u4
  go_enter Try.func57, Try.ntmps57
  go_wp2
  go_region_held3 (fun w' => Below ((w.alloc (.cells #[.int .i64 a, .int .i64 b, .int .i64 c, .int .i64 d] 32))).heap.size (w.alloc (.cells #[.int .i64 a, .int .i64 b, .int .i64 c, .int .i64 d] 32)) w' ∧ w'.cell? ⟨w.heap.size, 0, none⟩ = some (.int .i64 a) ∧ w'.cell? ⟨w.heap.size, 1, none⟩ = some (.int .i64 b) ∧ w'.cell? ⟨w.heap.size, 2, none⟩ = some (.int .i64 c) ∧ w'.cell? ⟨w.heap.size, 3, none⟩ = some (.int .i64 d))
    ((first | (refine ⟨Below.drew (Below.refl _ _), ?_, ?_, ?_, ?_⟩ <;> (simp [go_sem]; done)) | (have hh : Below _ _ _ ∧ _ ∧ _ ∧ _ ∧ _ := (by assumption); obtain ⟨hh0, hh1, hh2, hh3, hh4⟩ := hh; exact ⟨hh0.trans (hn.mono hh0.size), (hn.cell (by have := hh0.size; simp at this ⊢; try omega)).trans hh1, (hn.cell (by have := hh0.size; simp at this ⊢; try omega)).trans hh2, (hn.cell (by have := hh0.size; simp at this ⊢; try omega)).trans hh3, (hn.cell (by have := hh0.size; simp at this ⊢; try omega)).trans hh4⟩) | assumption | go_keep))
    (first | (go_at_call 53; refine (settingPrice_any _ _ _ _ _ _ (by omega) (by omega)).mono ?_; rintro e1 w1 ⟨rfl, hn⟩) | (go_at_call 60; refine (correctionPrice_any _ _ _ _ _ _ (by omega) (by omega)).mono ?_; rintro e1 w1 ⟨rfl, hn⟩))
  have hh : Below _ _ _ ∧ _ ∧ _ ∧ _ ∧ _ := (by assumption)
  have hb := hh.1
  clear hh
  have e1 : IntKind.i64.wrap (IntKind.i64.wrap (setP a e + IntKind.i64.wrap (p * b)) + corP c m) = setP a e + b * p + corP c m := by
    rw [wrapI (n := p * b) (by omega) (by omega), wrapI (n := setP a e + p * b) (by omega) (by omega), wrapI (n := setP a e + p * b + corP c m) (by omega) (by omega), Int.mul_comm p b]
  have E := Lib.hid e1; clear e1
  go_wp2
  all_goals go_ret
  all_goals
    refine ⟨ret_int ?_, Below.trans (by (repeat (first | exact Below.refl _ _ | exact hb | apply Below.drew | (refine Below.alloc ?_ (by first | (simp; done) | (simp; omega) | (have := hb.size; simp at this ⊢; omega)) _) | (refine Below.setCell ?_ (by simp) _)))) (hb.mono (by simp))⟩
    have e := E.out
    simp only [e] at *
    unfold jobP maxI
    split <;> first | rfl | omega

def jobG (a b c d e p m : Int) : Bool := tarB a b c d && (inB e 0 3000000 && (inB p 0 10000 && inB m 0 10000))
def pj (a b c d e p m : Int) : Int × Bool := if jobG a b c d e p m then (jobP a b c d e p m, true) else (0, false)
def ejB (e p m : Int) : Bool := inB e 0 3000000 && (inB p 0 10000 && inB m 0 10000)
theorem esJob_any (e p m : Int) (w : World) : Calls Try.prog 54 #[.int .i64 e, .int .i64 p, .int .i64 m] w fun x w' => x = .returned (.bool (ejB e p m)) ∧ w = w' := by
  go_enter Try.func54, Try.ntmps54
  go_wp2_with (first | (go_at_call 42; refine (in_any _ _ _ _).mono ?_; rintro e1 w1 ⟨rfl, rfl⟩) | (go_at_call 47; refine (esEns_any _ _).mono ?_; rintro e1 w1 ⟨rfl, rfl⟩))
  all_goals go_ret
  all_goals exact ⟨ret_bool (by simp_all [ejB]), rfl⟩
theorem ejB_true {e p m : Int} (h : ejB e p m = true) : (0 ≤ e ∧ e ≤ 3000000) ∧ (0 ≤ p ∧ p ≤ 10000) ∧ (0 ≤ m ∧ m ≤ 10000) := by simpa [ejB, inB_true] using h
theorem pj_spec (a b c d e p m : Int) (w : World) : Calls Try.prog 26 #[.agg #[.int .i64 a, .int .i64 b, .int .i64 c, .int .i64 d], .int .i64 e, .int .i64 p, .int .i64 m] w fun x w' => x = .returned (.tuple #[.int .i64 (pj a b c d e p m).1, .bool (pj a b c d e p m).2]) ∧ Below w.heap.size w w' := by
  have hc : True := trivial; have hf : True := trivial; have hb := Below.refl (w.alloc (.cells #[.int .i64 a, .int .i64 b, .int .i64 c, .int .i64 d] 32)).heap.size (w.alloc (.cells #[.int .i64 a, .int .i64 b, .int .i64 c, .int .i64 d] 32))
  cases h1 : tarB a b c d
  · cases h2 : ejB e p m
    · have h2' := h2; unfold ejB at h2'; (go_enter Try.func26, Try.ntmps26; go_wp2_with (first | (go_at_call 50; refine (esTariff_any _ _ _ _ _).mono ?_; rintro e1 w1 ⟨rfl, hn⟩; replace hb := hb.trans (hn.mono hb.size); clear hc hf hn; obtain ⟨hc, hf⟩ := bcell hb) | (go_at_call 54; refine (esJob_any _ _ _ _).mono ?_; rintro e1 w1 ⟨rfl, rfl⟩) | (go_at_call 55; refine (esPrice_any _ _ _ _ _ _ _ _ (by omega) (by omega) (by omega) (by omega) (by omega) (by omega) (by omega)).mono ?_; rintro e1 w1 ⟨rfl, hn⟩; replace hb := hb.trans (hn.mono hb.size); clear hc hf hn; obtain ⟨hc, hf⟩ := bcell hb)); go_ret2; exact ⟨by simp [pj, jobG, h1, h2'], Below.trans (by (repeat (first | exact Below.refl _ _ | exact hb | apply Below.drew | (refine Below.alloc ?_ (by first | (simp; done) | (simp; omega) | (have := hb.size; simp at this ⊢; omega)) _) | (refine Below.setCell ?_ (by simp) _)))) (hb.mono (by simp))⟩)
    · have h2' := h2; unfold ejB at h2'; (go_enter Try.func26, Try.ntmps26; go_wp2_with (first | (go_at_call 50; refine (esTariff_any _ _ _ _ _).mono ?_; rintro e1 w1 ⟨rfl, hn⟩; replace hb := hb.trans (hn.mono hb.size); clear hc hf hn; obtain ⟨hc, hf⟩ := bcell hb) | (go_at_call 54; refine (esJob_any _ _ _ _).mono ?_; rintro e1 w1 ⟨rfl, rfl⟩) | (go_at_call 55; refine (esPrice_any _ _ _ _ _ _ _ _ (by omega) (by omega) (by omega) (by omega) (by omega) (by omega) (by omega)).mono ?_; rintro e1 w1 ⟨rfl, hn⟩; replace hb := hb.trans (hn.mono hb.size); clear hc hf hn; obtain ⟨hc, hf⟩ := bcell hb)); go_ret2; exact ⟨by simp [pj, jobG, h1, h2'], Below.trans (by (repeat (first | exact Below.refl _ _ | exact hb | apply Below.drew | (refine Below.alloc ?_ (by first | (simp; done) | (simp; omega) | (have := hb.size; simp at this ⊢; omega)) _) | (refine Below.setCell ?_ (by simp) _)))) (hb.mono (by simp))⟩)
  cases h2 : ejB e p m
  · have h2' := h2; unfold ejB at h2'; (go_enter Try.func26, Try.ntmps26; go_wp2_with (first | (go_at_call 50; refine (esTariff_any _ _ _ _ _).mono ?_; rintro e1 w1 ⟨rfl, hn⟩; replace hb := hb.trans (hn.mono hb.size); clear hc hf hn; obtain ⟨hc, hf⟩ := bcell hb) | (go_at_call 54; refine (esJob_any _ _ _ _).mono ?_; rintro e1 w1 ⟨rfl, rfl⟩) | (go_at_call 55; refine (esPrice_any _ _ _ _ _ _ _ _ (by omega) (by omega) (by omega) (by omega) (by omega) (by omega) (by omega)).mono ?_; rintro e1 w1 ⟨rfl, hn⟩; replace hb := hb.trans (hn.mono hb.size); clear hc hf hn; obtain ⟨hc, hf⟩ := bcell hb)); go_ret2; exact ⟨by simp [pj, jobG, h1, h2'], Below.trans (by (repeat (first | exact Below.refl _ _ | exact hb | apply Below.drew | (refine Below.alloc ?_ (by first | (simp; done) | (simp; omega) | (have := hb.size; simp at this ⊢; omega)) _) | (refine Below.setCell ?_ (by simp) _)))) (hb.mono (by simp))⟩)
  have h2' := h2
  unfold ejB at h2'
  obtain ⟨t1, t2, t3, t4⟩ := tarB_true h1
  obtain ⟨t5, t6, t7⟩ := ejB_true h2
  (go_enter Try.func26, Try.ntmps26; go_wp2_with (first | (go_at_call 50; refine (esTariff_any _ _ _ _ _).mono ?_; rintro e1 w1 ⟨rfl, hn⟩; replace hb := hb.trans (hn.mono hb.size); clear hc hf hn; obtain ⟨hc, hf⟩ := bcell hb) | (go_at_call 54; refine (esJob_any _ _ _ _).mono ?_; rintro e1 w1 ⟨rfl, rfl⟩) | (go_at_call 55; refine (esPrice_any _ _ _ _ _ _ _ _ (by omega) (by omega) (by omega) (by omega) (by omega) (by omega) (by omega)).mono ?_; rintro e1 w1 ⟨rfl, hn⟩; replace hb := hb.trans (hn.mono hb.size); clear hc hf hn; obtain ⟨hc, hf⟩ := bcell hb)); go_ret2; exact ⟨by simp [pj, jobG, h1, h2'], Below.trans (by (repeat (first | exact Below.refl _ _ | exact hb | apply Below.drew | (refine Below.alloc ?_ (by first | (simp; done) | (simp; omega) | (have := hb.size; simp at this ⊢; omega)) _) | (refine Below.setCell ?_ (by simp) _)))) (hb.mono (by simp))⟩)
theorem pj_impl (a b c d e p m : Int) (w : World) : Calls Try.prog 27 #[.agg #[.int .i64 a, .int .i64 b, .int .i64 c, .int .i64 d], .int .i64 e, .int .i64 p, .int .i64 m] w fun x w' => x = .returned (.tuple #[.int .i64 (pj a b c d e p m).1, .bool (pj a b c d e p m).2]) ∧ Below w.heap.size w w' := by
  have hc : True := trivial; have hf : True := trivial; have hb := Below.refl (w.alloc (.cells #[.int .i64 a, .int .i64 b, .int .i64 c, .int .i64 d] 32)).heap.size (w.alloc (.cells #[.int .i64 a, .int .i64 b, .int .i64 c, .int .i64 d] 32))
  cases h1 : tarB a b c d
  · cases h2 : inB e 0 3000000 <;> cases h3 : inB p 0 10000 <;> cases h4 : inB m 0 10000 <;> (go_enter Try.func27, Try.ntmps27; go_wp2_with (first | (go_at_call 21; refine (isTariff_any _ _ _ _ _).mono ?_; rintro e1 w1 ⟨rfl, hn⟩; replace hb := hb.trans (hn.mono hb.size); clear hc hf hn; obtain ⟨hc, hf⟩ := bcell hb) | (go_at_call 48; refine (isEns_any _ _).mono ?_; rintro e1 w1 ⟨rfl, rfl⟩) | (go_at_call 56; refine (isJobSize_any _ _).mono ?_; rintro e1 w1 ⟨rfl, rfl⟩) | (go_at_call 57; refine (jobPrice_any _ _ _ _ _ _ _ _ (by omega) (by omega) (by omega) (by omega) (by omega) (by omega) (by omega)).mono ?_; rintro e1 w1 ⟨rfl, hn⟩; replace hb := hb.trans (hn.mono hb.size); clear hc hf hn; obtain ⟨hc, hf⟩ := bcell hb)); go_ret2; exact ⟨by simp [pj, jobG, h1, h2, h3, h4], Below.trans (by (repeat (first | exact Below.refl _ _ | exact hb | apply Below.drew | (refine Below.alloc ?_ (by first | (simp; done) | (simp; omega) | (have := hb.size; simp at this ⊢; omega)) _) | (refine Below.setCell ?_ (by simp) _)))) (hb.mono (by simp))⟩)
  cases h2 : inB e 0 3000000
  · cases h3 : inB p 0 10000 <;> cases h4 : inB m 0 10000 <;> (go_enter Try.func27, Try.ntmps27; go_wp2_with (first | (go_at_call 21; refine (isTariff_any _ _ _ _ _).mono ?_; rintro e1 w1 ⟨rfl, hn⟩; replace hb := hb.trans (hn.mono hb.size); clear hc hf hn; obtain ⟨hc, hf⟩ := bcell hb) | (go_at_call 48; refine (isEns_any _ _).mono ?_; rintro e1 w1 ⟨rfl, rfl⟩) | (go_at_call 56; refine (isJobSize_any _ _).mono ?_; rintro e1 w1 ⟨rfl, rfl⟩) | (go_at_call 57; refine (jobPrice_any _ _ _ _ _ _ _ _ (by omega) (by omega) (by omega) (by omega) (by omega) (by omega) (by omega)).mono ?_; rintro e1 w1 ⟨rfl, hn⟩; replace hb := hb.trans (hn.mono hb.size); clear hc hf hn; obtain ⟨hc, hf⟩ := bcell hb)); go_ret2; exact ⟨by simp [pj, jobG, h1, h2, h3, h4], Below.trans (by (repeat (first | exact Below.refl _ _ | exact hb | apply Below.drew | (refine Below.alloc ?_ (by first | (simp; done) | (simp; omega) | (have := hb.size; simp at this ⊢; omega)) _) | (refine Below.setCell ?_ (by simp) _)))) (hb.mono (by simp))⟩)
  cases h3 : inB p 0 10000
  · cases h4 : inB m 0 10000 <;> (go_enter Try.func27, Try.ntmps27; go_wp2_with (first | (go_at_call 21; refine (isTariff_any _ _ _ _ _).mono ?_; rintro e1 w1 ⟨rfl, hn⟩; replace hb := hb.trans (hn.mono hb.size); clear hc hf hn; obtain ⟨hc, hf⟩ := bcell hb) | (go_at_call 48; refine (isEns_any _ _).mono ?_; rintro e1 w1 ⟨rfl, rfl⟩) | (go_at_call 56; refine (isJobSize_any _ _).mono ?_; rintro e1 w1 ⟨rfl, rfl⟩) | (go_at_call 57; refine (jobPrice_any _ _ _ _ _ _ _ _ (by omega) (by omega) (by omega) (by omega) (by omega) (by omega) (by omega)).mono ?_; rintro e1 w1 ⟨rfl, hn⟩; replace hb := hb.trans (hn.mono hb.size); clear hc hf hn; obtain ⟨hc, hf⟩ := bcell hb)); go_ret2; exact ⟨by simp [pj, jobG, h1, h2, h3, h4], Below.trans (by (repeat (first | exact Below.refl _ _ | exact hb | apply Below.drew | (refine Below.alloc ?_ (by first | (simp; done) | (simp; omega) | (have := hb.size; simp at this ⊢; omega)) _) | (refine Below.setCell ?_ (by simp) _)))) (hb.mono (by simp))⟩)
  cases h4 : inB m 0 10000
  · (go_enter Try.func27, Try.ntmps27; go_wp2_with (first | (go_at_call 21; refine (isTariff_any _ _ _ _ _).mono ?_; rintro e1 w1 ⟨rfl, hn⟩; replace hb := hb.trans (hn.mono hb.size); clear hc hf hn; obtain ⟨hc, hf⟩ := bcell hb) | (go_at_call 48; refine (isEns_any _ _).mono ?_; rintro e1 w1 ⟨rfl, rfl⟩) | (go_at_call 56; refine (isJobSize_any _ _).mono ?_; rintro e1 w1 ⟨rfl, rfl⟩) | (go_at_call 57; refine (jobPrice_any _ _ _ _ _ _ _ _ (by omega) (by omega) (by omega) (by omega) (by omega) (by omega) (by omega)).mono ?_; rintro e1 w1 ⟨rfl, hn⟩; replace hb := hb.trans (hn.mono hb.size); clear hc hf hn; obtain ⟨hc, hf⟩ := bcell hb)); go_ret2; exact ⟨by simp [pj, jobG, h1, h2, h3, h4], Below.trans (by (repeat (first | exact Below.refl _ _ | exact hb | apply Below.drew | (refine Below.alloc ?_ (by first | (simp; done) | (simp; omega) | (have := hb.size; simp at this ⊢; omega)) _) | (refine Below.setCell ?_ (by simp) _)))) (hb.mono (by simp))⟩)
  obtain ⟨t1, t2, t3, t4⟩ := tarB_true h1
  have t5 := inB_true.1 h2
  have t6 := inB_true.1 h3
  have t7 := inB_true.1 h4
  (go_enter Try.func27, Try.ntmps27; go_wp2_with (first | (go_at_call 21; refine (isTariff_any _ _ _ _ _).mono ?_; rintro e1 w1 ⟨rfl, hn⟩; replace hb := hb.trans (hn.mono hb.size); clear hc hf hn; obtain ⟨hc, hf⟩ := bcell hb) | (go_at_call 48; refine (isEns_any _ _).mono ?_; rintro e1 w1 ⟨rfl, rfl⟩) | (go_at_call 56; refine (isJobSize_any _ _).mono ?_; rintro e1 w1 ⟨rfl, rfl⟩) | (go_at_call 57; refine (jobPrice_any _ _ _ _ _ _ _ _ (by omega) (by omega) (by omega) (by omega) (by omega) (by omega) (by omega)).mono ?_; rintro e1 w1 ⟨rfl, hn⟩; replace hb := hb.trans (hn.mono hb.size); clear hc hf hn; obtain ⟨hc, hf⟩ := bcell hb)); go_ret2; exact ⟨by simp [pj, jobG, h1, h2, h3, h4], Below.trans (by (repeat (first | exact Below.refl _ _ | exact hb | apply Below.drew | (refine Below.alloc ?_ (by first | (simp; done) | (simp; omega) | (have := hb.size; simp at this ⊢; omega)) _) | (refine Below.setCell ?_ (by simp) _)))) (hb.mono (by simp))⟩)
end Go.Proofs.Ytggdpmipfhfegaa
