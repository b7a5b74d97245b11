/-
  Contracts of RegisterShift: the reference's and the program's walks.
-/
import Derived.Test.YtanpiipmoedfnaaCol8
import Derived.Test.YtanpiipmoedfnaaOwn
namespace Go.Proofs.Ytanpiipmoedfnaa
open Go.RowKit
theorem allB_mem {lo hi : Int} {xs : List Int} (h : allB lo hi xs = true) : ∀ x ∈ xs, lo ≤ x ∧ x ≤ hi := by
  induction xs with
  | nil => simp
  | cons y r ih =>
    simp only [allB, Bool.and_eq_true] at h
    intro x hx
    rcases List.mem_cons.1 hx with rfl | hx
    · exact inB_true.1 h.1
    · exact ih h.2 x hx
theorem stepS_bd {bl re : List Int} {b s B : Int} (hb : -B ≤ b ∧ b ≤ B) (hs : -B ≤ s ∧ s ≤ B) : -B ≤ stepS bl re b s ∧ stepS bl re b s ≤ B := by unfold stepS; split <;> assumption
theorem rsL_succ {bl re : List Int} {m n best : Int} (h : n ≤ m) : rsL bl re (m + 1 - n).toNat n best = rsL bl re (m + 1 - (n + 1)).toNat (n + 1) (stepS bl re (stepS bl re best (-n)) n) := by
  rw [show (m + 1 - n).toNat = (m + 1 - (n + 1)).toNat + 1 by omega]
  rfl
theorem rsL_zero {bl re : List Int} {m n best : Int} (h : ¬ n ≤ m) : rsL bl re (m + 1 - n).toNat n best = best := by
  rw [show (m + 1 - n).toNat = 0 by omega]
  rfl
set_option maxHeartbeats 1000000 in
theorem registerShift_spec {A B : Option Addr} {n c m d : Nat} {bl re : List Int} {most : Int} {w : World} (hr : RInts w w.heap.size A n bl) (hn0 : n ≤ 1048576) (hs : RInts w w.heap.size B m re) (hm0 : m ≤ 1048576) (hk0 : -9223372036854775808 ≤ most ∧ most ≤ 9223372036854775807) :
    Calls Try.prog 22 #[.slice A n c, .slice B m d, .int .i64 most] w fun e w' => e = .returned (.tuple #[.int .i64 (rsV bl re most), .bool (rsG bl re most)]) ∧ Below w.heap.size w w' := by
  have HL := Lib.hid hr.len
  have HM := Lib.hid hs.len
  cases h1 : inB (n : Int) 1 8
  · (go_enter Try.func22, Try.ntmps22; go_wp2_with (first | (go_at_call 46; refine (in_any _ _ _ _).mono ?_; rintro e1 w1 ⟨rfl, rfl⟩) | (go_at_call 47; refine (all_any _ _ _ _ _ _ _ _ (by assumption) (by omega)).mono ?_; rintro e1 w1 ⟨rfl, rfl⟩)))
    go_ret2; exact ⟨by simp [rsV, rsG, HL.out, HM.out, h1], Below.refl _ _⟩
  by_cases hq : m = n
  · subst hq
    have e1 : ((m : Int) != (m : Int)) = false := by simp
    cases h3 : allB 0 1000 bl
    · (go_enter Try.func22, Try.ntmps22; go_wp2_with (first | (go_at_call 46; refine (in_any _ _ _ _).mono ?_; rintro e1 w1 ⟨rfl, rfl⟩) | (go_at_call 47; refine (all_any _ _ _ _ _ _ _ _ (by assumption) (by omega)).mono ?_; rintro e1 w1 ⟨rfl, rfl⟩)))
      go_ret2; exact ⟨by simp [rsV, rsG, HL.out, HM.out, h3], Below.refl _ _⟩
    cases h4 : allB 0 1000 re
    · (go_enter Try.func22, Try.ntmps22; go_wp2_with (first | (go_at_call 46; refine (in_any _ _ _ _).mono ?_; rintro e1 w1 ⟨rfl, rfl⟩) | (go_at_call 47; refine (all_any _ _ _ _ _ _ _ _ (by assumption) (by omega)).mono ?_; rintro e1 w1 ⟨rfl, rfl⟩)))
      go_ret2; exact ⟨by simp [rsV, rsG, HL.out, HM.out, h4], Below.refl _ _⟩
    cases h5 : inB most 0 20
    · (go_enter Try.func22, Try.ntmps22; go_wp2_with (first | (go_at_call 46; refine (in_any _ _ _ _).mono ?_; rintro e1 w1 ⟨rfl, rfl⟩) | (go_at_call 47; refine (all_any _ _ _ _ _ _ _ _ (by assumption) (by omega)).mono ?_; rintro e1 w1 ⟨rfl, rfl⟩)))
      go_ret2; exact ⟨by simp [rsV, rsG, HL.out, HM.out, h5], Below.refl _ _⟩
    have f1 := inB_true.1 h1
    have f5 := inB_true.1 h5
    have HG := Lib.hid (show rsG bl re most = true by simp [rsG, HL.out, HM.out, h1, h3, h4, h5])
    have HX := Lib.hid (allB_mem h3)
    have HY := Lib.hid (allB_mem h4)
    (go_enter Try.func22, Try.ntmps22; go_wp2_with (first | (go_at_call 46; refine (in_any _ _ _ _).mono ?_; rintro e1 w1 ⟨rfl, rfl⟩) | (go_at_call 47; refine (all_any _ _ _ _ _ _ _ _ (by assumption) (by omega)).mono ?_; rintro e1 w1 ⟨rfl, rfl⟩)))
    clear h1 h3 h4 h5 e1
    go_loopw [8, 9] (fun v u wr => ∃ best k : Int, v = .int .i64 best ∧ u = .int .i64 k ∧ 1 ≤ k ∧ k ≤ most + 1 ∧ (-20 ≤ best ∧ best ≤ 20) ∧ rsL bl re (most + 1 - k).toNat k best = rsL bl re most.toNat 1 0 ∧ Below w.heap.size w wr) (fun _ u _ => (most + 1 - intOf u).toNat)
    case atStart => exact ⟨0, 1, rfl, rfl, by omega, by omega, by omega, by congr 1; omega, Below.refl _ _⟩
    case round =>
      obtain ⟨best, k, rfl, rfl, k1, k2, bb, hR, hb⟩ := hrel
      by_cases hlt : k ≤ most
      · have HR := Lib.hid (show rsL bl re (most + 1 - (k + 1)).toNat (k + 1) (stepS bl re (stepS bl re best (-k)) k) = rsL bl re most.toNat 1 0 by rw [← hR, rsL_succ hlt])
        clear hR
        have hr2 := ((RInts.below hr hb).alloc hb.size (.cells #[.int .i64 (-k), .int .i64 k] 3)).more (B' := (wr.alloc (.cells #[.int .i64 (-k), .int .i64 k] 3)).heap.size) (by have := hb.size; simp; omega)
        have hs2 := ((RInts.below hs hb).alloc hb.size (.cells #[.int .i64 (-k), .int .i64 k] 3)).more (B' := (wr.alloc (.cells #[.int .i64 (-k), .int .i64 k] 3)).heap.size) (by have := hb.size; simp; omega)
        replace hb := hb.alloc hb.size (.cells #[.int .i64 (-k), .int .i64 k] 3)
        go_wp2_with fail
        obtain ⟨wo, rfl⟩ : ∃ wo : World, wo = wr := ⟨_, rfl⟩
        go_loop [8, 48] (fun v u => ∃ bq j : Int, v = .int .i64 bq ∧ u = .int .i64 j ∧ (-20 ≤ bq ∧ bq ≤ 20) ∧ ((j = 0 ∧ bq = best) ∨ (j = 1 ∧ bq = stepS bl re best (-k)) ∨ (j = 2 ∧ bq = stepS bl re (stepS bl re best (-k)) k))) (fun _ u => (2 - intOf u).toNat)
        case atStart => exact ⟨best, 0, rfl, rfl, bb, .inl ⟨rfl, rfl⟩⟩
        case round =>
          obtain ⟨bq, j, rfl, rfl, bq1, hj⟩ := hrel
          have s1 := stepS_bd (bl := bl) (re := re) (B := 20) bb (s := -k) (by omega)
          have s2 := stepS_bd (bl := bl) (re := re) (B := 20) s1 (s := k) (by omega)
          rcases hj with ⟨rfl, rfl⟩ | ⟨rfl, hj⟩ | ⟨rfl, hj⟩
          · by_cases hc : apart bl re (-k) < apart bl re bq
            · have HS := Lib.hid (show -k = stepS bl re bq (-k) by rw [stepS, if_pos hc])
              go_wp2_with (go_at_call 48; refine (coApart_any _ _ _ _ _ bl re _ _ hr2 hs2 (by omega) HX.out HY.out (by omega)).mono ?_; rintro e1 w1 ⟨rfl, rfl⟩)
              go_round
              case rel => exact ⟨_, 1, rfl, rfl, by omega, .inr (.inl ⟨rfl, HS.out⟩)⟩
              case measure => simp [intOf]
            · have HS := Lib.hid (show bq = stepS bl re bq (-k) by rw [stepS, if_neg hc])
              go_wp2_with (go_at_call 48; refine (coApart_any _ _ _ _ _ bl re _ _ hr2 hs2 (by omega) HX.out HY.out (by omega)).mono ?_; rintro e1 w1 ⟨rfl, rfl⟩)
              go_round
              case rel => exact ⟨_, 1, rfl, rfl, by omega, .inr (.inl ⟨rfl, HS.out⟩)⟩
              case measure => simp [intOf]
          · have HJ := Lib.hid hj; clear hj
            by_cases hc : apart bl re k < apart bl re bq
            · have HS := Lib.hid (show k = stepS bl re (stepS bl re best (-k)) k by rw [← HJ.out, stepS, if_pos hc])
              go_wp2_with (go_at_call 48; refine (coApart_any _ _ _ _ _ bl re _ _ hr2 hs2 (by omega) HX.out HY.out (by omega)).mono ?_; rintro e1 w1 ⟨rfl, rfl⟩)
              go_round
              case rel => exact ⟨_, 2, rfl, rfl, by omega, .inr (.inr ⟨rfl, HS.out⟩)⟩
              case measure => simp [intOf]
            · have HS := Lib.hid (show bq = stepS bl re (stepS bl re best (-k)) k by rw [← HJ.out]; conv => rhs; rw [stepS, if_neg hc])
              go_wp2_with (go_at_call 48; refine (coApart_any _ _ _ _ _ bl re _ _ hr2 hs2 (by omega) HX.out HY.out (by omega)).mono ?_; rintro e1 w1 ⟨rfl, rfl⟩)
              go_round
              case rel => exact ⟨_, 2, rfl, rfl, by omega, .inr (.inr ⟨rfl, HS.out⟩)⟩
              case measure => simp [intOf]
          · have HJ := Lib.hid hj; clear hj
            go_wp2_with fail
            go_roundw
            case rel => exact ⟨bq, k + 1, rfl, rfl, by omega, by omega, by omega, by rw [HJ.out]; exact HR.out, hb⟩
            case measure => simp [intOf]; omega
      · have HB := Lib.hid (show best = rsV bl re most by rw [rsV, if_pos HG.out, ← hR, rsL_zero hlt])
        clear hR
        go_wp2_with fail
        go_ret2
        exact ⟨by rw [← HB.out, HG.out]; rfl, hb⟩
  · have e1 : ((m : Int) != (n : Int)) = true := by rw [bne_iff_ne]; omega
    have HQ := Lib.hid hq; clear hq
    (go_enter Try.func22, Try.ntmps22; go_wp2_with (first | (go_at_call 46; refine (in_any _ _ _ _).mono ?_; rintro e1 w1 ⟨rfl, rfl⟩) | (go_at_call 47; refine (all_any _ _ _ _ _ _ _ _ (by assumption) (by omega)).mono ?_; rintro e1 w1 ⟨rfl, rfl⟩)))
    go_ret2; exact ⟨by simp [rsV, rsG, HL.out, HM.out, HQ.out], Below.refl _ _⟩
theorem apart_nonneg : ∀ {bl re : List Int} {sh : Int}, 0 ≤ apart bl re sh
  | [], _, _ => by simp [apart]
  | _ :: _, [], _ => by simp [apart]
  | a :: r, d :: t, sh => by
    have := apart_nonneg (bl := r) (re := t) (sh := sh)
    have : 0 ≤ absI (a - d - sh) := by unfold absI; split <;> omega
    simp only [apart]
    omega
def stepI (bl re : List Int) (p : Int × Int) (sh : Int) : Int × Int := if p.2 < 0 ∨ apart bl re sh < p.2 then (sh, apart bl re sh) else p
def rsI (bl re : List Int) : Nat → Int → Int × Int → Int × Int
  | 0, _, p => p
  | f + 1, n, p => rsI bl re f (n + 1) (stepI bl re (stepI bl re p (-n)) n)
theorem stepI_of {bl re : List Int} {b sh : Int} : stepI bl re (b, apart bl re b) sh = (stepS bl re b sh, apart bl re (stepS bl re b sh)) := by
  have h := apart_nonneg (bl := bl) (re := re) (sh := b)
  unfold stepI stepS
  by_cases hc : apart bl re sh < apart bl re b
  · rw [if_pos (.inr hc), if_pos hc]
  · rw [if_neg (by simp only []; omega), if_neg hc]
theorem rsI_of {bl re : List Int} : ∀ (f : Nat) (n b : Int), rsI bl re f n (b, apart bl re b) = (rsL bl re f n b, apart bl re (rsL bl re f n b))
  | 0, _, _ => rfl
  | f + 1, n, b => by rw [rsI, stepI_of, stepI_of, rsI_of f]; rfl
theorem rsI_start {bl re : List Int} {m : Int} (h : 0 ≤ m) : (rsI bl re (m + 1).toNat 0 (0, -1)).1 = rsL bl re m.toNat 1 0 := by
  rw [show (m + 1).toNat = m.toNat + 1 by omega, rsI]
  have e : stepI bl re (stepI bl re (0, -1) (-0)) 0 = (0, apart bl re 0) := by
    have h0 := apart_nonneg (bl := bl) (re := re) (sh := 0)
    rw [show (-0 : Int) = 0 by omega]
    have e1 : stepI bl re (0, -1) 0 = (0, apart bl re 0) := by unfold stepI; rw [if_pos (.inl (by simp))]
    rw [e1, stepI, if_neg (by simp only []; omega)]
  rw [e, show (0 : Int) + 1 = 1 by rfl, rsI_of]
theorem rsI_succ {bl re : List Int} {m n : Int} {p : Int × Int} (h : n ≤ m) : rsI bl re (m + 1 - n).toNat n p = rsI bl re (m + 1 - (n + 1)).toNat (n + 1) (stepI bl re (stepI bl re p (-n)) n) := by
  rw [show (m + 1 - n).toNat = (m + 1 - (n + 1)).toNat + 1 by omega]
  rfl
theorem rsI_zero {bl re : List Int} {m n : Int} {p : Int × Int} (h : ¬ n ≤ m) : rsI bl re (m + 1 - n).toNat n p = p := by
  rw [show (m + 1 - n).toNat = 0 by omega]
  rfl
theorem drop_end {α : Type _} {xs : List α} {n k : Nat} (hl : xs.length = n) (h : ¬ k < n) : xs.drop k = [] := List.drop_of_length_le (by omega)
set_option maxHeartbeats 4000000 in
theorem registerShift_impl {A B : Option Addr} {n c m d : Nat} {bl re : List Int} {most : Int} {w : World} (hr : RInts w w.heap.size A n bl) (hn0 : n ≤ 1048576) (hs : RInts w w.heap.size B m re) (hm0 : m ≤ 1048576) (hk0 : -9223372036854775808 ≤ most ∧ most ≤ 9223372036854775807) :
    Calls Try.prog 24 #[.slice A n c, .slice B m d, .int .i64 most] w fun e w' => e = .returned (.tuple #[.int .i64 (rsV bl re most), .bool (rsG bl re most)]) ∧ Below w.heap.size w w' := by
  have HL := Lib.hid hr.len
  have HM := Lib.hid hs.len
  cases h3 : allB 0 1000 bl
  · (go_enter Try.func24, Try.ntmps24; go_wp2_with (first | (go_at_call 50; refine (within_any _ _ _ _).mono ?_; rintro e1 w1 ⟨rfl, rfl⟩) | (go_at_call 49; refine (marks_any _ _ _ _ _ _ (by assumption) (by omega)).mono ?_; rintro e1 w1 ⟨rfl, rfl⟩)))
    go_ret2; exact ⟨by simp [rsV, rsG, HL.out, HM.out, h3], Below.refl _ _⟩
  cases h1 : inB (n : Int) 1 8
  · (go_enter Try.func24, Try.ntmps24; go_wp2_with (first | (go_at_call 50; refine (within_any _ _ _ _).mono ?_; rintro e1 w1 ⟨rfl, rfl⟩) | (go_at_call 49; refine (marks_any _ _ _ _ _ _ (by assumption) (by omega)).mono ?_; rintro e1 w1 ⟨rfl, rfl⟩)))
    go_ret2; exact ⟨by simp [rsV, rsG, HL.out, HM.out, h1], Below.refl _ _⟩
  cases h4 : allB 0 1000 re
  · (go_enter Try.func24, Try.ntmps24; go_wp2_with (first | (go_at_call 50; refine (within_any _ _ _ _).mono ?_; rintro e1 w1 ⟨rfl, rfl⟩) | (go_at_call 49; refine (marks_any _ _ _ _ _ _ (by assumption) (by omega)).mono ?_; rintro e1 w1 ⟨rfl, rfl⟩)))
    go_ret2; exact ⟨by simp [rsV, rsG, HL.out, HM.out, h4], Below.refl _ _⟩
  by_cases hq : n = m
  · have hq1 : m = n := hq.symm
    clear hq
    subst hq1
    have e1 : ((m : Int) != (m : Int)) = false := by simp
    cases h5 : inB most 0 20
    · (go_enter Try.func24, Try.ntmps24; go_wp2_with (first | (go_at_call 50; refine (within_any _ _ _ _).mono ?_; rintro e1 w1 ⟨rfl, rfl⟩) | (go_at_call 49; refine (marks_any _ _ _ _ _ _ (by assumption) (by omega)).mono ?_; rintro e1 w1 ⟨rfl, rfl⟩)))
      go_ret2; exact ⟨by simp [rsV, rsG, HL.out, HM.out, h5], Below.refl _ _⟩
    have f1 := inB_true.1 h1
    have f5 := inB_true.1 h5
    have HG := Lib.hid (show rsG bl re most = true by simp [rsG, HL.out, HM.out, h1, h3, h4, h5])
    have HX := Lib.hid (allB_mem h3)
    have HY := Lib.hid (allB_mem h4)
    (go_enter Try.func24, Try.ntmps24; go_wp2_with (first | (go_at_call 50; refine (within_any _ _ _ _).mono ?_; rintro e1 w1 ⟨rfl, rfl⟩) | (go_at_call 49; refine (marks_any _ _ _ _ _ _ (by assumption) (by omega)).mono ?_; rintro e1 w1 ⟨rfl, rfl⟩)))
    clear h1 h3 h4 h5 e1
    go_loopw [8, 9, 10] (fun v l u wr => ∃ b l0 k : Int, v = .int .i64 b ∧ l = .int .i64 l0 ∧ u = .int .i64 k ∧ 0 ≤ k ∧ k ≤ most + 1 ∧ (-20 ≤ b ∧ b ≤ 20) ∧ (-1 ≤ l0 ∧ l0 ≤ 16000) ∧ rsI bl re (most + 1 - k).toNat k (b, l0) = rsI bl re (most + 1).toNat 0 (0, -1) ∧ Below w.heap.size w wr) (fun _ _ u _ => (most + 1 - intOf u).toNat)
    case atStart => exact ⟨0, -1, 0, rfl, rfl, rfl, by omega, by omega, by omega, by omega, by rw [show (most + 1 - 0).toNat = (most + 1).toNat by omega], Below.refl _ _⟩
    case round =>
      obtain ⟨b0, l0, k, rfl, rfl, rfl, k1, k2, bb, ll, hR, hb⟩ := hrel
      by_cases hlt : k ≤ most
      · have HR := Lib.hid (show rsI bl re (most + 1 - (k + 1)).toNat (k + 1) (stepI bl re (stepI bl re (b0, l0) (-k)) k) = rsI bl re (most + 1).toNat 0 (0, -1) by rw [← hR, rsI_succ hlt])
        clear hR
        have hr2 := ((RInts.below hr hb).alloc hb.size (.cells #[.int .i64 (-k), .int .i64 k] 3)).more (B' := (wr.alloc (.cells #[.int .i64 (-k), .int .i64 k] 3)).heap.size) (by have := hb.size; simp; omega)
        have hs2 := ((RInts.below hs hb).alloc hb.size (.cells #[.int .i64 (-k), .int .i64 k] 3)).more (B' := (wr.alloc (.cells #[.int .i64 (-k), .int .i64 k] 3)).heap.size) (by have := hb.size; simp; omega)
        replace hb := hb.alloc hb.size (.cells #[.int .i64 (-k), .int .i64 k] 3)
        go_wp2_with fail
        obtain ⟨wo, rfl⟩ : ∃ wo : World, wo = wr := ⟨_, rfl⟩
        go_loop [8, 9, 46] (fun v x u => ∃ b l j : Int, v = .int .i64 b ∧ x = .int .i64 l ∧ u = .int .i64 j ∧ (-20 ≤ b ∧ b ≤ 20) ∧ (-1 ≤ l ∧ l ≤ 16000) ∧ ((j = 0 ∧ (b, l) = (b0, l0)) ∨ (j = 1 ∧ (b, l) = stepI bl re (b0, l0) (-k)) ∨ (j = 2 ∧ (b, l) = stepI bl re (stepI bl re (b0, l0) (-k)) k))) (fun _ _ u => (2 - intOf u).toNat)
        case atStart => exact ⟨b0, l0, 0, rfl, rfl, rfl, bb, ll, .inl ⟨rfl, rfl⟩⟩
        case round =>
          obtain ⟨b, l, j, rfl, rfl, rfl, bq, lq, hj⟩ := hrel
          rcases hj with ⟨rfl, hj⟩ | ⟨rfl, hj⟩ | ⟨rfl, hj⟩
          all_goals (have HJ := Lib.hid hj; clear hj)
          · have es : (-20 ≤ (-k) ∧ (-k) ≤ 20) := by omega
            have ab := apart_bd (bl := bl) (re := re) (sh := (-k)) HX.out HY.out es
            have al : apart bl re (-k) ≤ 16000 := by have := HL.out; omega
            go_wp2_with fail
            go_loop [13, 52] (fun v u => ∃ (q : Nat) (t : Int), q ≤ m ∧ u = .int .i64 q ∧ v = .int .i64 t ∧ 0 ≤ t ∧ t ≤ 2000 * q ∧ t + apart (bl.drop q) (re.drop q) (-k) = apart bl re (-k)) (fun _ u => m - (intOf u).toNat)
            case atStart => exact ⟨0, 0, Nat.zero_le _, rfl, rfl, by omega, by omega, by simp⟩
            case round =>
              obtain ⟨q, t, hq, rfl, rfl, t0, t1, hR⟩ := hrel
              by_cases hq2 : q < m
              · obtain ⟨ad, y, eA, _, hd, hy, hcy⟩ := RInts.at_ hr2 hq2
                obtain ⟨ae, z, eB, _, he, hz, hcz⟩ := RInts.at_ hs2 hq2
                subst eA eB
                have by1 := HX.out y (List.mem_of_getElem? hy)
                have bz1 := HY.out z (List.mem_of_getElem? hz)
                have hv := absI_bd (n := z + (-k) - y) (B := 2000) (by omega) (by omega)
                have hq3 : q ≤ 8 := by omega
                have HV := Lib.hid (show t + absI (z + (-k) - y) + apart (bl.drop (q + 1)) (re.drop (q + 1)) (-k) = apart bl re (-k) by rw [← hR, hd, he, apart, ← absI_neg (z + (-k) - y), show -(z + (-k) - y) = y - z - ((-k)) by omega]; omega)
                clear hR hd he hy hz
                go_wp2_with fail
                refine (abs_any _ _ (by omega)).mono ?_
                rintro e1 w1 ⟨rfl, rfl⟩
                go_wp2_with fail
                go_round
                case rel => exact ⟨q + 1, t + absI (z + (-k) - y), by omega, by go_num, rfl, by omega, by omega, HV.out⟩
                case measure => simp [intOf]; omega
              · have ht : t = apart bl re (-k) := by rw [← hR, drop_end HL.out hq2]; simp [apart]
                subst ht
                clear hR
                by_cases hc : l < 0 ∨ apart bl re (-k) < l
                · have HS := Lib.hid (show ((-k), apart bl re (-k)) = stepI bl re (b, l) ((-k)) by rw [stepI, if_pos hc])
                  rcases (by omega : l < 0 ∨ (0 ≤ l ∧ apart bl re (-k) < l)) with hc1 | hc1
                  all_goals
                    clear hc
                    go_wp2_with fail
                    go_round
                    case rel => exact ⟨_, _, 1, rfl, rfl, rfl, by omega, by omega, .inr (.inl ⟨rfl, by rw [← HJ.out]; exact HS.out⟩)⟩
                    case measure => simp [intOf]
                · have HS := Lib.hid (show (b, l) = stepI bl re (b, l) ((-k)) by rw [stepI, if_neg hc])
                  have hc1 : 0 ≤ l ∧ l ≤ apart bl re (-k) := by omega
                  clear hc
                  go_wp2_with fail
                  go_round
                  case rel => exact ⟨_, _, 1, rfl, rfl, rfl, by omega, by omega, .inr (.inl ⟨rfl, by rw [← HJ.out]; exact HS.out⟩)⟩
                  case measure => simp [intOf]
          · have es : (-20 ≤ k ∧ k ≤ 20) := by omega
            have ab := apart_bd (bl := bl) (re := re) (sh := k) HX.out HY.out es
            have al : apart bl re k ≤ 16000 := by have := HL.out; omega
            go_wp2_with fail
            go_loop [13, 52] (fun v u => ∃ (q : Nat) (t : Int), q ≤ m ∧ u = .int .i64 q ∧ v = .int .i64 t ∧ 0 ≤ t ∧ t ≤ 2000 * q ∧ t + apart (bl.drop q) (re.drop q) k = apart bl re k) (fun _ u => m - (intOf u).toNat)
            case atStart => exact ⟨0, 0, Nat.zero_le _, rfl, rfl, by omega, by omega, by simp⟩
            case round =>
              obtain ⟨q, t, hq, rfl, rfl, t0, t1, hR⟩ := hrel
              by_cases hq2 : q < m
              · obtain ⟨ad, y, eA, _, hd, hy, hcy⟩ := RInts.at_ hr2 hq2
                obtain ⟨ae, z, eB, _, he, hz, hcz⟩ := RInts.at_ hs2 hq2
                subst eA eB
                have by1 := HX.out y (List.mem_of_getElem? hy)
                have bz1 := HY.out z (List.mem_of_getElem? hz)
                have hv := absI_bd (n := z + k - y) (B := 2000) (by omega) (by omega)
                have hq3 : q ≤ 8 := by omega
                have HV := Lib.hid (show t + absI (z + k - y) + apart (bl.drop (q + 1)) (re.drop (q + 1)) k = apart bl re k by rw [← hR, hd, he, apart, ← absI_neg (z + k - y), show -(z + k - y) = y - z - (k) by omega]; omega)
                clear hR hd he hy hz
                go_wp2_with fail
                refine (abs_any _ _ (by omega)).mono ?_
                rintro e1 w1 ⟨rfl, rfl⟩
                go_wp2_with fail
                go_round
                case rel => exact ⟨q + 1, t + absI (z + k - y), by omega, by go_num, rfl, by omega, by omega, HV.out⟩
                case measure => simp [intOf]; omega
              · have ht : t = apart bl re k := by rw [← hR, drop_end HL.out hq2]; simp [apart]
                subst ht
                clear hR
                by_cases hc : l < 0 ∨ apart bl re k < l
                · have HS := Lib.hid (show (k, apart bl re k) = stepI bl re (b, l) (k) by rw [stepI, if_pos hc])
                  rcases (by omega : l < 0 ∨ (0 ≤ l ∧ apart bl re k < l)) with hc1 | hc1
                  all_goals
                    clear hc
                    go_wp2_with fail
                    go_round
                    case rel => exact ⟨_, _, 2, rfl, rfl, rfl, by omega, by omega, .inr (.inr ⟨rfl, by rw [← HJ.out]; exact HS.out⟩)⟩
                    case measure => simp [intOf]
                · have HS := Lib.hid (show (b, l) = stepI bl re (b, l) (k) by rw [stepI, if_neg hc])
                  have hc1 : 0 ≤ l ∧ l ≤ apart bl re k := by omega
                  clear hc
                  go_wp2_with fail
                  go_round
                  case rel => exact ⟨_, _, 2, rfl, rfl, rfl, by omega, by omega, .inr (.inr ⟨rfl, by rw [← HJ.out]; exact HS.out⟩)⟩
                  case measure => simp [intOf]
          · go_wp2_with fail
            go_roundw
            case rel => exact ⟨b, l, k + 1, rfl, rfl, rfl, by omega, by omega, by omega, by omega, by rw [HJ.out]; exact HR.out, hb⟩
            case measure => simp [intOf]; omega
      · have HB := Lib.hid (show b0 = rsV bl re most by rw [rsV, if_pos HG.out, ← rsI_start (by omega), ← hR, rsI_zero hlt])
        clear hR
        go_wp2_with fail
        go_ret2
        exact ⟨by rw [← HB.out, HG.out]; rfl, hb⟩
  · have e1 : ((n : Int) != (m : Int)) = true := by rw [bne_iff_ne]; omega
    have HQ := Lib.hid (show ¬ m = n by omega); clear hq
    (go_enter Try.func24, Try.ntmps24; go_wp2_with (first | (go_at_call 50; refine (within_any _ _ _ _).mono ?_; rintro e1 w1 ⟨rfl, rfl⟩) | (go_at_call 49; refine (marks_any _ _ _ _ _ _ (by assumption) (by omega)).mono ?_; rintro e1 w1 ⟨rfl, rfl⟩)))
    all_goals go_ret2
    all_goals exact ⟨by simp [rsV, rsG, HL.out, HM.out, HQ.out], Below.refl _ _⟩
end Go.Proofs.Ytanpiipmoedfnaa
