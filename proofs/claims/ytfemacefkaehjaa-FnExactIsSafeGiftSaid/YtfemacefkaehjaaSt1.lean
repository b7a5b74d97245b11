/-
  Contracts: the checks on standing forms.
-/
import Derived.Test.YtfemacefkaehjaaFm3
namespace Go.Proofs.Ytfemacefkaehjaa
open Go.RowKit
def numB (k : Int) (xs : List Int) : Bool := decide ((xs.length : Int) = k) && allB 0 1000 xs
def formB (k : Int) (f : Frm) : Bool := numB k f.held && numB k f.wanted
def allF (k : Int) : List Frm → Bool
  | [] => true
  | f :: r => formB k f && allF k r
def stG (fr : List Int) (fs : List Frm) : Bool := inB fr.length 1 6 && (allB 0 1000 fr && (decide (fs.length ≤ 8) && allF fr.length fs))
theorem numB_true {k : Int} {xs : List Int} (h : numB k xs = true) : (xs.length : Int) = k ∧ ∀ x ∈ xs, 0 ≤ x ∧ x ≤ 1000 := by
  simp only [numB, Bool.and_eq_true, decide_eq_true_eq] at h
  exact ⟨h.1, allB_mem h.2⟩
theorem allF_mem {k : Int} {fs : List Frm} (h : allF k fs = true) : ∀ f ∈ fs, ((f.held.length : Int) = k ∧ ∀ x ∈ f.held, 0 ≤ x ∧ x ≤ 1000) ∧ ((f.wanted.length : Int) = k ∧ ∀ x ∈ f.wanted, 0 ≤ x ∧ x ≤ 1000) := by
  induction fs with
  | nil => simp
  | cons y r ih =>
    simp only [allF, formB, Bool.and_eq_true] at h
    intro f hf
    rcases List.mem_cons.1 hf with rfl | hf
    · exact ⟨numB_true h.1.1, numB_true h.1.2⟩
    · exact ih h.2 f hf
theorem stG_true {fr : List Int} {fs : List Frm} (h : stG fr fs = true) : (1 ≤ fr.length ∧ fr.length ≤ 6) ∧ (∀ x ∈ fr, 0 ≤ x ∧ x ≤ 1000) ∧ fs.length ≤ 8 ∧ ∀ f ∈ fs, (f.held.length = fr.length ∧ ∀ x ∈ f.held, 0 ≤ x ∧ x ≤ 1000) ∧ (f.wanted.length = fr.length ∧ ∀ x ∈ f.wanted, 0 ≤ x ∧ x ≤ 1000) := by
  simp only [stG, Bool.and_eq_true, decide_eq_true_eq, inB_true] at h
  refine ⟨by omega, allB_mem h.2.1, h.2.2.1, fun f hf => ?_⟩
  have := allF_mem h.2.2.2 f hf
  exact ⟨⟨by omega, this.1.2⟩, by omega, this.2.2⟩
theorem stNumbers_any {A : Option Addr} {n c B : Nat} {xs : List Int} {k : Int} {w : World} (hr : RInts w B A n xs) (hn : n ≤ 1048576) (_ : 0 ≤ k ∧ k ≤ 1048576) :
    Calls Try.prog 42 #[.int .i64 k, .slice A n c] w fun e w' => e = .returned (.bool (numB k xs)) ∧ w = w' := by
  have HL := Lib.hid hr.len
  by_cases h : (n : Int) = k
  · have h1 : ((n : Int) == k) = true := by simp [h]
    have HH := Lib.hid h; clear h
    go_enter Try.func42, Try.ntmps42
    go_wp2_with (go_at_call 41; refine (all_any _ _ _ _ _ _ _ _ hr hn).mono ?_; rintro e1 w1 ⟨rfl, rfl⟩)
    go_ret
    exact ⟨ret_bool (by simp [numB, HL.out, HH.out]), rfl⟩
  · have h1 : ((n : Int) == k) = false := by simp [h]
    have HH := Lib.hid h; clear h
    go_enter Try.func42, Try.ntmps42
    go_wp2_with fail
    go_ret
    exact ⟨ret_bool (by simp [numB, HL.out, HH.out]), rfl⟩
theorem areHeld_any {A : Option Addr} {n c B : Nat} {xs : List Int} {k : Int} {w : World} (hr : RInts w B A n xs) (hn : n ≤ 1048576) (_ : 0 ≤ k ∧ k ≤ 1048576) :
    Calls Try.prog 36 #[.slice A n c, .int .i64 k] w fun e w' => e = .returned (.bool (numB k xs)) ∧ w = w' := by
  have HL := Lib.hid hr.len
  go_enter Try.func36, Try.ntmps36
  go_wp2_with fail
  go_loop [9] (fun i => ∃ j : Nat, j ≤ n ∧ i = .int .i64 j ∧ allB 0 1000 (xs.drop j) = allB 0 1000 xs) (fun i => n - (intOf i).toNat)
  case atStart => exact ⟨0, Nat.zero_le _, rfl, rfl⟩
  case round =>
    obtain ⟨j, hj, rfl, hR⟩ := hrel
    have HR := Lib.hid hR; clear hR
    by_cases hlt : j < n
    · obtain ⟨ad, y, rfl, _, hd, _, hc⟩ := RInts.at_ hr hlt
      have HD := Lib.hid hd; clear hd
      cases h : inB y 0 1000
      · go_wp2_with (go_at_call 35; refine (within_any _ _ _ _).mono ?_; rintro e1 w1 ⟨rfl, rfl⟩)
        go_ret
        exact ⟨ret_bool (by have h0 : allB 0 1000 xs = false := (by rw [← HR.out, HD.out]; simp [allB, h]); simp [numB, h0]), rfl⟩
      · go_wp2_with (go_at_call 35; refine (within_any _ _ _ _).mono ?_; rintro e1 w1 ⟨rfl, rfl⟩)
        go_round
        case rel => exact ⟨j + 1, by omega, by go_num, by rw [← HR.out, HD.out]; simp [allB, h]⟩
        case measure => simp [intOf]; omega
    · have HA := Lib.hid (show allB 0 1000 xs = true by rw [← HR.out, drop_end HL.out hlt]; rfl)
      by_cases h : (n : Int) = k
      · have h1 : ((n : Int) == k) = true := by simp [h]
        have HH := Lib.hid h; clear h
        go_wp2_with fail
        go_ret
        exact ⟨ret_bool (by simp [numB, HL.out, HH.out, HA.out]), rfl⟩
      · have h1 : ((n : Int) == k) = false := by simp [h]
        have HH := Lib.hid h; clear h
        go_wp2_with fail
        go_ret
        exact ⟨ret_bool (by simp [numB, HL.out, HH.out]), rfl⟩
theorem forms_drop {ys r : List FV} {y : FV} {k : Nat} {n : Int} (hd : ys.drop k = y :: r) (hR : allF n ((ys.drop k).map FV.f) = allF n (ys.map FV.f)) :
    (numB n y.f.held = false → allF n (ys.map FV.f) = false) ∧ (numB n y.f.wanted = false → allF n (ys.map FV.f) = false) ∧ (numB n y.f.held = true → numB n y.f.wanted = true → allF n (r.map FV.f) = allF n (ys.map FV.f)) := by
  rw [← hR, hd]
  refine ⟨fun h => ?_, fun h => ?_, fun h h' => ?_⟩ <;> simp [allF, formB, *]
theorem stGood_any {A B : Option Addr} {n c m d : Nat} {fr : List Int} {ys : List FV} {w : World} (hr : RInts w w.heap.size A n fr) (hn0 : n ≤ 1048576) (hs : RForms w w.heap.size B m ys) (hm0 : m ≤ 1048576) (hL : ∀ y ∈ ys, y.f.held.length ≤ 1048576 ∧ y.f.wanted.length ≤ 1048576) :
    Calls Try.prog 34 #[.slice A n c, .slice B m d] w fun e w' => e = .returned (.bool (stG fr (ys.map FV.f))) ∧ Below w.heap.size w w' := by
  have HFL := Lib.hid hr.len
  have HM := Lib.hid hs.len
  have HX := Lib.hid hL
  have b0 : (0 : Int) ≤ n ∧ (n : Int) ≤ 1048576 := by omega
  clear hL
  cases h1 : inB (n : Int) 1 6
  · (go_enter Try.func34, Try.ntmps34; go_wp2_with (first | (go_at_call 32; refine (in_any _ _ _ _).mono ?_; rintro e1 w1 ⟨rfl, rfl⟩) | (go_at_call 41; refine (all_any _ _ _ _ _ _ _ _ hr hn0).mono ?_; rintro e1 w1 ⟨rfl, rfl⟩)))
    go_ret
    exact ⟨ret_bool (by simp [stG, HFL.out, h1]), Below.refl _ _⟩
  cases h2 : allB 0 1000 fr
  · (go_enter Try.func34, Try.ntmps34; go_wp2_with (first | (go_at_call 32; refine (in_any _ _ _ _).mono ?_; rintro e1 w1 ⟨rfl, rfl⟩) | (go_at_call 41; refine (all_any _ _ _ _ _ _ _ _ hr hn0).mono ?_; rintro e1 w1 ⟨rfl, rfl⟩)))
    go_ret
    exact ⟨ret_bool (by simp [stG, h2]), Below.refl _ _⟩
  by_cases h3 : 8 < m
  · have HE := Lib.hid (show ¬ ys.length ≤ 8 by have := HM.out; omega)
    (go_enter Try.func34, Try.ntmps34; go_wp2_with (first | (go_at_call 32; refine (in_any _ _ _ _).mono ?_; rintro e1 w1 ⟨rfl, rfl⟩) | (go_at_call 41; refine (all_any _ _ _ _ _ _ _ _ hr hn0).mono ?_; rintro e1 w1 ⟨rfl, rfl⟩)))
    go_ret
    exact ⟨ret_bool (by have := HE.out; simp [stG, this]), Below.refl _ _⟩
  have h4 : m ≤ 8 := by omega
  have HE := Lib.hid (show ys.length ≤ 8 by have := HM.out; omega)
  have H12 := Lib.hid (And.intro h1 h2)
  (go_enter Try.func34, Try.ntmps34; go_wp2_with (first | (go_at_call 32; refine (in_any _ _ _ _).mono ?_; rintro e1 w1 ⟨rfl, rfl⟩) | (go_at_call 41; refine (all_any _ _ _ _ _ _ _ _ hr hn0).mono ?_; rintro e1 w1 ⟨rfl, rfl⟩)))
  clear h1 h2
  go_loopw [23] (fun i wr => ∃ k : Nat, k ≤ m ∧ i = .int .i64 k ∧ allF n ((ys.drop k).map FV.f) = allF n (ys.map FV.f) ∧ Below w.heap.size w wr) (fun i _ => m - (intOf i).toNat)
  case atStart => exact ⟨0, Nat.zero_le _, rfl, rfl, Below.refl _ _⟩
  case round =>
    obtain ⟨k, hk, rfl, hR, hb⟩ := hrel
    by_cases hlt : k < m
    · obtain ⟨b, off, y, rfl, _, hd, hy, c0, c1, hin⟩ := RForms.at_ (hs.below hb) hlt
      have hx := HX.out y (List.mem_of_getElem? hy)
      have HJ := Lib.hid (forms_drop hd hR)
      have i1 := Reads.alloc (hin.1.more hb.size) (Nat.le_refl _) (.cells #[.slice y.a1 y.f.held.length y.c1, .slice y.a2 y.f.wanted.length y.c2] 40)
      have i2 := Reads.alloc (hin.2.more hb.size) (Nat.le_refl _) (.cells #[.slice y.a1 y.f.held.length y.c1, .slice y.a2 y.f.wanted.length y.c2] 40)
      replace hb := hb.alloc hb.size (.cells #[.slice y.a1 y.f.held.length y.c1, .slice y.a2 y.f.wanted.length y.c2] 40)
      clear hd hR hy hin
      cases h1 : numB n y.f.held
      · go_wp2_with (first | (go_at_call 42; refine (stNumbers_any (by first | exact i1 | exact i2) (by omega) b0).mono ?_; rintro e1 w1 ⟨rfl, rfl⟩))
        go_ret
        exact ⟨ret_bool (by simp [stG, HFL.out, HJ.out.1 h1]), hb⟩
      cases h2 : numB n y.f.wanted
      · go_wp2_with (first | (go_at_call 42; refine (stNumbers_any (by first | exact i1 | exact i2) (by omega) b0).mono ?_; rintro e1 w1 ⟨rfl, rfl⟩))
        go_ret
        exact ⟨ret_bool (by simp [stG, HFL.out, HJ.out.2.1 h2]), hb⟩
      go_wp2_with (first | (go_at_call 42; refine (stNumbers_any (by first | exact i1 | exact i2) (by omega) b0).mono ?_; rintro e1 w1 ⟨rfl, rfl⟩))
      go_roundw
      case rel => exact ⟨k + 1, by omega, by go_num, HJ.out.2.2 h1 h2, hb⟩
      case measure => simp [intOf]; omega
    · have HA := Lib.hid (show allF n (ys.map FV.f) = true by rw [← hR, drop_end HM.out hlt]; rfl)
      clear hR
      go_wp2_with fail
      go_ret
      exact ⟨ret_bool (by simp [stG, HFL.out, HA.out, HE.out, H12.out.1, H12.out.2]), hb⟩
theorem areForms_any {A B : Option Addr} {n c m d : Nat} {fr : List Int} {ys : List FV} {w : World} (hr : RInts w w.heap.size A n fr) (hn0 : n ≤ 1048576) (hs : RForms w w.heap.size B m ys) (hm0 : m ≤ 1048576) (hL : ∀ y ∈ ys, y.f.held.length ≤ 1048576 ∧ y.f.wanted.length ≤ 1048576) :
    Calls Try.prog 24 #[.slice A n c, .slice B m d] w fun e w' => e = .returned (.bool (stG fr (ys.map FV.f))) ∧ Below w.heap.size w w' := by
  have HFL := Lib.hid hr.len
  have HM := Lib.hid hs.len
  have HX := Lib.hid hL
  have b0 : (0 : Int) ≤ n ∧ (n : Int) ≤ 1048576 := by omega
  clear hL
  go_enter Try.func24, Try.ntmps24
  go_wp2_with fail
  go_loopw [9] (fun i wr => ∃ k : Nat, k ≤ m ∧ i = .int .i64 k ∧ allF n ((ys.drop k).map FV.f) = allF n (ys.map FV.f) ∧ Below w.heap.size w wr) (fun i _ => m - (intOf i).toNat)
  case atStart => exact ⟨0, Nat.zero_le _, rfl, rfl, Below.refl _ _⟩
  case round =>
    obtain ⟨k, hk, rfl, hR, hb⟩ := hrel
    by_cases hlt : k < m
    · obtain ⟨b, off, y, rfl, _, hd, hy, c0, c1, hin⟩ := RForms.at_ (hs.below hb) hlt
      have hx := HX.out y (List.mem_of_getElem? hy)
      have HJ := Lib.hid (forms_drop hd hR)
      have i1 := Reads.alloc (hin.1.more hb.size) (Nat.le_refl _) (.cells #[.slice y.a1 y.f.held.length y.c1, .slice y.a2 y.f.wanted.length y.c2] 40)
      have i2 := Reads.alloc (hin.2.more hb.size) (Nat.le_refl _) (.cells #[.slice y.a1 y.f.held.length y.c1, .slice y.a2 y.f.wanted.length y.c2] 40)
      replace hb := hb.alloc hb.size (.cells #[.slice y.a1 y.f.held.length y.c1, .slice y.a2 y.f.wanted.length y.c2] 40)
      clear hd hR hy hin
      cases h1 : numB n y.f.held
      · go_wp2_with (first | (go_at_call 36; refine (areHeld_any (by first | exact i1 | exact i2) (by omega) b0).mono ?_; rintro e1 w1 ⟨rfl, rfl⟩))
        go_ret
        exact ⟨ret_bool (by simp [stG, HFL.out, HJ.out.1 h1]), hb⟩
      cases h2 : numB n y.f.wanted
      · go_wp2_with (first | (go_at_call 36; refine (areHeld_any (by first | exact i1 | exact i2) (by omega) b0).mono ?_; rintro e1 w1 ⟨rfl, rfl⟩))
        go_ret
        exact ⟨ret_bool (by simp [stG, HFL.out, HJ.out.2.1 h2]), hb⟩
      go_wp2_with (first | (go_at_call 36; refine (areHeld_any (by first | exact i1 | exact i2) (by omega) b0).mono ?_; rintro e1 w1 ⟨rfl, rfl⟩))
      go_roundw
      case rel => exact ⟨k + 1, by omega, by go_num, HJ.out.2.2 h1 h2, hb⟩
      case measure => simp [intOf]; omega
    · have HA := Lib.hid (show allF n (ys.map FV.f) = true by rw [← hR, drop_end HM.out hlt]; rfl)
      clear hR
      have hr2 := RInts.below hr hb
      cases h1 : inB (n : Int) 1 6
      · go_wp2_with (first | (go_at_call 35; refine (within_any _ _ _ _).mono ?_; rintro e1 w1 ⟨rfl, rfl⟩) | (go_at_call 36; refine (areHeld_any hr2 hn0 b0).mono ?_; rintro e1 w1 ⟨rfl, rfl⟩))
        go_ret
        exact ⟨ret_bool (by simp [stG, HFL.out, h1]), hb⟩
      have HN := Lib.hid (show numB n fr = allB 0 1000 fr by simp [numB, HFL.out])
      cases h2 : allB 0 1000 fr
      · have h3 : numB n fr = false := by rw [HN.out, h2]
        go_wp2_with (first | (go_at_call 35; refine (within_any _ _ _ _).mono ?_; rintro e1 w1 ⟨rfl, rfl⟩) | (go_at_call 36; refine (areHeld_any hr2 hn0 b0).mono ?_; rintro e1 w1 ⟨rfl, rfl⟩))
        go_ret
        exact ⟨ret_bool (by simp [stG, h2]), hb⟩
      have h3 : numB n fr = true := by rw [HN.out, h2]
      go_wp2_with (first | (go_at_call 35; refine (within_any _ _ _ _).mono ?_; rintro e1 w1 ⟨rfl, rfl⟩) | (go_at_call 36; refine (areHeld_any hr2 hn0 b0).mono ?_; rintro e1 w1 ⟨rfl, rfl⟩))
      go_ret
      exact ⟨ret_bool (by rw [stG, HFL.out, HA.out, h1, h2, List.length_map, HM.out]; simp; omega), hb⟩
end Go.Proofs.Ytfemacefkaehjaa
