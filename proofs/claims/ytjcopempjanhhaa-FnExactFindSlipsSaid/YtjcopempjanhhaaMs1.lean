/-
  Contracts: a list of slips is valid.
-/
import Derived.Test.YtjcopempjanhhaaSMisput
import Derived.Test.YtjcopempjanhhaaMMisput
import Derived.Test.YtjcopempjanhhaaDi1
namespace Go.Proofs.Ytjcopempjanhhaa
open Go.RowKit
def slipB (x : Msp) : Bool := letB x.code 1 3 && (letB x.into 1 3 && (!(eqS x.code x.into) && inB x.nn 1 99))
def slipsL : List Msp → Bool
  | [] => true
  | x :: r => slipB x && slipsL r
def slipsB (xs : List Msp) : Bool := slipsL xs && decide (xs.length ≤ 20)
theorem slipsL_true : ∀ {xs : List Msp}, slipsL xs = true → ∀ x ∈ xs, slipB x = true
  | [], _ => by simp
  | y :: r, h => by
    simp only [slipsL, Bool.and_eq_true] at h
    intro x hx
    rcases List.mem_cons.1 hx with rfl | hx
    · exact h.1
    · exact slipsL_true h.2 x hx
theorem slipsB_true {xs : List Msp} (h : slipsB xs = true) : (∀ x ∈ xs, 1 ≤ x.nn ∧ x.nn ≤ 99) ∧ xs.length ≤ 20 := by
  simp only [slipsB, Bool.and_eq_true, decide_eq_true_eq] at h
  refine ⟨fun x hx => ?_, h.2⟩
  have := slipsL_true h.1 x hx
  simp only [slipB, Bool.and_eq_true, inB_true] at this
  exact this.2.2.2
theorem eqMisputS_same {A D : Option Addr} {n n' cp cp' : Nat} {ms : List Msp} {w : World} (hr : RMsps w w.heap.size A n ms) (hr' : RMsps w w.heap.size D n' ms) (hn0 : n ≤ 1048576) :
    Calls Try.prog 40 #[.slice A n cp, .slice D n' cp'] w fun e w' => e = .returned (.bool true) ∧ Below w.heap.size w w' := by
  have e : n' = n := hr'.len.symm.trans hr.len
  subst e
  exact eqMisputS_any _ _ _ _ _ _ _ ms _ hr hr' (Nat.le_refl _) (Nat.le_refl _) hn0
set_option maxRecDepth 100000 in
theorem diSlips_any {A : Option Addr} {n cp : Nat} {xs : List Msp} {w : World} (hr : RMsps w w.heap.size A n xs) (hn0 : n ≤ 1048576) (hL : ∀ x ∈ xs, x.code.size ≤ 1048576 ∧ x.into.size ≤ 1048576) :
    Calls Try.prog 90 #[.slice A n cp] w fun e w' => e = .returned (.bool (slipsB xs)) ∧ Below w.heap.size w w' := by
  have HL := Lib.hid hr.len
  have HXX := Lib.hid hL
  clear hL
  go_enter Try.func90, Try.ntmps90
  go_wp2_with fail
  go_loopw [7] (fun i wr => ∃ k : Nat, k ≤ n ∧ i = .int .i64 k ∧ slipsL (xs.drop k) = slipsL xs ∧ Below w.heap.size w wr) (fun i _ => n - (intOf i).toNat)
  case atStart => exact ⟨0, Nat.zero_le _, rfl, rfl, Below.refl _ _⟩
  case round =>
    obtain ⟨k, hk, rfl, hR, hb⟩ := hrel
    by_cases hlt : k < n
    · obtain ⟨bb, off, x, rfl, _, hd, hy, c0, c1, c2⟩ := RMsps.at_ (RMsps.below hr hb) hlt
      have HX := Lib.hid (HXX.out x (List.mem_of_getElem? hy))
      have hR2 : (slipB x && slipsL (xs.drop (k + 1))) = slipsL xs := by rw [← hR, hd, slipsL]
      clear hR hd hy
      replace hb := hb.alloc hb.size (.cells #[.string x.code, .string x.into, .int .i64 x.nn] 106)
      cases h1 : letB x.code 1 3
      · have HF := Lib.hid (show slipsB xs = false by rw [slipsB, ← hR2, slipB, h1]; simp)
        clear hR2
        go_wp2_with fail
        refine (tyLetters_any _ _ _ (HX.out.1)).mono ?_
        rintro e1 w1 ⟨rfl, hw1⟩
        subst hw1
        rw [h1]
        clear h1
        go_wp2_with fail
        go_ret
        exact ⟨ret_bool HF.out.symm, hb⟩
      · have H1 := Lib.hid h1
        cases h2 : letB x.into 1 3
        · have HF := Lib.hid (show slipsB xs = false by rw [slipsB, ← hR2, slipB, h2]; simp)
          clear hR2
          go_wp2_with fail
          refine (tyLetters_any _ _ _ (HX.out.1)).mono ?_
          rintro e1 w1 ⟨rfl, hw1⟩
          subst hw1
          rw [h1]
          clear h1
          go_wp2_with fail
          refine (tyLetters_any _ _ _ (HX.out.2)).mono ?_
          rintro e1 w1 ⟨rfl, hw1⟩
          subst hw1
          rw [h2]
          clear h2
          go_wp2_with fail
          go_ret
          exact ⟨ret_bool HF.out.symm, hb⟩
        · have H2 := Lib.hid h2
          cases h3 : eqS x.code x.into
          · have e3 : (x.code.toList == x.into.toList) = false := h3
            have H3 := Lib.hid h3
            clear h3
            cases h4 : inB x.nn 1 99
            · have HF := Lib.hid (show slipsB xs = false by rw [slipsB, ← hR2, slipB, h4]; simp)
              clear hR2
              go_wp2_with fail
              refine (tyLetters_any _ _ _ (HX.out.1)).mono ?_
              rintro e1 w1 ⟨rfl, hw1⟩
              subst hw1
              rw [h1]
              clear h1
              go_wp2_with fail
              refine (tyLetters_any _ _ _ (HX.out.2)).mono ?_
              rintro e1 w1 ⟨rfl, hw1⟩
              subst hw1
              rw [h2]
              clear h2
              go_wp2_with fail
              refine (in_any _ _ _ _).mono ?_
              rintro e1 w1 ⟨rfl, hw1⟩
              subst hw1
              rw [h4]
              clear h4
              go_wp2_with fail
              go_ret
              exact ⟨ret_bool HF.out.symm, hb⟩
            · have HR := Lib.hid (show slipsL (xs.drop (k + 1)) = slipsL xs by rw [← hR2, slipB, H1.out, H2.out, H3.out, h4]; simp)
              clear hR2
              go_wp2_with fail
              refine (tyLetters_any _ _ _ (HX.out.1)).mono ?_
              rintro e1 w1 ⟨rfl, hw1⟩
              subst hw1
              rw [h1]
              clear h1
              go_wp2_with fail
              refine (tyLetters_any _ _ _ (HX.out.2)).mono ?_
              rintro e1 w1 ⟨rfl, hw1⟩
              subst hw1
              rw [h2]
              clear h2
              go_wp2_with fail
              refine (in_any _ _ _ _).mono ?_
              rintro e1 w1 ⟨rfl, hw1⟩
              subst hw1
              rw [h4]
              clear h4
              go_wp2_with fail
              go_roundw
              case rel => exact ⟨k + 1, by omega, by go_num, HR.out, hb⟩
              case measure => simp [intOf]; omega
          · have e3 : (x.code.toList == x.into.toList) = true := h3
            have HF := Lib.hid (show slipsB xs = false by rw [slipsB, ← hR2, slipB, h3]; simp)
            clear hR2 h3
            go_wp2_with fail
            refine (tyLetters_any _ _ _ (HX.out.1)).mono ?_
            rintro e1 w1 ⟨rfl, hw1⟩
            subst hw1
            rw [h1]
            clear h1
            go_wp2_with fail
            refine (tyLetters_any _ _ _ (HX.out.2)).mono ?_
            rintro e1 w1 ⟨rfl, hw1⟩
            subst hw1
            rw [h2]
            clear h2
            go_wp2_with fail
            go_ret
            exact ⟨ret_bool HF.out.symm, hb⟩
    · have HF := Lib.hid (show slipsB xs = decide (n ≤ 20) by rw [slipsB, ← hR, drop_end HL.out hlt, HL.out]; rfl)
      clear hR
      go_wp2_with fail
      go_ret
      exact ⟨ret_bool (by rw [HF.out]; simp <;> omega), hb⟩
set_option maxRecDepth 100000 in
theorem areSlips_any {A : Option Addr} {n cp : Nat} {xs : List Msp} {w : World} (hr : RMsps w w.heap.size A n xs) (hn0 : n ≤ 1048576) (hL : ∀ x ∈ xs, x.code.size ≤ 1048576 ∧ x.into.size ≤ 1048576) :
    Calls Try.prog 94 #[.slice A n cp] w fun e w' => e = .returned (.bool (slipsB xs)) ∧ Below w.heap.size w w' := by
  have HL := Lib.hid hr.len
  have HXX := Lib.hid hL
  clear hL
  go_enter Try.func94, Try.ntmps94
  go_wp2_with fail
  go_loopw [7] (fun i wr => ∃ k : Nat, k ≤ n ∧ i = .int .i64 k ∧ slipsL (xs.drop k) = slipsL xs ∧ Below w.heap.size w wr) (fun i _ => n - (intOf i).toNat)
  case atStart => exact ⟨0, Nat.zero_le _, rfl, rfl, Below.refl _ _⟩
  case round =>
    obtain ⟨k, hk, rfl, hR, hb⟩ := hrel
    by_cases hlt : k < n
    · obtain ⟨bb, off, x, rfl, _, hd, hy, c0, c1, c2⟩ := RMsps.at_ (RMsps.below hr hb) hlt
      have HX := Lib.hid (HXX.out x (List.mem_of_getElem? hy))
      have hR2 : (slipB x && slipsL (xs.drop (k + 1))) = slipsL xs := by rw [← hR, hd, slipsL]
      clear hR hd hy
      replace hb := hb.alloc hb.size (.cells #[.string x.code, .string x.into, .int .i64 x.nn] 106)
      cases h1 : letB x.code 1 3
      · have HF := Lib.hid (show slipsB xs = false by rw [slipsB, ← hR2, slipB, h1]; simp)
        clear hR2
        go_wp2_with fail
        refine (isCode_any _ _ (HX.out.1)).mono ?_
        rintro e1 w1 ⟨rfl, hw1⟩
        subst hw1
        rw [h1]
        clear h1
        go_wp2_with fail
        go_ret
        exact ⟨ret_bool HF.out.symm, hb⟩
      · have H1 := Lib.hid h1
        cases h2 : letB x.into 1 3
        · have HF := Lib.hid (show slipsB xs = false by rw [slipsB, ← hR2, slipB, h2]; simp)
          clear hR2
          go_wp2_with fail
          refine (isCode_any _ _ (HX.out.1)).mono ?_
          rintro e1 w1 ⟨rfl, hw1⟩
          subst hw1
          rw [h1]
          clear h1
          go_wp2_with fail
          refine (isCode_any _ _ (HX.out.2)).mono ?_
          rintro e1 w1 ⟨rfl, hw1⟩
          subst hw1
          rw [h2]
          clear h2
          go_wp2_with fail
          go_ret
          exact ⟨ret_bool HF.out.symm, hb⟩
        · have H2 := Lib.hid h2
          cases h3 : eqS x.code x.into
          · have e3 : (x.code.toList == x.into.toList) = false := h3
            have H3 := Lib.hid h3
            clear h3
            cases h4 : inB x.nn 1 99
            · have HF := Lib.hid (show slipsB xs = false by rw [slipsB, ← hR2, slipB, h4]; simp)
              clear hR2
              go_wp2_with fail
              refine (isCode_any _ _ (HX.out.1)).mono ?_
              rintro e1 w1 ⟨rfl, hw1⟩
              subst hw1
              rw [h1]
              clear h1
              go_wp2_with fail
              refine (isCode_any _ _ (HX.out.2)).mono ?_
              rintro e1 w1 ⟨rfl, hw1⟩
              subst hw1
              rw [h2]
              clear h2
              go_wp2_with fail
              refine (within_any _ _ _ _).mono ?_
              rintro e1 w1 ⟨rfl, hw1⟩
              subst hw1
              rw [h4]
              clear h4
              go_wp2_with fail
              go_ret
              exact ⟨ret_bool HF.out.symm, hb⟩
            · have HR := Lib.hid (show slipsL (xs.drop (k + 1)) = slipsL xs by rw [← hR2, slipB, H1.out, H2.out, H3.out, h4]; simp)
              clear hR2
              go_wp2_with fail
              refine (isCode_any _ _ (HX.out.1)).mono ?_
              rintro e1 w1 ⟨rfl, hw1⟩
              subst hw1
              rw [h1]
              clear h1
              go_wp2_with fail
              refine (isCode_any _ _ (HX.out.2)).mono ?_
              rintro e1 w1 ⟨rfl, hw1⟩
              subst hw1
              rw [h2]
              clear h2
              go_wp2_with fail
              refine (within_any _ _ _ _).mono ?_
              rintro e1 w1 ⟨rfl, hw1⟩
              subst hw1
              rw [h4]
              clear h4
              go_wp2_with fail
              go_roundw
              case rel => exact ⟨k + 1, by omega, by go_num, HR.out, hb⟩
              case measure => simp [intOf]; omega
          · have e3 : (x.code.toList == x.into.toList) = true := h3
            have HF := Lib.hid (show slipsB xs = false by rw [slipsB, ← hR2, slipB, h3]; simp)
            clear hR2 h3
            go_wp2_with fail
            refine (isCode_any _ _ (HX.out.1)).mono ?_
            rintro e1 w1 ⟨rfl, hw1⟩
            subst hw1
            rw [h1]
            clear h1
            go_wp2_with fail
            refine (isCode_any _ _ (HX.out.2)).mono ?_
            rintro e1 w1 ⟨rfl, hw1⟩
            subst hw1
            rw [h2]
            clear h2
            go_wp2_with fail
            go_ret
            exact ⟨ret_bool HF.out.symm, hb⟩
    · have HF := Lib.hid (show slipsB xs = decide (n ≤ 20) by rw [slipsB, ← hR, drop_end HL.out hlt, HL.out]; rfl)
      clear hR
      go_wp2_with fail
      go_ret
      exact ⟨ret_bool (by rw [HF.out]; simp <;> omega), hb⟩
end Go.Proofs.Ytjcopempjanhhaa
