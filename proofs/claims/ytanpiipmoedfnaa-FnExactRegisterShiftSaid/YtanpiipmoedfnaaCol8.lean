/-
  Contracts of RegisterShift and its law.
-/
import Derived.Test.YtanpiipmoedfnaaCol
import Derived.Deep.QuietTactic
import Derived.BigQuiet
namespace Go.Proofs.Ytanpiipmoedfnaa
open Go.RowKit
def absI (n : Int) : Int := if 0 ≤ n then n else -n
theorem absI_bd {n B : Int} (h1 : -B ≤ n) (h2 : n ≤ B) : 0 ≤ absI n ∧ absI n ≤ B := by unfold absI; split <;> omega
theorem absI_neg (n : Int) : absI (-n) = absI n := by unfold absI; split <;> split <;> omega
def apart : List Int → List Int → Int → Int
  | a :: r, d :: s, sh => absI (a - d - sh) + apart r s sh
  | _, _, _ => 0
def stepS (bl re : List Int) (best sh : Int) : Int := if apart bl re sh < apart bl re best then sh else best
def rsL (bl re : List Int) : Nat → Int → Int → Int
  | 0, _, best => best
  | f + 1, n, best => rsL bl re f (n + 1) (stepS bl re (stepS bl re best (-n)) n)
def mxI (a b : Int) : Int := if a > b then a else b
theorem mxI_abs (n : Int) : mxI n (-n) = absI n := by unfold mxI absI; split <;> split <;> omega
theorem most_any (a b : Int) (w : World) : Calls Try.prog 71 #[.int .i64 a, .int .i64 b] w fun x w' => x = .returned (.int .i64 (mxI a b)) ∧ w = w' := by
  by_cases h : a > b
  · go_enter Try.func71, Try.ntmps71
    go_wp2
    go_ret
    exact ⟨ret_int (by unfold mxI; split <;> omega), rfl⟩
  · go_enter Try.func71, Try.ntmps71
    go_wp2
    go_ret
    exact ⟨ret_int (by unfold mxI; split <;> omega), rfl⟩
theorem l1Abs_any (n : Int) (w : World) (h : -9000000000000000000 ≤ n ∧ n ≤ 9000000000000000000) : Calls Try.prog 65 #[.int .i64 n] w fun x w' => x = .returned (.int .i64 (absI n)) ∧ w = w' := by
  rw [← mxI_abs]
  go_enter Try.func65, Try.ntmps65
  go_wp2_with (go_at_call 71; refine (most_any _ _ _).mono ?_; rintro e1 w1 ⟨rfl, rfl⟩)
  go_ret
  exact ⟨rfl, rfl⟩
theorem apart_bd : ∀ {bl re : List Int} {sh : Int}, (∀ x ∈ bl, 0 ≤ x ∧ x ≤ 1000) → (∀ x ∈ re, 0 ≤ x ∧ x ≤ 1000) → (-20 ≤ sh ∧ sh ≤ 20) → 0 ≤ apart bl re sh ∧ apart bl re sh ≤ 2000 * bl.length
  | [], _, _, _, _, _ => by simp [apart]
  | _ :: _, [], _, _, _, _ => by simp [apart]; omega
  | a :: r, d :: s, sh, h1, h2, h3 => by
    have ha := h1 a (by simp)
    have hd := h2 d (by simp)
    have hr := apart_bd (bl := r) (re := s) (sh := sh) (fun x hx => h1 x (by simp [hx])) (fun x hx => h2 x (by simp [hx])) h3
    have hv := absI_bd (n := a - d - sh) (B := 2000) (by omega) (by omega)
    simp only [apart, List.length_cons]
    omega
theorem coApart_any (A B : Option Addr) (n c d : Nat) (bl re : List Int) (sh : Int) (w : World) (hr : RInts w w.heap.size A n bl) (hs : RInts w w.heap.size B n re) (hn : n ≤ 8) (h1 : ∀ x ∈ bl, 0 ≤ x ∧ x ≤ 1000) (h2 : ∀ x ∈ re, 0 ≤ x ∧ x ≤ 1000) (h3 : -20 ≤ sh ∧ sh ≤ 20) :
    Calls Try.prog 48 #[.slice A n c, .slice B n d, .int .i64 sh] w fun e w' => e = .returned (.int .i64 (apart bl re sh)) ∧ w = w' := by
  have HL := Lib.hid hr.len
  have HM := Lib.hid hs.len
  have H1 := Lib.hid h1
  have H2 := Lib.hid h2
  clear h1 h2
  go_enter Try.func48, Try.ntmps48
  go_wp2_with fail
  go_loopw [7, 12] (fun v u wr => ∃ (k : Nat) (m : Int), k ≤ n ∧ u = .int .i64 k ∧ v = .int .i64 m ∧ 0 ≤ m ∧ m ≤ 2000 * k ∧ m + apart (bl.drop k) (re.drop k) sh = apart bl re sh ∧ w = wr) (fun _ u _ => n - (intOf u).toNat)
  case atStart => exact ⟨0, 0, Nat.zero_le _, rfl, rfl, by omega, by omega, by simp, rfl⟩
  case round =>
    obtain ⟨k, m, hk, rfl, rfl, m0, m1, hR, rfl⟩ := hrel
    have HR := Lib.hid hR; clear hR
    by_cases hlt : k < n
    · obtain ⟨ad, y, rfl, _, hd, hy, hcy⟩ := hr.at_ hlt
      obtain ⟨ae, z, rfl, _, he, hz, hcz⟩ := hs.at_ hlt
      have by1 := H1.out y (List.mem_of_getElem? hy)
      have bz1 := H2.out z (List.mem_of_getElem? hz)
      have HD := Lib.hid hd
      have HE := Lib.hid he
      clear hd he hy hz
      have hv := absI_bd (n := y - z - sh) (B := 2000) (by omega) (by omega)
      have HV := Lib.hid (show m + absI (y - z - sh) + apart (bl.drop (k + 1)) (re.drop (k + 1)) sh = apart bl re sh by rw [← HR.out, HD.out, HE.out, apart]; omega)
      go_wp2_with fail
      refine (l1Abs_any _ _ (by omega)).mono ?_
      rintro e1 w1 ⟨rfl, rfl⟩
      go_wp2_with fail
      go_roundw
      case rel => exact ⟨k + 1, m + absI (y - z - sh), by omega, by go_num, rfl, by omega, by omega, HV.out, trivial⟩
      case measure => simp [intOf]; omega
    · have hf : m = apart bl re sh := by rw [← HR.out, List.drop_of_length_le (l := bl) (by have := HL.out; omega)]; simp [apart]
      have HF := Lib.hid hf; clear hf
      go_wp2_with fail
      go_ret
      refine ⟨?_, rfl⟩
      rw [← HF.out]
      rfl
/-- What RegisterShift answers. -/
def rsG (bl re : List Int) (most : Int) : Bool := inB bl.length 1 8 && (decide (re.length = bl.length) && (allB 0 1000 bl && (allB 0 1000 re && inB most 0 20)))
def rsV (bl re : List Int) (most : Int) : Int := if rsG bl re most then rsL bl re most.toNat 1 0 else 0
theorem abs_any (n : Int) (w : World) (h : -9000000000000000000 ≤ n ∧ n ≤ 9000000000000000000) : Calls Try.prog 51 #[.int .i64 n] w fun x w' => x = .returned (.int .i64 (absI n)) ∧ w = w' := by
  by_cases h0 : 0 ≤ n
  · have e : absI n = n := by unfold absI; rw [if_pos h0]
    rw [e]
    go_enter Try.func51, Try.ntmps51
    go_wp2
    all_goals go_ret
    all_goals exact ⟨ret_int (by omega), rfl⟩
  · have e : absI n = -n := by unfold absI; rw [if_neg h0]
    rw [e]
    go_enter Try.func51, Try.ntmps51
    go_wp2
    all_goals go_ret
    all_goals exact ⟨ret_int (by omega), rfl⟩
theorem all_any (A : Option Addr) (n c B : Nat) (xs : List Int) (lo hi : Int) (w : World) (hr : RInts w B A n xs) (hn : n ≤ 1048576) :
    Calls Try.prog 47 #[.slice A n c, .int .i64 lo, .int .i64 hi] w fun e w' => e = .returned (.bool (allB lo hi xs)) ∧ w = w' := by
  go_enter Try.func47, Try.ntmps47
  go_wp2
  have HL := Lib.hid hr.len
  go_loop [11] (fun i => ∃ k : Nat, k ≤ n ∧ i = .int .i64 k ∧ allB lo hi (xs.drop k) = allB lo hi xs) (fun i => n - (intOf i).toNat)
  case atStart => exact ⟨0, Nat.zero_le _, rfl, rfl⟩
  case round =>
    obtain ⟨k, hk, rfl, hR⟩ := hrel
    have HR := Lib.hid hR; clear hR
    by_cases hlt : k < n
    · obtain ⟨ad, y, rfl, _, hd, _, hc⟩ := hr.at_ hlt
      have HD := Lib.hid hd; clear hd
      go_wp2_with (go_at_call 46; refine (in_any _ _ _ _).mono ?_; rintro e1 w1 ⟨rfl, rfl⟩)
      · go_ret
        exact ⟨ret_bool (by rw [← HR.out, HD.out]; simp_all [allB]), rfl⟩
      · go_round
        case rel => exact ⟨k + 1, by omega, by go_num, by rw [← HR.out, HD.out]; simp_all [allB]⟩
        case measure => simp [intOf]; omega
    · go_wp2
      go_ret
      exact ⟨ret_bool (by rw [← HR.out, List.drop_of_length_le (by have := HL.out; omega)]; rfl), rfl⟩
theorem marks_any (A : Option Addr) (n c B : Nat) (xs : List Int) (w : World) (hr : RInts w B A n xs) (hn : n ≤ 1048576) :
    Calls Try.prog 49 #[.slice A n c] w fun e w' => e = .returned (.bool (allB 0 1000 xs && inB n 1 8)) ∧ w = w' := by
  have HL := Lib.hid hr.len
  go_enter Try.func49, Try.ntmps49
  go_wp2
  go_loop [7] (fun i => ∃ k : Nat, k ≤ n ∧ i = .int .i64 k ∧ allB 0 1000 (xs.drop k) = allB 0 1000 xs) (fun i => n - (intOf i).toNat)
  case atStart => exact ⟨0, Nat.zero_le _, rfl, rfl⟩
  case round =>
    obtain ⟨k, hk, rfl, hR⟩ := hrel
    have HR := Lib.hid hR; clear hR
    by_cases hlt : k < n
    · obtain ⟨ad, y, rfl, _, hd, _, hc⟩ := hr.at_ hlt
      have HD := Lib.hid hd; clear hd
      cases h : inB y 0 1000
      · go_wp2_with (go_at_call 50; refine (within_any _ _ _ _).mono ?_; rintro e1 w1 ⟨rfl, rfl⟩)
        go_ret
        exact ⟨ret_bool (by rw [← HR.out, HD.out]; simp [allB, h]), rfl⟩
      · go_wp2_with (go_at_call 50; refine (within_any _ _ _ _).mono ?_; rintro e1 w1 ⟨rfl, rfl⟩)
        go_round
        case rel => exact ⟨k + 1, by omega, by go_num, by rw [← HR.out, HD.out]; simp [allB, h]⟩
        case measure => simp [intOf]; omega
    · have hall : allB 0 1000 xs = true := by rw [← HR.out, List.drop_of_length_le (by have := HL.out; omega)]; rfl
      have HA := Lib.hid hall; clear hall
      go_wp2_with (go_at_call 50; refine (within_any _ _ _ _).mono ?_; rintro e1 w1 ⟨rfl, rfl⟩)
      go_ret
      exact ⟨ret_bool (by rw [HA.out, Bool.true_and]), rfl⟩
end Go.Proofs.Ytanpiipmoedfnaa
