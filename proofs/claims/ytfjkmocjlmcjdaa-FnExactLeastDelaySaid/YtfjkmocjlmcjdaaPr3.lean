/-
  Contracts: washing, sheets and minutes on a press.
-/
import Derived.Test.YtfjkmocjlmcjdaaPr2
import Derived.Deep.RegionHeld3
import Derived.Outline
namespace Go.Proofs.Ytfjkmocjlmcjdaa
open Go.RowKit
def washF (xs : List Int) (f t : Int) : Int := if f = t then 0 else if t < f then xs.getD f.toNat 0 else (xs.getD f.toNat 0 + 1) / 2
theorem washF_bd {xs : List Int} {f t : Int} (h : ∀ x ∈ xs, 0 ≤ x ∧ x ≤ 300) : 0 ≤ washF xs f t ∧ washF xs f t ≤ 300 := by
  have hg : 0 ≤ xs.getD f.toNat 0 ∧ xs.getD f.toNat 0 ≤ 300 := by
    rw [List.getD_eq_getElem?_getD]
    cases hx : xs[f.toNat]? with
    | none => simp
    | some y => exact h y (List.mem_of_getElem? hx)
  unfold washF
  split
  · omega
  · split <;> omega
theorem prWash_any {a b c f t : Int} {A : Option Addr} {n cp : Nat} {xs : List Int} {w : World} (hr : RInts w w.heap.size A n xs) (hn : 5 ≤ n) (h0 : 0 ≤ f ∧ f ≤ 4) (_ : 0 ≤ t ∧ t ≤ 4) (hx : ∀ x ∈ xs, 0 ≤ x ∧ x ≤ 300) (hm : n ≤ 1048576) :
    Calls Try.prog 58 #[.agg #[.int .i64 a, .int .i64 b, .int .i64 c, .slice A n cp], .int .i64 f, .int .i64 t] w fun e w' => e = .returned (.int .i64 (washF xs f t)) ∧ Below w.heap.size w w' := by
  have hr1 := hr.alloc (Nat.le_refl _) (.cells #[.int .i64 a, .int .i64 b, .int .i64 c, .slice A n cp] 30)
  obtain ⟨ad, y, rfl, _, _, hy, hc⟩ := RInts.at_ (k := f.toNat) hr1 (by omega)
  have by1 := hx y (List.mem_of_getElem? hy)
  have hg : xs.getD f.toNat 0 = y := by rw [List.getD_eq_getElem?_getD, hy]; rfl
  have HG := Lib.hid hg
  have l2 : f < n := by omega
  clear hg hy hx hr1 hr
  by_cases e1 : f = t
  · have e2 : (f == t) = true := by simp [e1]
    have HE := Lib.hid e1; clear e1
    go_enter Try.func58, Try.ntmps58
    go_wp2_with fail
    go_ret
    exact ⟨ret_int (by rw [washF, if_pos HE.out]), (by (repeat (first | exact Below.refl _ _ | exact hb | apply Below.drew | (refine Below.alloc ?_ (by first | (simp; done) | (simp; omega) | (have := hb.size; simp at this ⊢; omega)) _) | (refine Below.setCell ?_ (by simp) _))))⟩
  · have e2 : (f == t) = false := by simp [e1]
    have HE := Lib.hid e1; clear e1
    by_cases e3 : t < f
    · go_enter Try.func58, Try.ntmps58
      go_wp2_with fail
      go_ret
      exact ⟨ret_int (by rw [washF, if_neg HE.out, if_pos (by omega), HG.out]), (by (repeat (first | exact Below.refl _ _ | exact hb | apply Below.drew | (refine Below.alloc ?_ (by first | (simp; done) | (simp; omega) | (have := hb.size; simp at this ⊢; omega)) _) | (refine Below.setCell ?_ (by simp) _))))⟩
    · have e4 : f ≤ t := by omega
      go_enter Try.func58, Try.ntmps58
      go_wp2_with fail
      go_ret
      exact ⟨ret_int (by rw [washF, if_neg HE.out, if_neg (by omega), HG.out]), (by (repeat (first | exact Below.refl _ _ | exact hb | apply Below.drew | (refine Below.alloc ?_ (by first | (simp; done) | (simp; omega) | (have := hb.size; simp at this ⊢; omega)) _) | (refine Below.setCell ?_ (by simp) _))))⟩
theorem wash_any {a b c f t : Int} {A : Option Addr} {n cp : Nat} {xs : List Int} {w : World} (hr : RInts w w.heap.size A n xs) (hn : 5 ≤ n) (h0 : 0 ≤ f ∧ f ≤ 4) (_ : 0 ≤ t ∧ t ≤ 4) (hx : ∀ x ∈ xs, 0 ≤ x ∧ x ≤ 300) (hm : n ≤ 1048576) :
    Calls Try.prog 45 #[.agg #[.int .i64 a, .int .i64 b, .int .i64 c, .slice A n cp], .int .i64 f, .int .i64 t] w fun e w' => e = .returned (.int .i64 (washF xs f t)) ∧ Below w.heap.size w w' := by
  have hr1 := hr.alloc (Nat.le_refl _) (.cells #[.int .i64 a, .int .i64 b, .int .i64 c, .slice A n cp] 30)
  obtain ⟨ad, y, rfl, _, _, hy, hc⟩ := RInts.at_ (k := f.toNat) hr1 (by omega)
  have by1 := hx y (List.mem_of_getElem? hy)
  have hg : xs.getD f.toNat 0 = y := by rw [List.getD_eq_getElem?_getD, hy]; rfl
  have HG := Lib.hid hg
  have l2 : f < n := by omega
  clear hg hy hx hr1 hr
  rcases (by omega : t < f ∨ f < t ∨ f = t) with e3 | e3 | e3
  · go_enter Try.func45, Try.ntmps45
    go_wp2_with fail
    go_ret
    exact ⟨ret_int (by rw [washF, if_neg (by omega), if_pos (by omega), HG.out]), (by (repeat (first | exact Below.refl _ _ | exact hb | apply Below.drew | (refine Below.alloc ?_ (by first | (simp; done) | (simp; omega) | (have := hb.size; simp at this ⊢; omega)) _) | (refine Below.setCell ?_ (by simp) _))))⟩
  · go_enter Try.func45, Try.ntmps45
    go_wp2_with fail
    go_ret
    exact ⟨ret_int (by rw [washF, if_neg (by omega), if_neg (by omega), HG.out]), (by (repeat (first | exact Below.refl _ _ | exact hb | apply Below.drew | (refine Below.alloc ?_ (by first | (simp; done) | (simp; omega) | (have := hb.size; simp at this ⊢; omega)) _) | (refine Below.setCell ?_ (by simp) _))))⟩
  · have e4 : ¬ t < f := by omega
    have e5 : ¬ f < t := by omega
    have HE := Lib.hid e3; clear e3
    go_enter Try.func45, Try.ntmps45
    go_wp2_with fail
    go_ret
    exact ⟨ret_int (by rw [washF, if_pos HE.out]), (by (repeat (first | exact Below.refl _ _ | exact hb | apply Below.drew | (refine Below.alloc ?_ (by first | (simp; done) | (simp; omega) | (have := hb.size; simp at this ⊢; omega)) _) | (refine Below.setCell ?_ (by simp) _))))⟩

/-- The sheets that give x good ones. -/
def needL (c x : Int) : Nat → Int → Int
  | 0, n => n
  | f + 1, n => if n - (c * n + 999) / 1000 < x then needL c x f (n + 1) else n
def need (c x : Int) : Int := needL c x (x + 4).toNat x
theorem mul_bd {c n : Int} (h0 : 0 ≤ c ∧ c ≤ 500) (hn : 0 ≤ n) : 0 ≤ c * n ∧ c * n ≤ 500 * n := ⟨Int.mul_nonneg h0.1 hn, Int.mul_le_mul_of_nonneg_right h0.2 hn⟩
theorem needL_bd {c x : Int} (h0 : 0 ≤ c ∧ c ≤ 500) (h1 : 1 ≤ x) : ∀ (f : Nat) (n : Int), x ≤ n → n ≤ 2 * x + 3 → x ≤ needL c x f n ∧ needL c x f n ≤ 2 * x + 3
  | 0, n, hn, hm => by simp only [needL]; omega
  | f + 1, n, hn, hm => by
    have hb := mul_bd h0 (n := n) (by omega)
    simp only [needL]
    split
    · exact needL_bd h0 h1 f (n + 1) (by omega) (by omega)
    · omega
theorem need_bd {c x : Int} (h0 : 0 ≤ c ∧ c ≤ 500) (h1 : 1 ≤ x) : x ≤ need c x ∧ need c x ≤ 2 * x + 3 := needL_bd h0 h1 _ _ (by omega) (by omega)
theorem prNeeded_any {a b c x : Int} {A : Option Addr} {n cp : Nat} {w : World} (h0 : 0 ≤ c ∧ c ≤ 500) (h1 : 1 ≤ x ∧ x ≤ 20000) :
    Calls Try.prog 52 #[.agg #[.int .i64 a, .int .i64 b, .int .i64 c, .slice A n cp], .int .i64 x] w fun e w' => e = .returned (.int .i64 (need c x)) ∧ Below w.heap.size w w' := by
  go_enter Try.func52, Try.ntmps52
  go_wp2_with fail
  go_loop [5] (fun u => ∃ k : Int, x ≤ k ∧ k ≤ 2 * x + 3 ∧ u = .int .i64 k ∧ needL c x (2 * x + 4 - k).toNat k = need c x) (fun u => (2 * x + 4 - intOf u).toNat)
  case atStart => exact ⟨x, by omega, by omega, rfl, by rw [need]; congr 1; omega⟩
  case round =>
    obtain ⟨k, hk1, hk2, rfl, hR⟩ := hrel
    have hb := mul_bd h0 (n := k) (by omega)
    have hu : needL c x (2 * x + 4 - k).toNat k = if k - (c * k + 999) / 1000 < x then needL c x (2 * x + 4 - (k + 1)).toNat (k + 1) else k := by
      rw [show (2 * x + 4 - k).toNat = (2 * x + 4 - (k + 1)).toNat + 1 by omega]; rfl
    rw [hu] at hR
    have HR := Lib.hid hR; clear hR hu
    by_cases hlt : k - (c * k + 999) / 1000 < x
    · have hk3 : k + 1 ≤ 2 * x + 3 := by omega
      go_wp2_with fail
      go_round
      case rel => exact ⟨k + 1, by omega, by omega, rfl, by rw [← HR.out, if_pos (by omega)]⟩
      case measure => simp [intOf]; omega
    · go_wp2_with fail
      go_ret
      exact ⟨ret_int (by rw [← HR.out, if_neg (by omega)]), (by (repeat (first | exact Below.refl _ _ | exact hb | apply Below.drew | (refine Below.alloc ?_ (by first | (simp; done) | (simp; omega) | (have := hb.size; simp at this ⊢; omega)) _) | (refine Below.setCell ?_ (by simp) _))))⟩
theorem sheets_any {a b c i s d : Int} {A : Option Addr} {n cp : Nat} {w : World} (h0 : 0 ≤ c ∧ c ≤ 500) (h1 : 1 ≤ s ∧ s ≤ 20000) :
    Calls Try.prog 56 #[.agg #[.int .i64 a, .int .i64 b, .int .i64 c, .slice A n cp], .agg #[.int .i64 i, .int .i64 s, .int .i64 d]] w fun e w' => e = .returned (.int .i64 (need c s)) ∧ Below w.heap.size w w' := by
  go_enter Try.func56, Try.ntmps56
  go_wp2_with fail
  go_loop [5] (fun u => ∃ k : Int, s ≤ k ∧ k ≤ 2 * s + 3 ∧ u = .int .i64 k ∧ needL c s (2 * s + 4 - k).toNat k = need c s) (fun u => (2 * s + 4 - intOf u).toNat)
  case atStart => exact ⟨s, by omega, by omega, rfl, by rw [need]; congr 1; omega⟩
  case round =>
    obtain ⟨k, hk1, hk2, rfl, hR⟩ := hrel
    have hb := mul_bd h0 (n := k) (by omega)
    have hu : needL c s (2 * s + 4 - k).toNat k = if k - (c * k + 999) / 1000 < s then needL c s (2 * s + 4 - (k + 1)).toNat (k + 1) else k := by
      rw [show (2 * s + 4 - k).toNat = (2 * s + 4 - (k + 1)).toNat + 1 by omega]; rfl
    rw [hu] at hR
    have HR := Lib.hid hR; clear hR hu
    by_cases hlt : k - (c * k + 999) / 1000 < s
    · have hk3 : k + 1 ≤ 2 * s + 3 := by omega
      go_wp2_with fail
      go_round
      case rel => exact ⟨k + 1, by omega, by omega, rfl, by rw [← HR.out, if_pos (by omega)]⟩
      case measure => simp [intOf]; omega
    · go_wp2_with fail
      go_ret
      exact ⟨ret_int (by rw [← HR.out, if_neg (by omega)]), (by (repeat (first | exact Below.refl _ _ | exact hb | apply Below.drew | (refine Below.alloc ?_ (by first | (simp; done) | (simp; omega) | (have := hb.size; simp at this ⊢; omega)) _) | (refine Below.setCell ?_ (by simp) _))))⟩
def mins (a b c s : Int) : Int := b + (60 * need c s + a - 1) / a
theorem mins_bd {a b c s : Int} (ha : 1 ≤ a ∧ a ≤ 5000) (hb : 0 ≤ b ∧ b ≤ 600) (h0 : 0 ≤ c ∧ c ≤ 500) (h1 : 1 ≤ s ∧ s ≤ 20000) : 0 ≤ mins a b c s ∧ mins a b c s ≤ 2500000 ∧ 0 ≤ (60 * need c s + a - 1) / a ∧ (60 * need c s + a - 1) / a ≤ 2499000 := by
  have hn := need_bd h0 h1.1
  have d0 : 0 ≤ (60 * need c s + a - 1) / a := Int.ediv_nonneg (by omega) (by omega)
  have d1 : (60 * need c s + a - 1) / a ≤ 60 * need c s + a - 1 := Int.ediv_le_self _ (by omega)
  unfold mins
  omega
end Go.Proofs.Ytfjkmocjlmcjdaa
