/-
  Contracts: copies and sums of slices of ints; whether a number is in a slice.
-/
import Derived.Test.YtfjkmocjlmcjdaaIn
import Derived.Laws.AppendOwnNone
namespace Go.Proofs.Ytfjkmocjlmcjdaa
open Go.RowKit
set_option maxRecDepth 100000 in
theorem hasS_any {A : Option Addr} {n c B : Nat} {xs : List Int} {y : Int} {w : World} (hr : RInts w B A n xs) (hn : n ≤ 1048576) :
    Calls Try.prog 37 #[.slice A n c, .int .i64 y] w fun e w' => e = .returned (.bool (decide (y ∈ xs))) ∧ w = w' := by
  have HL := Lib.hid hr.len
  go_enter Try.func37, Try.ntmps37
  go_wp2_with fail
  go_loop [9] (fun i => ∃ k : Nat, k ≤ n ∧ i = .int .i64 k ∧ decide (y ∈ xs.drop k) = decide (y ∈ xs)) (fun i => n - (intOf i).toNat)
  case atStart => exact ⟨0, Nat.zero_le _, rfl, rfl⟩
  case round =>
    obtain ⟨k, hk, rfl, hR⟩ := hrel
    by_cases hlt : k < n
    · obtain ⟨ad, z, rfl, _, hd, _, hc⟩ := hr.at_ hlt
      by_cases hz : z = y
      · have e1 : (z == y) = true := by simp [hz]
        have HR := Lib.hid (show decide (y ∈ xs) = true by rw [← hR, hd, hz]; simp)
        clear hR hd hz
        go_wp2_with fail
        go_ret
        exact ⟨ret_bool HR.out.symm, rfl⟩
      · have e1 : (z == y) = false := by simp [hz]
        have HR := Lib.hid (show decide (y ∈ xs.drop (k + 1)) = decide (y ∈ xs) by rw [← hR, hd]; simp [Ne.symm hz])
        clear hR hd hz
        go_wp2_with fail
        go_round
        case rel => exact ⟨k + 1, by omega, by go_num, HR.out⟩
        case measure => simp [intOf]; omega
    · have HR := Lib.hid (show decide (y ∈ xs) = false by rw [← hR, drop_end HL.out hlt]; simp)
      clear hR
      go_wp2_with fail
      go_ret
      exact ⟨ret_bool HR.out.symm, rfl⟩
set_option maxRecDepth 100000 in
theorem hasI_any {A : Option Addr} {n c B : Nat} {xs : List Int} {y : Int} {w : World} (hr : RInts w B A n xs) (hn : n ≤ 1048576) :
    Calls Try.prog 55 #[.slice A n c, .int .i64 y] w fun e w' => e = .returned (.bool (decide (y ∈ xs))) ∧ w = w' := by
  have HL := Lib.hid hr.len
  go_enter Try.func55, Try.ntmps55
  go_wp2_with fail
  go_loop [9] (fun i => ∃ k : Nat, k ≤ n ∧ i = .int .i64 k ∧ decide (y ∈ xs.drop k) = decide (y ∈ xs)) (fun i => n - (intOf i).toNat)
  case atStart => exact ⟨0, Nat.zero_le _, rfl, rfl⟩
  case round =>
    obtain ⟨k, hk, rfl, hR⟩ := hrel
    by_cases hlt : k < n
    · obtain ⟨ad, z, rfl, _, hd, _, hc⟩ := hr.at_ hlt
      by_cases hz : z = y
      · have e1 : (z == y) = true := by simp [hz]
        have HR := Lib.hid (show decide (y ∈ xs) = true by rw [← hR, hd, hz]; simp)
        clear hR hd hz
        go_wp2_with fail
        go_ret
        exact ⟨ret_bool HR.out.symm, rfl⟩
      · have e1 : (z == y) = false := by simp [hz]
        have HR := Lib.hid (show decide (y ∈ xs.drop (k + 1)) = decide (y ∈ xs) by rw [← hR, hd]; simp [Ne.symm hz])
        clear hR hd hz
        go_wp2_with fail
        go_round
        case rel => exact ⟨k + 1, by omega, by go_num, HR.out⟩
        case measure => simp [intOf]; omega
    · have HR := Lib.hid (show decide (y ∈ xs) = false by rw [← hR, drop_end HL.out hlt]; simp)
      clear hR
      go_wp2_with fail
      go_ret
      exact ⟨ret_bool HR.out.symm, rfl⟩
set_option maxRecDepth 100000 in
theorem l1Own_any {A : Option Addr} {n c : Nat} {xs : List Int} {w : World} (hr : RInts w w.heap.size A n xs) (hn : n ≤ 1048576) (hc : A = none → c = 0) :
    Calls Try.prog 38 #[.slice A n c] w fun e w' => ∃ V C, e = .returned (.slice V n C) ∧ Own w' w.heap.size (.slice V n C) n (xs) ∧ Below w.heap.size w w' := by
  obtain ⟨i0, hi, hz0, hz1, hz2⟩ := info_parts info3
  have HR := Lib.hid hr
  have h0 := own_empty w w.heap.size (Nat.le_refl _)
  cases A with
  | none =>
    have hn0 : n = 0 := by
      rcases Nat.eq_zero_or_pos n with h | h
      · exact h
      · obtain ⟨ad, e, _⟩ := hr.2 h
        cases e
    have hc0 := hc rfl
    subst hn0 hc0
    have hx : xs = [] := List.eq_nil_of_length_eq_zero hr.len
    subst hx
    clear hr hc
    have hrun := run_append_owned_none (P := Try.prog) (w.alloc (.cells #[] 3)) w.heap.size 22 22 3 i0 1 Try.underlying22 hi _ _ _ h0
    go_enter Try.func38, Try.ntmps38
    go_wp2_with fail
    go_ret
    exact ⟨_, _, rfl, h0, (by (repeat (first | exact Below.refl _ _ | exact hb | apply Below.drew | (refine Below.alloc ?_ (by first | (simp; done) | (simp; omega) | (have := hb.size; simp at this ⊢; omega)) _) | (refine Below.setCell ?_ (by simp) _))))⟩
  | some ad =>
    have hrc : ∀ j u, (xs.map (Value.int .i64))[j]? = some u → (w.alloc (.cells #[] 3)).cell? (ad.add j) = some u := by
      intro j u hu
      by_cases hn0 : 0 < n
      · obtain ⟨ad', e, hb, hcell⟩ := hr.2 hn0
        injection e with e
        subst e
        rw [World.cell?_alloc_lt w _ _ (by rw [block_of_add]; exact hb)]
        exact hcell j u hu
      · have : xs = [] := List.eq_nil_of_length_eq_zero (by have := hr.len; omega)
        subst this
        simp at hu
    have HC := Lib.hid hrc
    have hl : (xs.map (Value.int .i64)).length = n * 1 := by simp [hr.len]
    have HL := Lib.hid hl
    clear hr hrc hl hc
    go_enter Try.func38, Try.ntmps38
    go_wp2_with (at_builtin; refine wpList_append_own _ rfl _ _ 22 rfl w.heap.size 3 i0 (.int .i64 0) 1 8 Try.underlying22 hi hz0 hz1 hz2 rfl (by decide) _ _ _ rfl h0 ad n _ (xs.map (Value.int .i64)) rfl HL.out HC.out (by intro u hu; simp at hu; obtain ⟨x, _, rfl⟩ := hu; rfl) (by unfold maxLen; omega) (by omega) (by simp) ?_)
    intro v' w1 hown' hgrow _
    have hkb := below_grown h0 (by simp) hgrow
    have ho2 : Own w1 w.heap.size v' n xs := by simpa [Own] using hown'
    have hb : Below w.heap.size w w1 := Below.trans (by (repeat (first | exact Below.refl _ _ | exact hb | apply Below.drew | (refine Below.alloc ?_ (by first | (simp; done) | (simp; omega) | (have := hb.size; simp at this ⊢; omega)) _) | (refine Below.setCell ?_ (by simp) _)))) hkb
    obtain ⟨V, C, rfl⟩ := own_slice ho2
    have HO := Lib.hid ho2
    clear hown' hgrow hkb h0 ho2
    go_wp2_with fail
    go_ret
    exact ⟨V, C, rfl, HO.out, hb⟩
def sumL : List Int → List Int → List Int
  | a :: r, h :: u => (a + h) :: sumL r u
  | _, _ => []
theorem sumL_len : ∀ {xs ys : List Int}, xs.length = ys.length → (sumL xs ys).length = xs.length
  | [], [], _ => rfl
  | _ :: _, _ :: _, h => by simp only [sumL, List.length_cons] at *; rw [sumL_len (by omega)]
  | [], _ :: _, h => by simp at h
  | _ :: _, [], h => by simp at h
theorem sumL_get : ∀ {xs ys : List Int} {k : Nat} {a h : Int}, xs[k]? = some a → ys[k]? = some h → (sumL xs ys)[k]? = some (a + h)
  | x :: r, y :: t, 0, a, h, h1, h2 => by simp at h1 h2; simp [sumL, h1, h2]
  | x :: r, y :: t, k + 1, a, h, h1, h2 => by
    simp only [List.getElem?_cons_succ] at h1 h2
    simp only [sumL, List.getElem?_cons_succ]
    exact sumL_get h1 h2
  | [], _, _, _, _, h1, _ => by simp at h1
  | _ :: _, [], _, _, _, _, h2 => by simp at h2
theorem sumL_step {xs ys zs r t : List Int} {a h : Int} {k : Nat} (hd : xs.drop k = a :: r) (he : ys.drop k = h :: t) (hR : zs ++ sumL (xs.drop k) (ys.drop k) = sumL xs ys) : (zs ++ [a + h]) ++ sumL r t = sumL xs ys := by
  rw [← hR, hd, he, sumL, List.append_assoc]; rfl
theorem sumL_bd {P Q : Int} : ∀ {xs ys : List Int}, (∀ x ∈ xs, 0 ≤ x ∧ x ≤ P) → (∀ x ∈ ys, 0 ≤ x ∧ x ≤ Q) → ∀ x ∈ sumL xs ys, 0 ≤ x ∧ x ≤ P + Q
  | [], ys, _, _ => by cases ys <;> simp [sumL]
  | _ :: _, [], _, _ => by simp [sumL]
  | x :: r, y :: t, h1, h2 => by
    intro z hz
    have a1 := h1 x (by simp)
    have a2 := h2 y (by simp)
    rw [sumL] at hz
    rcases List.mem_cons.1 hz with rfl | hz
    · omega
    · exact sumL_bd (fun q hq => h1 q (by simp [hq])) (fun q hq => h2 q (by simp [hq])) z hz
end Go.Proofs.Ytfjkmocjlmcjdaa
