/-
  Contracts: copies and sums of slices of ints; whether a number is in a slice.
-/
import Derived.Test.YtfemacefkaehjaaIn
import Derived.Laws.AppendOwnNone
namespace Go.Proofs.Ytfemacefkaehjaa
open Go.RowKit
set_option maxRecDepth 100000 in
theorem hasS_any {A : Option Addr} {n c B : Nat} {xs : List Int} {y : Int} {w : World} (hr : RInts w B A n xs) (hn : n ≤ 1048576) :
    Calls Try.prog 37 #[.slice A n c, .int .i64 y] w fun e w' => e = .returned (.bool (decide (y ∈ xs))) ∧ w = w' := by
  have HL := Lib.hid hr.len
  go_enter Try.func37, Try.ntmps37
  go_wp2_with fail
  go_loop [9] (fun i => ∃ k : Nat, k ≤ n ∧ i = .int .i64 k ∧ decide (y ∈ xs.drop k) = decide (y ∈ xs)) (fun i => n - (intOf i).toNat)
  case atStart => exact ⟨0, Nat.zero_le _, rfl, rfl⟩
  case round =>
    obtain ⟨k, hk, rfl, hR⟩ := hrel
    by_cases hlt : k < n
    · obtain ⟨ad, z, rfl, _, hd, _, hc⟩ := hr.at_ hlt
      by_cases hz : z = y
      · have e1 : (z == y) = true := by simp [hz]
        have HR := Lib.hid (show decide (y ∈ xs) = true by rw [← hR, hd, hz]; simp)
        clear hR hd hz
        go_wp2_with fail
        go_ret
        exact ⟨ret_bool HR.out.symm, rfl⟩
      · have e1 : (z == y) = false := by simp [hz]
        have HR := Lib.hid (show decide (y ∈ xs.drop (k + 1)) = decide (y ∈ xs) by rw [← hR, hd]; simp [Ne.symm hz])
        clear hR hd hz
        go_wp2_with fail
        go_round
        case rel => exact ⟨k + 1, by omega, by go_num, HR.out⟩
        case measure => simp [intOf]; omega
    · have HR := Lib.hid (show decide (y ∈ xs) = false by rw [← hR, drop_end HL.out hlt]; simp)
      clear hR
      go_wp2_with fail
      go_ret
      exact ⟨ret_bool HR.out.symm, rfl⟩
set_option maxRecDepth 100000 in
theorem hasI_any {A : Option Addr} {n c B : Nat} {xs : List Int} {y : Int} {w : World} (hr : RInts w B A n xs) (hn : n ≤ 1048576) :
    Calls Try.prog 43 #[.slice A n c, .int .i64 y] w fun e w' => e = .returned (.bool (decide (y ∈ xs))) ∧ w = w' := by
  have HL := Lib.hid hr.len
  go_enter Try.func43, Try.ntmps43
  go_wp2_with fail
  go_loop [9] (fun i => ∃ k : Nat, k ≤ n ∧ i = .int .i64 k ∧ decide (y ∈ xs.drop k) = decide (y ∈ xs)) (fun i => n - (intOf i).toNat)
  case atStart => exact ⟨0, Nat.zero_le _, rfl, rfl⟩
  case round =>
    obtain ⟨k, hk, rfl, hR⟩ := hrel
    by_cases hlt : k < n
    · obtain ⟨ad, z, rfl, _, hd, _, hc⟩ := hr.at_ hlt
      by_cases hz : z = y
      · have e1 : (z == y) = true := by simp [hz]
        have HR := Lib.hid (show decide (y ∈ xs) = true by rw [← hR, hd, hz]; simp)
        clear hR hd hz
        go_wp2_with fail
        go_ret
        exact ⟨ret_bool HR.out.symm, rfl⟩
      · have e1 : (z == y) = false := by simp [hz]
        have HR := Lib.hid (show decide (y ∈ xs.drop (k + 1)) = decide (y ∈ xs) by rw [← hR, hd]; simp [Ne.symm hz])
        clear hR hd hz
        go_wp2_with fail
        go_round
        case rel => exact ⟨k + 1, by omega, by go_num, HR.out⟩
        case measure => simp [intOf]; omega
    · have HR := Lib.hid (show decide (y ∈ xs) = false by rw [← hR, drop_end HL.out hlt]; simp)
      clear hR
      go_wp2_with fail
      go_ret
      exact ⟨ret_bool HR.out.symm, rfl⟩
set_option maxRecDepth 100000 in
theorem l1Own_any {A : Option Addr} {n c : Nat} {xs : List Int} {w : World} (hr : RInts w w.heap.size A n xs) (hn : n ≤ 1048576) (hc : A = none → c = 0) :
    Calls Try.prog 30 #[.slice A n c] w fun e w' => ∃ V C, e = .returned (.slice V n C) ∧ Own w' w.heap.size (.slice V n C) n (xs) ∧ Below w.heap.size w w' := by
  obtain ⟨i0, hi, hz0, hz1, hz2⟩ := info_parts info3
  have HR := Lib.hid hr
  have h0 := own_empty w w.heap.size (Nat.le_refl _)
  cases A with
  | none =>
    have hn0 : n = 0 := by
      rcases Nat.eq_zero_or_pos n with h | h
      · exact h
      · obtain ⟨ad, e, _⟩ := hr.2 h
        cases e
    have hc0 := hc rfl
    subst hn0 hc0
    have hx : xs = [] := List.eq_nil_of_length_eq_zero hr.len
    subst hx
    clear hr hc
    have hrun := run_append_owned_none (P := Try.prog) (w.alloc (.cells #[] 3)) w.heap.size 22 22 3 i0 1 Try.underlying22 hi _ _ _ h0
    go_enter Try.func30, Try.ntmps30
    go_wp2_with fail
    go_ret
    exact ⟨_, _, rfl, h0, (by (repeat (first | exact Below.refl _ _ | exact hb | apply Below.drew | (refine Below.alloc ?_ (by first | (simp; done) | (simp; omega) | (have := hb.size; simp at this ⊢; omega)) _) | (refine Below.setCell ?_ (by simp) _))))⟩
  | some ad =>
    have hrc : ∀ j u, (xs.map (Value.int .i64))[j]? = some u → (w.alloc (.cells #[] 3)).cell? (ad.add j) = some u := by
      intro j u hu
      by_cases hn0 : 0 < n
      · obtain ⟨ad', e, hb, hcell⟩ := hr.2 hn0
        injection e with e
        subst e
        rw [World.cell?_alloc_lt w _ _ (by rw [block_of_add]; exact hb)]
        exact hcell j u hu
      · have : xs = [] := List.eq_nil_of_length_eq_zero (by have := hr.len; omega)
        subst this
        simp at hu
    have HC := Lib.hid hrc
    have hl : (xs.map (Value.int .i64)).length = n * 1 := by simp [hr.len]
    have HL := Lib.hid hl
    clear hr hrc hl hc
    go_enter Try.func30, Try.ntmps30
    go_wp2_with (at_builtin; refine wpList_append_own _ rfl _ _ 22 rfl w.heap.size 3 i0 (.int .i64 0) 1 8 Try.underlying22 hi hz0 hz1 hz2 rfl (by decide) _ _ _ rfl h0 ad n _ (xs.map (Value.int .i64)) rfl HL.out HC.out (by intro u hu; simp at hu; obtain ⟨x, _, rfl⟩ := hu; rfl) (by unfold maxLen; omega) (by omega) (by simp) ?_)
    intro v' w1 hown' hgrow _
    have hkb := below_grown h0 (by simp) hgrow
    have ho2 : Own w1 w.heap.size v' n xs := by simpa [Own] using hown'
    have hb : Below w.heap.size w w1 := Below.trans (by (repeat (first | exact Below.refl _ _ | exact hb | apply Below.drew | (refine Below.alloc ?_ (by first | (simp; done) | (simp; omega) | (have := hb.size; simp at this ⊢; omega)) _) | (refine Below.setCell ?_ (by simp) _)))) hkb
    obtain ⟨V, C, rfl⟩ := own_slice ho2
    have HO := Lib.hid ho2
    clear hown' hgrow hkb h0 ho2
    go_wp2_with fail
    go_ret
    exact ⟨V, C, rfl, HO.out, hb⟩
def sumL : List Int → List Int → List Int
  | a :: r, h :: u => (a + h) :: sumL r u
  | _, _ => []
theorem sumL_len : ∀ {xs ys : List Int}, xs.length = ys.length → (sumL xs ys).length = xs.length
  | [], [], _ => rfl
  | _ :: _, _ :: _, h => by simp only [sumL, List.length_cons] at *; rw [sumL_len (by omega)]
  | [], _ :: _, h => by simp at h
  | _ :: _, [], h => by simp at h
theorem sumL_get : ∀ {xs ys : List Int} {k : Nat} {a h : Int}, xs[k]? = some a → ys[k]? = some h → (sumL xs ys)[k]? = some (a + h)
  | x :: r, y :: t, 0, a, h, h1, h2 => by simp at h1 h2; simp [sumL, h1, h2]
  | x :: r, y :: t, k + 1, a, h, h1, h2 => by
    simp only [List.getElem?_cons_succ] at h1 h2
    simp only [sumL, List.getElem?_cons_succ]
    exact sumL_get h1 h2
  | [], _, _, _, _, h1, _ => by simp at h1
  | _ :: _, [], _, _, _, _, h2 => by simp at h2
theorem sumL_step {xs ys zs r t : List Int} {a h : Int} {k : Nat} (hd : xs.drop k = a :: r) (he : ys.drop k = h :: t) (hR : zs ++ sumL (xs.drop k) (ys.drop k) = sumL xs ys) : (zs ++ [a + h]) ++ sumL r t = sumL xs ys := by
  rw [← hR, hd, he, sumL, List.append_assoc]; rfl
theorem sumL_bd {P Q : Int} : ∀ {xs ys : List Int}, (∀ x ∈ xs, 0 ≤ x ∧ x ≤ P) → (∀ x ∈ ys, 0 ≤ x ∧ x ≤ Q) → ∀ x ∈ sumL xs ys, 0 ≤ x ∧ x ≤ P + Q
  | [], ys, _, _ => by cases ys <;> simp [sumL]
  | _ :: _, [], _, _ => by simp [sumL]
  | x :: r, y :: t, h1, h2 => by
    intro z hz
    have a1 := h1 x (by simp)
    have a2 := h2 y (by simp)
    rw [sumL] at hz
    rcases List.mem_cons.1 hz with rfl | hz
    · omega
    · exact sumL_bd (fun q hq => h1 q (by simp [hq])) (fun q hq => h2 q (by simp [hq])) z hz
theorem plus1_any {A B : Option Addr} {n c d : Nat} {xs ys : List Int} {w : World} (hr : RInts w w.heap.size A n xs) (hs : RInts w w.heap.size B n ys) (hn : n ≤ 1048576) (h1 : ∀ x ∈ xs, 0 ≤ x ∧ x ≤ 1000000) (h2 : ∀ x ∈ ys, 0 ≤ x ∧ x ≤ 1000000) :
    Calls Try.prog 22 #[.slice A n c, .slice B n d, .int .i64 1] w fun e w' => ∃ V C, e = .returned (.slice V n C) ∧ Own w' w.heap.size (.slice V n C) n (sumL xs ys) ∧ Below w.heap.size w w' := by
  obtain ⟨i0, hi, hz0, hz1, hz2⟩ := info_parts info3
  have HL := Lib.hid hr.len
  have HM := Lib.hid hs.len
  have H1 := Lib.hid h1
  have H2 := Lib.hid h2
  clear h1 h2
  have h0 := own_empty w w.heap.size (Nat.le_refl _)
  go_enter Try.func22, Try.ntmps22
  go_wp2_with fail
  go_loopw [7, 13] (fun v u wr => ∃ (k : Nat) (zs : List Int), k ≤ n ∧ u = .int .i64 k ∧ Own wr w.heap.size v k zs ∧ zs ++ sumL (xs.drop k) (ys.drop k) = sumL xs ys ∧ Below w.heap.size w wr ∧ w.heap.size ≤ wr.heap.size) (fun _ u _ => n - (intOf u).toNat)
  case atStart => exact ⟨0, [], Nat.zero_le _, rfl, h0, rfl, (by (repeat (first | exact Below.refl _ _ | exact hb | apply Below.drew | (refine Below.alloc ?_ (by first | (simp; done) | (simp; omega) | (have := hb.size; simp at this ⊢; omega)) _) | (refine Below.setCell ?_ (by simp) _)))), by simp⟩
  case round =>
    clear h0
    obtain ⟨k, zs, hk, rfl, hown, hR, hb, hsz⟩ := hrel
    by_cases hlt : k < n
    · obtain ⟨ad, x, eA, _, hd, hx, hc⟩ := RInts.at_ (hr.below hb) hlt
      obtain ⟨ae, z, eB, _, he, hz, hcz⟩ := RInts.at_ (hs.below hb) hlt
      have bx := H1.out x (List.mem_of_getElem? hx)
      have bz := H2.out z (List.mem_of_getElem? hz)
      have HR := Lib.hid (sumL_step hd he hR)
      have HA := Lib.hid eA
      have HB := Lib.hid eB
      clear hR hd he hx hz
      rw [eA, eB]
      clear eA eB
      go_wp2_with (at_builtin; refine wpList_append_own _ rfl _ _ 22 rfl (w.heap.size) 3 i0 (.int .i64 0) 1 8 Try.underlying22 hi hz0 hz1 hz2 rfl (by decide) _ _ _ rfl (hown.alloc _) ⟨wr.heap.size, 0, none⟩ 1 1 [.int .i64 (x + z)] rfl rfl (new_one _ _ (by simp) _ _) (by intro u hu; simp at hu; subst hu; rfl) (by unfold maxLen; omega) (by omega) (by simp <;> omega) ?_)
      intro v' w1 hown' hgrow _
      have hkb := below_grown (World.ownsRow.alloc hown (.cells #[.int .i64 (x + z)] 3)) (by simp; omega) hgrow
      have ho2 := own_app hown'
      replace hb := (hb.alloc hb.size (.cells #[.int .i64 (x + z)] 3)).trans (hkb.mono (by omega))
      have hz3 := hkb.size
      simp only [World.size_alloc] at hz3
      clear hown hown' hgrow hkb hc hcz
      go_wp2_with fail
      (try rw [← HA.out]); (try rw [← HB.out])
      go_roundw
      case rel => exact ⟨k + 1, _, by omega, by go_num, ho2, HR.out, hb, by omega⟩
      case measure => simp [intOf]; omega
    · have hkn : k = n := by omega
      have HR := Lib.hid (show zs = sumL xs ys by rw [← hR, drop_end HL.out hlt]; cases ys.drop k <;> simp [sumL])
      clear hR
      obtain ⟨V, C, rfl⟩ := own_slice hown
      have HO := Lib.hid hown
      have HK := Lib.hid hkn
      clear hown hkn
      go_wp2_with fail
      go_ret
      have ho9 := HO.out
      rw [HR.out] at ho9
      have hkn := HK.out
      subst hkn
      exact ⟨V, C, rfl, ho9, hb⟩
theorem stSum_any {A B : Option Addr} {n c d : Nat} {xs ys : List Int} {w : World} (hr : RInts w w.heap.size A n xs) (hs : RInts w w.heap.size B n ys) (hn : n ≤ 1048576) (hc0 : A = none → c = 0) (h1 : ∀ x ∈ xs, 0 ≤ x ∧ x ≤ 1000000) (h2 : ∀ x ∈ ys, 0 ≤ x ∧ x ≤ 1000000) (hn1 : 0 < n) :
    Calls Try.prog 39 #[.slice A n c, .slice B n d] w fun e w' => ∃ V C, e = .returned (.slice V n C) ∧ Own w' w.heap.size (.slice V n C) n (sumL xs ys) ∧ Below w.heap.size w w' := by
  have HL := Lib.hid hr.len
  have HM := Lib.hid hs.len
  have H1 := Lib.hid h1
  have H2 := Lib.hid h2
  clear h1 h2
  go_enter Try.func39, Try.ntmps39
  go_wp2_with fail
  refine (l1Own_any hr hn hc0).mono ?_
  rintro e1 w1 ⟨V, C, rfl, hown, hn2⟩
  obtain ⟨g, cap, hv, _, hlt9⟩ := hown.form hn1
  injection hv with hv1 hv2 hv3
  subst hv1 hv3
  have hs9 := hown.lt g rfl
  go_wp2_with fail
  go_loopw [12] (fun u wr => ∃ (k : Nat) (zs : List Int), k ≤ n ∧ u = .int .i64 k ∧ Own wr w.heap.size (.slice (some ⟨g, 0, none⟩) n C) n zs ∧ zs.take k = (sumL xs ys).take k ∧ zs.drop k = xs.drop k ∧ Below w.heap.size w wr ∧ w.heap.size ≤ wr.heap.size) (fun u _ => n - (intOf u).toNat)
  case atStart => exact ⟨0, xs, Nat.zero_le _, rfl, hown, by simp, rfl, hn2, hn2.size⟩
  case round =>
    clear hown hn2
    obtain ⟨k, zs, hk, rfl, hown, hT, hD, hb, hsz⟩ := hrel
    by_cases hlt : k < n
    · obtain ⟨ae, z, eB, _, he, hz, hcz⟩ := RInts.at_ (hs.below hb) hlt
      have hxk : xs[k]? = some (xs[k]'(by have := HL.out; omega)) := List.getElem?_eq_getElem _
      have bz := H2.out z (List.mem_of_getElem? hz)
      obtain ⟨x, hx⟩ : ∃ x, xs[k]? = some x := ⟨_, hxk⟩
      have bx := H1.out x (List.mem_of_getElem? hx)
      have hzk : zs[k]? = some x := by have := congrArg (fun l : List Int => l[0]?) hD; simpa [hx] using this
      have hcell : wr.cell? ⟨g, k, none⟩ = some (.int .i64 x) := by rw [hown.cellAt k (by omega), List.getElem?_map, hzk]; rfl
      have hfz := hown.frozenAt k
      have HT := Lib.hid hT
      have HD := Lib.hid hD
      have HX := Lib.hid hx
      have HZ := Lib.hid hz
      have HB := Lib.hid eB
      have HY := Lib.hid (own_len hown)
      clear hT hD he hz hx hxk hzk
      rw [eB]
      clear eB
      go_wp2_with fail
      (try rw [← HB.out])
      go_roundw
      case rel =>
        obtain ⟨s1, s2⟩ := hown.stored k (.int .i64 (x + z))
        have hkl : k < zs.length := by rw [HY.out]; exact hlt
        refine ⟨k + 1, zs.set k (x + z), by omega, by go_num, ?_, ?_, ?_, hb.setCell (by simp; omega) _, by simpa [World.setCell] using hsz⟩
        · rw [← List.map_set] at s1
          exact s1
        · rw [List.take_add_one, List.take_add_one, sumL_get HX.out HZ.out, List.take_set_of_le (Nat.le_refl k), HT.out, List.getElem?_set_self hkl]
        · rw [List.drop_set_of_lt (by omega)]
          have := congrArg (List.drop 1) HD.out
          simpa [List.drop_drop, Nat.add_comm] using this
      case measure => simp [intOf]; omega
    · have hkn : k = n := by omega
      have HT := Lib.hid hT
      have HY := Lib.hid (own_len hown)
      have HO := Lib.hid hown
      clear hT hD hown
      go_wp2_with fail
      go_ret
      have h1 := HT.out
      rw [List.take_of_length_le (by rw [HY.out]; omega), List.take_of_length_le (by rw [sumL_len (by rw [HL.out, HM.out]), HL.out]; omega)] at h1
      have ho9 := HO.out
      rw [h1] at ho9
      exact ⟨_, _, rfl, ho9, hb⟩
end Go.Proofs.Ytfemacefkaehjaa
