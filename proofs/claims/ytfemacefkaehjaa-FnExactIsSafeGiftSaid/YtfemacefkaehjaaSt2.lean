/-
  Contracts: AllOfSort, CanFinish and what they call.
-/
import Derived.Test.YtfemacefkaehjaaSt1
namespace Go.Proofs.Ytfemacefkaehjaa
open Go.RowKit
theorem areForms_impl {A B : Option Addr} {n c m d : Nat} {fr : List Int} {fs : List Frm} {w : World} (hr : RInts w w.heap.size A n fr) (hn0 : n ≤ 1048576) (hs0 : AForms w B m fs) (hm0 : m ≤ 1048576) :
    Calls Try.prog 24 #[.slice A n c, .slice B m d] w fun e w' => e = .returned (.bool (stG fr fs)) ∧ Below w.heap.size w w' := by
  obtain ⟨ys, hs, rfl, hL⟩ := hs0
  exact areForms_any hr hn0 hs hm0 hL
def askG (fr : List Int) (fs : List Frm) (i : Int) : Bool := stG fr fs && inB i 0 ((fs.length : Int) - 1)
theorem stGood_a {A B : Option Addr} {n c m d : Nat} {fr : List Int} {fs : List Frm} {w : World} (hr : RInts w w.heap.size A n fr) (hn0 : n ≤ 1048576) (hs0 : AForms w B m fs) (hm0 : m ≤ 1048576) :
    Calls Try.prog 34 #[.slice A n c, .slice B m d] w fun e w' => e = .returned (.bool (stG fr fs)) ∧ Below w.heap.size w w' := by
  obtain ⟨ys, hs, rfl, hL⟩ := hs0
  exact stGood_any hr hn0 hs hm0 hL
theorem stAsked_any {A B : Option Addr} {n c m d : Nat} {fr : List Int} {fs : List Frm} {i : Int} {w : World} (hr : RInts w w.heap.size A n fr) (hn0 : n ≤ 1048576) (hs : AForms w B m fs) (hm0 : m ≤ 1048576) :
    Calls Try.prog 29 #[.slice A n c, .slice B m d, .int .i64 i] w fun e w' => e = .returned (.bool (askG fr fs i)) ∧ Below w.heap.size w w' := by
  have HM := Lib.hid hs.len
  cases h1 : stG fr fs
  · go_enter Try.func29, Try.ntmps29
    go_wp2_with fail
    refine (stGood_a hr hn0 hs hm0).mono ?_
    rintro e w' ⟨rfl, hn⟩
    go_wp2_with fail
    go_ret
    exact ⟨ret_bool (by simp [askG, h1]), hn⟩
  · go_enter Try.func29, Try.ntmps29
    go_wp2_with fail
    refine (stGood_a hr hn0 hs hm0).mono ?_
    rintro e w' ⟨rfl, hn⟩
    go_wp2_with (go_at_call 32; refine (in_any _ _ _ _).mono ?_; rintro e1 w1 ⟨rfl, rfl⟩)
    go_ret
    exact ⟨ret_bool (by simp [askG, h1, HM.out]), hn⟩
theorem isForm_any {A B : Option Addr} {n c m d : Nat} {fr : List Int} {fs : List Frm} {i : Int} {w : World} (hr : RInts w w.heap.size A n fr) (hn0 : n ≤ 1048576) (hs : AForms w B m fs) (hm0 : m ≤ 1048576) :
    Calls Try.prog 21 #[.slice A n c, .slice B m d, .int .i64 i] w fun e w' => e = .returned (.bool (askG fr fs i)) ∧ Below w.heap.size w w' := by
  have HM := Lib.hid hs.len
  cases h1 : stG fr fs
  · go_enter Try.func21, Try.ntmps21
    go_wp2_with fail
    refine (areForms_impl hr hn0 hs hm0).mono ?_
    rintro e w' ⟨rfl, hn⟩
    go_wp2_with fail
    go_ret
    exact ⟨ret_bool (by simp [askG, h1]), hn⟩
  · go_enter Try.func21, Try.ntmps21
    go_wp2_with fail
    refine (areForms_impl hr hn0 hs hm0).mono ?_
    rintro e w' ⟨rfl, hn⟩
    go_wp2_with (go_at_call 35; refine (within_any _ _ _ _).mono ?_; rintro e1 w1 ⟨rfl, rfl⟩)
    go_ret
    exact ⟨ret_bool (by simp [askG, h1, HM.out]), hn⟩
def canL : List Int → List Int → Bool
  | a :: r, x :: t => decide (x ≤ a) && canL r t
  | _, _ => true
theorem stCan_any {A : Option Addr} {n c B : Nat} {fr : List Int} {y : FV} {w : World} (hr : RInts w B A n fr) (hy : y.In w B) (hB : B ≤ w.heap.size) (hn : n ≤ 1048576) (hl : y.f.wanted.length = n) :
    Calls Try.prog 38 #[.slice A n c, .agg #[.slice y.a1 y.f.held.length y.c1, .slice y.a2 y.f.wanted.length y.c2]] w fun e w' => e = .returned (.bool (canL fr y.f.wanted)) ∧ Below w.heap.size w w' := by
  have hr1 := Reads.alloc (hr.more hB) (Nat.le_refl _) (.cells #[.slice y.a1 y.f.held.length y.c1, .slice y.a2 y.f.wanted.length y.c2] 40)
  have hs1 := Reads.alloc (hy.2.more hB) (Nat.le_refl _) (.cells #[.slice y.a1 y.f.held.length y.c1, .slice y.a2 y.f.wanted.length y.c2] 40)
  have HL := Lib.hid hr.len
  have HW := Lib.hid hl
  have lw : y.f.wanted.length ≤ 1048576 := by omega
  have lw2 : y.f.wanted.length ≤ n := by omega
  clear hl hr hy
  go_enter Try.func38, Try.ntmps38
  go_wp2_with fail
  go_loop [10] (fun i => ∃ k : Nat, k ≤ y.f.wanted.length ∧ i = .int .i64 k ∧ canL (fr.drop k) (y.f.wanted.drop k) = canL fr y.f.wanted) (fun i => y.f.wanted.length - (intOf i).toNat)
  case atStart => exact ⟨0, Nat.zero_le _, rfl, rfl⟩
  case round =>
    obtain ⟨k, hk, rfl, hR⟩ := hrel
    by_cases hlt : k < y.f.wanted.length
    · obtain ⟨ad, x, eA, _, hd, hx, hc⟩ := RInts.at_ hr1 (k := k) (by omega)
      obtain ⟨ae, z, eB, _, he, hz, hcz⟩ := RInts.at_ hs1 hlt
      subst eA
      rw [eB] at hc
      rw [eB] at *
      have HR := Lib.hid (show (decide (z ≤ x) && canL (fr.drop (k + 1)) (y.f.wanted.drop (k + 1))) = canL fr y.f.wanted by rw [← hR, hd, he, canL])
      have hkn : k < n := by omega
      clear hR hd he hx hz
      by_cases hc2 : z ≤ x
      · go_wp2_with fail
        go_round
        case rel => exact ⟨k + 1, by omega, by go_num, by rw [← HR.out]; simp [hc2]⟩
        case measure => simp [intOf]; omega
      · go_wp2_with fail
        go_ret
        exact ⟨ret_bool (by rw [← HR.out]; simp; omega), (by (repeat (first | exact Below.refl _ _ | exact hb | apply Below.drew | (refine Below.alloc ?_ (by first | (simp; done) | (simp; omega) | (have := hb.size; simp at this ⊢; omega)) _) | (refine Below.setCell ?_ (by simp) _))))⟩
    · have HR := Lib.hid (show canL fr y.f.wanted = true by rw [← hR, List.drop_of_length_le (l := y.f.wanted) (by omega)]; cases fr.drop k <;> rfl)
      clear hR
      go_wp2_with fail
      go_ret
      exact ⟨ret_bool HR.out.symm, (by (repeat (first | exact Below.refl _ _ | exact hb | apply Below.drew | (refine Below.alloc ?_ (by first | (simp; done) | (simp; omega) | (have := hb.size; simp at this ⊢; omega)) _) | (refine Below.setCell ?_ (by simp) _))))⟩
theorem canFinish_any {A : Option Addr} {n c B : Nat} {fr : List Int} {y : FV} {w : World} (hr : RInts w B A n fr) (hy : y.In w B) (hB : B ≤ w.heap.size) (hn : n ≤ 1048576) (hl : y.f.wanted.length = n) :
    Calls Try.prog 44 #[.slice A n c, .agg #[.slice y.a1 y.f.held.length y.c1, .slice y.a2 y.f.wanted.length y.c2]] w fun e w' => e = .returned (.bool (canL fr y.f.wanted)) ∧ Below w.heap.size w w' := by
  have hr1 := Reads.alloc (hr.more hB) (Nat.le_refl _) (.cells #[.slice y.a1 y.f.held.length y.c1, .slice y.a2 y.f.wanted.length y.c2] 40)
  have hs1 := Reads.alloc (hy.2.more hB) (Nat.le_refl _) (.cells #[.slice y.a1 y.f.held.length y.c1, .slice y.a2 y.f.wanted.length y.c2] 40)
  have HL := Lib.hid hr.len
  have HW := Lib.hid hl
  have lw : y.f.wanted.length ≤ 1048576 := by omega
  have lw2 : y.f.wanted.length ≤ n := by omega
  clear hl hr hy
  go_enter Try.func44, Try.ntmps44
  go_wp2_with fail
  go_loop [10] (fun i => ∃ k : Nat, k ≤ y.f.wanted.length ∧ i = .int .i64 k ∧ canL (fr.drop k) (y.f.wanted.drop k) = canL fr y.f.wanted) (fun i => y.f.wanted.length - (intOf i).toNat)
  case atStart => exact ⟨0, Nat.zero_le _, rfl, rfl⟩
  case round =>
    obtain ⟨k, hk, rfl, hR⟩ := hrel
    by_cases hlt : k < y.f.wanted.length
    · obtain ⟨ad, x, eA, _, hd, hx, hc⟩ := RInts.at_ hr1 (k := k) (by omega)
      obtain ⟨ae, z, eB, _, he, hz, hcz⟩ := RInts.at_ hs1 hlt
      subst eA
      rw [eB] at hc
      rw [eB] at *
      have HR := Lib.hid (show (decide (z ≤ x) && canL (fr.drop (k + 1)) (y.f.wanted.drop (k + 1))) = canL fr y.f.wanted by rw [← hR, hd, he, canL])
      have hkn : k < n := by omega
      clear hR hd he hx hz
      by_cases hc2 : z ≤ x
      · go_wp2_with fail
        go_round
        case rel => exact ⟨k + 1, by omega, by go_num, by rw [← HR.out]; simp [hc2]⟩
        case measure => simp [intOf]; omega
      · go_wp2_with fail
        go_ret
        exact ⟨ret_bool (by rw [← HR.out]; simp; omega), (by (repeat (first | exact Below.refl _ _ | exact hb | apply Below.drew | (refine Below.alloc ?_ (by first | (simp; done) | (simp; omega) | (have := hb.size; simp at this ⊢; omega)) _) | (refine Below.setCell ?_ (by simp) _))))⟩
    · have HR := Lib.hid (show canL fr y.f.wanted = true by rw [← hR, List.drop_of_length_le (l := y.f.wanted) (by omega)]; cases fr.drop k <;> rfl)
      clear hR
      go_wp2_with fail
      go_ret
      exact ⟨ret_bool HR.out.symm, (by (repeat (first | exact Below.refl _ _ | exact hb | apply Below.drew | (refine Below.alloc ?_ (by first | (simp; done) | (simp; omega) | (have := hb.size; simp at this ⊢; omega)) _) | (refine Below.setCell ?_ (by simp) _))))⟩
def frmAt (fs : List Frm) (i : Int) : Frm := (fs[i.toNat]?).getD ⟨[], []⟩
theorem frmAt_map {ys : List FV} {y : FV} {i : Int} (h : ys[i.toNat]? = some y) : frmAt (ys.map FV.f) i = y.f := by rw [frmAt, List.getElem?_map, h]; rfl
theorem ask_true {fr : List Int} {fs : List Frm} {i : Int} (h : askG fr fs i = true) : stG fr fs = true ∧ 0 ≤ i ∧ i ≤ (fs.length : Int) - 1 := by
  simp only [askG, Bool.and_eq_true, inB_true] at h
  exact ⟨h.1, h.2⟩
def cfV (fr : List Int) (fs : List Frm) (i : Int) : Bool := askG fr fs i && canL fr (frmAt fs i).wanted
def sumH (i : Nat) : List Frm → Int
  | [] => 0
  | f :: r => f.held.getD i 0 + sumH i r
def aosG (fr : List Int) (fs : List Frm) (i : Int) : Bool := stG fr fs && inB i 0 ((fr.length : Int) - 1)
def aosV (fr : List Int) (fs : List Frm) (i : Int) : Int := if aosG fr fs i then fr.getD i.toNat 0 + sumH i.toNat fs else 0
end Go.Proofs.Ytfemacefkaehjaa
