/-
  Contracts: AllOfSort, CanFinish and what they call.
-/
import Derived.Test.YtlblcblkcphdjaaSt1
namespace Go.Proofs.Ytlblcblkcphdjaa
open Go.RowKit
theorem areForms_spec {A B : Option Addr} {n c m d : Nat} {fr : List Int} {fs : List Frm} {w : World} (hr : RInts w w.heap.size A n fr) (hn0 : n ≤ 1048576) (hs0 : AForms w B m fs) (hm0 : m ≤ 1048576) :
    Calls Try.prog 15 #[.slice A n c, .slice B m d] w fun e w' => e = .returned (.bool (stG fr fs)) ∧ Below w.heap.size w w' := by
  obtain ⟨ys, hs, rfl, hL⟩ := hs0
  go_enter Try.func15, Try.ntmps15
  go_wp2_with fail
  refine (stGood_any hr hn0 hs hm0 hL).mono ?_
  rintro e w' ⟨rfl, hn⟩
  go_wp2_with fail
  go_ret
  exact ⟨rfl, hn⟩
theorem areForms_impl {A B : Option Addr} {n c m d : Nat} {fr : List Int} {fs : List Frm} {w : World} (hr : RInts w w.heap.size A n fr) (hn0 : n ≤ 1048576) (hs0 : AForms w B m fs) (hm0 : m ≤ 1048576) :
    Calls Try.prog 18 #[.slice A n c, .slice B m d] w fun e w' => e = .returned (.bool (stG fr fs)) ∧ Below w.heap.size w w' := by
  obtain ⟨ys, hs, rfl, hL⟩ := hs0
  exact areForms_any hr hn0 hs hm0 hL
def askG (fr : List Int) (fs : List Frm) (i : Int) : Bool := stG fr fs && inB i 0 ((fs.length : Int) - 1)
theorem stGood_a {A B : Option Addr} {n c m d : Nat} {fr : List Int} {fs : List Frm} {w : World} (hr : RInts w w.heap.size A n fr) (hn0 : n ≤ 1048576) (hs0 : AForms w B m fs) (hm0 : m ≤ 1048576) :
    Calls Try.prog 46 #[.slice A n c, .slice B m d] w fun e w' => e = .returned (.bool (stG fr fs)) ∧ Below w.heap.size w w' := by
  obtain ⟨ys, hs, rfl, hL⟩ := hs0
  exact stGood_any hr hn0 hs hm0 hL
theorem stAsked_any {A B : Option Addr} {n c m d : Nat} {fr : List Int} {fs : List Frm} {i : Int} {w : World} (hr : RInts w w.heap.size A n fr) (hn0 : n ≤ 1048576) (hs : AForms w B m fs) (hm0 : m ≤ 1048576) :
    Calls Try.prog 52 #[.slice A n c, .slice B m d, .int .i64 i] w fun e w' => e = .returned (.bool (askG fr fs i)) ∧ Below w.heap.size w w' := by
  have HM := Lib.hid hs.len
  cases h1 : stG fr fs
  · go_enter Try.func52, Try.ntmps52
    go_wp2_with fail
    refine (stGood_a hr hn0 hs hm0).mono ?_
    rintro e w' ⟨rfl, hn⟩
    go_wp2_with fail
    go_ret
    exact ⟨ret_bool (by simp [askG, h1]), hn⟩
  · go_enter Try.func52, Try.ntmps52
    go_wp2_with fail
    refine (stGood_a hr hn0 hs hm0).mono ?_
    rintro e w' ⟨rfl, hn⟩
    go_wp2_with (go_at_call 56; refine (in_any _ _ _ _).mono ?_; rintro e1 w1 ⟨rfl, rfl⟩)
    go_ret
    exact ⟨ret_bool (by simp [askG, h1, HM.out]), hn⟩
theorem isForm_any {A B : Option Addr} {n c m d : Nat} {fr : List Int} {fs : List Frm} {i : Int} {w : World} (hr : RInts w w.heap.size A n fr) (hn0 : n ≤ 1048576) (hs : AForms w B m fs) (hm0 : m ≤ 1048576) :
    Calls Try.prog 54 #[.slice A n c, .slice B m d, .int .i64 i] w fun e w' => e = .returned (.bool (askG fr fs i)) ∧ Below w.heap.size w w' := by
  have HM := Lib.hid hs.len
  cases h1 : stG fr fs
  · go_enter Try.func54, Try.ntmps54
    go_wp2_with fail
    refine (areForms_impl hr hn0 hs hm0).mono ?_
    rintro e w' ⟨rfl, hn⟩
    go_wp2_with fail
    go_ret
    exact ⟨ret_bool (by simp [askG, h1]), hn⟩
  · go_enter Try.func54, Try.ntmps54
    go_wp2_with fail
    refine (areForms_impl hr hn0 hs hm0).mono ?_
    rintro e w' ⟨rfl, hn⟩
    go_wp2_with (go_at_call 49; refine (within_any _ _ _ _).mono ?_; rintro e1 w1 ⟨rfl, rfl⟩)
    go_ret
    exact ⟨ret_bool (by simp [askG, h1, HM.out]), hn⟩
def canL : List Int → List Int → Bool
  | a :: r, x :: t => decide (x ≤ a) && canL r t
  | _, _ => true
theorem stCan_any {A : Option Addr} {n c B : Nat} {fr : List Int} {y : FV} {w : World} (hr : RInts w B A n fr) (hy : y.In w B) (hB : B ≤ w.heap.size) (hn : n ≤ 1048576) (hl : y.f.wanted.length = n) :
    Calls Try.prog 53 #[.slice A n c, .agg #[.slice y.a1 y.f.held.length y.c1, .slice y.a2 y.f.wanted.length y.c2]] w fun e w' => e = .returned (.bool (canL fr y.f.wanted)) ∧ Below w.heap.size w w' := by
  have hr1 := Reads.alloc (hr.more hB) (Nat.le_refl _) (.cells #[.slice y.a1 y.f.held.length y.c1, .slice y.a2 y.f.wanted.length y.c2] 52)
  have hs1 := Reads.alloc (hy.2.more hB) (Nat.le_refl _) (.cells #[.slice y.a1 y.f.held.length y.c1, .slice y.a2 y.f.wanted.length y.c2] 52)
  have HL := Lib.hid hr.len
  have HW := Lib.hid hl
  have lw : y.f.wanted.length ≤ 1048576 := by omega
  have lw2 : y.f.wanted.length ≤ n := by omega
  clear hl hr hy
  go_enter Try.func53, Try.ntmps53
  go_wp2_with fail
  go_loop [10] (fun i => ∃ k : Nat, k ≤ y.f.wanted.length ∧ i = .int .i64 k ∧ canL (fr.drop k) (y.f.wanted.drop k) = canL fr y.f.wanted) (fun i => y.f.wanted.length - (intOf i).toNat)
  case atStart => exact ⟨0, Nat.zero_le _, rfl, rfl⟩
  case round =>
    obtain ⟨k, hk, rfl, hR⟩ := hrel
    by_cases hlt : k < y.f.wanted.length
    · obtain ⟨ad, x, eA, _, hd, hx, hc⟩ := RInts.at_ hr1 (k := k) (by omega)
      obtain ⟨ae, z, eB, _, he, hz, hcz⟩ := RInts.at_ hs1 hlt
      subst eA
      rw [eB] at hc
      rw [eB] at *
      have HR := Lib.hid (show (decide (z ≤ x) && canL (fr.drop (k + 1)) (y.f.wanted.drop (k + 1))) = canL fr y.f.wanted by rw [← hR, hd, he, canL])
      have hkn : k < n := by omega
      clear hR hd he hx hz
      by_cases hc2 : z ≤ x
      · go_wp2_with fail
        go_round
        case rel => exact ⟨k + 1, by omega, by go_num, by rw [← HR.out]; simp [hc2]⟩
        case measure => simp [intOf]; omega
      · go_wp2_with fail
        go_ret
        exact ⟨ret_bool (by rw [← HR.out]; simp; omega), (by (repeat (first | exact Below.refl _ _ | exact hb | apply Below.drew | (refine Below.alloc ?_ (by first | (simp; done) | (simp; omega) | (have := hb.size; simp at this ⊢; omega)) _) | (refine Below.setCell ?_ (by simp) _))))⟩
    · have HR := Lib.hid (show canL fr y.f.wanted = true by rw [← hR, List.drop_of_length_le (l := y.f.wanted) (by omega)]; cases fr.drop k <;> rfl)
      clear hR
      go_wp2_with fail
      go_ret
      exact ⟨ret_bool HR.out.symm, (by (repeat (first | exact Below.refl _ _ | exact hb | apply Below.drew | (refine Below.alloc ?_ (by first | (simp; done) | (simp; omega) | (have := hb.size; simp at this ⊢; omega)) _) | (refine Below.setCell ?_ (by simp) _))))⟩
theorem canFinish_any {A : Option Addr} {n c B : Nat} {fr : List Int} {y : FV} {w : World} (hr : RInts w B A n fr) (hy : y.In w B) (hB : B ≤ w.heap.size) (hn : n ≤ 1048576) (hl : y.f.wanted.length = n) :
    Calls Try.prog 55 #[.slice A n c, .agg #[.slice y.a1 y.f.held.length y.c1, .slice y.a2 y.f.wanted.length y.c2]] w fun e w' => e = .returned (.bool (canL fr y.f.wanted)) ∧ Below w.heap.size w w' := by
  have hr1 := Reads.alloc (hr.more hB) (Nat.le_refl _) (.cells #[.slice y.a1 y.f.held.length y.c1, .slice y.a2 y.f.wanted.length y.c2] 52)
  have hs1 := Reads.alloc (hy.2.more hB) (Nat.le_refl _) (.cells #[.slice y.a1 y.f.held.length y.c1, .slice y.a2 y.f.wanted.length y.c2] 52)
  have HL := Lib.hid hr.len
  have HW := Lib.hid hl
  have lw : y.f.wanted.length ≤ 1048576 := by omega
  have lw2 : y.f.wanted.length ≤ n := by omega
  clear hl hr hy
  go_enter Try.func55, Try.ntmps55
  go_wp2_with fail
  go_loop [10] (fun i => ∃ k : Nat, k ≤ y.f.wanted.length ∧ i = .int .i64 k ∧ canL (fr.drop k) (y.f.wanted.drop k) = canL fr y.f.wanted) (fun i => y.f.wanted.length - (intOf i).toNat)
  case atStart => exact ⟨0, Nat.zero_le _, rfl, rfl⟩
  case round =>
    obtain ⟨k, hk, rfl, hR⟩ := hrel
    by_cases hlt : k < y.f.wanted.length
    · obtain ⟨ad, x, eA, _, hd, hx, hc⟩ := RInts.at_ hr1 (k := k) (by omega)
      obtain ⟨ae, z, eB, _, he, hz, hcz⟩ := RInts.at_ hs1 hlt
      subst eA
      rw [eB] at hc
      rw [eB] at *
      have HR := Lib.hid (show (decide (z ≤ x) && canL (fr.drop (k + 1)) (y.f.wanted.drop (k + 1))) = canL fr y.f.wanted by rw [← hR, hd, he, canL])
      have hkn : k < n := by omega
      clear hR hd he hx hz
      by_cases hc2 : z ≤ x
      · go_wp2_with fail
        go_round
        case rel => exact ⟨k + 1, by omega, by go_num, by rw [← HR.out]; simp [hc2]⟩
        case measure => simp [intOf]; omega
      · go_wp2_with fail
        go_ret
        exact ⟨ret_bool (by rw [← HR.out]; simp; omega), (by (repeat (first | exact Below.refl _ _ | exact hb | apply Below.drew | (refine Below.alloc ?_ (by first | (simp; done) | (simp; omega) | (have := hb.size; simp at this ⊢; omega)) _) | (refine Below.setCell ?_ (by simp) _))))⟩
    · have HR := Lib.hid (show canL fr y.f.wanted = true by rw [← hR, List.drop_of_length_le (l := y.f.wanted) (by omega)]; cases fr.drop k <;> rfl)
      clear hR
      go_wp2_with fail
      go_ret
      exact ⟨ret_bool HR.out.symm, (by (repeat (first | exact Below.refl _ _ | exact hb | apply Below.drew | (refine Below.alloc ?_ (by first | (simp; done) | (simp; omega) | (have := hb.size; simp at this ⊢; omega)) _) | (refine Below.setCell ?_ (by simp) _))))⟩
def frmAt (fs : List Frm) (i : Int) : Frm := (fs[i.toNat]?).getD ⟨[], []⟩
theorem frmAt_map {ys : List FV} {y : FV} {i : Int} (h : ys[i.toNat]? = some y) : frmAt (ys.map FV.f) i = y.f := by rw [frmAt, List.getElem?_map, h]; rfl
theorem ask_true {fr : List Int} {fs : List Frm} {i : Int} (h : askG fr fs i = true) : stG fr fs = true ∧ 0 ≤ i ∧ i ≤ (fs.length : Int) - 1 := by
  simp only [askG, Bool.and_eq_true, inB_true] at h
  exact ⟨h.1, h.2⟩
def cfV (fr : List Int) (fs : List Frm) (i : Int) : Bool := askG fr fs i && canL fr (frmAt fs i).wanted
theorem canFinish_spec {A B : Option Addr} {n c m d : Nat} {fr : List Int} {fs : List Frm} {i : Int} {w : World} (hr : RInts w w.heap.size A n fr) (hn0 : n ≤ 1048576) (hs : AForms w B m fs) (hm0 : m ≤ 1048576) (_ : -9223372036854775808 ≤ i ∧ i ≤ 9223372036854775807) :
    Calls Try.prog 23 #[.slice A n c, .slice B m d, .int .i64 i] w fun e w' => e = .returned (.tuple #[.bool (cfV fr fs i), .bool (askG fr fs i)]) ∧ Below w.heap.size w w' := by
  cases h1 : askG fr fs i
  · (go_enter Try.func23, Try.ntmps23; go_wp2_with fail; refine (stAsked_any hr hn0 hs hm0).mono ?_; rintro e w1 ⟨rfl, hn⟩)
    go_wp2_with fail
    go_ret2
    exact ⟨by simp [cfV, h1], hn⟩
  · obtain ⟨q1, q2, q3⟩ := ask_true h1
    obtain ⟨t1, t2, t3, t4⟩ := stG_true q1
    have HF := Lib.hid t4
    have HFR := Lib.hid hr.len
    have HM := Lib.hid hs.len
    have q4 : i < m := by have := HM.out; omega
    clear t2 t4 q1
    (go_enter Try.func23, Try.ntmps23; go_wp2_with fail; refine (stAsked_any hr hn0 hs hm0).mono ?_; rintro e w1 ⟨rfl, hn⟩)
    obtain ⟨ys, hs1, rfl, hL⟩ := hs.step hn
    obtain ⟨b, off, y, rfl, _, _, hy, c0, c1, hin⟩ := RForms.at_ hs1 (k := i.toNat) (by omega)
    have hf := HF.out y.f (List.mem_map_of_mem (List.mem_of_getElem? hy))
    have HY := Lib.hid (frmAt_map hy)
    have hlw := Lib.hid (show y.f.wanted.length = n by have := HFR.out; omega)
    have hr2 := (RInts.below hr hn).more hn.size
    clear hy hf hL hs1 hs
    go_wp2_with fail
    refine (stCan_any hr2 hin (Nat.le_refl _) hn0 hlw.out).mono ?_
    rintro e w2 ⟨rfl, hn2⟩
    clear c0 c1
    go_wp2_with fail
    go_ret2
    exact ⟨by simp [cfV, h1, HY.out], hn.trans (hn2.mono hn.size)⟩
theorem canFinish_impl {A B : Option Addr} {n c m d : Nat} {fr : List Int} {fs : List Frm} {i : Int} {w : World} (hr : RInts w w.heap.size A n fr) (hn0 : n ≤ 1048576) (hs : AForms w B m fs) (hm0 : m ≤ 1048576) (_ : -9223372036854775808 ≤ i ∧ i ≤ 9223372036854775807) :
    Calls Try.prog 24 #[.slice A n c, .slice B m d, .int .i64 i] w fun e w' => e = .returned (.tuple #[.bool (cfV fr fs i), .bool (askG fr fs i)]) ∧ Below w.heap.size w w' := by
  cases h1 : askG fr fs i
  · (go_enter Try.func24, Try.ntmps24; go_wp2_with fail; refine (isForm_any hr hn0 hs hm0).mono ?_; rintro e w1 ⟨rfl, hn⟩)
    go_wp2_with fail
    go_ret2
    exact ⟨by simp [cfV, h1], hn⟩
  · obtain ⟨q1, q2, q3⟩ := ask_true h1
    obtain ⟨t1, t2, t3, t4⟩ := stG_true q1
    have HF := Lib.hid t4
    have HFR := Lib.hid hr.len
    have HM := Lib.hid hs.len
    have q4 : i < m := by have := HM.out; omega
    clear t2 t4 q1
    (go_enter Try.func24, Try.ntmps24; go_wp2_with fail; refine (isForm_any hr hn0 hs hm0).mono ?_; rintro e w1 ⟨rfl, hn⟩)
    obtain ⟨ys, hs1, rfl, hL⟩ := hs.step hn
    obtain ⟨b, off, y, rfl, _, _, hy, c0, c1, hin⟩ := RForms.at_ hs1 (k := i.toNat) (by omega)
    have hf := HF.out y.f (List.mem_map_of_mem (List.mem_of_getElem? hy))
    have HY := Lib.hid (frmAt_map hy)
    have hlw := Lib.hid (show y.f.wanted.length = n by have := HFR.out; omega)
    have hr2 := (RInts.below hr hn).more hn.size
    clear hy hf hL hs1 hs
    go_wp2_with fail
    refine (canFinish_any hr2 hin (Nat.le_refl _) hn0 hlw.out).mono ?_
    rintro e w2 ⟨rfl, hn2⟩
    clear c0 c1
    go_wp2_with fail
    go_ret2
    exact ⟨by simp [cfV, h1, HY.out], hn.trans (hn2.mono hn.size)⟩
def sumH (i : Nat) : List Frm → Int
  | [] => 0
  | f :: r => f.held.getD i 0 + sumH i r
def aosG (fr : List Int) (fs : List Frm) (i : Int) : Bool := stG fr fs && inB i 0 ((fr.length : Int) - 1)
def aosV (fr : List Int) (fs : List Frm) (i : Int) : Int := if aosG fr fs i then fr.getD i.toNat 0 + sumH i.toNat fs else 0
theorem stSort_any {A : Option Addr} {n c : Nat} {i : Int} {w : World} (hn : n ≤ 1048576) :
    Calls Try.prog 51 #[.slice A n c, .int .i64 i] w fun e w' => e = .returned (.bool (inB i 0 ((n : Int) - 1))) ∧ w = w' := by
  go_enter Try.func51, Try.ntmps51
  go_wp2_with (go_at_call 56; refine (in_any _ _ _ _).mono ?_; rintro e1 w1 ⟨rfl, rfl⟩)
  go_ret
  exact ⟨rfl, rfl⟩
theorem allOfSort_spec {A B : Option Addr} {n c m d : Nat} {fr : List Int} {fs : List Frm} {i : Int} {w : World} (hr : RInts w w.heap.size A n fr) (hn0 : n ≤ 1048576) (hs : AForms w B m fs) (hm0 : m ≤ 1048576) (_ : -9223372036854775808 ≤ i ∧ i ≤ 9223372036854775807) :
    Calls Try.prog 21 #[.slice A n c, .slice B m d, .int .i64 i] w fun e w' => e = .returned (.tuple #[.int .i64 (aosV fr fs i), .bool (aosG fr fs i)]) ∧ Below w.heap.size w w' := by
  have HFR := Lib.hid hr.len
  cases h1 : stG fr fs
  · (go_enter Try.func21, Try.ntmps21; go_wp2_with fail; refine (stGood_a hr hn0 hs hm0).mono ?_; rintro e w1 ⟨rfl, hn⟩)
    go_wp2_with fail
    go_ret2
    exact ⟨by simp [aosV, aosG, h1], hn⟩
  cases h2 : inB i 0 ((n : Int) - 1)
  · (go_enter Try.func21, Try.ntmps21; go_wp2_with fail; refine (stGood_a hr hn0 hs hm0).mono ?_; rintro e w1 ⟨rfl, hn⟩)
    go_wp2_with (go_at_call 51; refine (stSort_any hn0).mono ?_; rintro e1 w1 ⟨rfl, rfl⟩)
    go_ret2
    exact ⟨by simp [aosV, aosG, HFR.out, h2], hn⟩
  obtain ⟨t1, t2, t3, t4⟩ := stG_true h1
  have q2 := inB_true.1 h2
  have HF := Lib.hid t4
  have HG := Lib.hid (show aosG fr fs i = true by simp [aosG, HFR.out, h1, h2])
  have m8 : m ≤ 8 := by have := hs.len; omega
  obtain ⟨ad0, x0, rfl, hab, _, hx0, hcx⟩ := RInts.at_ hr (k := i.toNat) (by omega)
  have bx0 := t2 x0 (List.mem_of_getElem? hx0)
  have HX0 := Lib.hid (show fr.getD i.toNat 0 = x0 by rw [List.getD_eq_getElem?_getD, hx0]; rfl)
  clear t2 t4 hx0 hcx
  (go_enter Try.func21, Try.ntmps21; go_wp2_with fail; refine (stGood_a hr hn0 hs hm0).mono ?_; rintro e w1 ⟨rfl, hn⟩)
  obtain ⟨ys, hs1, rfl, hL⟩ := hs.step hn
  have hr2 := (RInts.below hr hn).more hn.size
  obtain ⟨ad1, x1, e1, _, _, hx1, hcx⟩ := RInts.at_ hr2 (k := i.toNat) (by omega)
  injection e1 with e1
  subst e1
  have hxx : x0 = x1 := by rw [← HX0.out, List.getD_eq_getElem?_getD, hx1]; rfl
  subst hxx
  have HM := Lib.hid hs1.len
  clear hx1 hL hs hr hr2
  go_wp2_with (go_at_call 51; refine (stSort_any hn0).mono ?_; rintro e1 w1 ⟨rfl, rfl⟩)
  clear hcx h1 h2
  go_loopw [8, 27] (fun v u wr => ∃ (k : Nat) (t : Int), k ≤ m ∧ u = .int .i64 k ∧ v = .int .i64 t ∧ 0 ≤ t ∧ t ≤ 1000 + 1000 * k ∧ t + sumH i.toNat ((ys.drop k).map FV.f) = x0 + sumH i.toNat (ys.map FV.f) ∧ Below w1.heap.size w1 wr) (fun _ u _ => m - (intOf u).toNat)
  case atStart => exact ⟨0, x0, Nat.zero_le _, rfl, rfl, by omega, by omega, rfl, Below.refl _ _⟩
  case round =>
    obtain ⟨k, t, hk, rfl, rfl, b1, b2, hR, hb⟩ := hrel
    by_cases hlt : k < m
    · obtain ⟨b, off, y, rfl, _, hd, hy, c0, c1, hin⟩ := RForms.at_ (hs1.below hb) hlt
      have hf := HF.out y.f (List.mem_map_of_mem (List.mem_of_getElem? hy))
      have hlh : y.f.held.length = n := by have := HFR.out; omega
      have hal := Reads.alloc (hin.1.more hb.size) (Nat.le_refl _) (.cells #[.slice y.a1 y.f.held.length y.c1, .slice y.a2 y.f.wanted.length y.c2] 52)
      obtain ⟨ae, z, eA, _, _, hz, hcz⟩ := RInts.at_ hal (k := i.toNat) (by omega)
      have bz := hf.1.2 z (List.mem_of_getElem? hz)
      have hg : y.f.held.getD i.toNat 0 = z := by rw [List.getD_eq_getElem?_getD, hz]; rfl
      have HR := Lib.hid (show t + z + sumH i.toNat ((ys.drop (k + 1)).map FV.f) = x0 + sumH i.toNat (ys.map FV.f) by rw [← hR, hd, List.map_cons, sumH, hg]; omega)
      have HLH := Lib.hid hlh
      have l5 : i < y.f.held.length := by omega
      rw [eA] at c0
      clear hd hR hy hf hlh hal hz hg hin
      rw [eA] at *
      go_wp2_with fail
      go_roundw
      case rel => exact ⟨k + 1, t + z, by omega, by go_num, rfl, by omega, by omega, HR.out, hb.alloc hb.size _⟩
      case measure => simp [intOf]; omega
    · have HT := Lib.hid (show t = x0 + sumH i.toNat (ys.map FV.f) by rw [← hR, drop_end HM.out hlt]; simp [sumH])
      clear hR
      go_wp2_with fail
      go_ret2
      exact ⟨by rw [aosV, if_pos HG.out, HG.out, HT.out, HX0.out]; rfl, hn.trans (hb.mono hn.size)⟩
theorem allOfSort_impl {A B : Option Addr} {n c m d : Nat} {fr : List Int} {fs : List Frm} {i : Int} {w : World} (hr : RInts w w.heap.size A n fr) (hn0 : n ≤ 1048576) (hs : AForms w B m fs) (hm0 : m ≤ 1048576) (_ : -9223372036854775808 ≤ i ∧ i ≤ 9223372036854775807) :
    Calls Try.prog 22 #[.slice A n c, .slice B m d, .int .i64 i] w fun e w' => e = .returned (.tuple #[.int .i64 (aosV fr fs i), .bool (aosG fr fs i)]) ∧ Below w.heap.size w w' := by
  have HFR := Lib.hid hr.len
  cases h1 : stG fr fs
  · (go_enter Try.func22, Try.ntmps22; go_wp2_with fail; refine (areForms_impl hr hn0 hs hm0).mono ?_; rintro e w1 ⟨rfl, hn⟩)
    go_wp2_with fail
    go_ret2
    exact ⟨by simp [aosV, aosG, h1], hn⟩
  cases h2 : inB i 0 ((n : Int) - 1)
  · (go_enter Try.func22, Try.ntmps22; go_wp2_with fail; refine (areForms_impl hr hn0 hs hm0).mono ?_; rintro e w1 ⟨rfl, hn⟩)
    go_wp2_with (go_at_call 49; refine (within_any _ _ _ _).mono ?_; rintro e1 w1 ⟨rfl, rfl⟩)
    go_ret2
    exact ⟨by simp [aosV, aosG, HFR.out, h2], hn⟩
  obtain ⟨t1, t2, t3, t4⟩ := stG_true h1
  have q2 := inB_true.1 h2
  have HF := Lib.hid t4
  have HG := Lib.hid (show aosG fr fs i = true by simp [aosG, HFR.out, h1, h2])
  have m8 : m ≤ 8 := by have := hs.len; omega
  obtain ⟨ad0, x0, rfl, hab, _, hx0, hcx⟩ := RInts.at_ hr (k := i.toNat) (by omega)
  have bx0 := t2 x0 (List.mem_of_getElem? hx0)
  have HX0 := Lib.hid (show fr.getD i.toNat 0 = x0 by rw [List.getD_eq_getElem?_getD, hx0]; rfl)
  clear t2 t4 hx0 hcx
  (go_enter Try.func22, Try.ntmps22; go_wp2_with fail; refine (areForms_impl hr hn0 hs hm0).mono ?_; rintro e w1 ⟨rfl, hn⟩)
  obtain ⟨ys, hs1, rfl, hL⟩ := hs.step hn
  have hr2 := (RInts.below hr hn).more hn.size
  obtain ⟨ad1, x1, e1, _, _, hx1, hcx⟩ := RInts.at_ hr2 (k := i.toNat) (by omega)
  injection e1 with e1
  subst e1
  have hxx : x0 = x1 := by rw [← HX0.out, List.getD_eq_getElem?_getD, hx1]; rfl
  subst hxx
  have HM := Lib.hid hs1.len
  clear hx1 hL hs hr hr2
  go_wp2_with (go_at_call 49; refine (within_any _ _ _ _).mono ?_; rintro e1 w1 ⟨rfl, rfl⟩)
  clear hcx h1 h2
  go_loopw [8, 29] (fun v u wr => ∃ (k : Nat) (t : Int), k ≤ m ∧ u = .int .i64 k ∧ v = .int .i64 t ∧ 0 ≤ t ∧ t ≤ 1000 + 1000 * k ∧ t + sumH i.toNat ((ys.drop k).map FV.f) = x0 + sumH i.toNat (ys.map FV.f) ∧ Below w1.heap.size w1 wr) (fun _ u _ => m - (intOf u).toNat)
  case atStart => exact ⟨0, x0, Nat.zero_le _, rfl, rfl, by omega, by omega, rfl, Below.refl _ _⟩
  case round =>
    obtain ⟨k, t, hk, rfl, rfl, b1, b2, hR, hb⟩ := hrel
    by_cases hlt : k < m
    · obtain ⟨b, off, y, rfl, _, hd, hy, c0, c1, hin⟩ := RForms.at_ (hs1.below hb) hlt
      have hf := HF.out y.f (List.mem_map_of_mem (List.mem_of_getElem? hy))
      have hlh : y.f.held.length = n := by have := HFR.out; omega
      have hal := Reads.alloc (hin.1.more hb.size) (Nat.le_refl _) (.cells #[.slice y.a1 y.f.held.length y.c1, .slice y.a2 y.f.wanted.length y.c2] 52)
      obtain ⟨ae, z, eA, _, _, hz, hcz⟩ := RInts.at_ hal (k := i.toNat) (by omega)
      have bz := hf.1.2 z (List.mem_of_getElem? hz)
      have hg : y.f.held.getD i.toNat 0 = z := by rw [List.getD_eq_getElem?_getD, hz]; rfl
      have HR := Lib.hid (show t + z + sumH i.toNat ((ys.drop (k + 1)).map FV.f) = x0 + sumH i.toNat (ys.map FV.f) by rw [← hR, hd, List.map_cons, sumH, hg]; omega)
      have HLH := Lib.hid hlh
      have l5 : i < y.f.held.length := by omega
      rw [eA] at c0
      clear hd hR hy hf hlh hal hz hg hin
      rw [eA] at *
      go_wp2_with fail
      go_roundw
      case rel => exact ⟨k + 1, t + z, by omega, by go_num, rfl, by omega, by omega, HR.out, hb.alloc hb.size _⟩
      case measure => simp [intOf]; omega
    · have HT := Lib.hid (show t = x0 + sumH i.toNat (ys.map FV.f) by rw [← hR, drop_end HM.out hlt]; simp [sumH])
      clear hR
      go_wp2_with fail
      go_ret2
      exact ⟨by rw [aosV, if_pos HG.out, HG.out, HT.out, HX0.out]; rfl, hn.trans (hb.mono hn.size)⟩
end Go.Proofs.Ytlblcblkcphdjaa
