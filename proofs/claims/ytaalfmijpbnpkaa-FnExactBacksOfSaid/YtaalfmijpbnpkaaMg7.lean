/-
  Contracts: margins are valid; NarrowestFore.
-/
import Derived.Test.YtaalfmijpbnpkaaMg6
namespace Go.Proofs.Ytaalfmijpbnpkaa
open Go.RowKit
def mgB (a b c d : Int) : Bool := allB 0 300 [a, b, c, d]
theorem mgB_true {a b c d : Int} (h : mgB a b c d = true) : (0 ≤ a ∧ a ≤ 300) ∧ (0 ≤ b ∧ b ≤ 300) ∧ (0 ≤ c ∧ c ≤ 300) ∧ (0 ≤ d ∧ d ≤ 300) := by
  have h1 := allB_mem h
  exact ⟨h1 a (by simp), h1 b (by simp), h1 c (by simp), h1 d (by simp)⟩
theorem mgParts_any {a b c d : Int} {w : World} : Calls Try.prog 45 #[.agg #[.int .i64 a, .int .i64 b, .int .i64 c, .int .i64 d]] w fun e w' => ∃ V, e = .returned (.slice V 4 4) ∧ RInts w' w'.heap.size V 4 [a, b, c, d] ∧ Below w.heap.size w w' := by
  go_enter Try.func45, Try.ntmps45
  go_wp2_with fail
  go_ret
  refine ⟨_, rfl, ?_, (by (repeat (first | exact Below.refl _ _ | exact hb | apply Below.drew | (refine Below.alloc ?_ (by first | (simp; done) | (simp; omega) | (have := hb.size; simp at this ⊢; omega)) _) | (refine Below.setCell ?_ (by simp) _))))⟩
  have h := rints_new (w := w.alloc (.cells #[.int .i64 a, .int .i64 b, .int .i64 c, .int .i64 d] 35)) (e := 3) [a, b, c, d] #[.int .i64 a, .int .i64 b, .int .i64 c, .int .i64 d] rfl
  simpa using h
theorem mgGood_any {a b c d : Int} {w : World} : Calls Try.prog 36 #[.agg #[.int .i64 a, .int .i64 b, .int .i64 c, .int .i64 d]] w fun e w' => e = .returned (.bool (mgB a b c d)) ∧ Below w.heap.size w w' := by
  have hb : Below w.heap.size w (w.alloc (.cells #[.int .i64 a, .int .i64 b, .int .i64 c, .int .i64 d] 35)) := (by (repeat (first | exact Below.refl _ _ | exact hb | apply Below.drew | (refine Below.alloc ?_ (by first | (simp; done) | (simp; omega) | (have := hb.size; simp at this ⊢; omega)) _) | (refine Below.setCell ?_ (by simp) _))))
  go_enter Try.func36, Try.ntmps36
  go_wp2_with fail
  refine (mgParts_any).mono ?_
  rintro e1 w1 ⟨V, rfl, hV, hn⟩
  go_wp2_with fail
  refine (all_any _ _ _ _ _ _ _ _ hV (by omega)).mono ?_
  rintro e1 w2 ⟨rfl, rfl⟩
  go_wp2_with fail
  go_ret
  exact ⟨rfl, hb.trans (hn.mono hb.size)⟩
theorem areMargins_any {a b c d : Int} {w : World} : Calls Try.prog 37 #[.agg #[.int .i64 a, .int .i64 b, .int .i64 c, .int .i64 d]] w fun e w' => e = .returned (.bool (mgB a b c d)) ∧ Below w.heap.size w w' := by
  go_enter Try.func37, Try.ntmps37
  go_wp2_with (go_at_call 42; refine (within_any _ _ _ _).mono ?_; rintro e1 w1 ⟨rfl, rfl⟩)
  all_goals go_ret
  all_goals exact ⟨ret_bool (by simp_all [mgB, allB]), (by (repeat (first | exact Below.refl _ _ | exact hb | apply Below.drew | (refine Below.alloc ?_ (by first | (simp; done) | (simp; omega) | (have := hb.size; simp at this ⊢; omega)) _) | (refine Below.setCell ?_ (by simp) _))))⟩
def nfG (fs : List Fld) (a b c d t : Int) : Bool := thB fs t && (mgB a b c d && decide (gcV fs t ≤ c))
def nfV (fs : List Fld) (a b c d t : Int) : Int := if nfG fs a b c d t then c - gcV fs t else 0
theorem imGood_is {A : Option Addr} {n cp : Nat} {fs : List Fld} {w : World} (hr : RFlds w w.heap.size A n fs) (hn0 : n ≤ 1048576) {v : Bool} (hv : foldsB fs = v) :
    Calls Try.prog 32 #[.slice A n cp] w fun e w' => e = .returned (.bool v) ∧ Below w.heap.size w w' := by subst hv; exact imGood_any hr hn0
theorem mgGood_is {a b c d : Int} {w : World} {v : Bool} (hv : mgB a b c d = v) : Calls Try.prog 36 #[.agg #[.int .i64 a, .int .i64 b, .int .i64 c, .int .i64 d]] w fun e w' => e = .returned (.bool v) ∧ Below w.heap.size w w' := by subst hv; exact mgGood_any
theorem mgThick_is {t : Int} {w : World} {v : Bool} (hv : inB t 0 500 = v) : Calls Try.prog 24 #[.int .i64 t] w fun e w' => e = .returned (.bool v) ∧ w = w' := by subst hv; exact mgThick_any t w
theorem imCount_is {A : Option Addr} {n cp : Nat} {fs : List Fld} {w : World} (hr : RFlds w w.heap.size A n fs) (hn4 : n ≤ 4) {P : Int} (hP : (pgN n : Int) = 2 * P) :
    Calls Try.prog 26 #[.slice A n cp] w fun e w' => e = .returned (.int .i64 (2 * P)) ∧ Below w.heap.size w w' := by rw [← hP]; exact imCount_any hr hn4
theorem mgMost_is {P thick z : Int} {w : World} (h0 : 1 ≤ P ∧ P ≤ 32) (ht : 0 ≤ thick ∧ thick ≤ 500) (hz : crF (2 * P) thick P = z) :
    Calls Try.prog 33 #[.int .i64 (2 * P), .int .i64 thick] w fun e w' => e = .returned (.int .i64 z) ∧ w = w' := by subst hz; exact mgMost_any h0 ht
set_option maxRecDepth 100000 in
set_option maxHeartbeats 1000000 in
theorem narrowestFore_spec {t : Int} {a b c d : Int} {A : Option Addr} {n cp : Nat} {fs : List Fld} {w : World} (hr : RFlds w w.heap.size A n fs) (hn0 : n ≤ 1048576) (_ : -9223372036854775808 ≤ a ∧ a ≤ 9223372036854775807) (_ : -9223372036854775808 ≤ b ∧ b ≤ 9223372036854775807) (_ : -9223372036854775808 ≤ c ∧ c ≤ 9223372036854775807) (_ : -9223372036854775808 ≤ d ∧ d ≤ 9223372036854775807) (_ : -9223372036854775808 ≤ t ∧ t ≤ 9223372036854775807) :
    Calls Try.prog 14 #[.slice A n cp, .agg #[.int .i64 a, .int .i64 b, .int .i64 c, .int .i64 d], .int .i64 t] w fun e w' => e = .returned (.tuple #[.int .i64 (nfV fs a b c d t), .bool (nfG fs a b c d t)]) ∧ Below w.heap.size w w' := by
  have hM := Blk.new' w 35 #[.int .i64 a, .int .i64 b, .int .i64 c, .int .i64 d]; have hr1 : ∀ x : Later (w.heap.size + 1) (w.alloc (.cells #[.int .i64 a, .int .i64 b, .int .i64 c, .int .i64 d] 35)), RFlds x.wx x.wx.heap.size A n fs := fun x => (RFlds.below ((RRow.alloc hr (Nat.le_refl _) (.cells #[.int .i64 a, .int .i64 b, .int .i64 c, .int .i64 d] 35)).more (B' := w.heap.size + 1) (by omega)) x.ok).more (by have := x.ok.size; simp at this; omega); have HR1 := Lib.hid hr1; clear hr1; have hba : Below w.heap.size w (w.alloc (.cells #[.int .i64 a, .int .i64 b, .int .i64 c, .int .i64 d] 35)) := (by (repeat (first | exact Below.refl _ _ | exact hb | apply Below.drew | (refine Below.alloc ?_ (by first | (simp; done) | (simp; omega) | (have := hb.size; simp at this ⊢; omega)) _) | (refine Below.setCell ?_ (by simp) _))))
  cases h1 : foldsB fs
  · have HG := Lib.hid (show nfG fs a b c d t = false by rw [nfG, thB, h1]; rfl)
    go_enter Try.func14, Try.ntmps14; go_wp2_with fail
    have q0 : ∀ x : Later (w.heap.size + 1) (w.alloc (.cells #[.int .i64 a, .int .i64 b, .int .i64 c, .int .i64 d] 35)), x.wx.cell? ⟨w.heap.size, 0, none⟩ = some (.int .i64 a) := fun x => x.cell (by omega) (hM.cell 0); have q1 : ∀ x : Later (w.heap.size + 1) (w.alloc (.cells #[.int .i64 a, .int .i64 b, .int .i64 c, .int .i64 d] 35)), x.wx.cell? ⟨w.heap.size, 1, none⟩ = some (.int .i64 b) := fun x => x.cell (by omega) (hM.cell 1); have q2 : ∀ x : Later (w.heap.size + 1) (w.alloc (.cells #[.int .i64 a, .int .i64 b, .int .i64 c, .int .i64 d] 35)), x.wx.cell? ⟨w.heap.size, 2, none⟩ = some (.int .i64 c) := fun x => x.cell (by omega) (hM.cell 2); have q3 : ∀ x : Later (w.heap.size + 1) (w.alloc (.cells #[.int .i64 a, .int .i64 b, .int .i64 c, .int .i64 d] 35)), x.wx.cell? ⟨w.heap.size, 3, none⟩ = some (.int .i64 d) := fun x => x.cell (by omega) (hM.cell 3)
    refine quiet_start (w.heap.size + 1) (by kernel_rfl) (by kernel_rfl) ?_; (repeat (go_big_quiet_step ((go_at_call 32; rename_i x; exact later_call (by simp) (imGood_is (HR1.out x) hn0 h1))))); refine wpQuiet_nil ?_; rintro wx ⟨⟨wy, hn⟩, rfl⟩; (try dsimp only); clear q0 q1 q2 q3; have hb := hba.trans (hn.mono (by omega))
    go_wp2_with fail
    go_ret2
    exact ⟨by simp [nfV, HG.out], hb⟩
  cases h2 : mgB a b c d
  · have HG := Lib.hid (show nfG fs a b c d t = false by rw [nfG, h2]; simp)
    go_enter Try.func14, Try.ntmps14; go_wp2_with fail
    have q0 : ∀ x : Later (w.heap.size + 1) (w.alloc (.cells #[.int .i64 a, .int .i64 b, .int .i64 c, .int .i64 d] 35)), x.wx.cell? ⟨w.heap.size, 0, none⟩ = some (.int .i64 a) := fun x => x.cell (by omega) (hM.cell 0); have q1 : ∀ x : Later (w.heap.size + 1) (w.alloc (.cells #[.int .i64 a, .int .i64 b, .int .i64 c, .int .i64 d] 35)), x.wx.cell? ⟨w.heap.size, 1, none⟩ = some (.int .i64 b) := fun x => x.cell (by omega) (hM.cell 1); have q2 : ∀ x : Later (w.heap.size + 1) (w.alloc (.cells #[.int .i64 a, .int .i64 b, .int .i64 c, .int .i64 d] 35)), x.wx.cell? ⟨w.heap.size, 2, none⟩ = some (.int .i64 c) := fun x => x.cell (by omega) (hM.cell 2); have q3 : ∀ x : Later (w.heap.size + 1) (w.alloc (.cells #[.int .i64 a, .int .i64 b, .int .i64 c, .int .i64 d] 35)), x.wx.cell? ⟨w.heap.size, 3, none⟩ = some (.int .i64 d) := fun x => x.cell (by omega) (hM.cell 3)
    refine quiet_start (w.heap.size + 1) (by kernel_rfl) (by kernel_rfl) ?_; (repeat (go_big_quiet_step ((first | (go_at_call 32; rename_i x; exact later_call (by simp) (imGood_is (HR1.out x) hn0 h1)) | (go_at_call 36; exact later_call (by simp) (mgGood_is h2)))))); refine wpQuiet_nil ?_; rintro wx ⟨⟨wy, hn⟩, rfl⟩; (try dsimp only); clear q0 q1 q2 q3; have hb := hba.trans (hn.mono (by omega))
    go_wp2_with fail
    go_ret2
    exact ⟨by simp [nfV, HG.out], hb⟩
  cases h3 : inB t 0 500
  · have HG := Lib.hid (show nfG fs a b c d t = false by rw [nfG, thB, h3]; simp)
    go_enter Try.func14, Try.ntmps14; go_wp2_with fail
    have q0 : ∀ x : Later (w.heap.size + 1) (w.alloc (.cells #[.int .i64 a, .int .i64 b, .int .i64 c, .int .i64 d] 35)), x.wx.cell? ⟨w.heap.size, 0, none⟩ = some (.int .i64 a) := fun x => x.cell (by omega) (hM.cell 0); have q1 : ∀ x : Later (w.heap.size + 1) (w.alloc (.cells #[.int .i64 a, .int .i64 b, .int .i64 c, .int .i64 d] 35)), x.wx.cell? ⟨w.heap.size, 1, none⟩ = some (.int .i64 b) := fun x => x.cell (by omega) (hM.cell 1); have q2 : ∀ x : Later (w.heap.size + 1) (w.alloc (.cells #[.int .i64 a, .int .i64 b, .int .i64 c, .int .i64 d] 35)), x.wx.cell? ⟨w.heap.size, 2, none⟩ = some (.int .i64 c) := fun x => x.cell (by omega) (hM.cell 2); have q3 : ∀ x : Later (w.heap.size + 1) (w.alloc (.cells #[.int .i64 a, .int .i64 b, .int .i64 c, .int .i64 d] 35)), x.wx.cell? ⟨w.heap.size, 3, none⟩ = some (.int .i64 d) := fun x => x.cell (by omega) (hM.cell 3)
    refine quiet_start (w.heap.size + 1) (by kernel_rfl) (by kernel_rfl) ?_; (repeat (go_big_quiet_step ((first | (go_at_call 32; rename_i x; exact later_call (by simp) (imGood_is (HR1.out x) hn0 h1)) | (go_at_call 36; exact later_call (by simp) (mgGood_is h2)) | (go_at_call 24; exact later_same (mgThick_is h3)))))); refine wpQuiet_nil ?_; rintro wx ⟨⟨wy, hn⟩, rfl⟩; (try dsimp only); clear q0 q1 q2 q3; have hb := hba.trans (hn.mono (by omega))
    go_wp2_with fail
    go_ret2
    exact ⟨by simp [nfV, HG.out], hb⟩
  have g3 := inB_true.1 h3
  have g4 := foldsB_true h1
  have gm := mgB_true h2
  have hl := hr.len
  have hn4 : n ≤ 4 := by omega
  obtain ⟨q1, q2, q3⟩ := pgN_half hn4
  obtain ⟨P, hP⟩ : ∃ P : Int, P = (lfN n : Int) := ⟨_, rfl⟩
  have Q1 := Lib.hid (show (pgN n : Int) = 2 * P by rw [hP]; exact q1)
  have hP2 : 1 ≤ P ∧ P ≤ 32 := by omega
  obtain ⟨z, hz⟩ : ∃ z, z = gcV fs t := ⟨_, rfl⟩
  have HZ := Lib.hid (show crF (2 * P) t P = z by rw [hz, gcV, thB, h1, h3, hl, hP]; rfl)
  have HV := Lib.hid (show nfG fs a b c d t = decide (z ≤ c) by rw [nfG, thB, h1, h2, h3, hz]; rfl)
  have HZZ := Lib.hid hz
  have bz : 0 ≤ z ∧ z ≤ 160 := by
    have := crF_bd (pages := 2 * P) (thick := t) (page := P) (by omega) (by omega) (by omega) g3
    have h9 := HZ.out
    omega
  obtain ⟨_, _, gc, _⟩ := gm
  clear g4 hl q1 q2 q3 hP hz
  by_cases hcz : c < z
  · have HG := Lib.hid (show nfG fs a b c d t = false by rw [HV.out]; simp; omega)
    have k1 : decide (c < z) = true := by simpa using hcz
    go_enter Try.func14, Try.ntmps14; go_wp2_with fail
    have q0 : ∀ x : Later (w.heap.size + 1) (w.alloc (.cells #[.int .i64 a, .int .i64 b, .int .i64 c, .int .i64 d] 35)), x.wx.cell? ⟨w.heap.size, 0, none⟩ = some (.int .i64 a) := fun x => x.cell (by omega) (hM.cell 0); have q1 : ∀ x : Later (w.heap.size + 1) (w.alloc (.cells #[.int .i64 a, .int .i64 b, .int .i64 c, .int .i64 d] 35)), x.wx.cell? ⟨w.heap.size, 1, none⟩ = some (.int .i64 b) := fun x => x.cell (by omega) (hM.cell 1); have q2 : ∀ x : Later (w.heap.size + 1) (w.alloc (.cells #[.int .i64 a, .int .i64 b, .int .i64 c, .int .i64 d] 35)), x.wx.cell? ⟨w.heap.size, 2, none⟩ = some (.int .i64 c) := fun x => x.cell (by omega) (hM.cell 2); have q3 : ∀ x : Later (w.heap.size + 1) (w.alloc (.cells #[.int .i64 a, .int .i64 b, .int .i64 c, .int .i64 d] 35)), x.wx.cell? ⟨w.heap.size, 3, none⟩ = some (.int .i64 d) := fun x => x.cell (by omega) (hM.cell 3)
    refine quiet_start (w.heap.size + 1) (by kernel_rfl) (by kernel_rfl) ?_; (repeat (go_big_quiet_step ((first | (go_at_call 32; rename_i x; exact later_call (by simp) (imGood_is (HR1.out x) hn0 h1)) | (go_at_call 36; exact later_call (by simp) (mgGood_is h2)) | (go_at_call 24; exact later_same (mgThick_is h3)) | (go_at_call 26; rename_i x; exact later_call (by simp) (imCount_is (HR1.out x) hn4 Q1.out)) | (go_at_call 33; exact later_same (mgMost_is hP2 g3 HZ.out)))))); refine wpQuiet_nil ?_; rintro wx ⟨⟨wy, hn⟩, rfl⟩; (try dsimp only); clear q0 q1 q2 q3; have hb := hba.trans (hn.mono (by omega))
    go_wp2_with fail
    go_ret2
    exact ⟨by simp [nfV, HG.out], hb⟩
  · have HG := Lib.hid (show nfG fs a b c d t = true by rw [HV.out]; simp; omega)
    have k1 : decide (c < z) = false := by simpa using hcz
    have HN := Lib.hid (show nfV fs a b c d t = c - z by rw [nfV, HG.out, ← HZZ.out]; rfl)
    go_enter Try.func14, Try.ntmps14; go_wp2_with fail
    have q0 : ∀ x : Later (w.heap.size + 1) (w.alloc (.cells #[.int .i64 a, .int .i64 b, .int .i64 c, .int .i64 d] 35)), x.wx.cell? ⟨w.heap.size, 0, none⟩ = some (.int .i64 a) := fun x => x.cell (by omega) (hM.cell 0); have q1 : ∀ x : Later (w.heap.size + 1) (w.alloc (.cells #[.int .i64 a, .int .i64 b, .int .i64 c, .int .i64 d] 35)), x.wx.cell? ⟨w.heap.size, 1, none⟩ = some (.int .i64 b) := fun x => x.cell (by omega) (hM.cell 1); have q2 : ∀ x : Later (w.heap.size + 1) (w.alloc (.cells #[.int .i64 a, .int .i64 b, .int .i64 c, .int .i64 d] 35)), x.wx.cell? ⟨w.heap.size, 2, none⟩ = some (.int .i64 c) := fun x => x.cell (by omega) (hM.cell 2); have q3 : ∀ x : Later (w.heap.size + 1) (w.alloc (.cells #[.int .i64 a, .int .i64 b, .int .i64 c, .int .i64 d] 35)), x.wx.cell? ⟨w.heap.size, 3, none⟩ = some (.int .i64 d) := fun x => x.cell (by omega) (hM.cell 3)
    refine quiet_start (w.heap.size + 1) (by kernel_rfl) (by kernel_rfl) ?_; (repeat (go_big_quiet_step ((first | (go_at_call 32; rename_i x; exact later_call (by simp) (imGood_is (HR1.out x) hn0 h1)) | (go_at_call 36; exact later_call (by simp) (mgGood_is h2)) | (go_at_call 24; exact later_same (mgThick_is h3)) | (go_at_call 26; rename_i x; exact later_call (by simp) (imCount_is (HR1.out x) hn4 Q1.out)) | (go_at_call 33; exact later_same (mgMost_is hP2 g3 HZ.out)))))); refine wpQuiet_nil ?_; rintro wx ⟨⟨wy, hn⟩, rfl⟩; (try dsimp only)
    clear q0 q1 q2 q3 k1
    have hb := hba.trans (hn.mono (by omega))
    have hMx := hM.below hn (by omega)
    have hs1 := hn.size
    simp only [World.size_alloc] at hs1
    have hr3 := Lib.hid (show ∀ x : Later wx.heap.size wx, RFlds x.wx x.wx.heap.size A n fs from fun x => (RFlds.below ((RFlds.below hr hb).more hb.size) x.ok).more x.ok.size)
    have q2 : ∀ x : Later wx.heap.size wx, x.wx.cell? ⟨w.heap.size, 2, none⟩ = some (.int .i64 c) := fun x => x.cell (by omega) (hMx.cell 2)
    have ew : IntKind.i64.wrap (c - z) = c - z := wrapI (by omega) (by omega)
    go_wp2_with fail
    refine quiet_start (wx.heap.size) (by kernel_rfl) (by kernel_rfl) ?_; (repeat (go_big_quiet_step ((first | (go_at_call 26; rename_i x; exact later_call (Nat.le_refl _) (imCount_is (hr3.out x) hn4 Q1.out)) | (go_at_call 33; exact later_same (mgMost_is hP2 g3 HZ.out)))))); refine wpQuiet_nil ?_; rintro wx2 ⟨⟨wy2, hn2⟩, rfl⟩; (try dsimp only)
    go_wp2_with fail
    go_ret2
    exact ⟨by rw [HN.out, HG.out]; rfl, hb.trans (hn2.mono hb.size)⟩
set_option maxRecDepth 100000 in
theorem narrowestFore_impl {t : Int} {a b c d : Int} {A : Option Addr} {n cp : Nat} {fs : List Fld} {w : World} (hr : RFlds w w.heap.size A n fs) (hn0 : n ≤ 1048576) (_ : -9223372036854775808 ≤ a ∧ a ≤ 9223372036854775807) (_ : -9223372036854775808 ≤ b ∧ b ≤ 9223372036854775807) (_ : -9223372036854775808 ≤ c ∧ c ≤ 9223372036854775807) (_ : -9223372036854775808 ≤ d ∧ d ≤ 9223372036854775807) (_ : -9223372036854775808 ≤ t ∧ t ≤ 9223372036854775807) :
    Calls Try.prog 16 #[.slice A n cp, .agg #[.int .i64 a, .int .i64 b, .int .i64 c, .int .i64 d], .int .i64 t] w fun e w' => e = .returned (.tuple #[.int .i64 (nfV fs a b c d t), .bool (nfG fs a b c d t)]) ∧ Below w.heap.size w w' := by
  have hM := Blk.new' w 35 #[.int .i64 a, .int .i64 b, .int .i64 c, .int .i64 d]
  have hb : Below w.heap.size w (w.alloc (.cells #[.int .i64 a, .int .i64 b, .int .i64 c, .int .i64 d] 35)) := (by (repeat (first | exact Below.refl _ _ | exact hb | apply Below.drew | (refine Below.alloc ?_ (by first | (simp; done) | (simp; omega) | (have := hb.size; simp at this ⊢; omega)) _) | (refine Below.setCell ?_ (by simp) _))))
  have hr1 := (RRow.alloc hr (Nat.le_refl _) (.cells #[.int .i64 a, .int .i64 b, .int .i64 c, .int .i64 d] 35)).more (B' := (w.alloc (.cells #[.int .i64 a, .int .i64 b, .int .i64 c, .int .i64 d] 35)).heap.size) (by simp)
  cases h1 : thB fs t
  · have HG := Lib.hid (show nfG fs a b c d t = false by rw [nfG, h1]; rfl)
    (go_enter Try.func16, Try.ntmps16; go_wp2_with fail; refine (greatestCreep_impl hr1 hn0 (by omega)).mono ?_; rintro e1 w1 ⟨rfl, hn⟩; replace hM := hM.below hn hM.lt; replace hb := hb.trans (hn.mono hb.size); (have p0 : _ = some (.int .i64 a : Value) := hM.cell 0); (have p1 : _ = some (.int .i64 b : Value) := hM.cell 1); (have p2 : _ = some (.int .i64 c : Value) := hM.cell 2); (have p3 : _ = some (.int .i64 d : Value) := hM.cell 3))
    go_wp2_with fail
    go_ret2
    exact ⟨by simp [nfV, HG.out], hb⟩
  cases h2 : mgB a b c d
  · have HG := Lib.hid (show nfG fs a b c d t = false by rw [nfG, h2]; simp)
    (go_enter Try.func16, Try.ntmps16; go_wp2_with fail; refine (greatestCreep_impl hr1 hn0 (by omega)).mono ?_; rintro e1 w1 ⟨rfl, hn⟩; replace hM := hM.below hn hM.lt; replace hb := hb.trans (hn.mono hb.size); (have p0 : _ = some (.int .i64 a : Value) := hM.cell 0); (have p1 : _ = some (.int .i64 b : Value) := hM.cell 1); (have p2 : _ = some (.int .i64 c : Value) := hM.cell 2); (have p3 : _ = some (.int .i64 d : Value) := hM.cell 3))
    go_wp2_with fail
    refine (areMargins_any).mono ?_
    rintro e1 w2 ⟨rfl, hn2⟩
    go_wp2_with fail
    go_ret2
    exact ⟨by simp [nfV, HG.out], hb.trans (hn2.mono hb.size)⟩
  obtain ⟨_, _, gc, _⟩ := mgB_true h2
  have HV := Lib.hid (show nfG fs a b c d t = decide (gcV fs t ≤ c) by rw [nfG, h1, h2]; rfl)
  obtain ⟨z, hz⟩ : ∃ z, z = gcV fs t := ⟨_, rfl⟩
  have HZ := Lib.hid hz
  have bz : 0 ≤ z ∧ z ≤ 160 := by
    obtain ⟨g0, g1⟩ := thB_true h1
    have g4 := foldsB_true g0
    have hl := hr.len
    obtain ⟨_, q2, q3⟩ := pgN_half (n := n) (by omega)
    have := crF_bd (pages := 2 * (lfN n : Int)) (thick := t) (page := (lfN n : Int)) (by omega) (by omega) (by omega) g1
    rw [hz, gcV, h1, hl]
    exact this
  clear hz
  by_cases hcz : c < z
  · have HG := Lib.hid (show nfG fs a b c d t = false by rw [HV.out, ← HZ.out]; simp; omega)
    go_enter Try.func16, Try.ntmps16; go_wp2_with fail; refine (greatestCreep_impl hr1 hn0 (by omega)).mono ?_; rintro e1 w1 ⟨rfl, hn⟩; rw [← HZ.out]; replace hM := hM.below hn hM.lt; replace hb := hb.trans (hn.mono hb.size); (have p0 : _ = some (.int .i64 a : Value) := hM.cell 0); (have p1 : _ = some (.int .i64 b : Value) := hM.cell 1); (have p2 : _ = some (.int .i64 c : Value) := hM.cell 2); (have p3 : _ = some (.int .i64 d : Value) := hM.cell 3); go_wp2_with fail; refine (areMargins_any).mono ?_; rintro e1 w2 ⟨rfl, hn2⟩; replace hM := hM.below hn2 hM.lt; replace hb := hb.trans (hn2.mono hb.size); clear p0 p1 p2 p3; (have p2 : _ = some (.int .i64 c : Value) := hM.cell 2)
    go_wp2_with fail
    go_ret2
    exact ⟨by simp [nfV, HG.out], hb⟩
  · have HG := Lib.hid (show nfG fs a b c d t = true by rw [HV.out, ← HZ.out]; simp; omega)
    have HN := Lib.hid (show nfV fs a b c d t = c - z by rw [nfV, HG.out, ← HZ.out]; rfl)
    go_enter Try.func16, Try.ntmps16; go_wp2_with fail; refine (greatestCreep_impl hr1 hn0 (by omega)).mono ?_; rintro e1 w1 ⟨rfl, hn⟩; rw [← HZ.out]; replace hM := hM.below hn hM.lt; replace hb := hb.trans (hn.mono hb.size); (have p0 : _ = some (.int .i64 a : Value) := hM.cell 0); (have p1 : _ = some (.int .i64 b : Value) := hM.cell 1); (have p2 : _ = some (.int .i64 c : Value) := hM.cell 2); (have p3 : _ = some (.int .i64 d : Value) := hM.cell 3); go_wp2_with fail; refine (areMargins_any).mono ?_; rintro e1 w2 ⟨rfl, hn2⟩; replace hM := hM.below hn2 hM.lt; replace hb := hb.trans (hn2.mono hb.size); clear p0 p1 p2 p3; (have p2 : _ = some (.int .i64 c : Value) := hM.cell 2)
    go_wp2_with fail
    go_ret2
    exact ⟨by rw [HN.out, HG.out]; rfl, hb⟩
end Go.Proofs.Ytaalfmijpbnpkaa
