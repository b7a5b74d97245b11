/-
  Contracts: CreepOf, GreatestCreep.
-/
import Derived.Test.YtaalfmijpbnpkaaMg4
import Derived.Test.YtaalfmijpbnpkaaMSz
namespace Go.Proofs.Ytaalfmijpbnpkaa
open Go.RowKit
def mnI (a b : Int) : Int := if a < b then a else b
theorem leastM_any (a b : Int) (w : World) : Calls Try.prog 39 #[.int .i64 a, .int .i64 b] w fun x w' => x = .returned (.int .i64 (mnI a b)) ∧ w = w' := by
  by_cases h : a < b
  · go_enter Try.func39, Try.ntmps39
    go_wp2
    go_ret
    exact ⟨ret_int (by unfold mnI; split <;> omega), rfl⟩
  · go_enter Try.func39, Try.ntmps39
    go_wp2
    go_ret
    exact ⟨ret_int (by unfold mnI; split <;> omega), rfl⟩
/-- the leaves outside of that of a page -/
def outF (pages page : Int) : Int := mnI ((page - 1) / 2) (pages / 2 - 1 - (page - 1) / 2)
def crF (pages thick page : Int) : Int := outF pages page * thick / 100
theorem mul_lim {a t : Int} (h0 : 0 ≤ a ∧ a ≤ 32) (ht : 0 ≤ t ∧ t ≤ 500) : 0 ≤ a * t ∧ a * t ≤ 16000 := by
  have h1 := Int.mul_nonneg h0.1 ht.1
  have h2 : a * t ≤ 32 * 500 := Int.mul_le_mul h0.2 ht.2 ht.1 (by omega)
  omega
theorem outF_bd {pages page : Int} (h1 : 1 ≤ page) (h2 : (page - 1) / 2 ≤ pages / 2 - 1) (h3 : pages ≤ 64) : 0 ≤ outF pages page ∧ outF pages page ≤ 32 := by
  unfold outF mnI
  split <;> omega
theorem outF_mid {P page : Int} (h1 : 1 ≤ page) (h2 : page ≤ 2 * P) (h0 : 1 ≤ P) : outF (2 * P) page ≤ outF (2 * P) P := by
  unfold outF mnI
  split <;> split <;> omega
theorem crF_bd {pages thick page : Int} (h1 : 1 ≤ page) (h2 : (page - 1) / 2 ≤ pages / 2 - 1) (h3 : pages ≤ 64) (ht : 0 ≤ thick ∧ thick ≤ 500) : 0 ≤ crF pages thick page ∧ crF pages thick page ≤ 160 := by
  have := mul_lim (outF_bd h1 h2 h3) ht
  unfold crF
  omega
theorem crF_mid {P thick page : Int} (h1 : 1 ≤ page) (h2 : page ≤ 2 * P) (h0 : 1 ≤ P) (ht : 0 ≤ thick) : crF (2 * P) thick page ≤ crF (2 * P) thick P := by
  unfold crF
  have := Int.mul_le_mul_of_nonneg_right (outF_mid h1 h2 h0) ht
  omega
theorem mgCreep_any {pages thick page : Int} {w : World} (h1 : 1 ≤ page) (h2 : (page - 1) / 2 ≤ pages / 2 - 1) (h3 : pages ≤ 64) (ht : 0 ≤ thick ∧ thick ≤ 500) :
    Calls Try.prog 25 #[.int .i64 pages, .int .i64 thick, .int .i64 page] w fun e w' => e = .returned (.int .i64 (crF pages thick page)) ∧ w = w' := by
  have hb := outF_bd h1 h2 h3
  have hm := mul_lim hb ht
  unfold outF at hb hm
  have HF := Lib.hid (show mnI ((page - 1) / 2) (pages / 2 - 1 - (page - 1) / 2) * thick / 100 = crF pages thick page from rfl)
  have h4 : page ≤ 66 := by omega
  have h5 : 2 ≤ pages := by omega
  go_enter Try.func25, Try.ntmps25
  go_wp2_with fail
  refine (leastM_any _ _ _).mono ?_
  rintro e1 w1 ⟨rfl, rfl⟩
  go_wp2_with fail
  go_ret
  exact ⟨ret_int HF.out, rfl⟩
theorem mgMost_any {P thick : Int} {w : World} (h0 : 1 ≤ P ∧ P ≤ 32) (ht : 0 ≤ thick ∧ thick ≤ 500) :
    Calls Try.prog 33 #[.int .i64 (2 * P), .int .i64 thick] w fun e w' => e = .returned (.int .i64 (crF (2 * P) thick P)) ∧ w = w' := by
  have e2 : 2 * P / 2 = P := by omega
  go_enter Try.func33, Try.ntmps33
  go_wp2_with fail
  refine (mgCreep_any (by omega) (by omega) (by omega) ht).mono ?_
  rintro e1 w1 ⟨rfl, rfl⟩
  go_wp2_with fail
  go_ret
  exact ⟨rfl, rfl⟩
theorem mgThick_any (t : Int) (w : World) : Calls Try.prog 24 #[.int .i64 t] w fun e w' => e = .returned (.bool (inB t 0 500)) ∧ w = w' := by
  go_enter Try.func24, Try.ntmps24
  go_wp2_with (go_at_call 38; refine (in_any _ _ _ _).mono ?_; rintro e1 w1 ⟨rfl, rfl⟩)
  go_ret
  exact ⟨rfl, rfl⟩
def askF (fs : List Fld) (page : Int) : Bool := foldsB fs && inB page 1 (pgN fs.length)
theorem imAsked_any {page : Int} {A : Option Addr} {n cp : Nat} {fs : List Fld} {w : World} (hr : RFlds w w.heap.size A n fs) (hn0 : n ≤ 1048576) :
    Calls Try.prog 23 #[.slice A n cp, .int .i64 page] w fun e w' => e = .returned (.bool (askF fs page)) ∧ Below w.heap.size w w' := by
  have HL := Lib.hid hr.len
  cases h1 : foldsB fs
  · (go_enter Try.func23, Try.ntmps23; go_wp2_with fail; refine (imGood_any hr hn0).mono ?_; rintro e1 w1 ⟨rfl, hb⟩)
    go_wp2_with fail
    go_ret
    exact ⟨ret_bool (by rw [askF, h1]; rfl), hb⟩
  · obtain ⟨g1, g2⟩ := foldsB_true h1
    have hn4 : n ≤ 4 := by have := hr.len; omega
    have HA := Lib.hid (show askF fs page = inB page 1 (pgN n) by rw [askF, h1, HL.out]; rfl)
    (go_enter Try.func23, Try.ntmps23; go_wp2_with fail; refine (imGood_any hr hn0).mono ?_; rintro e1 w1 ⟨rfl, hb⟩)
    go_wp2_with fail
    refine (imCount_any ((RFlds.below hr hb).more hb.size) hn4).mono ?_
    rintro e1 w2 ⟨rfl, hn⟩
    go_wp2_with (go_at_call 38; refine (in_any _ _ _ _).mono ?_; rintro e1 w1 ⟨rfl, rfl⟩)
    go_ret
    exact ⟨ret_bool HA.out.symm, hb.trans (hn.mono hb.size)⟩
theorem isPageOf_any {page : Int} {A : Option Addr} {n cp : Nat} {fs : List Fld} {w : World} (hr : RFlds w w.heap.size A n fs) (hn0 : n ≤ 1048576) :
    Calls Try.prog 29 #[.slice A n cp, .int .i64 page] w fun e w' => e = .returned (.bool (askF fs page)) ∧ Below w.heap.size w w' := by
  have HL := Lib.hid hr.len
  cases h1 : foldsB fs
  · (go_enter Try.func29, Try.ntmps29; go_wp2_with fail; refine (areFolds_any hr hn0).mono ?_; rintro e1 w1 ⟨rfl, hb⟩)
    go_wp2_with fail
    go_ret
    exact ⟨ret_bool (by rw [askF, h1]; rfl), hb⟩
  · obtain ⟨g1, g2⟩ := foldsB_true h1
    have hn4 : n ≤ 4 := by have := hr.len; omega
    have HA := Lib.hid (show askF fs page = inB page 1 (pgN n) by rw [askF, h1, HL.out]; rfl)
    have HG := Lib.hid g2
    clear g2
    (go_enter Try.func29, Try.ntmps29; go_wp2_with fail; refine (areFolds_any hr hn0).mono ?_; rintro e1 w1 ⟨rfl, hb⟩)
    go_wp2_with fail
    refine (pageCount_any ((RFlds.below hr hb).more hb.size) hn4 HG.out).mono ?_
    rintro e1 w2 ⟨rfl, hn⟩
    go_wp2_with (go_at_call 42; refine (within_any _ _ _ _).mono ?_; rintro e1 w1 ⟨rfl, rfl⟩)
    go_ret
    exact ⟨ret_bool HA.out.symm, hb.trans (hn.mono hb.size)⟩
def thB (fs : List Fld) (t : Int) : Bool := foldsB fs && inB t 0 500
theorem isThick_any {t : Int} {A : Option Addr} {n cp : Nat} {fs : List Fld} {w : World} (hr : RFlds w w.heap.size A n fs) (hn0 : n ≤ 1048576) :
    Calls Try.prog 28 #[.slice A n cp, .int .i64 t] w fun e w' => e = .returned (.bool (thB fs t)) ∧ Below w.heap.size w w' := by
  cases h1 : foldsB fs
  · go_enter Try.func28, Try.ntmps28
    go_wp2_with fail
    refine (areFolds_any hr hn0).mono ?_
    rintro e1 w1 ⟨rfl, hb⟩
    go_wp2_with fail
    go_ret
    exact ⟨ret_bool (by rw [thB, h1]; rfl), hb⟩
  · go_enter Try.func28, Try.ntmps28
    go_wp2_with fail
    refine (areFolds_any hr hn0).mono ?_
    rintro e1 w1 ⟨rfl, hb⟩
    go_wp2_with (go_at_call 42; refine (within_any _ _ _ _).mono ?_; rintro e1 w1 ⟨rfl, rfl⟩)
    go_ret
    exact ⟨ret_bool (by rw [thB, h1]; rfl), hb⟩
theorem pgN_half {n : Nat} (h : n ≤ 4) : (pgN n : Int) = 2 * (lfN n : Int) ∧ 1 ≤ (lfN n : Int) ∧ (lfN n : Int) ≤ 16 := by
  have := lfN_bd h
  unfold pgN
  omega
set_option maxRecDepth 100000 in
theorem creep_any {page t : Int} {A : Option Addr} {n cp : Nat} {fs : List Fld} {w : World} (hr : RFlds w w.heap.size A n fs) (hn0 : n ≤ 1048576) (hn4 : n ≤ 4) (hal : ∀ f ∈ fs, f.along = 1 ∨ f.along = 2) (h1 : 1 ≤ page) (h2 : page ≤ pgN n) (ht : 0 ≤ t ∧ t ≤ 500) :
    Calls Try.prog 30 #[.slice A n cp, .int .i64 t, .int .i64 page] w fun e w' => e = .returned (.int .i64 (crF (pgN n) t page)) ∧ Below w.heap.size w w' := by
  obtain ⟨q1, q2, q3⟩ := pgN_half hn4
  obtain ⟨P, hP⟩ : ∃ P : Int, P = (pgN n : Int) := ⟨_, rfl⟩
  have HA := Lib.hid hal
  have hb := outF_bd (pages := P) h1 (by omega) (by omega)
  have hm := mul_lim hb ht
  have hP2 : 2 ≤ P ∧ P ≤ 32 := by omega
  have h2' : page ≤ P := by omega
  have hle : (page - 1) / 2 ≤ P / 2 - 1 := by omega
  have HP := Lib.hid hP
  have HF := Lib.hid (show outF P page * t / 100 = crF P t page from rfl)
  clear hal hP q1 q2 q3 h2
  rcases (by omega : (page - 1) / 2 ≤ P / 2 - 1 - (page - 1) / 2 ∨ P / 2 - 1 - (page - 1) / 2 < (page - 1) / 2) with hmn | hmn
  · have HO := Lib.hid (show outF P page = (page - 1) / 2 by unfold outF mnI; split <;> omega)
    rw [HO.out] at hb hm
    go_enter Try.func30, Try.ntmps30
    go_wp2_with fail
    refine (pageCount_any hr hn4 HA.out).mono ?_
    rintro e1 w1 ⟨rfl, hb1⟩
    rw [← HP.out]
    go_wp2_with fail
    go_ret
    exact ⟨ret_int (by rw [← HP.out, ← HF.out, HO.out]), hb1⟩
  · have HO := Lib.hid (show outF P page = P / 2 - 1 - (page - 1) / 2 by unfold outF mnI; split <;> omega)
    rw [HO.out] at hb hm
    go_enter Try.func30, Try.ntmps30
    go_wp2_with fail
    refine (pageCount_any hr hn4 HA.out).mono ?_
    rintro e1 w1 ⟨rfl, hb1⟩
    rw [← HP.out]
    go_wp2_with fail
    go_ret
    exact ⟨ret_int (by rw [← HP.out, ← HF.out, HO.out]), hb1⟩
def coG (fs : List Fld) (t page : Int) : Bool := askF fs page && inB t 0 500
def coV (fs : List Fld) (t page : Int) : Int := if coG fs t page then crF (pgN fs.length) t page else 0
theorem askF_true {fs : List Fld} {page : Int} (h : askF fs page = true) : foldsB fs = true ∧ 1 ≤ page ∧ page ≤ pgN fs.length := by
  simp only [askF, Bool.and_eq_true, inB_true] at h
  exact ⟨h.1, h.2.1, h.2.2⟩
theorem creepOf_spec {t page : Int} {A : Option Addr} {n cp : Nat} {fs : List Fld} {w : World} (hr : RFlds w w.heap.size A n fs) (hn0 : n ≤ 1048576) (_ : -9223372036854775808 ≤ t ∧ t ≤ 9223372036854775807) (_ : -9223372036854775808 ≤ page ∧ page ≤ 9223372036854775807) :
    Calls Try.prog 8 #[.slice A n cp, .int .i64 t, .int .i64 page] w fun e w' => e = .returned (.tuple #[.int .i64 (coV fs t page), .bool (coG fs t page)]) ∧ Below w.heap.size w w' := by
  cases h1 : askF fs page
  · (go_enter Try.func8, Try.ntmps8; go_wp2_with fail; refine (imAsked_any hr hn0).mono ?_; rintro e1 w1 ⟨rfl, hb⟩)
    go_wp2_with fail
    go_ret2
    exact ⟨by simp [coV, coG, h1], hb⟩
  cases h2 : inB t 0 500
  · (go_enter Try.func8, Try.ntmps8; go_wp2_with fail; refine (imAsked_any hr hn0).mono ?_; rintro e1 w1 ⟨rfl, hb⟩)
    go_wp2_with (go_at_call 24; refine (mgThick_any _ _).mono ?_; rintro e1 w1 ⟨rfl, rfl⟩)
    go_ret2
    exact ⟨by simp [coV, coG, h1, h2], hb⟩
  · obtain ⟨g0, g1, g2⟩ := askF_true h1
    have g3 := inB_true.1 h2
    have g4 := foldsB_true g0
    have hl := hr.len
    have hn4 : n ≤ 4 := by omega
    rw [hl] at g2
    obtain ⟨q1, q2, q3⟩ := pgN_half hn4
    have HV := Lib.hid (show coV fs t page = crF (pgN n) t page by rw [coV, coG, h1, h2, hl]; rfl)
    have HW := Lib.hid (show coG fs t page = true by rw [coG, h1, h2]; rfl)
    obtain ⟨P, hP⟩ : ∃ P : Int, P = (pgN n : Int) := ⟨_, rfl⟩
    have HP := Lib.hid hP
    have hP2 : page ≤ P ∧ 2 ≤ P ∧ P ≤ 32 ∧ (page - 1) / 2 ≤ P / 2 - 1 := by omega
    clear q1 q2 q3 g4 g0 g2 hl hP
    (go_enter Try.func8, Try.ntmps8; go_wp2_with fail; refine (imAsked_any hr hn0).mono ?_; rintro e1 w1 ⟨rfl, hb⟩)
    go_wp2_with (go_at_call 24; refine (mgThick_any _ _).mono ?_; rintro e1 w1 ⟨rfl, rfl⟩)
    refine (imCount_any ((RFlds.below hr hb).more hb.size) hn4).mono ?_
    rintro e1 w2 ⟨rfl, hn⟩
    rw [← HP.out]
    go_wp2_with fail
    refine (mgCreep_any (by omega) (by omega) (by omega) (by omega)).mono ?_
    rintro e1 w3 ⟨rfl, rfl⟩
    go_wp2_with fail
    go_ret2
    exact ⟨by rw [HV.out, HW.out, ← HP.out]; rfl, hb.trans (hn.mono hb.size)⟩
theorem creepOf_impl {t page : Int} {A : Option Addr} {n cp : Nat} {fs : List Fld} {w : World} (hr : RFlds w w.heap.size A n fs) (hn0 : n ≤ 1048576) (_ : -9223372036854775808 ≤ t ∧ t ≤ 9223372036854775807) (_ : -9223372036854775808 ≤ page ∧ page ≤ 9223372036854775807) :
    Calls Try.prog 10 #[.slice A n cp, .int .i64 t, .int .i64 page] w fun e w' => e = .returned (.tuple #[.int .i64 (coV fs t page), .bool (coG fs t page)]) ∧ Below w.heap.size w w' := by
  cases h1 : thB fs t
  · have HV := Lib.hid (show coG fs t page = false by rw [coG, askF]; rw [thB] at h1; cases ha : foldsB fs <;> simp_all)
    (go_enter Try.func10, Try.ntmps10; go_wp2_with fail; refine (isThick_any hr hn0).mono ?_; rintro e1 w1 ⟨rfl, hb⟩)
    go_wp2_with fail
    go_ret2
    exact ⟨by simp [coV, HV.out], hb⟩
  have h1' := h1
  simp only [thB, Bool.and_eq_true] at h1'
  obtain ⟨g0, gt⟩ := h1'
  have g3 := inB_true.1 gt
  have hl := hr.len
  cases h2 : askF fs page
  · have HV := Lib.hid (show coG fs t page = false by rw [coG, h2]; rfl)
    clear g0 gt hl
    (go_enter Try.func10, Try.ntmps10; go_wp2_with fail; refine (isThick_any hr hn0).mono ?_; rintro e1 w1 ⟨rfl, hb⟩)
    go_wp2_with fail
    refine (isPageOf_any ((RFlds.below hr hb).more hb.size) hn0).mono ?_
    rintro e1 w2 ⟨rfl, hn⟩
    go_wp2_with fail
    go_ret2
    exact ⟨by simp [coV, HV.out], hb.trans (hn.mono hb.size)⟩
  · obtain ⟨_, g1, g2⟩ := askF_true h2
    have g4 := foldsB_true g0
    have hn4 : n ≤ 4 := by omega
    rw [hl] at g2
    have HV := Lib.hid (show coV fs t page = crF (pgN n) t page by rw [coV, coG, h2, gt, hl]; rfl)
    have HW := Lib.hid (show coG fs t page = true by rw [coG, h2, gt]; rfl)
    have HA := Lib.hid g4.2
    clear g4 g0 gt hl
    (go_enter Try.func10, Try.ntmps10; go_wp2_with fail; refine (isThick_any hr hn0).mono ?_; rintro e1 w1 ⟨rfl, hb⟩)
    go_wp2_with fail
    refine (isPageOf_any ((RFlds.below hr hb).more hb.size) hn0).mono ?_
    rintro e1 w2 ⟨rfl, hn⟩
    replace hb := hb.trans (hn.mono hb.size)
    go_wp2_with fail
    refine (creep_any ((RFlds.below hr hb).more hb.size) hn0 hn4 HA.out g1 g2 g3).mono ?_
    rintro e1 w3 ⟨rfl, hn3⟩
    go_wp2_with fail
    go_ret2
    exact ⟨by rw [HV.out, HW.out]; rfl, hb.trans (hn3.mono hb.size)⟩
end Go.Proofs.Ytaalfmijpbnpkaa
