/-
  Contracts: the minutes of a job, and the functions on a press and one job.
-/
import Derived.Test.YtfjkmocjlmcjdaaPr3
namespace Go.Proofs.Ytfjkmocjlmcjdaa
open Go.RowKit
theorem tdiv_nn {x y : Int} (h : 0 ≤ x) : x.tdiv y = x / y := Int.tdiv_eq_ediv_of_nonneg h
theorem prMinutes_any {a b c i s d : Int} {A : Option Addr} {n cp : Nat} {w : World} (ha : 1 ≤ a ∧ a ≤ 5000) (hb1 : 0 ≤ b ∧ b ≤ 600) (h0 : 0 ≤ c ∧ c ≤ 500) (h1 : 1 ≤ s ∧ s ≤ 20000) :
    Calls Try.prog 39 #[.agg #[.int .i64 a, .int .i64 b, .int .i64 c, .slice A n cp], .agg #[.int .i64 i, .int .i64 s, .int .i64 d]] w fun e w' => e = .returned (.int .i64 (mins a b c s)) ∧ Below w.heap.size w w' := by
  have hP := (Blk.new' w 30 #[.int .i64 a, .int .i64 b, .int .i64 c, .slice A n cp]).alloc (.cells #[.int .i64 i, .int .i64 s, .int .i64 d] 46)
  have hJ : Blk ((w.alloc (.cells #[.int .i64 a, .int .i64 b, .int .i64 c, .slice A n cp] 30)).alloc (.cells #[.int .i64 i, .int .i64 s, .int .i64 d] 46)) (w.heap.size + 1) 46 [.int .i64 i, .int .i64 s, .int .i64 d] := by simpa using Blk.new' (w.alloc (.cells #[.int .i64 a, .int .i64 b, .int .i64 c, .slice A n cp] 30)) 46 #[.int .i64 i, .int .i64 s, .int .i64 d]
  have HC := Lib.hid (show ∀ wx, Below ((w.alloc (.cells #[.int .i64 a, .int .i64 b, .int .i64 c, .slice A n cp] 30)).alloc (.cells #[.int .i64 i, .int .i64 s, .int .i64 d] 46)).heap.size ((w.alloc (.cells #[.int .i64 a, .int .i64 b, .int .i64 c, .slice A n cp] 30)).alloc (.cells #[.int .i64 i, .int .i64 s, .int .i64 d] 46)) wx → (wx.cell? ⟨w.heap.size, 0, none⟩ = some (.int .i64 a) ∧ wx.cell? ⟨w.heap.size, 1, none⟩ = some (.int .i64 b) ∧ wx.cell? ⟨w.heap.size, 2, none⟩ = some (.int .i64 c) ∧ wx.cell? ⟨w.heap.size, 3, none⟩ = some (.slice A n cp) ∧ wx.cell? ⟨w.heap.size + 1, 0, none⟩ = some (.int .i64 i) ∧ wx.cell? ⟨w.heap.size + 1, 1, none⟩ = some (.int .i64 s) ∧ wx.cell? ⟨w.heap.size + 1, 2, none⟩ = some (.int .i64 d)) from fun wx h => ⟨(hP.below h hP.lt).cell 0, (hP.below h hP.lt).cell 1, (hP.below h hP.lt).cell 2, (hP.below h hP.lt).cell 3, (hJ.below h hJ.lt).cell 0, (hJ.below h hJ.lt).cell 1, (hJ.below h hJ.lt).cell 2⟩)
  have hm := mins_bd ha hb1 h0 h1
  have hnb := need_bd (c := c) (x := s) h0 h1.1
  have hne : (a == 0) = false := by rw [beq_eq_false_iff_ne]; omega
  have hne0 : ¬ a = 0 := by omega
  clear hP hJ
  go_enter Try.func39, Try.ntmps39
  go_wp2_with fail
  go_region_held3 (fun wx => Below ((w.alloc (.cells #[.int .i64 a, .int .i64 b, .int .i64 c, .slice A n cp] 30)).alloc (.cells #[.int .i64 i, .int .i64 s, .int .i64 d] 46)).heap.size ((w.alloc (.cells #[.int .i64 a, .int .i64 b, .int .i64 c, .slice A n cp] 30)).alloc (.cells #[.int .i64 i, .int .i64 s, .int .i64 d] 46)) wx ∧ (wx.cell? ⟨w.heap.size, 0, none⟩ = some (.int .i64 a) ∧ wx.cell? ⟨w.heap.size, 1, none⟩ = some (.int .i64 b) ∧ wx.cell? ⟨w.heap.size, 2, none⟩ = some (.int .i64 c) ∧ wx.cell? ⟨w.heap.size, 3, none⟩ = some (.slice A n cp) ∧ wx.cell? ⟨w.heap.size + 1, 0, none⟩ = some (.int .i64 i) ∧ wx.cell? ⟨w.heap.size + 1, 1, none⟩ = some (.int .i64 s) ∧ wx.cell? ⟨w.heap.size + 1, 2, none⟩ = some (.int .i64 d))) ((first | exact ⟨(Below.refl _ _).drew, HC.out _ (Below.refl _ _).drew⟩ | (have hh : Below _ _ _ ∧ _ := (by assumption); have hh0 := hh.1.trans (hn.mono hh.1.size); exact ⟨hh0, HC.out _ hh0⟩) | assumption | go_keep))
    ((go_at_call 52; refine (prNeeded_any h0 h1).mono ?_; rintro e1 w1 ⟨rfl, hn⟩))
  have hh : Below _ _ _ ∧ _ := (by assumption)
  have hb : Below w.heap.size w _ := Below.trans (by (repeat (first | exact Below.refl _ _ | exact hb | apply Below.drew | (refine Below.alloc ?_ (by first | (simp; done) | (simp; omega) | (have := hb.size; simp at this ⊢; omega)) _) | (refine Below.setCell ?_ (by simp) _)))) (hh.1.mono (by simp <;> omega))
  clear HC hh
  go_wp2_with fail
  go_ret
  refine ⟨ret_int ?_, hb⟩
  rw [wrapI (n := 60 * need c s) (by omega) (by omega), wrapI (n := 60 * need c s + a) (by omega) (by omega), wrapI (n := 60 * need c s + a - 1) (by omega) (by omega), tdiv_nn (by omega), wrapI (n := (60 * need c s + a - 1) / a) (by omega) (by omega)]
  unfold mins at hm ⊢
  rw [wrapI (by omega) (by omega)]
theorem minutes_any {a b c i s d : Int} {A : Option Addr} {n cp : Nat} {w : World} (ha : 1 ≤ a ∧ a ≤ 5000) (hb1 : 0 ≤ b ∧ b ≤ 600) (h0 : 0 ≤ c ∧ c ≤ 500) (h1 : 1 ≤ s ∧ s ≤ 20000) :
    Calls Try.prog 46 #[.agg #[.int .i64 a, .int .i64 b, .int .i64 c, .slice A n cp], .agg #[.int .i64 i, .int .i64 s, .int .i64 d]] w fun e w' => e = .returned (.int .i64 (mins a b c s)) ∧ Below w.heap.size w w' := by
  have hP := (Blk.new' w 30 #[.int .i64 a, .int .i64 b, .int .i64 c, .slice A n cp]).alloc (.cells #[.int .i64 i, .int .i64 s, .int .i64 d] 46)
  have hJ : Blk ((w.alloc (.cells #[.int .i64 a, .int .i64 b, .int .i64 c, .slice A n cp] 30)).alloc (.cells #[.int .i64 i, .int .i64 s, .int .i64 d] 46)) (w.heap.size + 1) 46 [.int .i64 i, .int .i64 s, .int .i64 d] := by simpa using Blk.new' (w.alloc (.cells #[.int .i64 a, .int .i64 b, .int .i64 c, .slice A n cp] 30)) 46 #[.int .i64 i, .int .i64 s, .int .i64 d]
  have HC := Lib.hid (show ∀ wx, Below ((w.alloc (.cells #[.int .i64 a, .int .i64 b, .int .i64 c, .slice A n cp] 30)).alloc (.cells #[.int .i64 i, .int .i64 s, .int .i64 d] 46)).heap.size ((w.alloc (.cells #[.int .i64 a, .int .i64 b, .int .i64 c, .slice A n cp] 30)).alloc (.cells #[.int .i64 i, .int .i64 s, .int .i64 d] 46)) wx → (wx.cell? ⟨w.heap.size, 0, none⟩ = some (.int .i64 a) ∧ wx.cell? ⟨w.heap.size, 1, none⟩ = some (.int .i64 b) ∧ wx.cell? ⟨w.heap.size, 2, none⟩ = some (.int .i64 c) ∧ wx.cell? ⟨w.heap.size, 3, none⟩ = some (.slice A n cp) ∧ wx.cell? ⟨w.heap.size + 1, 0, none⟩ = some (.int .i64 i) ∧ wx.cell? ⟨w.heap.size + 1, 1, none⟩ = some (.int .i64 s) ∧ wx.cell? ⟨w.heap.size + 1, 2, none⟩ = some (.int .i64 d)) from fun wx h => ⟨(hP.below h hP.lt).cell 0, (hP.below h hP.lt).cell 1, (hP.below h hP.lt).cell 2, (hP.below h hP.lt).cell 3, (hJ.below h hJ.lt).cell 0, (hJ.below h hJ.lt).cell 1, (hJ.below h hJ.lt).cell 2⟩)
  have hm := mins_bd ha hb1 h0 h1
  have hnb := need_bd (c := c) (x := s) h0 h1.1
  have hne : (a == 0) = false := by rw [beq_eq_false_iff_ne]; omega
  have hne0 : ¬ a = 0 := by omega
  clear hP hJ
  go_enter Try.func46, Try.ntmps46
  go_wp2_with fail
  go_region_held3 (fun wx => Below ((w.alloc (.cells #[.int .i64 a, .int .i64 b, .int .i64 c, .slice A n cp] 30)).alloc (.cells #[.int .i64 i, .int .i64 s, .int .i64 d] 46)).heap.size ((w.alloc (.cells #[.int .i64 a, .int .i64 b, .int .i64 c, .slice A n cp] 30)).alloc (.cells #[.int .i64 i, .int .i64 s, .int .i64 d] 46)) wx ∧ (wx.cell? ⟨w.heap.size, 0, none⟩ = some (.int .i64 a) ∧ wx.cell? ⟨w.heap.size, 1, none⟩ = some (.int .i64 b) ∧ wx.cell? ⟨w.heap.size, 2, none⟩ = some (.int .i64 c) ∧ wx.cell? ⟨w.heap.size, 3, none⟩ = some (.slice A n cp) ∧ wx.cell? ⟨w.heap.size + 1, 0, none⟩ = some (.int .i64 i) ∧ wx.cell? ⟨w.heap.size + 1, 1, none⟩ = some (.int .i64 s) ∧ wx.cell? ⟨w.heap.size + 1, 2, none⟩ = some (.int .i64 d))) ((first | exact ⟨(Below.refl _ _).drew, HC.out _ (Below.refl _ _).drew⟩ | (have hh : Below _ _ _ ∧ _ := (by assumption); have hh0 := hh.1.trans (hn.mono hh.1.size); exact ⟨hh0, HC.out _ hh0⟩) | assumption | go_keep))
    ((go_at_call 56; refine (sheets_any h0 h1).mono ?_; rintro e1 w1 ⟨rfl, hn⟩))
  have hh : Below _ _ _ ∧ _ := (by assumption)
  have hb : Below w.heap.size w _ := Below.trans (by (repeat (first | exact Below.refl _ _ | exact hb | apply Below.drew | (refine Below.alloc ?_ (by first | (simp; done) | (simp; omega) | (have := hb.size; simp at this ⊢; omega)) _) | (refine Below.setCell ?_ (by simp) _)))) (hh.1.mono (by simp <;> omega))
  clear HC hh
  go_wp2_with fail
  go_ret
  refine ⟨ret_int ?_, hb⟩
  rw [wrapI (n := 60 * need c s) (by omega) (by omega), wrapI (n := 60 * need c s + a) (by omega) (by omega), wrapI (n := 60 * need c s + a - 1) (by omega) (by omega), tdiv_nn (by omega), wrapI (n := (60 * need c s + a - 1) / a) (by omega) (by omega)]
  unfold mins at hm ⊢
  rw [wrapI (by omega) (by omega)]
theorem prB_true {a b c : Int} {xs : List Int} (h : prB a b c xs = true) : (1 ≤ a ∧ a ≤ 5000) ∧ (0 ≤ b ∧ b ≤ 600) ∧ (0 ≤ c ∧ c ≤ 500) ∧ xs.length = 5 ∧ ∀ x ∈ xs, 0 ≤ x ∧ x ≤ 300 := by
  simp only [prB, Bool.and_eq_true, inB_true, decide_eq_true_eq] at h
  exact ⟨h.1, h.2.1, h.2.2.1, h.2.2.2.1, allB_mem h.2.2.2.2⟩
theorem jobB_true {m : PJob} (h : jobB m = true) : (0 ≤ m.ink ∧ m.ink ≤ 4) ∧ (1 ≤ m.sheets ∧ m.sheets ≤ 20000) ∧ (0 ≤ m.due ∧ m.due ≤ 100000) := by
  simpa only [jobB, Bool.and_eq_true, inB_true] using h
def wbG (a b c : Int) (xs : List Int) (f t : Int) : Bool := prB a b c xs && (inB f 0 4 && inB t 0 4)
def wbV (a b c : Int) (xs : List Int) (f t : Int) : Int := if wbG a b c xs f t then washF xs f t else 0
end Go.Proofs.Ytfjkmocjlmcjdaa
