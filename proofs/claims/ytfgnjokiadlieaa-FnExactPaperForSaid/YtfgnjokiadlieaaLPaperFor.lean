/-
  The walk of the law of PaperFor.
-/
import Derived.Test.YtfgnjokiadlieaaPr5
import Derived.Deep.RegionHeld3
namespace Go.Proofs.Ytfgnjokiadlieaa
open Go.RowKit
set_option maxHeartbeats 1000000 in
theorem paperForLaw (W : World) (a0 b0 c0 : Int) (A0 : Option Addr) (n0 cp0 : Nat) (xs0 : List Int) (hr0 : RInts W W.heap.size A0 n0 xs0) (hn0 : n0 ≤ maxLen) (A1 : Option Addr) (n1 cp1 : Nat) (xs1 : List PJob) (hr1 : RPJobs W W.heap.size A1 n1 xs1) (hn1 : n1 ≤ maxLen) : Calls Try.prog 9 #[.agg #[.int .i64 a0, .int .i64 b0, .int .i64 c0, .slice A0 n0 cp0], .slice A1 n1 cp1] W fun e W' => e = .returned (.bool true) ∧ Below W.heap.size W W' := by
  unfold maxLen at hn0
  have HL0 := Lib.hid hr0.len
  unfold maxLen at hn1
  have HL1 := Lib.hid hr1.len
  have hbB0 := Blk.new' W 31 #[.int .i64 a0, .int .i64 b0, .int .i64 c0, .slice A0 n0 cp0]
  have hb : Below W.heap.size W (W.alloc (.cells #[.int .i64 a0, .int .i64 b0, .int .i64 c0, .slice A0 n0 cp0] 31)) := (by (repeat (first | exact Below.refl _ _ | exact hb | apply Below.drew | (refine Below.alloc ?_ (by first | (simp; done) | (simp; omega) | (have := hb.size; simp at this ⊢; omega)) _) | (refine Below.setCell ?_ (by simp) _))))
  by_cases hz0 : szI1 n0 1048576 < 0
  · go_enter Try.func9, Try.ntmps9
    go_wp2_with fail
    refine (szPress_any _ _ _ _ _ _ 1048576 _ (by omega) (by omega)).mono ?_
    rintro e1 w1 ⟨rfl, hn⟩
    replace hb := hb.trans (hn.mono hb.size)
    replace hbB0 := hbB0.below hn hbB0.lt
    clear hn
    go_wp2_with fail
    go_ret
    exact ⟨rfl, hb⟩
  have hy0 := szI1_ok (n := n0) (l := 1048576) (by omega)
  have hm0 : n0 ≤ 1048576 := by omega
  by_cases hz1 : szI1 n1 (szI1 n0 1048576) < 0
  · go_enter Try.func9, Try.ntmps9
    go_wp2_with fail
    refine (szPress_any _ _ _ _ _ _ 1048576 _ (by omega) (by omega)).mono ?_
    rintro e1 w1 ⟨rfl, hn⟩
    replace hb := hb.trans (hn.mono hb.size)
    replace hbB0 := hbB0.below hn hbB0.lt
    clear hn
    have pB00 : _ = some (.int .i64 a0 : Value) := hbB0.cell 0
    have pB01 : _ = some (.int .i64 b0 : Value) := hbB0.cell 1
    have pB02 : _ = some (.int .i64 c0 : Value) := hbB0.cell 2
    have pB03 : _ = some (.slice A0 n0 cp0 : Value) := hbB0.cell 3
    go_wp2_with fail
    refine (szPressJobS_any _ _ _ (szI1 n0 1048576) _ (by omega) (by omega)).mono ?_
    rintro e1 w1_ ⟨rfl, hw1_⟩
    subst hw1_
    clear pB00 pB01 pB02 pB03
    go_wp2_with fail
    go_ret
    exact ⟨rfl, hb⟩
  have hy1 := szI1_ok (n := n1) (l := szI1 n0 1048576) (by omega)
  have hm1 : n1 ≤ 1048576 := by omega
  go_enter Try.func9, Try.ntmps9
  go_wp2_with fail
  refine (szPress_any _ _ _ _ _ _ 1048576 _ (by omega) (by omega)).mono ?_
  rintro e1 w1 ⟨rfl, hn⟩
  replace hb := hb.trans (hn.mono hb.size)
  replace hbB0 := hbB0.below hn hbB0.lt
  clear hn
  have pB00 : _ = some (.int .i64 a0 : Value) := hbB0.cell 0
  have pB01 : _ = some (.int .i64 b0 : Value) := hbB0.cell 1
  have pB02 : _ = some (.int .i64 c0 : Value) := hbB0.cell 2
  have pB03 : _ = some (.slice A0 n0 cp0 : Value) := hbB0.cell 3
  go_wp2_with fail
  refine (szPressJobS_any _ _ _ (szI1 n0 1048576) _ (by omega) (by omega)).mono ?_
  rintro e1 w1_ ⟨rfl, hw1_⟩
  subst hw1_
  clear pB00 pB01 pB02 pB03
  have pB00 : _ = some (.int .i64 a0 : Value) := hbB0.cell 0
  have pB01 : _ = some (.int .i64 b0 : Value) := hbB0.cell 1
  have pB02 : _ = some (.int .i64 c0 : Value) := hbB0.cell 2
  have pB03 : _ = some (.slice A0 n0 cp0 : Value) := hbB0.cell 3
  go_wp2_with fail
  refine (toPress_any _ _ _ _ _ _ _ xs0 _ (RInts.below hr0 hb) hb.size hm0).mono ?_
  rintro e1 w2 ⟨g1, rfl, hg1, hk1, hn⟩
  clear pB00 pB01 pB02 pB03
  have ltB0_1 : W.heap.size < g1 := Nat.lt_of_lt_of_le hbB0.lt hg1
  clear hg1
  replace hb := hb.trans (hn.mono hb.size)
  replace hbB0 := hbB0.below hn hbB0.lt
  clear hn
  have pB00 : _ = some (.int .i64 a0 : Value) := hbB0.cell 0
  have pB01 : _ = some (.int .i64 b0 : Value) := hbB0.cell 1
  have pB02 : _ = some (.int .i64 c0 : Value) := hbB0.cell 2
  have pB03 : _ = some (.slice A0 n0 cp0 : Value) := hbB0.cell 3
  go_wp2_with fail
  refine (toPressJobS_any _ _ _ _ xs1 _ (RPJobs.below hr1 hb) hb.size hm1).mono ?_
  rintro e1 w3 ⟨g2, rfl, hg2, hk2, hn⟩
  clear pB00 pB01 pB02 pB03
  have ltB0_2 : W.heap.size < g2 := Nat.lt_of_lt_of_le hbB0.lt hg2
  have lt_hk1_2 : g1 < g2 := Nat.lt_of_lt_of_le hk1.lt hg2
  clear hg2
  replace hb := hb.trans (hn.mono hb.size)
  replace hbB0 := hbB0.below hn hbB0.lt
  replace hk1 := hk1.below hn hk1.lt
  clear hn
  have pB00 : _ = some (.int .i64 a0 : Value) := hbB0.cell 0
  have pB01 : _ = some (.int .i64 b0 : Value) := hbB0.cell 1
  have pB02 : _ = some (.int .i64 c0 : Value) := hbB0.cell 2
  have pB03 : _ = some (.slice A0 n0 cp0 : Value) := hbB0.cell 3
  go_wp2_with fail
  refine (paperFor_spec (hk1.rintsN HL0.out) hm0 (RPJobs.of_blk hk2 HL1.out) hm1).mono ?_
  rintro e1 w4 ⟨rfl, hn⟩
  clear pB00 pB01 pB02 pB03
  clear hk1
  clear hk2
  replace hb := hb.trans (hn.mono hb.size)
  replace hbB0 := hbB0.below hn hbB0.lt
  clear hn
  have pB00 : _ = some (.int .i64 a0 : Value) := hbB0.cell 0
  have pB01 : _ = some (.int .i64 b0 : Value) := hbB0.cell 1
  have pB02 : _ = some (.int .i64 c0 : Value) := hbB0.cell 2
  have pB03 : _ = some (.slice A0 n0 cp0 : Value) := hbB0.cell 3
  go_wp2_with fail
  refine (toPress_any _ _ _ _ _ _ _ xs0 _ (RInts.below hr0 hb) hb.size hm0).mono ?_
  rintro e1 w5 ⟨g3, rfl, hg3, hk3, hn⟩
  clear pB00 pB01 pB02 pB03
  have ltB0_3 : W.heap.size < g3 := Nat.lt_of_lt_of_le hbB0.lt hg3
  clear hg3
  replace hb := hb.trans (hn.mono hb.size)
  replace hbB0 := hbB0.below hn hbB0.lt
  clear hn
  have hbXx0 := Blk.new' w5 34 #[.int .i64 a0, .int .i64 b0, .int .i64 c0, .slice (some ⟨g3, 0, none⟩) n0 n0]
  have lb_hk3_x0 : g3 < w5.heap.size := hk3.lt
  replace hb := hb.alloc hb.size (.cells #[.int .i64 a0, .int .i64 b0, .int .i64 c0, .slice (some ⟨g3, 0, none⟩) n0 n0] 34)
  replace hbB0 := hbB0.alloc (.cells #[.int .i64 a0, .int .i64 b0, .int .i64 c0, .slice (some ⟨g3, 0, none⟩) n0 n0] 34)
  replace hk3 := hk3.alloc (.cells #[.int .i64 a0, .int .i64 b0, .int .i64 c0, .slice (some ⟨g3, 0, none⟩) n0 n0] 34)
  have pB00 : _ = some (.int .i64 a0 : Value) := hbB0.cell 0
  have pB01 : _ = some (.int .i64 b0 : Value) := hbB0.cell 1
  have pB02 : _ = some (.int .i64 c0 : Value) := hbB0.cell 2
  have pB03 : _ = some (.slice A0 n0 cp0 : Value) := hbB0.cell 3
  have pXx00 : _ = some (.int .i64 a0 : Value) := hbXx0.cell 0
  have pXx01 : _ = some (.int .i64 b0 : Value) := hbXx0.cell 1
  have pXx02 : _ = some (.int .i64 c0 : Value) := hbXx0.cell 2
  have pXx03 : _ = some (.slice (some ⟨g3, 0, none⟩) n0 n0 : Value) := hbXx0.cell 3
  go_wp2_with fail
  refine (toPressJobS_any _ _ _ _ xs1 _ (RPJobs.below hr1 hb) hb.size hm1).mono ?_
  rintro e1 w6 ⟨g4, rfl, hg4, hk4, hn⟩
  clear pB00 pB01 pB02 pB03 pXx00 pXx01 pXx02 pXx03
  have ltB0_4 : W.heap.size < g4 := Nat.lt_of_lt_of_le hbB0.lt hg4
  have ltXx0_4 : w5.heap.size < g4 := Nat.lt_of_lt_of_le hbXx0.lt hg4
  have lt_hk3_4 : g3 < g4 := Nat.lt_of_lt_of_le hk3.lt hg4
  clear hg4
  replace hb := hb.trans (hn.mono hb.size)
  replace hbB0 := hbB0.below hn hbB0.lt
  replace hbXx0 := hbXx0.below hn hbXx0.lt
  replace hk3 := hk3.below hn hk3.lt
  clear hn
  have pB00 : _ = some (.int .i64 a0 : Value) := hbB0.cell 0
  have pB01 : _ = some (.int .i64 b0 : Value) := hbB0.cell 1
  have pB02 : _ = some (.int .i64 c0 : Value) := hbB0.cell 2
  have pB03 : _ = some (.slice A0 n0 cp0 : Value) := hbB0.cell 3
  have pXx00 : _ = some (.int .i64 a0 : Value) := hbXx0.cell 0
  have pXx01 : _ = some (.int .i64 b0 : Value) := hbXx0.cell 1
  have pXx02 : _ = some (.int .i64 c0 : Value) := hbXx0.cell 2
  have pXx03 : _ = some (.slice (some ⟨g3, 0, none⟩) n0 n0 : Value) := hbXx0.cell 3
  go_wp2_with fail
  refine (paperFor_impl (hk3.rintsN HL0.out) hm0 (RPJobs.of_blk hk4 HL1.out) hm1).mono ?_
  rintro e1 w7 ⟨rfl, hn⟩
  clear pB00 pB01 pB02 pB03 pXx00 pXx01 pXx02 pXx03
  replace hb := hb.trans (hn.mono hb.size)
  replace hbB0 := hbB0.below hn hbB0.lt
  replace hbXx0 := hbXx0.below hn hbXx0.lt
  replace hk3 := hk3.below hn hk3.lt
  replace hk4 := hk4.below hn hk4.lt
  clear hn
  have HC := Lib.hid (show ∀ wx, Below w7.heap.size w7 wx → (wx.cell? ⟨w5.heap.size, 0, none⟩ = some (.int .i64 a0) ∧ wx.cell? ⟨w5.heap.size, 1, none⟩ = some (.int .i64 b0) ∧ wx.cell? ⟨w5.heap.size, 2, none⟩ = some (.int .i64 c0) ∧ wx.cell? ⟨w5.heap.size, 3, none⟩ = some (.slice (some ⟨g3, 0, none⟩) n0 n0)) ∧ (wx.cell? ⟨W.heap.size, 0, none⟩ = some (.int .i64 a0) ∧ wx.cell? ⟨W.heap.size, 1, none⟩ = some (.int .i64 b0) ∧ wx.cell? ⟨W.heap.size, 2, none⟩ = some (.int .i64 c0) ∧ wx.cell? ⟨W.heap.size, 3, none⟩ = some (.slice A0 n0 cp0)) from fun wx h => ⟨⟨(hbXx0.below h hbXx0.lt).cell 0, (hbXx0.below h hbXx0.lt).cell 1, (hbXx0.below h hbXx0.lt).cell 2, (hbXx0.below h hbXx0.lt).cell 3⟩, ⟨(hbB0.below h hbB0.lt).cell 0, (hbB0.below h hbB0.lt).cell 1, (hbB0.below h hbB0.lt).cell 2, (hbB0.below h hbB0.lt).cell 3⟩⟩)
  go_wp2_with fail
  go_region_held3 (fun wx => Below w7.heap.size w7 wx ∧ (wx.cell? ⟨w5.heap.size, 0, none⟩ = some (.int .i64 a0) ∧ wx.cell? ⟨w5.heap.size, 1, none⟩ = some (.int .i64 b0) ∧ wx.cell? ⟨w5.heap.size, 2, none⟩ = some (.int .i64 c0) ∧ wx.cell? ⟨w5.heap.size, 3, none⟩ = some (.slice (some ⟨g3, 0, none⟩) n0 n0)) ∧ (wx.cell? ⟨W.heap.size, 0, none⟩ = some (.int .i64 a0) ∧ wx.cell? ⟨W.heap.size, 1, none⟩ = some (.int .i64 b0) ∧ wx.cell? ⟨W.heap.size, 2, none⟩ = some (.int .i64 c0) ∧ wx.cell? ⟨W.heap.size, 3, none⟩ = some (.slice A0 n0 cp0))) ((first | exact ⟨(Below.refl _ _).drew, HC.out _ (Below.refl _ _).drew⟩ | (have hh : Below _ _ _ ∧ _ := (by assumption); have hh0 := hh.1.trans (hn.mono hh.1.size); exact ⟨hh0, HC.out _ hh0⟩) | assumption | go_keep)) (first
    | (go_at_call 22; (have hh : Below _ _ _ ∧ _ := (by assumption)); refine (toPress_any _ _ _ _ _ _ _ xs0 _ (RInts.below hr0 (hb.trans (hh.1.mono hb.size))) (Nat.le_trans hb.size hh.1.size) hm0).mono ?_; rintro e1 wi8 ⟨gq, rfl, hgq, hkq, hn⟩)
    | (go_at_call 24; (have hh : Below _ _ _ ∧ _ := (by assumption)); refine (eqPress_any _ _ _ _ _ _ _ _ _ _ xs0 _ (RInts.below (hk3.rintsN HL0.out) hh.1) (hkq.rintsN HL0.out) hh.1.size (Nat.le_refl _) hm0).mono ?_; rintro e1 wi8 ⟨rfl, hn⟩))
  clear HC
  have hn0 : Below w7.heap.size w7 _ ∧ _ := (by assumption)
  obtain ⟨hn, _⟩ := hn0
  replace hb := hb.trans (hn.mono hb.size)
  replace hbB0 := hbB0.below hn hbB0.lt
  replace hbXx0 := hbXx0.below hn hbXx0.lt
  replace hk3 := hk3.below hn hk3.lt
  replace hk4 := hk4.below hn hk4.lt
  clear hn
  have pB00 : _ = some (.int .i64 a0 : Value) := hbB0.cell 0
  have pB01 : _ = some (.int .i64 b0 : Value) := hbB0.cell 1
  have pB02 : _ = some (.int .i64 c0 : Value) := hbB0.cell 2
  have pB03 : _ = some (.slice A0 n0 cp0 : Value) := hbB0.cell 3
  have pXx00 : _ = some (.int .i64 a0 : Value) := hbXx0.cell 0
  have pXx01 : _ = some (.int .i64 b0 : Value) := hbXx0.cell 1
  have pXx02 : _ = some (.int .i64 c0 : Value) := hbXx0.cell 2
  have pXx03 : _ = some (.slice (some ⟨g3, 0, none⟩) n0 n0 : Value) := hbXx0.cell 3
  go_wp2_with fail
  refine (toPressJobS_any _ _ _ _ xs1 _ (RPJobs.below hr1 hb) hb.size hm1).mono ?_
  rintro e1 w9 ⟨g5, rfl, hg5, hk5, hn⟩
  clear pB00 pB01 pB02 pB03 pXx00 pXx01 pXx02 pXx03
  have ltB0_5 : W.heap.size < g5 := Nat.lt_of_lt_of_le hbB0.lt hg5
  have ltXx0_5 : w5.heap.size < g5 := Nat.lt_of_lt_of_le hbXx0.lt hg5
  have lt_hk3_5 : g3 < g5 := Nat.lt_of_lt_of_le hk3.lt hg5
  have lt_hk4_5 : g4 < g5 := Nat.lt_of_lt_of_le hk4.lt hg5
  clear hg5
  replace hb := hb.trans (hn.mono hb.size)
  replace hbB0 := hbB0.below hn hbB0.lt
  replace hbXx0 := hbXx0.below hn hbXx0.lt
  replace hk3 := hk3.below hn hk3.lt
  replace hk4 := hk4.below hn hk4.lt
  clear hn
  have pB00 : _ = some (.int .i64 a0 : Value) := hbB0.cell 0
  have pB01 : _ = some (.int .i64 b0 : Value) := hbB0.cell 1
  have pB02 : _ = some (.int .i64 c0 : Value) := hbB0.cell 2
  have pB03 : _ = some (.slice A0 n0 cp0 : Value) := hbB0.cell 3
  have pXx00 : _ = some (.int .i64 a0 : Value) := hbXx0.cell 0
  have pXx01 : _ = some (.int .i64 b0 : Value) := hbXx0.cell 1
  have pXx02 : _ = some (.int .i64 c0 : Value) := hbXx0.cell 2
  have pXx03 : _ = some (.slice (some ⟨g3, 0, none⟩) n0 n0 : Value) := hbXx0.cell 3
  go_wp2_with fail
  refine (eqPressJobS_any _ _ _ _ _ _ _ _ _ (RPJobs.of_blk hk4 HL1.out) (RPJobs.of_blk hk5 HL1.out) (Nat.le_refl _) (Nat.le_refl _) hm1).mono ?_
  rintro e1 w10 ⟨rfl, hn⟩
  clear pB00 pB01 pB02 pB03 pXx00 pXx01 pXx02 pXx03
  clear hk5
  replace hb := hb.trans (hn.mono hb.size)
  replace hbB0 := hbB0.below hn hbB0.lt
  replace hbXx0 := hbXx0.below hn hbXx0.lt
  replace hk3 := hk3.below hn hk3.lt
  replace hk4 := hk4.below hn hk4.lt
  clear hn
  have pB00 : _ = some (.int .i64 a0 : Value) := hbB0.cell 0
  have pB01 : _ = some (.int .i64 b0 : Value) := hbB0.cell 1
  have pB02 : _ = some (.int .i64 c0 : Value) := hbB0.cell 2
  have pB03 : _ = some (.slice A0 n0 cp0 : Value) := hbB0.cell 3
  have pXx00 : _ = some (.int .i64 a0 : Value) := hbXx0.cell 0
  have pXx01 : _ = some (.int .i64 b0 : Value) := hbXx0.cell 1
  have pXx02 : _ = some (.int .i64 c0 : Value) := hbXx0.cell 2
  have pXx03 : _ = some (.slice (some ⟨g3, 0, none⟩) n0 n0 : Value) := hbXx0.cell 3
  go_wp2_with fail
  go_ret
  exact ⟨rfl, hb⟩
end Go.Proofs.Ytfgnjokiadlieaa
