/-
  The walk of the law of JobMinutes.
-/
import Derived.Test.YtfgnjokiadlieaaPr5
import Derived.Deep.RegionHeld3
namespace Go.Proofs.Ytfgnjokiadlieaa
open Go.RowKit
set_option maxHeartbeats 1000000 in
theorem jobMinutesLaw (W : World) (a0 b0 c0 : Int) (A0 : Option Addr) (n0 cp0 : Nat) (xs0 : List Int) (hr0 : RInts W W.heap.size A0 n0 xs0) (hn0 : n0 ≤ maxLen) (f1a f1b f1c : Int) (hf1a : -9223372036854775808 ≤ f1a ∧ f1a ≤ 9223372036854775807) (hf1b : -9223372036854775808 ≤ f1b ∧ f1b ≤ 9223372036854775807) (hf1c : -9223372036854775808 ≤ f1c ∧ f1c ≤ 9223372036854775807) : Calls Try.prog 8 #[.agg #[.int .i64 a0, .int .i64 b0, .int .i64 c0, .slice A0 n0 cp0], .agg #[.int .i64 f1a, .int .i64 f1b, .int .i64 f1c]] W fun e W' => e = .returned (.bool true) ∧ Below W.heap.size W W' := by
  unfold maxLen at hn0
  have HL0 := Lib.hid hr0.len
  have hbB0 := Blk.new' W 31 #[.int .i64 a0, .int .i64 b0, .int .i64 c0, .slice A0 n0 cp0]
  replace hbB0 := hbB0.alloc (.cells #[.int .i64 f1a, .int .i64 f1b, .int .i64 f1c] 50)
  have hbB1 : Blk ((W.alloc (.cells #[.int .i64 a0, .int .i64 b0, .int .i64 c0, .slice A0 n0 cp0] 31)).alloc (.cells #[.int .i64 f1a, .int .i64 f1b, .int .i64 f1c] 50)) (W.heap.size + 1) 50 [.int .i64 f1a, .int .i64 f1b, .int .i64 f1c] := by simpa using Blk.new' ((W.alloc (.cells #[.int .i64 a0, .int .i64 b0, .int .i64 c0, .slice A0 n0 cp0] 31))) 50 #[.int .i64 f1a, .int .i64 f1b, .int .i64 f1c]
  have hb : Below W.heap.size W ((W.alloc (.cells #[.int .i64 a0, .int .i64 b0, .int .i64 c0, .slice A0 n0 cp0] 31)).alloc (.cells #[.int .i64 f1a, .int .i64 f1b, .int .i64 f1c] 50)) := (by (repeat (first | exact Below.refl _ _ | exact hb | apply Below.drew | (refine Below.alloc ?_ (by first | (simp; done) | (simp; omega) | (have := hb.size; simp at this ⊢; omega)) _) | (refine Below.setCell ?_ (by simp) _))))
  by_cases hz0 : szI1 n0 1048576 < 0
  · go_enter Try.func8, Try.ntmps8
    go_wp2_with fail
    refine (szPress_any _ _ _ _ _ _ 1048576 _ (by omega) (by omega)).mono ?_
    rintro e1 w1 ⟨rfl, hn⟩
    replace hb := hb.trans (hn.mono hb.size)
    replace hbB0 := hbB0.below hn hbB0.lt
    replace hbB1 := hbB1.below hn hbB1.lt
    clear hn
    go_wp2_with fail
    go_ret
    exact ⟨rfl, hb⟩
  have hy0 := szI1_ok (n := n0) (l := 1048576) (by omega)
  have hm0 : n0 ≤ 1048576 := by omega
  go_enter Try.func8, Try.ntmps8
  go_wp2_with fail
  refine (szPress_any _ _ _ _ _ _ 1048576 _ (by omega) (by omega)).mono ?_
  rintro e1 w1 ⟨rfl, hn⟩
  replace hb := hb.trans (hn.mono hb.size)
  replace hbB0 := hbB0.below hn hbB0.lt
  replace hbB1 := hbB1.below hn hbB1.lt
  clear hn
  have HC := Lib.hid (show ∀ wx, Below w1.heap.size w1 wx → (wx.cell? ⟨W.heap.size, 0, none⟩ = some (.int .i64 a0) ∧ wx.cell? ⟨W.heap.size, 1, none⟩ = some (.int .i64 b0) ∧ wx.cell? ⟨W.heap.size, 2, none⟩ = some (.int .i64 c0) ∧ wx.cell? ⟨W.heap.size, 3, none⟩ = some (.slice A0 n0 cp0)) ∧ (wx.cell? ⟨W.heap.size + 1, 0, none⟩ = some (.int .i64 f1a) ∧ wx.cell? ⟨W.heap.size + 1, 1, none⟩ = some (.int .i64 f1b) ∧ wx.cell? ⟨W.heap.size + 1, 2, none⟩ = some (.int .i64 f1c)) from fun wx h => ⟨⟨(hbB0.below h hbB0.lt).cell 0, (hbB0.below h hbB0.lt).cell 1, (hbB0.below h hbB0.lt).cell 2, (hbB0.below h hbB0.lt).cell 3⟩, ⟨(hbB1.below h hbB1.lt).cell 0, (hbB1.below h hbB1.lt).cell 1, (hbB1.below h hbB1.lt).cell 2⟩⟩)
  go_wp2_with fail
  go_region_held3 (fun wx => Below w1.heap.size w1 wx ∧ (wx.cell? ⟨W.heap.size, 0, none⟩ = some (.int .i64 a0) ∧ wx.cell? ⟨W.heap.size, 1, none⟩ = some (.int .i64 b0) ∧ wx.cell? ⟨W.heap.size, 2, none⟩ = some (.int .i64 c0) ∧ wx.cell? ⟨W.heap.size, 3, none⟩ = some (.slice A0 n0 cp0)) ∧ (wx.cell? ⟨W.heap.size + 1, 0, none⟩ = some (.int .i64 f1a) ∧ wx.cell? ⟨W.heap.size + 1, 1, none⟩ = some (.int .i64 f1b) ∧ wx.cell? ⟨W.heap.size + 1, 2, none⟩ = some (.int .i64 f1c))) ((first | exact ⟨(Below.refl _ _).drew, HC.out _ (Below.refl _ _).drew⟩ | (have hh : Below _ _ _ ∧ _ := (by assumption); have hh0 := hh.1.trans (hn.mono hh.1.size); exact ⟨hh0, HC.out _ hh0⟩) | assumption | go_keep)) (first
    | (go_at_call 22; (have hh : Below _ _ _ ∧ _ := (by assumption)); refine (toPress_any _ _ _ _ _ _ _ xs0 _ (RInts.below hr0 (hb.trans (hh.1.mono hb.size))) (Nat.le_trans hb.size hh.1.size) hm0).mono ?_; rintro e1 wi2 ⟨gq0, rfl, hgq0, hkq0, hn⟩)
    | (go_at_call 36; refine (toPressJob_any _ _ _ _).mono ?_; rintro e1 wi2 ⟨rfl, hn⟩; replace hkq0 := Blk.below (by exact hkq0) hn (by exact hkq0.lt))
    | (go_at_call 38; (have hh : Below _ _ _ ∧ _ := (by assumption)); refine (jobMinutes_spec (by exact hkq0.rintsN HL0.out) hm0 hf1a hf1b hf1c).mono ?_; rintro e1 wi2 ⟨rfl, hn⟩))
  clear HC
  have hn0 : Below w1.heap.size w1 _ ∧ _ := (by assumption)
  obtain ⟨hn, _⟩ := hn0
  replace hb := hb.trans (hn.mono hb.size)
  replace hbB0 := hbB0.below hn hbB0.lt
  replace hbB1 := hbB1.below hn hbB1.lt
  clear hn
  have pB00 : _ = some (.int .i64 a0 : Value) := hbB0.cell 0
  have pB01 : _ = some (.int .i64 b0 : Value) := hbB0.cell 1
  have pB02 : _ = some (.int .i64 c0 : Value) := hbB0.cell 2
  have pB03 : _ = some (.slice A0 n0 cp0 : Value) := hbB0.cell 3
  have pB10 : _ = some (.int .i64 f1a : Value) := hbB1.cell 0
  have pB11 : _ = some (.int .i64 f1b : Value) := hbB1.cell 1
  have pB12 : _ = some (.int .i64 f1c : Value) := hbB1.cell 2
  go_wp2_with fail
  refine (toPress_any _ _ _ _ _ _ _ xs0 _ (RInts.below hr0 hb) hb.size hm0).mono ?_
  rintro e1 w4 ⟨g1, rfl, hg1, hk1, hn⟩
  clear pB00 pB01 pB02 pB03 pB10 pB11 pB12
  have ltB0_1 : W.heap.size < g1 := Nat.lt_of_lt_of_le hbB0.lt hg1
  have ltB1_1 : W.heap.size + 1 < g1 := Nat.lt_of_lt_of_le hbB1.lt hg1
  clear hg1
  replace hb := hb.trans (hn.mono hb.size)
  replace hbB0 := hbB0.below hn hbB0.lt
  replace hbB1 := hbB1.below hn hbB1.lt
  clear hn
  have hbXx0 := Blk.new' w4 34 #[.int .i64 a0, .int .i64 b0, .int .i64 c0, .slice (some ⟨g1, 0, none⟩) n0 n0]
  have lb_hk1_x0 : g1 < w4.heap.size := hk1.lt
  replace hb := hb.alloc hb.size (.cells #[.int .i64 a0, .int .i64 b0, .int .i64 c0, .slice (some ⟨g1, 0, none⟩) n0 n0] 34)
  replace hbB0 := hbB0.alloc (.cells #[.int .i64 a0, .int .i64 b0, .int .i64 c0, .slice (some ⟨g1, 0, none⟩) n0 n0] 34)
  replace hbB1 := hbB1.alloc (.cells #[.int .i64 a0, .int .i64 b0, .int .i64 c0, .slice (some ⟨g1, 0, none⟩) n0 n0] 34)
  replace hk1 := hk1.alloc (.cells #[.int .i64 a0, .int .i64 b0, .int .i64 c0, .slice (some ⟨g1, 0, none⟩) n0 n0] 34)
  have HC := Lib.hid (show ∀ wx, Below (w4.alloc (.cells #[.int .i64 a0, .int .i64 b0, .int .i64 c0, .slice (some ⟨g1, 0, none⟩) n0 n0] 34)).heap.size (w4.alloc (.cells #[.int .i64 a0, .int .i64 b0, .int .i64 c0, .slice (some ⟨g1, 0, none⟩) n0 n0] 34)) wx → (wx.cell? ⟨W.heap.size, 0, none⟩ = some (.int .i64 a0) ∧ wx.cell? ⟨W.heap.size, 1, none⟩ = some (.int .i64 b0) ∧ wx.cell? ⟨W.heap.size, 2, none⟩ = some (.int .i64 c0) ∧ wx.cell? ⟨W.heap.size, 3, none⟩ = some (.slice A0 n0 cp0)) ∧ (wx.cell? ⟨W.heap.size + 1, 0, none⟩ = some (.int .i64 f1a) ∧ wx.cell? ⟨W.heap.size + 1, 1, none⟩ = some (.int .i64 f1b) ∧ wx.cell? ⟨W.heap.size + 1, 2, none⟩ = some (.int .i64 f1c)) ∧ (wx.cell? ⟨w4.heap.size, 0, none⟩ = some (.int .i64 a0) ∧ wx.cell? ⟨w4.heap.size, 1, none⟩ = some (.int .i64 b0) ∧ wx.cell? ⟨w4.heap.size, 2, none⟩ = some (.int .i64 c0) ∧ wx.cell? ⟨w4.heap.size, 3, none⟩ = some (.slice (some ⟨g1, 0, none⟩) n0 n0)) from fun wx h => ⟨⟨(hbB0.below h hbB0.lt).cell 0, (hbB0.below h hbB0.lt).cell 1, (hbB0.below h hbB0.lt).cell 2, (hbB0.below h hbB0.lt).cell 3⟩, ⟨(hbB1.below h hbB1.lt).cell 0, (hbB1.below h hbB1.lt).cell 1, (hbB1.below h hbB1.lt).cell 2⟩, ⟨(hbXx0.below h hbXx0.lt).cell 0, (hbXx0.below h hbXx0.lt).cell 1, (hbXx0.below h hbXx0.lt).cell 2, (hbXx0.below h hbXx0.lt).cell 3⟩⟩)
  go_wp2_with fail
  go_region_held3 (fun wx => Below (w4.alloc (.cells #[.int .i64 a0, .int .i64 b0, .int .i64 c0, .slice (some ⟨g1, 0, none⟩) n0 n0] 34)).heap.size (w4.alloc (.cells #[.int .i64 a0, .int .i64 b0, .int .i64 c0, .slice (some ⟨g1, 0, none⟩) n0 n0] 34)) wx ∧ (wx.cell? ⟨W.heap.size, 0, none⟩ = some (.int .i64 a0) ∧ wx.cell? ⟨W.heap.size, 1, none⟩ = some (.int .i64 b0) ∧ wx.cell? ⟨W.heap.size, 2, none⟩ = some (.int .i64 c0) ∧ wx.cell? ⟨W.heap.size, 3, none⟩ = some (.slice A0 n0 cp0)) ∧ (wx.cell? ⟨W.heap.size + 1, 0, none⟩ = some (.int .i64 f1a) ∧ wx.cell? ⟨W.heap.size + 1, 1, none⟩ = some (.int .i64 f1b) ∧ wx.cell? ⟨W.heap.size + 1, 2, none⟩ = some (.int .i64 f1c)) ∧ (wx.cell? ⟨w4.heap.size, 0, none⟩ = some (.int .i64 a0) ∧ wx.cell? ⟨w4.heap.size, 1, none⟩ = some (.int .i64 b0) ∧ wx.cell? ⟨w4.heap.size, 2, none⟩ = some (.int .i64 c0) ∧ wx.cell? ⟨w4.heap.size, 3, none⟩ = some (.slice (some ⟨g1, 0, none⟩) n0 n0))) ((first | exact ⟨(Below.refl _ _).drew, HC.out _ (Below.refl _ _).drew⟩ | (have hh : Below _ _ _ ∧ _ := (by assumption); have hh0 := hh.1.trans (hn.mono hh.1.size); exact ⟨hh0, HC.out _ hh0⟩) | assumption | go_keep)) (first
    | (go_at_call 36; refine (toPressJob_any _ _ _ _).mono ?_; rintro e1 wi5 ⟨rfl, hn⟩)
    | (go_at_call 39; (have hh : Below _ _ _ ∧ _ := (by assumption)); refine (jobMinutes_impl (RInts.below (hk1.rintsN HL0.out) hh.1 |>.more hh.1.size) hm0 hf1a hf1b hf1c).mono ?_; rintro e1 wi5 ⟨rfl, hn⟩))
  clear HC
  have hn0 : Below (w4.alloc (.cells #[.int .i64 a0, .int .i64 b0, .int .i64 c0, .slice (some ⟨g1, 0, none⟩) n0 n0] 34)).heap.size (w4.alloc (.cells #[.int .i64 a0, .int .i64 b0, .int .i64 c0, .slice (some ⟨g1, 0, none⟩) n0 n0] 34)) _ ∧ _ := (by assumption)
  obtain ⟨hn, _⟩ := hn0
  replace hb := hb.trans (hn.mono hb.size)
  replace hbB0 := hbB0.below hn hbB0.lt
  replace hbB1 := hbB1.below hn hbB1.lt
  replace hbXx0 := hbXx0.below hn hbXx0.lt
  replace hk1 := hk1.below hn hk1.lt
  clear hn
  have HC := Lib.hid (show ∀ wx, Below wi5.heap.size wi5 wx → (wx.cell? ⟨w4.heap.size, 0, none⟩ = some (.int .i64 a0) ∧ wx.cell? ⟨w4.heap.size, 1, none⟩ = some (.int .i64 b0) ∧ wx.cell? ⟨w4.heap.size, 2, none⟩ = some (.int .i64 c0) ∧ wx.cell? ⟨w4.heap.size, 3, none⟩ = some (.slice (some ⟨g1, 0, none⟩) n0 n0)) ∧ (wx.cell? ⟨W.heap.size, 0, none⟩ = some (.int .i64 a0) ∧ wx.cell? ⟨W.heap.size, 1, none⟩ = some (.int .i64 b0) ∧ wx.cell? ⟨W.heap.size, 2, none⟩ = some (.int .i64 c0) ∧ wx.cell? ⟨W.heap.size, 3, none⟩ = some (.slice A0 n0 cp0)) from fun wx h => ⟨⟨(hbXx0.below h hbXx0.lt).cell 0, (hbXx0.below h hbXx0.lt).cell 1, (hbXx0.below h hbXx0.lt).cell 2, (hbXx0.below h hbXx0.lt).cell 3⟩, ⟨(hbB0.below h hbB0.lt).cell 0, (hbB0.below h hbB0.lt).cell 1, (hbB0.below h hbB0.lt).cell 2, (hbB0.below h hbB0.lt).cell 3⟩⟩)
  go_wp2_with fail
  go_region_held3 (fun wx => Below wi5.heap.size wi5 wx ∧ (wx.cell? ⟨w4.heap.size, 0, none⟩ = some (.int .i64 a0) ∧ wx.cell? ⟨w4.heap.size, 1, none⟩ = some (.int .i64 b0) ∧ wx.cell? ⟨w4.heap.size, 2, none⟩ = some (.int .i64 c0) ∧ wx.cell? ⟨w4.heap.size, 3, none⟩ = some (.slice (some ⟨g1, 0, none⟩) n0 n0)) ∧ (wx.cell? ⟨W.heap.size, 0, none⟩ = some (.int .i64 a0) ∧ wx.cell? ⟨W.heap.size, 1, none⟩ = some (.int .i64 b0) ∧ wx.cell? ⟨W.heap.size, 2, none⟩ = some (.int .i64 c0) ∧ wx.cell? ⟨W.heap.size, 3, none⟩ = some (.slice A0 n0 cp0))) ((first | exact ⟨(Below.refl _ _).drew, HC.out _ (Below.refl _ _).drew⟩ | (have hh : Below _ _ _ ∧ _ := (by assumption); have hh0 := hh.1.trans (hn.mono hh.1.size); exact ⟨hh0, HC.out _ hh0⟩) | assumption | go_keep)) (first
    | (go_at_call 22; (have hh : Below _ _ _ ∧ _ := (by assumption)); refine (toPress_any _ _ _ _ _ _ _ xs0 _ (RInts.below hr0 (hb.trans (hh.1.mono hb.size))) (Nat.le_trans hb.size hh.1.size) hm0).mono ?_; rintro e1 wi7 ⟨gq, rfl, hgq, hkq, hn⟩)
    | (go_at_call 24; (have hh : Below _ _ _ ∧ _ := (by assumption)); refine (eqPress_any _ _ _ _ _ _ _ _ _ _ xs0 _ (RInts.below (hk1.rintsN HL0.out) hh.1) (hkq.rintsN HL0.out) hh.1.size (Nat.le_refl _) hm0).mono ?_; rintro e1 wi7 ⟨rfl, hn⟩))
  clear HC
  have hn0 : Below wi5.heap.size wi5 _ ∧ _ := (by assumption)
  obtain ⟨hn, _⟩ := hn0
  replace hb := hb.trans (hn.mono hb.size)
  replace hbB0 := hbB0.below hn hbB0.lt
  replace hbB1 := hbB1.below hn hbB1.lt
  replace hbXx0 := hbXx0.below hn hbXx0.lt
  replace hk1 := hk1.below hn hk1.lt
  clear hn
  have pB00 : _ = some (.int .i64 a0 : Value) := hbB0.cell 0
  have pB01 : _ = some (.int .i64 b0 : Value) := hbB0.cell 1
  have pB02 : _ = some (.int .i64 c0 : Value) := hbB0.cell 2
  have pB03 : _ = some (.slice A0 n0 cp0 : Value) := hbB0.cell 3
  have pB10 : _ = some (.int .i64 f1a : Value) := hbB1.cell 0
  have pB11 : _ = some (.int .i64 f1b : Value) := hbB1.cell 1
  have pB12 : _ = some (.int .i64 f1c : Value) := hbB1.cell 2
  have pXx00 : _ = some (.int .i64 a0 : Value) := hbXx0.cell 0
  have pXx01 : _ = some (.int .i64 b0 : Value) := hbXx0.cell 1
  have pXx02 : _ = some (.int .i64 c0 : Value) := hbXx0.cell 2
  have pXx03 : _ = some (.slice (some ⟨g1, 0, none⟩) n0 n0 : Value) := hbXx0.cell 3
  go_wp2_with fail
  go_ret
  exact ⟨rfl, hb⟩
end Go.Proofs.Ytfgnjokiadlieaa
