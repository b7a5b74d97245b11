/-
  The walk of the law of LeastDelay.
-/
import Derived.Test.YtfjkmocjlmcjdaaPrH
import Derived.Deep.RegionHeld3
namespace Go.Proofs.Ytfjkmocjlmcjdaa
open Go.RowKit
set_option maxHeartbeats 1000000 in
theorem leastDelayLaw (W : World) (a0 b0 c0 : Int) (A0 : Option Addr) (n0 cp0 : Nat) (xs0 : List Int) (hr0 : RInts W W.heap.size A0 n0 xs0) (hn0 : n0 ≤ maxLen) (k1 : Int) (hI1 : -9223372036854775808 ≤ k1 ∧ k1 ≤ 9223372036854775807) (A2 : Option Addr) (n2 cp2 : Nat) (xs2 : List PJob) (hr2 : RPJobs W W.heap.size A2 n2 xs2) (hn2 : n2 ≤ maxLen) : Calls Try.prog 4 #[.agg #[.int .i64 a0, .int .i64 b0, .int .i64 c0, .slice A0 n0 cp0], .int .i64 k1, .slice A2 n2 cp2] W fun e W' => e = .returned (.bool true) ∧ Below W.heap.size W W' := by
  unfold maxLen at hn0
  have HL0 := Lib.hid hr0.len
  unfold maxLen at hn2
  have HL2 := Lib.hid hr2.len
  have hbB0 := Blk.new' W 24 #[.int .i64 a0, .int .i64 b0, .int .i64 c0, .slice A0 n0 cp0]
  have hb : Below W.heap.size W (W.alloc (.cells #[.int .i64 a0, .int .i64 b0, .int .i64 c0, .slice A0 n0 cp0] 24)) := (by (repeat (first | exact Below.refl _ _ | exact hb | apply Below.drew | (refine Below.alloc ?_ (by first | (simp; done) | (simp; omega) | (have := hb.size; simp at this ⊢; omega)) _) | (refine Below.setCell ?_ (by simp) _))))
  by_cases hz0 : szI1 n0 1048576 < 0
  · go_enter Try.func4, Try.ntmps4
    go_wp2_with fail
    refine (szPress_any _ _ _ _ _ _ 1048576 _ (by omega) (by omega)).mono ?_
    rintro e1 w1 ⟨rfl, hn⟩
    have hs0_ := Lib.hid (show W.heap.size + 1 ≤ w1.heap.size by have hq9 := hn.size; (try simp at hq9); (try simp); omega)
    replace hb := hb.trans (hn.mono hb.size)
    replace hbB0 := hbB0.below hn hbB0.lt
    clear hn
    go_wp2_with fail
    go_ret
    exact ⟨rfl, hb⟩
  have hy0 := szI1_ok (n := n0) (l := 1048576) (by omega)
  have hm0 : n0 ≤ 1048576 := by omega
  by_cases hz1 : szI1 n2 (szI1 n0 1048576) < 0
  · go_enter Try.func4, Try.ntmps4
    go_wp2_with fail
    refine (szPress_any _ _ _ _ _ _ 1048576 _ (by omega) (by omega)).mono ?_
    rintro e1 w1 ⟨rfl, hn⟩
    have hs0_ := Lib.hid (show W.heap.size + 1 ≤ w1.heap.size by have hq9 := hn.size; (try simp at hq9); (try simp); omega)
    replace hb := hb.trans (hn.mono hb.size)
    replace hbB0 := hbB0.below hn hbB0.lt
    clear hn
    have pB00 : _ = some (.int .i64 a0 : Value) := hbB0.cell 0
    have pB01 : _ = some (.int .i64 b0 : Value) := hbB0.cell 1
    have pB02 : _ = some (.int .i64 c0 : Value) := hbB0.cell 2
    have pB03 : _ = some (.slice A0 n0 cp0 : Value) := hbB0.cell 3
    go_wp2_with fail
    refine (szPressJobS_any _ _ _ (szI1 n0 1048576) _ (by omega) (by omega)).mono ?_
    rintro e1 w1_ ⟨rfl, hw1_⟩
    subst hw1_
    clear pB00 pB01 pB02 pB03
    go_wp2_with fail
    go_ret
    exact ⟨rfl, hb⟩
  have hy1 := szI1_ok (n := n2) (l := szI1 n0 1048576) (by omega)
  have hm2 : n2 ≤ 1048576 := by omega
  go_enter Try.func4, Try.ntmps4
  go_wp2_with fail
  refine (szPress_any _ _ _ _ _ _ 1048576 _ (by omega) (by omega)).mono ?_
  rintro e1 w1 ⟨rfl, hn⟩
  have hs0_ := Lib.hid (show W.heap.size + 1 ≤ w1.heap.size by have hq9 := hn.size; (try simp at hq9); (try simp); omega)
  replace hb := hb.trans (hn.mono hb.size)
  replace hbB0 := hbB0.below hn hbB0.lt
  clear hn
  have pB00 : _ = some (.int .i64 a0 : Value) := hbB0.cell 0
  have pB01 : _ = some (.int .i64 b0 : Value) := hbB0.cell 1
  have pB02 : _ = some (.int .i64 c0 : Value) := hbB0.cell 2
  have pB03 : _ = some (.slice A0 n0 cp0 : Value) := hbB0.cell 3
  go_wp2_with fail
  refine (szPressJobS_any _ _ _ (szI1 n0 1048576) _ (by omega) (by omega)).mono ?_
  rintro e1 w1_ ⟨rfl, hw1_⟩
  subst hw1_
  clear pB00 pB01 pB02 pB03
  have pB00 : _ = some (.int .i64 a0 : Value) := hbB0.cell 0
  have pB01 : _ = some (.int .i64 b0 : Value) := hbB0.cell 1
  have pB02 : _ = some (.int .i64 c0 : Value) := hbB0.cell 2
  have pB03 : _ = some (.slice A0 n0 cp0 : Value) := hbB0.cell 3
  go_wp2_with fail
  refine (toPress_any _ _ _ _ _ _ _ xs0 _ (RInts.below hr0 hb) hb.size hm0).mono ?_
  rintro e1 w2 ⟨g1, rfl, hg1, hk1, hn⟩
  clear pB00 pB01 pB02 pB03
  have hs1_ := Lib.hid (show w1.heap.size ≤ w2.heap.size by have hq9 := hn.size; (try simp at hq9); (try simp); omega)
  replace hb := hb.trans (hn.mono hb.size)
  replace hbB0 := hbB0.below hn hbB0.lt
  clear hn
  have hs2_ := Lib.hid (show w1.heap.size ≤ g1 ∧ g1 < w2.heap.size from ⟨by (try simp at hg1); omega, hk1.lt⟩)
  clear hg1
  have pB00 : _ = some (.int .i64 a0 : Value) := hbB0.cell 0
  have pB01 : _ = some (.int .i64 b0 : Value) := hbB0.cell 1
  have pB02 : _ = some (.int .i64 c0 : Value) := hbB0.cell 2
  have pB03 : _ = some (.slice A0 n0 cp0 : Value) := hbB0.cell 3
  go_wp2_with fail
  refine (toPressJobS_any _ _ _ _ xs2 _ (RPJobs.below hr2 hb) hb.size hm2).mono ?_
  rintro e1 w3 ⟨g2, rfl, hg2, hk2, hn⟩
  clear pB00 pB01 pB02 pB03
  have hs3_ := Lib.hid (show w2.heap.size ≤ w3.heap.size by have hq9 := hn.size; (try simp at hq9); (try simp); omega)
  replace hb := hb.trans (hn.mono hb.size)
  replace hbB0 := hbB0.below hn hbB0.lt
  replace hk1 := hk1.below hn hk1.lt
  clear hn
  have hs4_ := Lib.hid (show w2.heap.size ≤ g2 ∧ g2 < w3.heap.size from ⟨by (try simp at hg2); omega, hk2.lt⟩)
  clear hg2
  have pB00 : _ = some (.int .i64 a0 : Value) := hbB0.cell 0
  have pB01 : _ = some (.int .i64 b0 : Value) := hbB0.cell 1
  have pB02 : _ = some (.int .i64 c0 : Value) := hbB0.cell 2
  have pB03 : _ = some (.slice A0 n0 cp0 : Value) := hbB0.cell 3
  go_wp2_with fail
  refine (leastDelay_spec (hk1.rintsN HL0.out) hm0 hI1 (RPJobs.of_blk hk2 HL2.out) hm2).mono ?_
  rintro e1 w4 ⟨V1, N1, C1, rfl, ho1, hN1, hn⟩
  clear pB00 pB01 pB02 pB03
  clear hk1
  clear hk2
  have hs5_ := Lib.hid (show w3.heap.size ≤ w4.heap.size by have hq9 := hn.size; (try simp at hq9); (try simp); omega)
  replace hb := hb.trans (hn.mono hb.size)
  replace hbB0 := hbB0.below hn hbB0.lt
  clear hn
  have HR1 := Lib.hid (show ∀ k, (Value.slice V1 N1 C1).ownBlock = some k → w3.heap.size ≤ k ∧ k < w4.heap.size from fun k e => ⟨by have h9 := (ho1.lt k e).1; (try simp at h9); omega, (ho1.lt k e).2⟩)
  have pB00 : _ = some (.int .i64 a0 : Value) := hbB0.cell 0
  have pB01 : _ = some (.int .i64 b0 : Value) := hbB0.cell 1
  have pB02 : _ = some (.int .i64 c0 : Value) := hbB0.cell 2
  have pB03 : _ = some (.slice A0 n0 cp0 : Value) := hbB0.cell 3
  go_wp2_with fail
  refine (toPress_any _ _ _ _ _ _ _ xs0 _ (RInts.below hr0 hb) hb.size hm0).mono ?_
  rintro e1 w5 ⟨g3, rfl, hg3, hk3, hn⟩
  clear pB00 pB01 pB02 pB03
  have hs6_ := Lib.hid (show w4.heap.size ≤ w5.heap.size by have hq9 := hn.size; (try simp at hq9); (try simp); omega)
  replace hb := hb.trans (hn.mono hb.size)
  replace hbB0 := hbB0.below hn hbB0.lt
  replace ho1 := row_step ho1 hn
  clear hn
  have hs7_ := Lib.hid (show w4.heap.size ≤ g3 ∧ g3 < w5.heap.size from ⟨by (try simp at hg3); omega, hk3.lt⟩)
  clear hg3
  have hbXx0 := Blk.new' w5 30 #[.int .i64 a0, .int .i64 b0, .int .i64 c0, .slice (some ⟨g3, 0, none⟩) n0 n0]
  replace hb := hb.alloc hb.size (.cells #[.int .i64 a0, .int .i64 b0, .int .i64 c0, .slice (some ⟨g3, 0, none⟩) n0 n0] 30)
  replace hbB0 := hbB0.alloc (.cells #[.int .i64 a0, .int .i64 b0, .int .i64 c0, .slice (some ⟨g3, 0, none⟩) n0 n0] 30)
  replace ho1 := row_alloc ho1 (.cells #[.int .i64 a0, .int .i64 b0, .int .i64 c0, .slice (some ⟨g3, 0, none⟩) n0 n0] 30)
  replace hk3 := hk3.alloc (.cells #[.int .i64 a0, .int .i64 b0, .int .i64 c0, .slice (some ⟨g3, 0, none⟩) n0 n0] 30)
  have pB00 : _ = some (.int .i64 a0 : Value) := hbB0.cell 0
  have pB01 : _ = some (.int .i64 b0 : Value) := hbB0.cell 1
  have pB02 : _ = some (.int .i64 c0 : Value) := hbB0.cell 2
  have pB03 : _ = some (.slice A0 n0 cp0 : Value) := hbB0.cell 3
  have pXx00 : _ = some (.int .i64 a0 : Value) := hbXx0.cell 0
  have pXx01 : _ = some (.int .i64 b0 : Value) := hbXx0.cell 1
  have pXx02 : _ = some (.int .i64 c0 : Value) := hbXx0.cell 2
  have pXx03 : _ = some (.slice (some ⟨g3, 0, none⟩) n0 n0 : Value) := hbXx0.cell 3
  go_wp2_with fail
  refine (toPressJobS_any _ _ _ _ xs2 _ (RPJobs.below hr2 hb) hb.size hm2).mono ?_
  rintro e1 w6 ⟨g4, rfl, hg4, hk4, hn⟩
  clear pB00 pB01 pB02 pB03 pXx00 pXx01 pXx02 pXx03
  have hs8_ := Lib.hid (show w5.heap.size + 1 ≤ w6.heap.size by have hq9 := hn.size; (try simp at hq9); (try simp); omega)
  replace hb := hb.trans (hn.mono hb.size)
  replace hbB0 := hbB0.below hn hbB0.lt
  replace hbXx0 := hbXx0.below hn hbXx0.lt
  replace ho1 := row_step ho1 hn
  replace hk3 := hk3.below hn hk3.lt
  clear hn
  have hs9_ := Lib.hid (show w5.heap.size + 1 ≤ g4 ∧ g4 < w6.heap.size from ⟨by (try simp at hg4); omega, hk4.lt⟩)
  clear hg4
  have pB00 : _ = some (.int .i64 a0 : Value) := hbB0.cell 0
  have pB01 : _ = some (.int .i64 b0 : Value) := hbB0.cell 1
  have pB02 : _ = some (.int .i64 c0 : Value) := hbB0.cell 2
  have pB03 : _ = some (.slice A0 n0 cp0 : Value) := hbB0.cell 3
  have pXx00 : _ = some (.int .i64 a0 : Value) := hbXx0.cell 0
  have pXx01 : _ = some (.int .i64 b0 : Value) := hbXx0.cell 1
  have pXx02 : _ = some (.int .i64 c0 : Value) := hbXx0.cell 2
  have pXx03 : _ = some (.slice (some ⟨g3, 0, none⟩) n0 n0 : Value) := hbXx0.cell 3
  go_wp2_with fail
  refine (leastDelay_impl (hk3.rintsN HL0.out) hm0 hI1 (RPJobs.of_blk hk4 HL2.out) hm2).mono ?_
  rintro e1 w7 ⟨V2, N2, C2, rfl, ho2, hN2, hn⟩
  clear pB00 pB01 pB02 pB03 pXx00 pXx01 pXx02 pXx03
  have hs10_ := Lib.hid (show w6.heap.size ≤ w7.heap.size by have hq9 := hn.size; (try simp at hq9); (try simp); omega)
  replace hb := hb.trans (hn.mono hb.size)
  replace hbB0 := hbB0.below hn hbB0.lt
  replace hbXx0 := hbXx0.below hn hbXx0.lt
  replace ho1 := row_step ho1 hn
  replace hk3 := hk3.below hn hk3.lt
  replace hk4 := hk4.below hn hk4.lt
  clear hn
  have HR2 := Lib.hid (show ∀ k, (Value.slice V2 N2 C2).ownBlock = some k → w6.heap.size ≤ k ∧ k < w7.heap.size from fun k e => ⟨by have h9 := (ho2.lt k e).1; (try simp at h9); omega, (ho2.lt k e).2⟩)
  have pB00 : _ = some (.int .i64 a0 : Value) := hbB0.cell 0
  have pB01 : _ = some (.int .i64 b0 : Value) := hbB0.cell 1
  have pB02 : _ = some (.int .i64 c0 : Value) := hbB0.cell 2
  have pB03 : _ = some (.slice A0 n0 cp0 : Value) := hbB0.cell 3
  have pXx00 : _ = some (.int .i64 a0 : Value) := hbXx0.cell 0
  have pXx01 : _ = some (.int .i64 b0 : Value) := hbXx0.cell 1
  have pXx02 : _ = some (.int .i64 c0 : Value) := hbXx0.cell 2
  have pXx03 : _ = some (.slice (some ⟨g3, 0, none⟩) n0 n0 : Value) := hbXx0.cell 3
  go_wp2_with fail
  refine (eqIntS_same (own_rints ho2) (own_rints ho1) (Nat.le_refl _) (Nat.le_refl _) hN2).mono ?_
  rintro e1 w8 ⟨rfl, hn⟩
  clear pB00 pB01 pB02 pB03 pXx00 pXx01 pXx02 pXx03
  have hs11_ := Lib.hid (show w7.heap.size ≤ w8.heap.size by have hq9 := hn.size; (try simp at hq9); (try simp); omega)
  replace hb := hb.trans (hn.mono hb.size)
  replace hbB0 := hbB0.below hn hbB0.lt
  replace hbXx0 := hbXx0.below hn hbXx0.lt
  replace ho1 := row_step ho1 hn
  replace hk3 := hk3.below hn hk3.lt
  replace hk4 := hk4.below hn hk4.lt
  replace ho2 := row_step ho2 hn
  clear hn
  have HC := Lib.hid (show ∀ wx, Below w8.heap.size w8 wx → (wx.cell? ⟨w5.heap.size, 0, none⟩ = some (.int .i64 a0) ∧ wx.cell? ⟨w5.heap.size, 1, none⟩ = some (.int .i64 b0) ∧ wx.cell? ⟨w5.heap.size, 2, none⟩ = some (.int .i64 c0) ∧ wx.cell? ⟨w5.heap.size, 3, none⟩ = some (.slice (some ⟨g3, 0, none⟩) n0 n0)) ∧ (wx.cell? ⟨W.heap.size, 0, none⟩ = some (.int .i64 a0) ∧ wx.cell? ⟨W.heap.size, 1, none⟩ = some (.int .i64 b0) ∧ wx.cell? ⟨W.heap.size, 2, none⟩ = some (.int .i64 c0) ∧ wx.cell? ⟨W.heap.size, 3, none⟩ = some (.slice A0 n0 cp0)) from fun wx h => ⟨⟨(hbXx0.below h hbXx0.lt).cell 0, (hbXx0.below h hbXx0.lt).cell 1, (hbXx0.below h hbXx0.lt).cell 2, (hbXx0.below h hbXx0.lt).cell 3⟩, ⟨(hbB0.below h hbB0.lt).cell 0, (hbB0.below h hbB0.lt).cell 1, (hbB0.below h hbB0.lt).cell 2, (hbB0.below h hbB0.lt).cell 3⟩⟩)
  go_wp2_with fail
  go_region_held3 (fun wx => Below w8.heap.size w8 wx ∧ (wx.cell? ⟨w5.heap.size, 0, none⟩ = some (.int .i64 a0) ∧ wx.cell? ⟨w5.heap.size, 1, none⟩ = some (.int .i64 b0) ∧ wx.cell? ⟨w5.heap.size, 2, none⟩ = some (.int .i64 c0) ∧ wx.cell? ⟨w5.heap.size, 3, none⟩ = some (.slice (some ⟨g3, 0, none⟩) n0 n0)) ∧ (wx.cell? ⟨W.heap.size, 0, none⟩ = some (.int .i64 a0) ∧ wx.cell? ⟨W.heap.size, 1, none⟩ = some (.int .i64 b0) ∧ wx.cell? ⟨W.heap.size, 2, none⟩ = some (.int .i64 c0) ∧ wx.cell? ⟨W.heap.size, 3, none⟩ = some (.slice A0 n0 cp0))) ((first | exact ⟨(Below.refl _ _).drew, HC.out _ (Below.refl _ _).drew⟩ | (have hh : Below _ _ _ ∧ _ := (by assumption); have hh0 := hh.1.trans (hn.mono hh.1.size); exact ⟨hh0, HC.out _ hh0⟩) | assumption | go_keep)) (first
    | (go_at_call 8; (have hh : Below _ _ _ ∧ _ := (by assumption)); refine (toPress_any _ _ _ _ _ _ _ xs0 _ (RInts.below hr0 (hb.trans (hh.1.mono hb.size))) (Nat.le_trans hb.size hh.1.size) hm0).mono ?_; rintro e1 wi9 ⟨gq, rfl, hgq, hkq, hn⟩)
    | (go_at_call 12; (have hh : Below _ _ _ ∧ _ := (by assumption)); refine (eqPress_any _ _ _ _ _ _ _ _ _ _ xs0 _ (RInts.below (hk3.rintsN HL0.out) hh.1) (hkq.rintsN HL0.out) hh.1.size (Nat.le_refl _) hm0).mono ?_; rintro e1 wi9 ⟨rfl, hn⟩))
  clear HC
  have hn0 : Below w8.heap.size w8 _ ∧ _ := (by assumption)
  obtain ⟨hn, _⟩ := hn0
  have hs12_ := Lib.hid (show w8.heap.size ≤ wi9.heap.size by have hq9 := hn.size; (try simp at hq9); (try simp); omega)
  replace hb := hb.trans (hn.mono hb.size)
  replace hbB0 := hbB0.below hn hbB0.lt
  replace hbXx0 := hbXx0.below hn hbXx0.lt
  replace ho1 := row_step ho1 hn
  replace hk3 := hk3.below hn hk3.lt
  replace hk4 := hk4.below hn hk4.lt
  replace ho2 := row_step ho2 hn
  clear hn
  have pB00 : _ = some (.int .i64 a0 : Value) := hbB0.cell 0
  have pB01 : _ = some (.int .i64 b0 : Value) := hbB0.cell 1
  have pB02 : _ = some (.int .i64 c0 : Value) := hbB0.cell 2
  have pB03 : _ = some (.slice A0 n0 cp0 : Value) := hbB0.cell 3
  have pXx00 : _ = some (.int .i64 a0 : Value) := hbXx0.cell 0
  have pXx01 : _ = some (.int .i64 b0 : Value) := hbXx0.cell 1
  have pXx02 : _ = some (.int .i64 c0 : Value) := hbXx0.cell 2
  have pXx03 : _ = some (.slice (some ⟨g3, 0, none⟩) n0 n0 : Value) := hbXx0.cell 3
  go_wp2_with fail
  refine (toPressJobS_any _ _ _ _ xs2 _ (RPJobs.below hr2 hb) hb.size hm2).mono ?_
  rintro e1 w10 ⟨g5, rfl, hg5, hk5, hn⟩
  clear pB00 pB01 pB02 pB03 pXx00 pXx01 pXx02 pXx03
  have hs13_ := Lib.hid (show wi9.heap.size ≤ w10.heap.size by have hq9 := hn.size; (try simp at hq9); (try simp); omega)
  replace hb := hb.trans (hn.mono hb.size)
  replace hbB0 := hbB0.below hn hbB0.lt
  replace hbXx0 := hbXx0.below hn hbXx0.lt
  replace ho1 := row_step ho1 hn
  replace hk3 := hk3.below hn hk3.lt
  replace hk4 := hk4.below hn hk4.lt
  replace ho2 := row_step ho2 hn
  clear hn
  have hs14_ := Lib.hid (show wi9.heap.size ≤ g5 ∧ g5 < w10.heap.size from ⟨by (try simp at hg5); omega, hk5.lt⟩)
  clear hg5
  have pB00 : _ = some (.int .i64 a0 : Value) := hbB0.cell 0
  have pB01 : _ = some (.int .i64 b0 : Value) := hbB0.cell 1
  have pB02 : _ = some (.int .i64 c0 : Value) := hbB0.cell 2
  have pB03 : _ = some (.slice A0 n0 cp0 : Value) := hbB0.cell 3
  have pXx00 : _ = some (.int .i64 a0 : Value) := hbXx0.cell 0
  have pXx01 : _ = some (.int .i64 b0 : Value) := hbXx0.cell 1
  have pXx02 : _ = some (.int .i64 c0 : Value) := hbXx0.cell 2
  have pXx03 : _ = some (.slice (some ⟨g3, 0, none⟩) n0 n0 : Value) := hbXx0.cell 3
  go_wp2_with fail
  refine (eqPressJobS_any _ _ _ _ _ _ _ _ _ (RPJobs.of_blk hk4 HL2.out) (RPJobs.of_blk hk5 HL2.out) (Nat.le_refl _) (Nat.le_refl _) hm2).mono ?_
  rintro e1 w11 ⟨rfl, hn⟩
  clear pB00 pB01 pB02 pB03 pXx00 pXx01 pXx02 pXx03
  clear hk5
  have hs15_ := Lib.hid (show w10.heap.size ≤ w11.heap.size by have hq9 := hn.size; (try simp at hq9); (try simp); omega)
  replace hb := hb.trans (hn.mono hb.size)
  replace hbB0 := hbB0.below hn hbB0.lt
  replace hbXx0 := hbXx0.below hn hbXx0.lt
  replace ho1 := row_step ho1 hn
  replace hk3 := hk3.below hn hk3.lt
  replace hk4 := hk4.below hn hk4.lt
  replace ho2 := row_step ho2 hn
  clear hn
  have pB00 : _ = some (.int .i64 a0 : Value) := hbB0.cell 0
  have pB01 : _ = some (.int .i64 b0 : Value) := hbB0.cell 1
  have pB02 : _ = some (.int .i64 c0 : Value) := hbB0.cell 2
  have pB03 : _ = some (.slice A0 n0 cp0 : Value) := hbB0.cell 3
  have pXx00 : _ = some (.int .i64 a0 : Value) := hbXx0.cell 0
  have pXx01 : _ = some (.int .i64 b0 : Value) := hbXx0.cell 1
  have pXx02 : _ = some (.int .i64 c0 : Value) := hbXx0.cell 2
  have pXx03 : _ = some (.slice (some ⟨g3, 0, none⟩) n0 n0 : Value) := hbXx0.cell 3
  go_wp2_with fail
  refine (markPress_any _ _ _ _ _ _ _ xs0 _ _ (hk3.row (B := g3) (size := 1) (by simp [HL0.out]) (by unfold maxLen; omega) (Nat.le_refl _)) hm0 (by omega)).mono ?_
  rintro e1 w12 ⟨rfl, _, hq⟩
  clear pB00 pB01 pB02 pB03 pXx00 pXx01 pXx02 pXx03
  clear hk3
  replace hq := KeptI.of_grown (lo := g3) (hi := g3 + 1) hq (fun k e => by injection e with e; simp at e; omega)
  replace hb := hb.trans (hq.below (by have := hs0_.out; have := hs1_.out; have := hs2_.out; have := hs3_.out; have := hs4_.out; have := hs5_.out; have := hs6_.out; have := hs7_.out; have := hs8_.out; have := hs9_.out; have := hs10_.out; have := hs11_.out; have := hs12_.out; have := hs13_.out; have := hs14_.out; have := hs15_.out; omega) hb.size)
  replace hbB0 := hbB0.keptI hq (by have := hs0_.out; have := hs1_.out; have := hs2_.out; have := hs3_.out; have := hs4_.out; have := hs5_.out; have := hs6_.out; have := hs7_.out; have := hs8_.out; have := hs9_.out; have := hs10_.out; have := hs11_.out; have := hs12_.out; have := hs13_.out; have := hs14_.out; have := hs15_.out; omega)
  replace hbXx0 := hbXx0.keptI hq (by have := hs0_.out; have := hs1_.out; have := hs2_.out; have := hs3_.out; have := hs4_.out; have := hs5_.out; have := hs6_.out; have := hs7_.out; have := hs8_.out; have := hs9_.out; have := hs10_.out; have := hs11_.out; have := hs12_.out; have := hs13_.out; have := hs14_.out; have := hs15_.out; omega)
  replace ho1 := row_keptI ho1 hq (fun k e => by have := hs0_.out; have := hs1_.out; have := hs2_.out; have := hs3_.out; have := hs4_.out; have := hs5_.out; have := hs6_.out; have := hs7_.out; have := hs8_.out; have := hs9_.out; have := hs10_.out; have := hs11_.out; have := hs12_.out; have := hs13_.out; have := hs14_.out; have := hs15_.out; have := HR1.out k e; omega)
  replace hk4 := hk4.keptI hq (by have := hs0_.out; have := hs1_.out; have := hs2_.out; have := hs3_.out; have := hs4_.out; have := hs5_.out; have := hs6_.out; have := hs7_.out; have := hs8_.out; have := hs9_.out; have := hs10_.out; have := hs11_.out; have := hs12_.out; have := hs13_.out; have := hs14_.out; have := hs15_.out; omega)
  replace ho2 := row_keptI ho2 hq (fun k e => by have := hs0_.out; have := hs1_.out; have := hs2_.out; have := hs3_.out; have := hs4_.out; have := hs5_.out; have := hs6_.out; have := hs7_.out; have := hs8_.out; have := hs9_.out; have := hs10_.out; have := hs11_.out; have := hs12_.out; have := hs13_.out; have := hs14_.out; have := hs15_.out; have := HR2.out k e; omega)
  have hs16_ := Lib.hid (show w11.heap.size ≤ w12.heap.size from hq.size)
  clear hq
  have pB00 : _ = some (.int .i64 a0 : Value) := hbB0.cell 0
  have pB01 : _ = some (.int .i64 b0 : Value) := hbB0.cell 1
  have pB02 : _ = some (.int .i64 c0 : Value) := hbB0.cell 2
  have pB03 : _ = some (.slice A0 n0 cp0 : Value) := hbB0.cell 3
  have pXx00 : _ = some (.int .i64 a0 : Value) := hbXx0.cell 0
  have pXx01 : _ = some (.int .i64 b0 : Value) := hbXx0.cell 1
  have pXx02 : _ = some (.int .i64 c0 : Value) := hbXx0.cell 2
  have pXx03 : _ = some (.slice (some ⟨g3, 0, none⟩) n0 n0 : Value) := hbXx0.cell 3
  go_wp2_with fail
  refine (markPressJobS_any _ _ _ xs2 _ _ (hk4.row (B := g4) (size := 3) (by rw [flatten_len (size := 3) (by simp [PJob.row]), List.length_map, HL2.out]) (by unfold maxLen; omega) (Nat.le_refl _)) hm2 (by omega)).mono ?_
  rintro e1 w13 ⟨rfl, _, hq⟩
  clear pB00 pB01 pB02 pB03 pXx00 pXx01 pXx02 pXx03
  clear hk4
  replace hq := KeptI.of_grown (lo := g4) (hi := g4 + 1) hq (fun k e => by injection e with e; simp at e; omega)
  replace hb := hb.trans (hq.below (by have := hs0_.out; have := hs1_.out; have := hs2_.out; have := hs3_.out; have := hs4_.out; have := hs5_.out; have := hs6_.out; have := hs7_.out; have := hs8_.out; have := hs9_.out; have := hs10_.out; have := hs11_.out; have := hs12_.out; have := hs13_.out; have := hs14_.out; have := hs15_.out; have := hs16_.out; omega) hb.size)
  replace hbB0 := hbB0.keptI hq (by have := hs0_.out; have := hs1_.out; have := hs2_.out; have := hs3_.out; have := hs4_.out; have := hs5_.out; have := hs6_.out; have := hs7_.out; have := hs8_.out; have := hs9_.out; have := hs10_.out; have := hs11_.out; have := hs12_.out; have := hs13_.out; have := hs14_.out; have := hs15_.out; have := hs16_.out; omega)
  replace hbXx0 := hbXx0.keptI hq (by have := hs0_.out; have := hs1_.out; have := hs2_.out; have := hs3_.out; have := hs4_.out; have := hs5_.out; have := hs6_.out; have := hs7_.out; have := hs8_.out; have := hs9_.out; have := hs10_.out; have := hs11_.out; have := hs12_.out; have := hs13_.out; have := hs14_.out; have := hs15_.out; have := hs16_.out; omega)
  replace ho1 := row_keptI ho1 hq (fun k e => by have := hs0_.out; have := hs1_.out; have := hs2_.out; have := hs3_.out; have := hs4_.out; have := hs5_.out; have := hs6_.out; have := hs7_.out; have := hs8_.out; have := hs9_.out; have := hs10_.out; have := hs11_.out; have := hs12_.out; have := hs13_.out; have := hs14_.out; have := hs15_.out; have := hs16_.out; have := HR1.out k e; omega)
  replace ho2 := row_keptI ho2 hq (fun k e => by have := hs0_.out; have := hs1_.out; have := hs2_.out; have := hs3_.out; have := hs4_.out; have := hs5_.out; have := hs6_.out; have := hs7_.out; have := hs8_.out; have := hs9_.out; have := hs10_.out; have := hs11_.out; have := hs12_.out; have := hs13_.out; have := hs14_.out; have := hs15_.out; have := hs16_.out; have := HR2.out k e; omega)
  have hs17_ := Lib.hid (show w12.heap.size ≤ w13.heap.size from hq.size)
  clear hq
  have pB00 : _ = some (.int .i64 a0 : Value) := hbB0.cell 0
  have pB01 : _ = some (.int .i64 b0 : Value) := hbB0.cell 1
  have pB02 : _ = some (.int .i64 c0 : Value) := hbB0.cell 2
  have pB03 : _ = some (.slice A0 n0 cp0 : Value) := hbB0.cell 3
  have pXx00 : _ = some (.int .i64 a0 : Value) := hbXx0.cell 0
  have pXx01 : _ = some (.int .i64 b0 : Value) := hbXx0.cell 1
  have pXx02 : _ = some (.int .i64 c0 : Value) := hbXx0.cell 2
  have pXx03 : _ = some (.slice (some ⟨g3, 0, none⟩) n0 n0 : Value) := hbXx0.cell 3
  go_wp2_with fail
  refine (eqIntS_same (own_rints ho2) (own_rints ho1) (Nat.le_refl _) (Nat.le_refl _) hN2).mono ?_
  rintro e1 w14 ⟨rfl, hn⟩
  clear pB00 pB01 pB02 pB03 pXx00 pXx01 pXx02 pXx03
  have hs18_ := Lib.hid (show w13.heap.size ≤ w14.heap.size by have hq9 := hn.size; (try simp at hq9); (try simp); omega)
  replace hb := hb.trans (hn.mono hb.size)
  replace hbB0 := hbB0.below hn hbB0.lt
  replace hbXx0 := hbXx0.below hn hbXx0.lt
  replace ho1 := row_step ho1 hn
  replace ho2 := row_step ho2 hn
  clear hn
  have pB00 : _ = some (.int .i64 a0 : Value) := hbB0.cell 0
  have pB01 : _ = some (.int .i64 b0 : Value) := hbB0.cell 1
  have pB02 : _ = some (.int .i64 c0 : Value) := hbB0.cell 2
  have pB03 : _ = some (.slice A0 n0 cp0 : Value) := hbB0.cell 3
  have pXx00 : _ = some (.int .i64 a0 : Value) := hbXx0.cell 0
  have pXx01 : _ = some (.int .i64 b0 : Value) := hbXx0.cell 1
  have pXx02 : _ = some (.int .i64 c0 : Value) := hbXx0.cell 2
  have pXx03 : _ = some (.slice (some ⟨g3, 0, none⟩) n0 n0 : Value) := hbXx0.cell 3
  go_wp2_with fail
  refine (markIntS_any _ _ _ _ _ _ ho2 hN2 (by omega)).mono ?_
  rintro e1 w15 ⟨rfl, ho2, hq⟩
  clear pB00 pB01 pB02 pB03 pXx00 pXx01 pXx02 pXx03
  replace hq := KeptI.of_grown hq HR2.out
  replace hb := hb.trans (hq.below (by have := hs0_.out; have := hs1_.out; have := hs2_.out; have := hs3_.out; have := hs4_.out; have := hs5_.out; have := hs6_.out; have := hs7_.out; have := hs8_.out; have := hs9_.out; have := hs10_.out; have := hs11_.out; have := hs12_.out; have := hs13_.out; have := hs14_.out; have := hs15_.out; have := hs16_.out; have := hs17_.out; have := hs18_.out; omega) hb.size)
  replace hbB0 := hbB0.keptI hq (by have := hs0_.out; have := hs1_.out; have := hs2_.out; have := hs3_.out; have := hs4_.out; have := hs5_.out; have := hs6_.out; have := hs7_.out; have := hs8_.out; have := hs9_.out; have := hs10_.out; have := hs11_.out; have := hs12_.out; have := hs13_.out; have := hs14_.out; have := hs15_.out; have := hs16_.out; have := hs17_.out; have := hs18_.out; omega)
  replace hbXx0 := hbXx0.keptI hq (by have := hs0_.out; have := hs1_.out; have := hs2_.out; have := hs3_.out; have := hs4_.out; have := hs5_.out; have := hs6_.out; have := hs7_.out; have := hs8_.out; have := hs9_.out; have := hs10_.out; have := hs11_.out; have := hs12_.out; have := hs13_.out; have := hs14_.out; have := hs15_.out; have := hs16_.out; have := hs17_.out; have := hs18_.out; omega)
  replace ho1 := row_keptI ho1 hq (fun k e => by have := hs0_.out; have := hs1_.out; have := hs2_.out; have := hs3_.out; have := hs4_.out; have := hs5_.out; have := hs6_.out; have := hs7_.out; have := hs8_.out; have := hs9_.out; have := hs10_.out; have := hs11_.out; have := hs12_.out; have := hs13_.out; have := hs14_.out; have := hs15_.out; have := hs16_.out; have := hs17_.out; have := hs18_.out; have := HR1.out k e; omega)
  have hs19_ := Lib.hid (show w14.heap.size ≤ w15.heap.size from hq.size)
  clear hq
  -- held
  have pB00 : _ = some (.int .i64 a0 : Value) := hbB0.cell 0
  have pB01 : _ = some (.int .i64 b0 : Value) := hbB0.cell 1
  have pB02 : _ = some (.int .i64 c0 : Value) := hbB0.cell 2
  have pB03 : _ = some (.slice A0 n0 cp0 : Value) := hbB0.cell 3
  have pXx00 : _ = some (.int .i64 a0 : Value) := hbXx0.cell 0
  have pXx01 : _ = some (.int .i64 b0 : Value) := hbXx0.cell 1
  have pXx02 : _ = some (.int .i64 c0 : Value) := hbXx0.cell 2
  have pXx03 : _ = some (.slice (some ⟨g3, 0, none⟩) n0 n0 : Value) := hbXx0.cell 3
  go_wp2_with fail
  refine (heldIntS_any _ _ _ _ _ _ (own_rints ho2) hN2 (by omega)).mono ?_
  rintro e1 wq ⟨rfl, hwq⟩
  subst hwq
  clear pB00 pB01 pB02 pB03 pXx00 pXx01 pXx02 pXx03
  have pB00 : _ = some (.int .i64 a0 : Value) := hbB0.cell 0
  have pB01 : _ = some (.int .i64 b0 : Value) := hbB0.cell 1
  have pB02 : _ = some (.int .i64 c0 : Value) := hbB0.cell 2
  have pB03 : _ = some (.slice A0 n0 cp0 : Value) := hbB0.cell 3
  have pXx00 : _ = some (.int .i64 a0 : Value) := hbXx0.cell 0
  have pXx01 : _ = some (.int .i64 b0 : Value) := hbXx0.cell 1
  have pXx02 : _ = some (.int .i64 c0 : Value) := hbXx0.cell 2
  have pXx03 : _ = some (.slice (some ⟨g3, 0, none⟩) n0 n0 : Value) := hbXx0.cell 3
  go_wp2_with fail
  refine (toPress_any _ _ _ _ _ _ _ xs0 _ (RInts.below hr0 hb) hb.size hm0).mono ?_
  rintro e1 w16 ⟨g6, rfl, hg6, hk6, hn⟩
  clear pB00 pB01 pB02 pB03 pXx00 pXx01 pXx02 pXx03
  have hs20_ := Lib.hid (show w15.heap.size ≤ w16.heap.size by have hq9 := hn.size; (try simp at hq9); (try simp); omega)
  replace hb := hb.trans (hn.mono hb.size)
  replace hbB0 := hbB0.below hn hbB0.lt
  replace hbXx0 := hbXx0.below hn hbXx0.lt
  replace ho1 := row_step ho1 hn
  replace ho2 := row_step ho2 hn
  clear hn
  have hs21_ := Lib.hid (show w15.heap.size ≤ g6 ∧ g6 < w16.heap.size from ⟨by (try simp at hg6); omega, hk6.lt⟩)
  clear hg6
  have pB00 : _ = some (.int .i64 a0 : Value) := hbB0.cell 0
  have pB01 : _ = some (.int .i64 b0 : Value) := hbB0.cell 1
  have pB02 : _ = some (.int .i64 c0 : Value) := hbB0.cell 2
  have pB03 : _ = some (.slice A0 n0 cp0 : Value) := hbB0.cell 3
  have pXx00 : _ = some (.int .i64 a0 : Value) := hbXx0.cell 0
  have pXx01 : _ = some (.int .i64 b0 : Value) := hbXx0.cell 1
  have pXx02 : _ = some (.int .i64 c0 : Value) := hbXx0.cell 2
  have pXx03 : _ = some (.slice (some ⟨g3, 0, none⟩) n0 n0 : Value) := hbXx0.cell 3
  go_wp2_with fail
  refine (toPressJobS_any _ _ _ _ xs2 _ (RPJobs.below hr2 hb) hb.size hm2).mono ?_
  rintro e1 w17 ⟨g7, rfl, hg7, hk7, hn⟩
  clear pB00 pB01 pB02 pB03 pXx00 pXx01 pXx02 pXx03
  have hs22_ := Lib.hid (show w16.heap.size ≤ w17.heap.size by have hq9 := hn.size; (try simp at hq9); (try simp); omega)
  replace hb := hb.trans (hn.mono hb.size)
  replace hbB0 := hbB0.below hn hbB0.lt
  replace hbXx0 := hbXx0.below hn hbXx0.lt
  replace ho1 := row_step ho1 hn
  replace ho2 := row_step ho2 hn
  replace hk6 := hk6.below hn hk6.lt
  clear hn
  have hs23_ := Lib.hid (show w16.heap.size ≤ g7 ∧ g7 < w17.heap.size from ⟨by (try simp at hg7); omega, hk7.lt⟩)
  clear hg7
  have pB00 : _ = some (.int .i64 a0 : Value) := hbB0.cell 0
  have pB01 : _ = some (.int .i64 b0 : Value) := hbB0.cell 1
  have pB02 : _ = some (.int .i64 c0 : Value) := hbB0.cell 2
  have pB03 : _ = some (.slice A0 n0 cp0 : Value) := hbB0.cell 3
  have pXx00 : _ = some (.int .i64 a0 : Value) := hbXx0.cell 0
  have pXx01 : _ = some (.int .i64 b0 : Value) := hbXx0.cell 1
  have pXx02 : _ = some (.int .i64 c0 : Value) := hbXx0.cell 2
  have pXx03 : _ = some (.slice (some ⟨g3, 0, none⟩) n0 n0 : Value) := hbXx0.cell 3
  go_wp2_with fail
  refine (leastDelay_impl (hk6.rintsN HL0.out) hm0 hI1 (RPJobs.of_blk hk7 HL2.out) hm2).mono ?_
  rintro e1 w18 ⟨V3, N3, C3, rfl, ho3, hN3, hn⟩
  clear pB00 pB01 pB02 pB03 pXx00 pXx01 pXx02 pXx03
  clear hk6
  clear hk7
  have hs24_ := Lib.hid (show w17.heap.size ≤ w18.heap.size by have hq9 := hn.size; (try simp at hq9); (try simp); omega)
  replace hb := hb.trans (hn.mono hb.size)
  replace hbB0 := hbB0.below hn hbB0.lt
  replace hbXx0 := hbXx0.below hn hbXx0.lt
  replace ho1 := row_step ho1 hn
  replace ho2 := row_step ho2 hn
  clear hn
  have HR3 := Lib.hid (show ∀ k, (Value.slice V3 N3 C3).ownBlock = some k → w17.heap.size ≤ k ∧ k < w18.heap.size from fun k e => ⟨by have h9 := (ho3.lt k e).1; (try simp at h9); omega, (ho3.lt k e).2⟩)
  have pB00 : _ = some (.int .i64 a0 : Value) := hbB0.cell 0
  have pB01 : _ = some (.int .i64 b0 : Value) := hbB0.cell 1
  have pB02 : _ = some (.int .i64 c0 : Value) := hbB0.cell 2
  have pB03 : _ = some (.slice A0 n0 cp0 : Value) := hbB0.cell 3
  have pXx00 : _ = some (.int .i64 a0 : Value) := hbXx0.cell 0
  have pXx01 : _ = some (.int .i64 b0 : Value) := hbXx0.cell 1
  have pXx02 : _ = some (.int .i64 c0 : Value) := hbXx0.cell 2
  have pXx03 : _ = some (.slice (some ⟨g3, 0, none⟩) n0 n0 : Value) := hbXx0.cell 3
  go_wp2_with fail
  refine (eqIntS_same (own_rints ho3) (own_rints ho1) (Nat.le_refl _) (Nat.le_refl _) hN3).mono ?_
  rintro e1 w19 ⟨rfl, hn⟩
  clear pB00 pB01 pB02 pB03 pXx00 pXx01 pXx02 pXx03
  have hs25_ := Lib.hid (show w18.heap.size ≤ w19.heap.size by have hq9 := hn.size; (try simp at hq9); (try simp); omega)
  replace hb := hb.trans (hn.mono hb.size)
  replace hbB0 := hbB0.below hn hbB0.lt
  replace hbXx0 := hbXx0.below hn hbXx0.lt
  replace ho1 := row_step ho1 hn
  replace ho2 := row_step ho2 hn
  replace ho3 := row_step ho3 hn
  clear hn
  -- held
  have pB00 : _ = some (.int .i64 a0 : Value) := hbB0.cell 0
  have pB01 : _ = some (.int .i64 b0 : Value) := hbB0.cell 1
  have pB02 : _ = some (.int .i64 c0 : Value) := hbB0.cell 2
  have pB03 : _ = some (.slice A0 n0 cp0 : Value) := hbB0.cell 3
  have pXx00 : _ = some (.int .i64 a0 : Value) := hbXx0.cell 0
  have pXx01 : _ = some (.int .i64 b0 : Value) := hbXx0.cell 1
  have pXx02 : _ = some (.int .i64 c0 : Value) := hbXx0.cell 2
  have pXx03 : _ = some (.slice (some ⟨g3, 0, none⟩) n0 n0 : Value) := hbXx0.cell 3
  go_wp2_with fail
  refine (heldIntS_any _ _ _ _ _ _ (own_rints ho2) hN2 (by omega)).mono ?_
  rintro e1 wq ⟨rfl, hwq⟩
  subst hwq
  clear pB00 pB01 pB02 pB03 pXx00 pXx01 pXx02 pXx03
  have pB00 : _ = some (.int .i64 a0 : Value) := hbB0.cell 0
  have pB01 : _ = some (.int .i64 b0 : Value) := hbB0.cell 1
  have pB02 : _ = some (.int .i64 c0 : Value) := hbB0.cell 2
  have pB03 : _ = some (.slice A0 n0 cp0 : Value) := hbB0.cell 3
  have pXx00 : _ = some (.int .i64 a0 : Value) := hbXx0.cell 0
  have pXx01 : _ = some (.int .i64 b0 : Value) := hbXx0.cell 1
  have pXx02 : _ = some (.int .i64 c0 : Value) := hbXx0.cell 2
  have pXx03 : _ = some (.slice (some ⟨g3, 0, none⟩) n0 n0 : Value) := hbXx0.cell 3
  go_wp2_with fail
  go_ret
  exact ⟨rfl, hb⟩
end Go.Proofs.Ytfjkmocjlmcjdaa
