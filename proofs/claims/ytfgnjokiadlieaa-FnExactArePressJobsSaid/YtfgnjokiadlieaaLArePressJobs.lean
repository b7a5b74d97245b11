/-
  The walk of the law of ArePressJobs.
-/
import Derived.Test.YtfgnjokiadlieaaPr2
import Derived.Deep.RegionHeld3
namespace Go.Proofs.Ytfgnjokiadlieaa
open Go.RowKit
set_option maxHeartbeats 1000000 in
theorem arePressJobsLaw (W : World) (A0 : Option Addr) (n0 cp0 : Nat) (xs0 : List PJob) (hr0 : RPJobs W W.heap.size A0 n0 xs0) (hn0 : n0 ≤ maxLen) : Calls Try.prog 3 #[.slice A0 n0 cp0] W fun e W' => e = .returned (.bool true) ∧ Below W.heap.size W W' := by
  unfold maxLen at hn0
  have HL0 := Lib.hid hr0.len
  have hb : Below W.heap.size W W := (by (repeat (first | exact Below.refl _ _ | exact hb | apply Below.drew | (refine Below.alloc ?_ (by first | (simp; done) | (simp; omega) | (have := hb.size; simp at this ⊢; omega)) _) | (refine Below.setCell ?_ (by simp) _))))
  by_cases hz0 : szI1 n0 1048576 < 0
  · go_enter Try.func3, Try.ntmps3
    go_wp2_with fail
    refine (szPressJobS_any _ _ _ 1048576 _ (by omega) (by omega)).mono ?_
    rintro e1 w0_ ⟨rfl, hw0_⟩
    subst hw0_
    go_wp2_with fail
    go_ret
    exact ⟨rfl, hb⟩
  have hy0 := szI1_ok (n := n0) (l := 1048576) (by omega)
  have hm0 : n0 ≤ 1048576 := by omega
  go_enter Try.func3, Try.ntmps3
  go_wp2_with fail
  refine (szPressJobS_any _ _ _ 1048576 _ (by omega) (by omega)).mono ?_
  rintro e1 w0_ ⟨rfl, hw0_⟩
  subst hw0_
  go_wp2_with fail
  refine (toPressJobS_any _ _ _ _ xs0 _ (RPJobs.below hr0 hb) hb.size hm0).mono ?_
  rintro e1 w1 ⟨g1, rfl, hg1, hk1, hn⟩
  clear hg1
  replace hb := hb.trans (hn.mono hb.size)
  clear hn
  go_wp2_with fail
  refine (arePressJobs_spec (RPJobs.of_blk hk1 HL0.out) hm0).mono ?_
  rintro e1 w2 ⟨rfl, hn⟩
  clear hk1
  replace hb := hb.trans (hn.mono hb.size)
  clear hn
  go_wp2_with fail
  refine (toPressJobS_any _ _ _ _ xs0 _ (RPJobs.below hr0 hb) hb.size hm0).mono ?_
  rintro e1 w3 ⟨g2, rfl, hg2, hk2, hn⟩
  clear hg2
  replace hb := hb.trans (hn.mono hb.size)
  clear hn
  go_wp2_with fail
  refine (areJobs_any (RPJobs.of_blk hk2 HL0.out) hm0).mono ?_
  rintro e1 w4 ⟨rfl, hn⟩
  replace hb := hb.trans (hn.mono hb.size)
  replace hk2 := hk2.below hn hk2.lt
  clear hn
  go_wp2_with fail
  refine (toPressJobS_any _ _ _ _ xs0 _ (RPJobs.below hr0 hb) hb.size hm0).mono ?_
  rintro e1 w5 ⟨g3, rfl, hg3, hk3, hn⟩
  have lt_hk2_3 : g2 < g3 := Nat.lt_of_lt_of_le hk2.lt hg3
  clear hg3
  replace hb := hb.trans (hn.mono hb.size)
  replace hk2 := hk2.below hn hk2.lt
  clear hn
  go_wp2_with fail
  refine (eqPressJobS_any _ _ _ _ _ _ _ _ _ (RPJobs.of_blk hk2 HL0.out) (RPJobs.of_blk hk3 HL0.out) (Nat.le_refl _) (Nat.le_refl _) hm0).mono ?_
  rintro e1 w6 ⟨rfl, hn⟩
  clear hk3
  replace hb := hb.trans (hn.mono hb.size)
  replace hk2 := hk2.below hn hk2.lt
  clear hn
  go_wp2_with fail
  go_ret
  exact ⟨rfl, hb⟩
end Go.Proofs.Ytfgnjokiadlieaa
