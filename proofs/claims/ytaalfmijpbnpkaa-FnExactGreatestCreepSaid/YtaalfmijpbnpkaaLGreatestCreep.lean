/-
  The walk of the law of GreatestCreep.
-/
import Derived.Test.YtaalfmijpbnpkaaMg6
import Derived.Deep.RegionHeld3
namespace Go.Proofs.Ytaalfmijpbnpkaa
open Go.RowKit
set_option maxHeartbeats 1000000 in
theorem greatestCreepLaw (W : World) (A0 : Option Addr) (n0 cp0 : Nat) (xs0 : List Fld) (hr0 : RFlds W W.heap.size A0 n0 xs0) (hn0 : n0 ≤ maxLen) (k1 : Int) (hI1 : -9223372036854775808 ≤ k1 ∧ k1 ≤ 9223372036854775807) : Calls Try.prog 4 #[.slice A0 n0 cp0, .int .i64 k1] W fun e W' => e = .returned (.bool true) ∧ Below W.heap.size W W' := by
  unfold maxLen at hn0
  have HL0 := Lib.hid hr0.len
  have hb : Below W.heap.size W W := (by (repeat (first | exact Below.refl _ _ | exact hb | apply Below.drew | (refine Below.alloc ?_ (by first | (simp; done) | (simp; omega) | (have := hb.size; simp at this ⊢; omega)) _) | (refine Below.setCell ?_ (by simp) _))))
  by_cases hz0 : szI1 n0 1048576 < 0
  · go_enter Try.func4, Try.ntmps4
    go_wp2_with fail
    refine (szFoldS_any _ _ _ 1048576 _ (by omega) (by omega)).mono ?_
    rintro e1 w0_ ⟨rfl, hw0_⟩
    subst hw0_
    go_wp2_with fail
    go_ret
    exact ⟨rfl, hb⟩
  have hy0 := szI1_ok (n := n0) (l := 1048576) (by omega)
  have hm0 : n0 ≤ 1048576 := by omega
  go_enter Try.func4, Try.ntmps4
  go_wp2_with fail
  refine (szFoldS_any _ _ _ 1048576 _ (by omega) (by omega)).mono ?_
  rintro e1 w0_ ⟨rfl, hw0_⟩
  subst hw0_
  go_wp2_with fail
  refine (toFoldS_any _ _ _ _ xs0 _ (RFlds.below hr0 hb) hb.size hm0).mono ?_
  rintro e1 w1 ⟨g1, rfl, hg1, hk1, hn⟩
  have hs0_ := Lib.hid (show W.heap.size ≤ w1.heap.size by have hq9 := hn.size; (try simp at hq9); (try simp); omega)
  replace hb := hb.trans (hn.mono hb.size)
  clear hn
  have hs1_ := Lib.hid (show W.heap.size ≤ g1 ∧ g1 < w1.heap.size from ⟨by (try simp at hg1); omega, hk1.lt⟩)
  clear hg1
  go_wp2_with fail
  refine (greatestCreep_spec (RFlds.of_blk hk1 HL0.out) hm0 hI1).mono ?_
  rintro e1 w2 ⟨rfl, hn⟩
  clear hk1
  have hs2_ := Lib.hid (show w1.heap.size ≤ w2.heap.size by have hq9 := hn.size; (try simp at hq9); (try simp); omega)
  replace hb := hb.trans (hn.mono hb.size)
  clear hn
  go_wp2_with fail
  refine (toFoldS_any _ _ _ _ xs0 _ (RFlds.below hr0 hb) hb.size hm0).mono ?_
  rintro e1 w3 ⟨g2, rfl, hg2, hk2, hn⟩
  have hs3_ := Lib.hid (show w2.heap.size ≤ w3.heap.size by have hq9 := hn.size; (try simp at hq9); (try simp); omega)
  replace hb := hb.trans (hn.mono hb.size)
  clear hn
  have hs4_ := Lib.hid (show w2.heap.size ≤ g2 ∧ g2 < w3.heap.size from ⟨by (try simp at hg2); omega, hk2.lt⟩)
  clear hg2
  go_wp2_with fail
  refine (greatestCreep_impl (RFlds.of_blk hk2 HL0.out) hm0 hI1).mono ?_
  rintro e1 w4 ⟨rfl, hn⟩
  have hs5_ := Lib.hid (show w3.heap.size ≤ w4.heap.size by have hq9 := hn.size; (try simp at hq9); (try simp); omega)
  replace hb := hb.trans (hn.mono hb.size)
  replace hk2 := hk2.below hn hk2.lt
  clear hn
  go_wp2_with fail
  refine (toFoldS_any _ _ _ _ xs0 _ (RFlds.below hr0 hb) hb.size hm0).mono ?_
  rintro e1 w5 ⟨g3, rfl, hg3, hk3, hn⟩
  have hs6_ := Lib.hid (show w4.heap.size ≤ w5.heap.size by have hq9 := hn.size; (try simp at hq9); (try simp); omega)
  replace hb := hb.trans (hn.mono hb.size)
  replace hk2 := hk2.below hn hk2.lt
  clear hn
  have hs7_ := Lib.hid (show w4.heap.size ≤ g3 ∧ g3 < w5.heap.size from ⟨by (try simp at hg3); omega, hk3.lt⟩)
  clear hg3
  go_wp2_with fail
  refine (eqFoldS_any _ _ _ _ _ _ _ _ _ (RFlds.of_blk hk2 HL0.out) (RFlds.of_blk hk3 HL0.out) (Nat.le_refl _) (Nat.le_refl _) hm0).mono ?_
  rintro e1 w6 ⟨rfl, hn⟩
  clear hk3
  have hs8_ := Lib.hid (show w5.heap.size ≤ w6.heap.size by have hq9 := hn.size; (try simp at hq9); (try simp); omega)
  replace hb := hb.trans (hn.mono hb.size)
  replace hk2 := hk2.below hn hk2.lt
  clear hn
  go_wp2_with fail
  go_ret
  exact ⟨rfl, hb⟩
end Go.Proofs.Ytaalfmijpbnpkaa
