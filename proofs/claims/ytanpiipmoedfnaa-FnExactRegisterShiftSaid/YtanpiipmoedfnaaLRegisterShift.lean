/-
  The walk of the law of RegisterShift.
-/
import Derived.Test.YtanpiipmoedfnaaCol9
import Derived.Deep.RegionHeld3
namespace Go.Proofs.Ytanpiipmoedfnaa
open Go.RowKit
set_option maxHeartbeats 1000000 in
theorem registerShiftLaw (W : World) (A0 : Option Addr) (n0 cp0 : Nat) (xs0 : List Int) (hr0 : RInts W W.heap.size A0 n0 xs0) (hn0 : n0 ≤ maxLen) (_ : ∀ x ∈ xs0, (Lit.int .i64 x).wf = true) (A1 : Option Addr) (n1 cp1 : Nat) (xs1 : List Int) (hr1 : RInts W W.heap.size A1 n1 xs1) (hn1 : n1 ≤ maxLen) (_ : ∀ x ∈ xs1, (Lit.int .i64 x).wf = true) (k2 : Int) (hI2 : -9223372036854775808 ≤ k2 ∧ k2 ≤ 9223372036854775807) : Calls Try.prog 6 #[.slice A0 n0 cp0, .slice A1 n1 cp1, .int .i64 k2] W fun e W' => e = .returned (.bool true) ∧ Below W.heap.size W W' := by
  unfold maxLen at hn0
  have HL0 := Lib.hid hr0.len
  unfold maxLen at hn1
  have HL1 := Lib.hid hr1.len
  have hb : Below W.heap.size W W := (by (repeat (first | exact Below.refl _ _ | exact hb | apply Below.drew | (refine Below.alloc ?_ (by first | (simp; done) | (simp; omega) | (have := hb.size; simp at this ⊢; omega)) _) | (refine Below.setCell ?_ (by simp) _))))
  by_cases hbig0 : 1048576 < n0
  · go_enter Try.func6, Try.ntmps6
    go_wp2_with fail
    go_ret
    exact ⟨rfl, hb⟩
  have hm0 : n0 ≤ 1048576 := by omega
  by_cases hbig1 : 1048576 < n1
  · go_enter Try.func6, Try.ntmps6
    go_wp2_with fail
    go_ret
    exact ⟨rfl, hb⟩
  have hm1 : n1 ≤ 1048576 := by omega
  go_enter Try.func6, Try.ntmps6
  go_wp2_with fail
  refine (toIntS_any _ _ _ _ xs0 _ (RInts.below hr0 hb) hb.size hm0).mono ?_
  rintro e1 w1 ⟨g1, rfl, hg1, hk1, hn⟩
  clear hg1
  replace hb := hb.trans (hn.mono hb.size)
  clear hn
  go_wp2_with fail
  refine (toIntS_any _ _ _ _ xs1 _ (RInts.below hr1 hb) hb.size hm1).mono ?_
  rintro e1 w2 ⟨g2, rfl, hg2, hk2, hn⟩
  have lt_hk1_2 : g1 < g2 := Nat.lt_of_lt_of_le hk1.lt hg2
  clear hg2
  replace hb := hb.trans (hn.mono hb.size)
  replace hk1 := hk1.below hn hk1.lt
  clear hn
  go_wp2_with fail
  refine (registerShift_spec (hk1.rintsN HL0.out) hm0 (hk2.rintsN HL1.out) hm1 hI2).mono ?_
  rintro e1 w3 ⟨rfl, hn⟩
  clear hk1
  clear hk2
  replace hb := hb.trans (hn.mono hb.size)
  clear hn
  go_wp2_with fail
  refine (toIntS_any _ _ _ _ xs0 _ (RInts.below hr0 hb) hb.size hm0).mono ?_
  rintro e1 w4 ⟨g3, rfl, hg3, hk3, hn⟩
  clear hg3
  replace hb := hb.trans (hn.mono hb.size)
  clear hn
  go_wp2_with fail
  refine (toIntS_any _ _ _ _ xs1 _ (RInts.below hr1 hb) hb.size hm1).mono ?_
  rintro e1 w5 ⟨g4, rfl, hg4, hk4, hn⟩
  have lt_hk3_4 : g3 < g4 := Nat.lt_of_lt_of_le hk3.lt hg4
  clear hg4
  replace hb := hb.trans (hn.mono hb.size)
  replace hk3 := hk3.below hn hk3.lt
  clear hn
  go_wp2_with fail
  refine (registerShift_impl (hk3.rintsN HL0.out) hm0 (hk4.rintsN HL1.out) hm1 hI2).mono ?_
  rintro e1 w6 ⟨rfl, hn⟩
  replace hb := hb.trans (hn.mono hb.size)
  replace hk3 := hk3.below hn hk3.lt
  replace hk4 := hk4.below hn hk4.lt
  clear hn
  go_wp2_with fail
  refine (toIntS_any _ _ _ _ xs0 _ (RInts.below hr0 hb) hb.size hm0).mono ?_
  rintro e1 w7 ⟨g5, rfl, hg5, hk5, hn⟩
  have lt_hk3_5 : g3 < g5 := Nat.lt_of_lt_of_le hk3.lt hg5
  have lt_hk4_5 : g4 < g5 := Nat.lt_of_lt_of_le hk4.lt hg5
  clear hg5
  replace hb := hb.trans (hn.mono hb.size)
  replace hk3 := hk3.below hn hk3.lt
  replace hk4 := hk4.below hn hk4.lt
  clear hn
  go_wp2_with fail
  refine (eqIntS_same (hk3.rintsN HL0.out) (hk5.rintsN HL0.out) (Nat.le_refl _) (Nat.le_refl _) hm0).mono ?_
  rintro e1 w8 ⟨rfl, hn⟩
  clear hk5
  replace hb := hb.trans (hn.mono hb.size)
  replace hk3 := hk3.below hn hk3.lt
  replace hk4 := hk4.below hn hk4.lt
  clear hn
  go_wp2_with fail
  refine (toIntS_any _ _ _ _ xs1 _ (RInts.below hr1 hb) hb.size hm1).mono ?_
  rintro e1 w9 ⟨g6, rfl, hg6, hk6, hn⟩
  have lt_hk3_6 : g3 < g6 := Nat.lt_of_lt_of_le hk3.lt hg6
  have lt_hk4_6 : g4 < g6 := Nat.lt_of_lt_of_le hk4.lt hg6
  clear hg6
  replace hb := hb.trans (hn.mono hb.size)
  replace hk3 := hk3.below hn hk3.lt
  replace hk4 := hk4.below hn hk4.lt
  clear hn
  go_wp2_with fail
  refine (eqIntS_same (hk4.rintsN HL1.out) (hk6.rintsN HL1.out) (Nat.le_refl _) (Nat.le_refl _) hm1).mono ?_
  rintro e1 w10 ⟨rfl, hn⟩
  clear hk6
  replace hb := hb.trans (hn.mono hb.size)
  replace hk3 := hk3.below hn hk3.lt
  replace hk4 := hk4.below hn hk4.lt
  clear hn
  go_wp2_with fail
  go_ret
  exact ⟨rfl, hb⟩
end Go.Proofs.Ytanpiipmoedfnaa
