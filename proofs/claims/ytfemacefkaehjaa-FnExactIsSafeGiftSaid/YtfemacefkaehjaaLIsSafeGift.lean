/-
  The walk of the law of IsSafeGift.
-/
import Derived.Test.YtfemacefkaehjaaSt16
import Derived.Deep.RegionHeld3
namespace Go.Proofs.Ytfemacefkaehjaa
open Go.RowKit
set_option maxRecDepth 100000 in
set_option maxHeartbeats 4000000 in
theorem isSafeGiftLaw (W : World) (A0 : Option Addr) (n0 cp0 : Nat) (xs0 : List Int) (hr0 : RInts W W.heap.size A0 n0 xs0) (hn0 : n0 ≤ maxLen) (_ : ∀ x ∈ xs0, (Lit.int .i64 x).wf = true) (A1 : Option Addr) (n1 cp1 : Nat) (xs1 : List FV) (hr1 : RForms W W.heap.size A1 n1 xs1) (hn1 : n1 ≤ maxLen) (hX1 : ∀ y ∈ xs1, y.f.held.length ≤ maxLen ∧ y.f.wanted.length ≤ maxLen) (k2 : Int) (hI2 : -9223372036854775808 ≤ k2 ∧ k2 ≤ 9223372036854775807) (A3 : Option Addr) (n3 cp3 : Nat) (xs3 : List Int) (hr3 : RInts W W.heap.size A3 n3 xs3) (hn3 : n3 ≤ maxLen) (_ : ∀ x ∈ xs3, (Lit.int .i64 x).wf = true) : Calls Try.prog 4 #[.slice A0 n0 cp0, .slice A1 n1 cp1, .int .i64 k2, .slice A3 n3 cp3] W fun e W' => e = .returned (.bool true) ∧ Below W.heap.size W W' := by
  unfold maxLen at hn0
  have HL0 := Lib.hid hr0.len
  unfold maxLen at hn1
  have HL1 := Lib.hid hr1.len
  unfold maxLen at hn3
  have HL3 := Lib.hid hr3.len
  have hb : Below W.heap.size W W := (by (repeat (first | exact Below.refl _ _ | exact hb | apply Below.drew | (refine Below.alloc ?_ (by first | (simp; done) | (simp; omega) | (have := hb.size; simp at this ⊢; omega)) _) | (refine Below.setCell ?_ (by simp) _))))
  by_cases hbig0 : 1048576 < n0
  · go_enter Try.func4, Try.ntmps4
    go_wp2_with fail
    go_ret
    exact ⟨rfl, hb⟩
  have hm0 : n0 ≤ 1048576 := by omega
  by_cases hbig3 : 1048576 < n3
  · go_enter Try.func4, Try.ntmps4
    go_wp2_with fail
    go_ret
    exact ⟨rfl, hb⟩
  have hm3 : n3 ≤ 1048576 := by omega
  by_cases hz2 : szFs xs1 1048576 < 0
  · go_enter Try.func4, Try.ntmps4
    go_wp2_with fail
    refine (szFormS_any (hr1.below hb |>.more hb.size) (by omega) hX1 (l := 1048576) (by omega)).mono ?_
    rintro e1 w1 ⟨rfl, hn⟩
    have hs0_ := Lib.hid (show W.heap.size ≤ w1.heap.size by have hq9 := hn.size; (try simp at hq9); (try simp); omega)
    replace hb := hb.trans (hn.mono hb.size)
    clear hn
    go_wp2_with fail
    go_ret
    exact ⟨rfl, hb⟩
  have hy2 := szFs_ok (xs := xs1) (l := 1048576) (by omega) (by omega)
  have hm1 : n1 ≤ 1048576 := by have := HL1.out; omega
  have hT1 : totF xs1 ≤ 1048576 := by omega
  have HX1 := Lib.hid (show ∀ y ∈ xs1, y.f.held.length ≤ 1048576 ∧ y.f.wanted.length ≤ 1048576 from fun y hy => by have := hy2.2.2 y hy; omega)
  have hz2_ : szFs xs1 1048576 ≤ 1048576 := hy2.2.1
  clear hy2
  go_enter Try.func4, Try.ntmps4
  go_wp2_with fail
  refine (szFormS_any (hr1.below hb |>.more hb.size) (by omega) hX1 (l := 1048576) (by omega)).mono ?_
  rintro e1 w1 ⟨rfl, hn⟩
  have hs0_ := Lib.hid (show W.heap.size ≤ w1.heap.size by have hq9 := hn.size; (try simp at hq9); (try simp); omega)
  replace hb := hb.trans (hn.mono hb.size)
  clear hn
  go_wp2_with fail
  refine (toIntS_any _ _ _ _ xs0 _ (RInts.below hr0 hb) hb.size hm0).mono ?_
  rintro e1 w2 ⟨g1, rfl, hg1, hk1, hn⟩
  have hs1_ := Lib.hid (show w1.heap.size ≤ w2.heap.size by have hq9 := hn.size; (try simp at hq9); (try simp); omega)
  replace hb := hb.trans (hn.mono hb.size)
  clear hn
  have hs2_ := Lib.hid (show w1.heap.size ≤ g1 ∧ g1 < w2.heap.size from ⟨by (try simp at hg1); omega, hk1.lt⟩)
  clear hg1
  go_wp2_with fail
  refine (toFormS_any _ _ _ _ xs1 _ (hr1.below hb) hb.size hm1 HX1.out).mono ?_
  rintro e1 w3 ⟨g2, Y2, rfl, hg2, hM2, hk2, hO2, hn⟩
  have HM2 := Lib.hid hM2; clear hM2
  replace hO2 := hO2
  have hOx2 := hO2; clear hO2; have hO2 := hOx2; clear hOx2
  have hs3_ := Lib.hid (show w2.heap.size ≤ w3.heap.size by have hq9 := hn.size; (try simp at hq9); (try simp); omega)
  replace hb := hb.trans (hn.mono hb.size)
  replace hk1 := hk1.below hn hk1.lt
  clear hn
  have hs4_ := Lib.hid (show w2.heap.size ≤ g2 ∧ g2 < w3.heap.size from ⟨by (try simp at hg2); omega, hk2.lt⟩)
  clear hg2
  have HC2 := Lib.hid (show ∀ (i : Nat) (y : FV), Y2[i]? = some y → (∀ j, y.v1.ownBlock = some j → j < w3.heap.size) ∧ (∀ j, y.v2.ownBlock = some j → j < w3.heap.size) from fun i y hy => ⟨fun j hj => ((hO2.lt hy).1 j hj).2, fun j hj => ((hO2.lt hy).2 j hj).2⟩)
  go_wp2_with fail
  refine (toIntS_any _ _ _ _ xs3 _ (RInts.below hr3 hb) hb.size hm3).mono ?_
  rintro e1 w4 ⟨g3, rfl, hg3, hk3, hn⟩
  have hs5_ := Lib.hid (show w3.heap.size ≤ w4.heap.size by have hq9 := hn.size; (try simp at hq9); (try simp); omega)
  replace hb := hb.trans (hn.mono hb.size)
  replace hk1 := hk1.below hn hk1.lt
  replace hk2 := hk2.below hn hk2.lt
  replace hO2 := hO2.step hn
  clear hn
  have hs6_ := Lib.hid (show w3.heap.size ≤ g3 ∧ g3 < w4.heap.size from ⟨by (try simp at hg3); omega, hk3.lt⟩)
  clear hg3
  go_wp2_with fail
  refine (isSafeGift_spec (hk1.rintsN HL0.out) hm0 (AForms.of_copy hk2 hO2 HM2.out HL1.out HX1.out) hm1 hI2 (hk3.rintsN HL3.out) hm3).mono ?_
  rintro e1 w5 ⟨rfl, hn⟩
  clear hk1
  clear hk2
  clear hO2
  clear hk3
  have hs7_ := Lib.hid (show w4.heap.size ≤ w5.heap.size by have hq9 := hn.size; (try simp at hq9); (try simp); omega)
  replace hb := hb.trans (hn.mono hb.size)
  clear hn
  go_wp2_with fail
  refine (toIntS_any _ _ _ _ xs0 _ (RInts.below hr0 hb) hb.size hm0).mono ?_
  rintro e1 w6 ⟨g4, rfl, hg4, hk4, hn⟩
  have hs8_ := Lib.hid (show w5.heap.size ≤ w6.heap.size by have hq9 := hn.size; (try simp at hq9); (try simp); omega)
  replace hb := hb.trans (hn.mono hb.size)
  clear hn
  have hs9_ := Lib.hid (show w5.heap.size ≤ g4 ∧ g4 < w6.heap.size from ⟨by (try simp at hg4); omega, hk4.lt⟩)
  clear hg4
  go_wp2_with fail
  refine (toFormS_any _ _ _ _ xs1 _ (hr1.below hb) hb.size hm1 HX1.out).mono ?_
  rintro e1 w7 ⟨g5, Y5, rfl, hg5, hM5, hk5, hO5, hn⟩
  have HM5 := Lib.hid hM5; clear hM5
  replace hO5 := hO5
  have hOx5 := hO5; clear hO5; have hO5 := hOx5; clear hOx5
  have hs10_ := Lib.hid (show w6.heap.size ≤ w7.heap.size by have hq9 := hn.size; (try simp at hq9); (try simp); omega)
  replace hb := hb.trans (hn.mono hb.size)
  replace hk4 := hk4.below hn hk4.lt
  clear hn
  have hs11_ := Lib.hid (show w6.heap.size ≤ g5 ∧ g5 < w7.heap.size from ⟨by (try simp at hg5); omega, hk5.lt⟩)
  clear hg5
  have HC5 := Lib.hid (show ∀ (i : Nat) (y : FV), Y5[i]? = some y → (∀ j, y.v1.ownBlock = some j → j < w7.heap.size) ∧ (∀ j, y.v2.ownBlock = some j → j < w7.heap.size) from fun i y hy => ⟨fun j hj => ((hO5.lt hy).1 j hj).2, fun j hj => ((hO5.lt hy).2 j hj).2⟩)
  go_wp2_with fail
  refine (toIntS_any _ _ _ _ xs3 _ (RInts.below hr3 hb) hb.size hm3).mono ?_
  rintro e1 w8 ⟨g6, rfl, hg6, hk6, hn⟩
  have hs12_ := Lib.hid (show w7.heap.size ≤ w8.heap.size by have hq9 := hn.size; (try simp at hq9); (try simp); omega)
  replace hb := hb.trans (hn.mono hb.size)
  replace hk4 := hk4.below hn hk4.lt
  replace hk5 := hk5.below hn hk5.lt
  replace hO5 := hO5.step hn
  clear hn
  have hs13_ := Lib.hid (show w7.heap.size ≤ g6 ∧ g6 < w8.heap.size from ⟨by (try simp at hg6); omega, hk6.lt⟩)
  clear hg6
  go_wp2_with fail
  refine (isSafeGift_impl (hk4.rintsN HL0.out) hm0 (AForms.of_copy hk5 hO5 HM5.out HL1.out HX1.out) hm1 hI2 (hk6.rintsN HL3.out) hm3).mono ?_
  rintro e1 w9 ⟨rfl, hn⟩
  have hs14_ := Lib.hid (show w8.heap.size ≤ w9.heap.size by have hq9 := hn.size; (try simp at hq9); (try simp); omega)
  replace hb := hb.trans (hn.mono hb.size)
  replace hk4 := hk4.below hn hk4.lt
  replace hk5 := hk5.below hn hk5.lt
  replace hO5 := hO5.step hn
  replace hk6 := hk6.below hn hk6.lt
  clear hn
  go_wp2_with fail
  refine (toIntS_any _ _ _ _ xs0 _ (RInts.below hr0 hb) hb.size hm0).mono ?_
  rintro e1 w10 ⟨g7, rfl, hg7, hk7, hn⟩
  have hs15_ := Lib.hid (show w9.heap.size ≤ w10.heap.size by have hq9 := hn.size; (try simp at hq9); (try simp); omega)
  replace hb := hb.trans (hn.mono hb.size)
  replace hk4 := hk4.below hn hk4.lt
  replace hk5 := hk5.below hn hk5.lt
  replace hO5 := hO5.step hn
  replace hk6 := hk6.below hn hk6.lt
  clear hn
  have hs16_ := Lib.hid (show w9.heap.size ≤ g7 ∧ g7 < w10.heap.size from ⟨by (try simp at hg7); omega, hk7.lt⟩)
  clear hg7
  go_wp2_with fail
  refine (eqIntS_same (hk4.rintsN HL0.out) (hk7.rintsN HL0.out) (Nat.le_refl _) (Nat.le_refl _) hm0).mono ?_
  rintro e1 w11 ⟨rfl, hn⟩
  clear hk7
  have hs17_ := Lib.hid (show w10.heap.size ≤ w11.heap.size by have hq9 := hn.size; (try simp at hq9); (try simp); omega)
  replace hb := hb.trans (hn.mono hb.size)
  replace hk4 := hk4.below hn hk4.lt
  replace hk5 := hk5.below hn hk5.lt
  replace hO5 := hO5.step hn
  replace hk6 := hk6.below hn hk6.lt
  clear hn
  go_wp2_with fail
  refine (toFormS_any _ _ _ _ xs1 _ (hr1.below hb) hb.size hm1 HX1.out).mono ?_
  rintro e1 w12 ⟨g8, Y8, rfl, hg8, hM8, hk8, hO8, hn⟩
  have HM8 := Lib.hid hM8; clear hM8
  replace hO8 := hO8
  have hOx8 := hO8; clear hO8; have hO8 := hOx8; clear hOx8
  have hs18_ := Lib.hid (show w11.heap.size ≤ w12.heap.size by have hq9 := hn.size; (try simp at hq9); (try simp); omega)
  replace hb := hb.trans (hn.mono hb.size)
  replace hk4 := hk4.below hn hk4.lt
  replace hk5 := hk5.below hn hk5.lt
  replace hO5 := hO5.step hn
  replace hk6 := hk6.below hn hk6.lt
  clear hn
  have hs19_ := Lib.hid (show w11.heap.size ≤ g8 ∧ g8 < w12.heap.size from ⟨by (try simp at hg8); omega, hk8.lt⟩)
  clear hg8
  have HC8 := Lib.hid (show ∀ (i : Nat) (y : FV), Y8[i]? = some y → (∀ j, y.v1.ownBlock = some j → j < w12.heap.size) ∧ (∀ j, y.v2.ownBlock = some j → j < w12.heap.size) from fun i y hy => ⟨fun j hj => ((hO8.lt hy).1 j hj).2, fun j hj => ((hO8.lt hy).2 j hj).2⟩)
  go_wp2_with fail
  refine (eqFormS_any (RForms.of_copy hk5 hO5 (len_of_map HM5.out HL1.out)) (RForms.of_copy hk8 hO8 (len_of_map HM8.out HL1.out)) (Nat.le_refl _) (Nat.le_refl _) (by rw [HM5.out, HM8.out]) hm1 (lens_of_map HM5.out HX1.out)).mono ?_
  rintro e1 w13 ⟨rfl, hn⟩
  clear hk8
  clear hO8
  have hs20_ := Lib.hid (show w12.heap.size ≤ w13.heap.size by have hq9 := hn.size; (try simp at hq9); (try simp); omega)
  replace hb := hb.trans (hn.mono hb.size)
  replace hk4 := hk4.below hn hk4.lt
  replace hk5 := hk5.below hn hk5.lt
  replace hO5 := hO5.step hn
  replace hk6 := hk6.below hn hk6.lt
  clear hn
  go_wp2_with fail
  refine (toIntS_any _ _ _ _ xs3 _ (RInts.below hr3 hb) hb.size hm3).mono ?_
  rintro e1 w14 ⟨g9, rfl, hg9, hk9, hn⟩
  have hs21_ := Lib.hid (show w13.heap.size ≤ w14.heap.size by have hq9 := hn.size; (try simp at hq9); (try simp); omega)
  replace hb := hb.trans (hn.mono hb.size)
  replace hk4 := hk4.below hn hk4.lt
  replace hk5 := hk5.below hn hk5.lt
  replace hO5 := hO5.step hn
  replace hk6 := hk6.below hn hk6.lt
  clear hn
  have hs22_ := Lib.hid (show w13.heap.size ≤ g9 ∧ g9 < w14.heap.size from ⟨by (try simp at hg9); omega, hk9.lt⟩)
  clear hg9
  go_wp2_with fail
  refine (eqIntS_same (hk6.rintsN HL3.out) (hk9.rintsN HL3.out) (Nat.le_refl _) (Nat.le_refl _) hm3).mono ?_
  rintro e1 w15 ⟨rfl, hn⟩
  clear hk9
  have hs23_ := Lib.hid (show w14.heap.size ≤ w15.heap.size by have hq9 := hn.size; (try simp at hq9); (try simp); omega)
  replace hb := hb.trans (hn.mono hb.size)
  replace hk4 := hk4.below hn hk4.lt
  replace hk5 := hk5.below hn hk5.lt
  replace hO5 := hO5.step hn
  replace hk6 := hk6.below hn hk6.lt
  clear hn
  go_wp2_with fail
  go_ret
  exact ⟨rfl, hb⟩
end Go.Proofs.Ytfemacefkaehjaa
