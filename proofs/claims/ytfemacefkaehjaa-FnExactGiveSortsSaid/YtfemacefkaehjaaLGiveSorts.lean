/-
  The walk of the law of GiveSorts.
-/
import Derived.Test.YtfemacefkaehjaaSt16
import Derived.Deep.RegionHeld3
namespace Go.Proofs.Ytfemacefkaehjaa
open Go.RowKit
set_option maxRecDepth 100000 in
set_option maxHeartbeats 4000000 in
theorem giveSortsLaw (W : World) (A0 : Option Addr) (n0 cp0 : Nat) (xs0 : List Int) (hr0 : RInts W W.heap.size A0 n0 xs0) (hn0 : n0 ≤ maxLen) (_ : ∀ x ∈ xs0, (Lit.int .i64 x).wf = true) (A1 : Option Addr) (n1 cp1 : Nat) (xs1 : List FV) (hr1 : RForms W W.heap.size A1 n1 xs1) (hn1 : n1 ≤ maxLen) (hX1 : ∀ y ∈ xs1, y.f.held.length ≤ maxLen ∧ y.f.wanted.length ≤ maxLen) (k2 : Int) (hI2 : -9223372036854775808 ≤ k2 ∧ k2 ≤ 9223372036854775807) (A3 : Option Addr) (n3 cp3 : Nat) (xs3 : List Int) (hr3 : RInts W W.heap.size A3 n3 xs3) (hn3 : n3 ≤ maxLen) (_ : ∀ x ∈ xs3, (Lit.int .i64 x).wf = true) : Calls Try.prog 3 #[.slice A0 n0 cp0, .slice A1 n1 cp1, .int .i64 k2, .slice A3 n3 cp3] W fun e W' => e = .returned (.bool true) ∧ Below W.heap.size W W' := by
  unfold maxLen at hn0
  have HL0 := Lib.hid hr0.len
  unfold maxLen at hn1
  have HL1 := Lib.hid hr1.len
  unfold maxLen at hn3
  have HL3 := Lib.hid hr3.len
  have hb : Below W.heap.size W W := (by (repeat (first | exact Below.refl _ _ | exact hb | apply Below.drew | (refine Below.alloc ?_ (by first | (simp; done) | (simp; omega) | (have := hb.size; simp at this ⊢; omega)) _) | (refine Below.setCell ?_ (by simp) _))))
  by_cases hbig0 : 1048576 < n0
  · go_enter Try.func3, Try.ntmps3
    go_wp2_with fail
    go_ret
    exact ⟨rfl, hb⟩
  have hm0 : n0 ≤ 1048576 := by omega
  by_cases hbig3 : 1048576 < n3
  · go_enter Try.func3, Try.ntmps3
    go_wp2_with fail
    go_ret
    exact ⟨rfl, hb⟩
  have hm3 : n3 ≤ 1048576 := by omega
  by_cases hz2 : szFs xs1 1048576 < 0
  · go_enter Try.func3, Try.ntmps3
    go_wp2_with fail
    refine (szFormS_any (hr1.below hb |>.more hb.size) (by omega) hX1 (l := 1048576) (by omega)).mono ?_
    rintro e1 w1 ⟨rfl, hn⟩
    have hs0_ := Lib.hid (show W.heap.size ≤ w1.heap.size by have hq9 := hn.size; (try simp at hq9); (try simp); omega)
    replace hb := hb.trans (hn.mono hb.size)
    clear hn
    go_wp2_with fail
    go_ret
    exact ⟨rfl, hb⟩
  have hy2 := szFs_ok (xs := xs1) (l := 1048576) (by omega) (by omega)
  have hm1 : n1 ≤ 1048576 := by have := HL1.out; omega
  have hT1 : totF xs1 ≤ 1048576 := by omega
  have HX1 := Lib.hid (show ∀ y ∈ xs1, y.f.held.length ≤ 1048576 ∧ y.f.wanted.length ≤ 1048576 from fun y hy => by have := hy2.2.2 y hy; omega)
  have hz2_ : szFs xs1 1048576 ≤ 1048576 := hy2.2.1
  clear hy2
  go_enter Try.func3, Try.ntmps3
  go_wp2_with fail
  refine (szFormS_any (hr1.below hb |>.more hb.size) (by omega) hX1 (l := 1048576) (by omega)).mono ?_
  rintro e1 w1 ⟨rfl, hn⟩
  have hs0_ := Lib.hid (show W.heap.size ≤ w1.heap.size by have hq9 := hn.size; (try simp at hq9); (try simp); omega)
  replace hb := hb.trans (hn.mono hb.size)
  clear hn
  go_wp2_with fail
  refine (toIntS_any _ _ _ _ xs0 _ (RInts.below hr0 hb) hb.size hm0).mono ?_
  rintro e1 w2 ⟨g1, rfl, hg1, hk1, hn⟩
  have hs1_ := Lib.hid (show w1.heap.size ≤ w2.heap.size by have hq9 := hn.size; (try simp at hq9); (try simp); omega)
  replace hb := hb.trans (hn.mono hb.size)
  clear hn
  have hs2_ := Lib.hid (show w1.heap.size ≤ g1 ∧ g1 < w2.heap.size from ⟨by (try simp at hg1); omega, hk1.lt⟩)
  clear hg1
  go_wp2_with fail
  refine (toFormS_any _ _ _ _ xs1 _ (hr1.below hb) hb.size hm1 HX1.out).mono ?_
  rintro e1 w3 ⟨g2, Y2, rfl, hg2, hM2, hk2, hO2, hn⟩
  have HM2 := Lib.hid hM2; clear hM2
  replace hO2 := hO2
  have hOx2 := hO2; clear hO2; have hO2 := hOx2; clear hOx2
  have hs3_ := Lib.hid (show w2.heap.size ≤ w3.heap.size by have hq9 := hn.size; (try simp at hq9); (try simp); omega)
  replace hb := hb.trans (hn.mono hb.size)
  replace hk1 := hk1.below hn hk1.lt
  clear hn
  have hs4_ := Lib.hid (show w2.heap.size ≤ g2 ∧ g2 < w3.heap.size from ⟨by (try simp at hg2); omega, hk2.lt⟩)
  clear hg2
  have HC2 := Lib.hid (show ∀ (i : Nat) (y : FV), Y2[i]? = some y → (∀ j, y.v1.ownBlock = some j → j < w3.heap.size) ∧ (∀ j, y.v2.ownBlock = some j → j < w3.heap.size) from fun i y hy => ⟨fun j hj => ((hO2.lt hy).1 j hj).2, fun j hj => ((hO2.lt hy).2 j hj).2⟩)
  go_wp2_with fail
  refine (toIntS_any _ _ _ _ xs3 _ (RInts.below hr3 hb) hb.size hm3).mono ?_
  rintro e1 w4 ⟨g3, rfl, hg3, hk3, hn⟩
  have hs5_ := Lib.hid (show w3.heap.size ≤ w4.heap.size by have hq9 := hn.size; (try simp at hq9); (try simp); omega)
  replace hb := hb.trans (hn.mono hb.size)
  replace hk1 := hk1.below hn hk1.lt
  replace hk2 := hk2.below hn hk2.lt
  replace hO2 := hO2.step hn
  clear hn
  have hs6_ := Lib.hid (show w3.heap.size ≤ g3 ∧ g3 < w4.heap.size from ⟨by (try simp at hg3); omega, hk3.lt⟩)
  clear hg3
  go_wp2_with fail
  refine (giveSorts_spec (hk1.rintsN HL0.out) hm0 (AForms.of_copy hk2 hO2 HM2.out HL1.out HX1.out) hm1 hI2 (hk3.rintsN HL3.out) hm3).mono ?_
  rintro e1 w5 ⟨V1, N1, C1, V2, N2, C2, Y2, rfl, ho1, hRF2, hni2, hN1, hn⟩
  clear hk1
  clear hk2
  clear hO2
  clear hk3
  have hs7_ := Lib.hid (show w4.heap.size ≤ w5.heap.size by have hq9 := hn.size; (try simp at hq9); (try simp); omega)
  replace hb := hb.trans (hn.mono hb.size)
  clear hn
  have HR1 := Lib.hid (show ∀ k, (Value.slice V1 N1 C1).ownBlock = some k → w4.heap.size ≤ k ∧ k < w5.heap.size from fun k e => ⟨by have h9 := (ho1.lt k e).1; (try simp at h9); omega, (ho1.lt k e).2⟩)
  have ho2 := hRF2.row; have hoi2 := hRF2.inn; have HQE2 := Lib.hid hRF2.eq; have hN2 := hRF2.le; have hTT2 := hRF2.tot; have HBD2 := Lib.hid hRF2.bd; have HNI2 := Lib.hid hni2; clear hRF2 hni2
  have HC2_ := Lib.hid (show ∀ (i : Nat) (y : FV), Y2[i]? = some y → (∀ j, y.v1.ownBlock = some j → j < w5.heap.size) ∧ (∀ j, y.v2.ownBlock = some j → j < w5.heap.size) from fun i y hy => ⟨fun j hj => ((hoi2.lt hy).1 j hj).2, fun j hj => ((hoi2.lt hy).2 j hj).2⟩)
  have HLO2 := Lib.hid (show ∀ (i : Nat) (y : FV), Y2[i]? = some y → (∀ j, y.v1.ownBlock = some j → w4.heap.size ≤ j) ∧ (∀ j, y.v2.ownBlock = some j → w4.heap.size ≤ j) from fun i y hy => ⟨fun j hj => by have h9 := ((hoi2.lt hy).1 j hj).1; (try simp at h9); omega, fun j hj => by have h9 := ((hoi2.lt hy).2 j hj).1; (try simp at h9); omega⟩)
  have HR2 := Lib.hid (show ∀ k, (Value.slice V2 N2 C2).ownBlock = some k → w4.heap.size ≤ k ∧ k < w5.heap.size from fun k e => ⟨by have h9 := (ho2.lt k e).1; (try simp at h9); omega, (ho2.lt k e).2⟩)
  go_wp2_with fail
  refine (toIntS_any _ _ _ _ xs0 _ (RInts.below hr0 hb) hb.size hm0).mono ?_
  rintro e1 w6 ⟨g4, rfl, hg4, hk4, hn⟩
  have hs8_ := Lib.hid (show w5.heap.size ≤ w6.heap.size by have hq9 := hn.size; (try simp at hq9); (try simp); omega)
  replace hb := hb.trans (hn.mono hb.size)
  replace ho1 := row_step ho1 hn
  replace ho2 := row_step ho2 hn
  replace hoi2 := hoi2.step hn
  clear hn
  have hs9_ := Lib.hid (show w5.heap.size ≤ g4 ∧ g4 < w6.heap.size from ⟨by (try simp at hg4); omega, hk4.lt⟩)
  clear hg4
  go_wp2_with fail
  refine (toFormS_any _ _ _ _ xs1 _ (hr1.below hb) hb.size hm1 HX1.out).mono ?_
  rintro e1 w7 ⟨g5, Y5, rfl, hg5, hM5, hk5, hO5, hn⟩
  have HM5 := Lib.hid hM5; clear hM5
  replace hO5 := hO5
  have hOx5 := hO5; clear hO5; have hO5 := hOx5; clear hOx5
  have hs10_ := Lib.hid (show w6.heap.size ≤ w7.heap.size by have hq9 := hn.size; (try simp at hq9); (try simp); omega)
  replace hb := hb.trans (hn.mono hb.size)
  replace ho1 := row_step ho1 hn
  replace ho2 := row_step ho2 hn
  replace hoi2 := hoi2.step hn
  replace hk4 := hk4.below hn hk4.lt
  clear hn
  have hs11_ := Lib.hid (show w6.heap.size ≤ g5 ∧ g5 < w7.heap.size from ⟨by (try simp at hg5); omega, hk5.lt⟩)
  clear hg5
  have HC5 := Lib.hid (show ∀ (i : Nat) (y : FV), Y5[i]? = some y → (∀ j, y.v1.ownBlock = some j → j < w7.heap.size) ∧ (∀ j, y.v2.ownBlock = some j → j < w7.heap.size) from fun i y hy => ⟨fun j hj => ((hO5.lt hy).1 j hj).2, fun j hj => ((hO5.lt hy).2 j hj).2⟩)
  go_wp2_with fail
  refine (toIntS_any _ _ _ _ xs3 _ (RInts.below hr3 hb) hb.size hm3).mono ?_
  rintro e1 w8 ⟨g6, rfl, hg6, hk6, hn⟩
  have hs12_ := Lib.hid (show w7.heap.size ≤ w8.heap.size by have hq9 := hn.size; (try simp at hq9); (try simp); omega)
  replace hb := hb.trans (hn.mono hb.size)
  replace ho1 := row_step ho1 hn
  replace ho2 := row_step ho2 hn
  replace hoi2 := hoi2.step hn
  replace hk4 := hk4.below hn hk4.lt
  replace hk5 := hk5.below hn hk5.lt
  replace hO5 := hO5.step hn
  clear hn
  have hs13_ := Lib.hid (show w7.heap.size ≤ g6 ∧ g6 < w8.heap.size from ⟨by (try simp at hg6); omega, hk6.lt⟩)
  clear hg6
  go_wp2_with fail
  refine (giveSorts_impl (hk4.rintsN HL0.out) hm0 (AForms.of_copy hk5 hO5 HM5.out HL1.out HX1.out) hm1 hI2 (hk6.rintsN HL3.out) hm3).mono ?_
  rintro e1 w9 ⟨V3, N3, C3, V4, N4, C4, Y4, rfl, ho3, hRF4, hni4, hN3, hn⟩
  have hs14_ := Lib.hid (show w8.heap.size ≤ w9.heap.size by have hq9 := hn.size; (try simp at hq9); (try simp); omega)
  replace hb := hb.trans (hn.mono hb.size)
  replace ho1 := row_step ho1 hn
  replace ho2 := row_step ho2 hn
  replace hoi2 := hoi2.step hn
  replace hk4 := hk4.below hn hk4.lt
  replace hk5 := hk5.below hn hk5.lt
  replace hO5 := hO5.step hn
  replace hk6 := hk6.below hn hk6.lt
  clear hn
  have HR3 := Lib.hid (show ∀ k, (Value.slice V3 N3 C3).ownBlock = some k → w8.heap.size ≤ k ∧ k < w9.heap.size from fun k e => ⟨by have h9 := (ho3.lt k e).1; (try simp at h9); omega, (ho3.lt k e).2⟩)
  have ho4 := hRF4.row; have hoi4 := hRF4.inn; have HQE4 := Lib.hid hRF4.eq; have hN4 := hRF4.le; have hTT4 := hRF4.tot; have HBD4 := Lib.hid hRF4.bd; have HNI4 := Lib.hid hni4; clear hRF4 hni4
  have HC4_ := Lib.hid (show ∀ (i : Nat) (y : FV), Y4[i]? = some y → (∀ j, y.v1.ownBlock = some j → j < w9.heap.size) ∧ (∀ j, y.v2.ownBlock = some j → j < w9.heap.size) from fun i y hy => ⟨fun j hj => ((hoi4.lt hy).1 j hj).2, fun j hj => ((hoi4.lt hy).2 j hj).2⟩)
  have HLO4 := Lib.hid (show ∀ (i : Nat) (y : FV), Y4[i]? = some y → (∀ j, y.v1.ownBlock = some j → w8.heap.size ≤ j) ∧ (∀ j, y.v2.ownBlock = some j → w8.heap.size ≤ j) from fun i y hy => ⟨fun j hj => by have h9 := ((hoi4.lt hy).1 j hj).1; (try simp at h9); omega, fun j hj => by have h9 := ((hoi4.lt hy).2 j hj).1; (try simp at h9); omega⟩)
  have HR4 := Lib.hid (show ∀ k, (Value.slice V4 N4 C4).ownBlock = some k → w8.heap.size ≤ k ∧ k < w9.heap.size from fun k e => ⟨by have h9 := (ho4.lt k e).1; (try simp at h9); omega, (ho4.lt k e).2⟩)
  go_wp2_with fail
  refine (eqIntS_same (own_rints ho3) (own_rints ho1) (Nat.le_refl _) (Nat.le_refl _) hN3).mono ?_
  rintro e1 w10 ⟨rfl, hn⟩
  have hs15_ := Lib.hid (show w9.heap.size ≤ w10.heap.size by have hq9 := hn.size; (try simp at hq9); (try simp); omega)
  replace hb := hb.trans (hn.mono hb.size)
  replace ho1 := row_step ho1 hn
  replace ho2 := row_step ho2 hn
  replace hoi2 := hoi2.step hn
  replace hk4 := hk4.below hn hk4.lt
  replace hk5 := hk5.below hn hk5.lt
  replace hO5 := hO5.step hn
  replace hk6 := hk6.below hn hk6.lt
  replace ho3 := row_step ho3 hn
  replace ho4 := row_step ho4 hn
  replace hoi4 := hoi4.step hn
  clear hn
  go_wp2_with fail
  refine (eqFormS_same (OwnF.reads ho4 hoi4) (OwnF.reads ho2 hoi2) (by rw [HQE4.out, HQE2.out]) hN4 HBD4.out).mono ?_
  rintro e1 w11 ⟨rfl, hn⟩
  have hs16_ := Lib.hid (show w10.heap.size ≤ w11.heap.size by have hq9 := hn.size; (try simp at hq9); (try simp); omega)
  replace hb := hb.trans (hn.mono hb.size)
  replace ho1 := row_step ho1 hn
  replace ho2 := row_step ho2 hn
  replace hoi2 := hoi2.step hn
  replace hk4 := hk4.below hn hk4.lt
  replace hk5 := hk5.below hn hk5.lt
  replace hO5 := hO5.step hn
  replace hk6 := hk6.below hn hk6.lt
  replace ho3 := row_step ho3 hn
  replace ho4 := row_step ho4 hn
  replace hoi4 := hoi4.step hn
  clear hn
  go_wp2_with fail
  refine (toIntS_any _ _ _ _ xs0 _ (RInts.below hr0 hb) hb.size hm0).mono ?_
  rintro e1 w12 ⟨g7, rfl, hg7, hk7, hn⟩
  have hs17_ := Lib.hid (show w11.heap.size ≤ w12.heap.size by have hq9 := hn.size; (try simp at hq9); (try simp); omega)
  replace hb := hb.trans (hn.mono hb.size)
  replace ho1 := row_step ho1 hn
  replace ho2 := row_step ho2 hn
  replace hoi2 := hoi2.step hn
  replace hk4 := hk4.below hn hk4.lt
  replace hk5 := hk5.below hn hk5.lt
  replace hO5 := hO5.step hn
  replace hk6 := hk6.below hn hk6.lt
  replace ho3 := row_step ho3 hn
  replace ho4 := row_step ho4 hn
  replace hoi4 := hoi4.step hn
  clear hn
  have hs18_ := Lib.hid (show w11.heap.size ≤ g7 ∧ g7 < w12.heap.size from ⟨by (try simp at hg7); omega, hk7.lt⟩)
  clear hg7
  go_wp2_with fail
  refine (eqIntS_same (hk4.rintsN HL0.out) (hk7.rintsN HL0.out) (Nat.le_refl _) (Nat.le_refl _) hm0).mono ?_
  rintro e1 w13 ⟨rfl, hn⟩
  clear hk7
  have hs19_ := Lib.hid (show w12.heap.size ≤ w13.heap.size by have hq9 := hn.size; (try simp at hq9); (try simp); omega)
  replace hb := hb.trans (hn.mono hb.size)
  replace ho1 := row_step ho1 hn
  replace ho2 := row_step ho2 hn
  replace hoi2 := hoi2.step hn
  replace hk4 := hk4.below hn hk4.lt
  replace hk5 := hk5.below hn hk5.lt
  replace hO5 := hO5.step hn
  replace hk6 := hk6.below hn hk6.lt
  replace ho3 := row_step ho3 hn
  replace ho4 := row_step ho4 hn
  replace hoi4 := hoi4.step hn
  clear hn
  go_wp2_with fail
  refine (toFormS_any _ _ _ _ xs1 _ (hr1.below hb) hb.size hm1 HX1.out).mono ?_
  rintro e1 w14 ⟨g8, Y8, rfl, hg8, hM8, hk8, hO8, hn⟩
  have HM8 := Lib.hid hM8; clear hM8
  replace hO8 := hO8
  have hOx8 := hO8; clear hO8; have hO8 := hOx8; clear hOx8
  have hs20_ := Lib.hid (show w13.heap.size ≤ w14.heap.size by have hq9 := hn.size; (try simp at hq9); (try simp); omega)
  replace hb := hb.trans (hn.mono hb.size)
  replace ho1 := row_step ho1 hn
  replace ho2 := row_step ho2 hn
  replace hoi2 := hoi2.step hn
  replace hk4 := hk4.below hn hk4.lt
  replace hk5 := hk5.below hn hk5.lt
  replace hO5 := hO5.step hn
  replace hk6 := hk6.below hn hk6.lt
  replace ho3 := row_step ho3 hn
  replace ho4 := row_step ho4 hn
  replace hoi4 := hoi4.step hn
  clear hn
  have hs21_ := Lib.hid (show w13.heap.size ≤ g8 ∧ g8 < w14.heap.size from ⟨by (try simp at hg8); omega, hk8.lt⟩)
  clear hg8
  have HC8 := Lib.hid (show ∀ (i : Nat) (y : FV), Y8[i]? = some y → (∀ j, y.v1.ownBlock = some j → j < w14.heap.size) ∧ (∀ j, y.v2.ownBlock = some j → j < w14.heap.size) from fun i y hy => ⟨fun j hj => ((hO8.lt hy).1 j hj).2, fun j hj => ((hO8.lt hy).2 j hj).2⟩)
  go_wp2_with fail
  refine (eqFormS_any (RForms.of_copy hk5 hO5 (len_of_map HM5.out HL1.out)) (RForms.of_copy hk8 hO8 (len_of_map HM8.out HL1.out)) (Nat.le_refl _) (Nat.le_refl _) (by rw [HM5.out, HM8.out]) hm1 (lens_of_map HM5.out HX1.out)).mono ?_
  rintro e1 w15 ⟨rfl, hn⟩
  clear hk8
  clear hO8
  have hs22_ := Lib.hid (show w14.heap.size ≤ w15.heap.size by have hq9 := hn.size; (try simp at hq9); (try simp); omega)
  replace hb := hb.trans (hn.mono hb.size)
  replace ho1 := row_step ho1 hn
  replace ho2 := row_step ho2 hn
  replace hoi2 := hoi2.step hn
  replace hk4 := hk4.below hn hk4.lt
  replace hk5 := hk5.below hn hk5.lt
  replace hO5 := hO5.step hn
  replace hk6 := hk6.below hn hk6.lt
  replace ho3 := row_step ho3 hn
  replace ho4 := row_step ho4 hn
  replace hoi4 := hoi4.step hn
  clear hn
  go_wp2_with fail
  refine (toIntS_any _ _ _ _ xs3 _ (RInts.below hr3 hb) hb.size hm3).mono ?_
  rintro e1 w16 ⟨g9, rfl, hg9, hk9, hn⟩
  have hs23_ := Lib.hid (show w15.heap.size ≤ w16.heap.size by have hq9 := hn.size; (try simp at hq9); (try simp); omega)
  replace hb := hb.trans (hn.mono hb.size)
  replace ho1 := row_step ho1 hn
  replace ho2 := row_step ho2 hn
  replace hoi2 := hoi2.step hn
  replace hk4 := hk4.below hn hk4.lt
  replace hk5 := hk5.below hn hk5.lt
  replace hO5 := hO5.step hn
  replace hk6 := hk6.below hn hk6.lt
  replace ho3 := row_step ho3 hn
  replace ho4 := row_step ho4 hn
  replace hoi4 := hoi4.step hn
  clear hn
  have hs24_ := Lib.hid (show w15.heap.size ≤ g9 ∧ g9 < w16.heap.size from ⟨by (try simp at hg9); omega, hk9.lt⟩)
  clear hg9
  go_wp2_with fail
  refine (eqIntS_same (hk6.rintsN HL3.out) (hk9.rintsN HL3.out) (Nat.le_refl _) (Nat.le_refl _) hm3).mono ?_
  rintro e1 w17 ⟨rfl, hn⟩
  clear hk9
  have hs25_ := Lib.hid (show w16.heap.size ≤ w17.heap.size by have hq9 := hn.size; (try simp at hq9); (try simp); omega)
  replace hb := hb.trans (hn.mono hb.size)
  replace ho1 := row_step ho1 hn
  replace ho2 := row_step ho2 hn
  replace hoi2 := hoi2.step hn
  replace hk4 := hk4.below hn hk4.lt
  replace hk5 := hk5.below hn hk5.lt
  replace hO5 := hO5.step hn
  replace hk6 := hk6.below hn hk6.lt
  replace ho3 := row_step ho3 hn
  replace ho4 := row_step ho4 hn
  replace hoi4 := hoi4.step hn
  clear hn
  go_wp2_with fail
  refine (markIntS_any _ _ _ xs0 _ _ (hk4.row (B := g4) (size := 1) (by simp [HL0.out]) (by unfold maxLen; omega) (Nat.le_refl _)) hm0 (by omega)).mono ?_
  rintro e1 w18 ⟨rfl, _, hq⟩
  clear hk4
  replace hq := KeptI.of_grown (lo := g4) (hi := g4 + 1) hq (fun k e => by injection e with e; simp at e; omega)
  replace hb := hb.trans (hq.below (by have := hs0_.out; have := hs1_.out; have := hs2_.out; have := hs3_.out; have := hs4_.out; have := hs5_.out; have := hs6_.out; have := hs7_.out; have := hs8_.out; have := hs9_.out; have := hs10_.out; have := hs11_.out; have := hs12_.out; have := hs13_.out; have := hs14_.out; have := hs15_.out; have := hs16_.out; have := hs17_.out; have := hs18_.out; have := hs19_.out; have := hs20_.out; have := hs21_.out; have := hs22_.out; have := hs23_.out; have := hs24_.out; have := hs25_.out; omega) hb.size)
  replace ho1 := row_keptI ho1 hq (fun k e => by have := hs0_.out; have := hs1_.out; have := hs2_.out; have := hs3_.out; have := hs4_.out; have := hs5_.out; have := hs6_.out; have := hs7_.out; have := hs8_.out; have := hs9_.out; have := hs10_.out; have := hs11_.out; have := hs12_.out; have := hs13_.out; have := hs14_.out; have := hs15_.out; have := hs16_.out; have := hs17_.out; have := hs18_.out; have := hs19_.out; have := hs20_.out; have := hs21_.out; have := hs22_.out; have := hs23_.out; have := hs24_.out; have := hs25_.out; have := HR1.out k e; omega)
  replace ho2 := row_keptI ho2 hq (fun k e => by have := hs0_.out; have := hs1_.out; have := hs2_.out; have := hs3_.out; have := hs4_.out; have := hs5_.out; have := hs6_.out; have := hs7_.out; have := hs8_.out; have := hs9_.out; have := hs10_.out; have := hs11_.out; have := hs12_.out; have := hs13_.out; have := hs14_.out; have := hs15_.out; have := hs16_.out; have := hs17_.out; have := hs18_.out; have := hs19_.out; have := hs20_.out; have := hs21_.out; have := hs22_.out; have := hs23_.out; have := hs24_.out; have := hs25_.out; have := HR2.out k e; omega)
  replace hoi2 := hoi2.keptI hq (fun i y hy => ⟨fun k e => by have := hs0_.out; have := hs1_.out; have := hs2_.out; have := hs3_.out; have := hs4_.out; have := hs5_.out; have := hs6_.out; have := hs7_.out; have := hs8_.out; have := hs9_.out; have := hs10_.out; have := hs11_.out; have := hs12_.out; have := hs13_.out; have := hs14_.out; have := hs15_.out; have := hs16_.out; have := hs17_.out; have := hs18_.out; have := hs19_.out; have := hs20_.out; have := hs21_.out; have := hs22_.out; have := hs23_.out; have := hs24_.out; have := hs25_.out; have := (HC2_.out i y hy).1 k e; have := (HLO2.out i y hy).1 k e; omega, fun k e => by have := hs0_.out; have := hs1_.out; have := hs2_.out; have := hs3_.out; have := hs4_.out; have := hs5_.out; have := hs6_.out; have := hs7_.out; have := hs8_.out; have := hs9_.out; have := hs10_.out; have := hs11_.out; have := hs12_.out; have := hs13_.out; have := hs14_.out; have := hs15_.out; have := hs16_.out; have := hs17_.out; have := hs18_.out; have := hs19_.out; have := hs20_.out; have := hs21_.out; have := hs22_.out; have := hs23_.out; have := hs24_.out; have := hs25_.out; have := (HC2_.out i y hy).2 k e; have := (HLO2.out i y hy).2 k e; omega⟩)
  replace hk5 := hk5.keptI hq (by have := hs0_.out; have := hs1_.out; have := hs2_.out; have := hs3_.out; have := hs4_.out; have := hs5_.out; have := hs6_.out; have := hs7_.out; have := hs8_.out; have := hs9_.out; have := hs10_.out; have := hs11_.out; have := hs12_.out; have := hs13_.out; have := hs14_.out; have := hs15_.out; have := hs16_.out; have := hs17_.out; have := hs18_.out; have := hs19_.out; have := hs20_.out; have := hs21_.out; have := hs22_.out; have := hs23_.out; have := hs24_.out; have := hs25_.out; omega)
  replace hO5 := hO5.keptI hq (fun i y hy => ⟨fun k e => by have := hs0_.out; have := hs1_.out; have := hs2_.out; have := hs3_.out; have := hs4_.out; have := hs5_.out; have := hs6_.out; have := hs7_.out; have := hs8_.out; have := hs9_.out; have := hs10_.out; have := hs11_.out; have := hs12_.out; have := hs13_.out; have := hs14_.out; have := hs15_.out; have := hs16_.out; have := hs17_.out; have := hs18_.out; have := hs19_.out; have := hs20_.out; have := hs21_.out; have := hs22_.out; have := hs23_.out; have := hs24_.out; have := hs25_.out; have := (HC5.out i y hy).1 k e; have := (hO5.lt hy).1 k e; omega, fun k e => by have := hs0_.out; have := hs1_.out; have := hs2_.out; have := hs3_.out; have := hs4_.out; have := hs5_.out; have := hs6_.out; have := hs7_.out; have := hs8_.out; have := hs9_.out; have := hs10_.out; have := hs11_.out; have := hs12_.out; have := hs13_.out; have := hs14_.out; have := hs15_.out; have := hs16_.out; have := hs17_.out; have := hs18_.out; have := hs19_.out; have := hs20_.out; have := hs21_.out; have := hs22_.out; have := hs23_.out; have := hs24_.out; have := hs25_.out; have := (HC5.out i y hy).2 k e; have := (hO5.lt hy).2 k e; omega⟩)
  replace hk6 := hk6.keptI hq (by have := hs0_.out; have := hs1_.out; have := hs2_.out; have := hs3_.out; have := hs4_.out; have := hs5_.out; have := hs6_.out; have := hs7_.out; have := hs8_.out; have := hs9_.out; have := hs10_.out; have := hs11_.out; have := hs12_.out; have := hs13_.out; have := hs14_.out; have := hs15_.out; have := hs16_.out; have := hs17_.out; have := hs18_.out; have := hs19_.out; have := hs20_.out; have := hs21_.out; have := hs22_.out; have := hs23_.out; have := hs24_.out; have := hs25_.out; omega)
  replace ho3 := row_keptI ho3 hq (fun k e => by have := hs0_.out; have := hs1_.out; have := hs2_.out; have := hs3_.out; have := hs4_.out; have := hs5_.out; have := hs6_.out; have := hs7_.out; have := hs8_.out; have := hs9_.out; have := hs10_.out; have := hs11_.out; have := hs12_.out; have := hs13_.out; have := hs14_.out; have := hs15_.out; have := hs16_.out; have := hs17_.out; have := hs18_.out; have := hs19_.out; have := hs20_.out; have := hs21_.out; have := hs22_.out; have := hs23_.out; have := hs24_.out; have := hs25_.out; have := HR3.out k e; omega)
  replace ho4 := row_keptI ho4 hq (fun k e => by have := hs0_.out; have := hs1_.out; have := hs2_.out; have := hs3_.out; have := hs4_.out; have := hs5_.out; have := hs6_.out; have := hs7_.out; have := hs8_.out; have := hs9_.out; have := hs10_.out; have := hs11_.out; have := hs12_.out; have := hs13_.out; have := hs14_.out; have := hs15_.out; have := hs16_.out; have := hs17_.out; have := hs18_.out; have := hs19_.out; have := hs20_.out; have := hs21_.out; have := hs22_.out; have := hs23_.out; have := hs24_.out; have := hs25_.out; have := HR4.out k e; omega)
  replace hoi4 := hoi4.keptI hq (fun i y hy => ⟨fun k e => by have := hs0_.out; have := hs1_.out; have := hs2_.out; have := hs3_.out; have := hs4_.out; have := hs5_.out; have := hs6_.out; have := hs7_.out; have := hs8_.out; have := hs9_.out; have := hs10_.out; have := hs11_.out; have := hs12_.out; have := hs13_.out; have := hs14_.out; have := hs15_.out; have := hs16_.out; have := hs17_.out; have := hs18_.out; have := hs19_.out; have := hs20_.out; have := hs21_.out; have := hs22_.out; have := hs23_.out; have := hs24_.out; have := hs25_.out; have := (HC4_.out i y hy).1 k e; have := (HLO4.out i y hy).1 k e; omega, fun k e => by have := hs0_.out; have := hs1_.out; have := hs2_.out; have := hs3_.out; have := hs4_.out; have := hs5_.out; have := hs6_.out; have := hs7_.out; have := hs8_.out; have := hs9_.out; have := hs10_.out; have := hs11_.out; have := hs12_.out; have := hs13_.out; have := hs14_.out; have := hs15_.out; have := hs16_.out; have := hs17_.out; have := hs18_.out; have := hs19_.out; have := hs20_.out; have := hs21_.out; have := hs22_.out; have := hs23_.out; have := hs24_.out; have := hs25_.out; have := (HC4_.out i y hy).2 k e; have := (HLO4.out i y hy).2 k e; omega⟩)
  have hs26_ := Lib.hid (show w17.heap.size ≤ w18.heap.size from hq.size)
  clear hq
  go_wp2_with fail
  refine (markFormS_any (C := w7.heap.size) (len_of_map HM5.out HL1.out) (rows_of_blk hk5) hO5 (out_of_oin hO5) HC5.out (by rw [tot_of_map HM5.out]; exact hT1) hm1 (by omega)).mono ?_
  rintro e1 w19 ⟨rfl, _, hq⟩
  clear hk5 hO5
  have hTq5 : totF Y5 ≤ 1048576 := by rw [tot_of_map HM5.out]; exact hT1
  replace hb := hb.trans (hq.below (by have := hs0_.out; have := hs1_.out; have := hs2_.out; have := hs3_.out; have := hs4_.out; have := hs5_.out; have := hs6_.out; have := hs7_.out; have := hs8_.out; have := hs9_.out; have := hs10_.out; have := hs11_.out; have := hs12_.out; have := hs13_.out; have := hs14_.out; have := hs15_.out; have := hs16_.out; have := hs17_.out; have := hs18_.out; have := hs19_.out; have := hs20_.out; have := hs21_.out; have := hs22_.out; have := hs23_.out; have := hs24_.out; have := hs25_.out; have := hs26_.out; omega) hb.size)
  replace ho1 := row_keptI ho1 hq (fun k e => by have := hs0_.out; have := hs1_.out; have := hs2_.out; have := hs3_.out; have := hs4_.out; have := hs5_.out; have := hs6_.out; have := hs7_.out; have := hs8_.out; have := hs9_.out; have := hs10_.out; have := hs11_.out; have := hs12_.out; have := hs13_.out; have := hs14_.out; have := hs15_.out; have := hs16_.out; have := hs17_.out; have := hs18_.out; have := hs19_.out; have := hs20_.out; have := hs21_.out; have := hs22_.out; have := hs23_.out; have := hs24_.out; have := hs25_.out; have := hs26_.out; have := HR1.out k e; omega)
  replace ho2 := row_keptI ho2 hq (fun k e => by have := hs0_.out; have := hs1_.out; have := hs2_.out; have := hs3_.out; have := hs4_.out; have := hs5_.out; have := hs6_.out; have := hs7_.out; have := hs8_.out; have := hs9_.out; have := hs10_.out; have := hs11_.out; have := hs12_.out; have := hs13_.out; have := hs14_.out; have := hs15_.out; have := hs16_.out; have := hs17_.out; have := hs18_.out; have := hs19_.out; have := hs20_.out; have := hs21_.out; have := hs22_.out; have := hs23_.out; have := hs24_.out; have := hs25_.out; have := hs26_.out; have := HR2.out k e; omega)
  replace hoi2 := hoi2.keptI hq (fun i y hy => ⟨fun k e => by have := hs0_.out; have := hs1_.out; have := hs2_.out; have := hs3_.out; have := hs4_.out; have := hs5_.out; have := hs6_.out; have := hs7_.out; have := hs8_.out; have := hs9_.out; have := hs10_.out; have := hs11_.out; have := hs12_.out; have := hs13_.out; have := hs14_.out; have := hs15_.out; have := hs16_.out; have := hs17_.out; have := hs18_.out; have := hs19_.out; have := hs20_.out; have := hs21_.out; have := hs22_.out; have := hs23_.out; have := hs24_.out; have := hs25_.out; have := hs26_.out; have := (HC2_.out i y hy).1 k e; have := (HLO2.out i y hy).1 k e; omega, fun k e => by have := hs0_.out; have := hs1_.out; have := hs2_.out; have := hs3_.out; have := hs4_.out; have := hs5_.out; have := hs6_.out; have := hs7_.out; have := hs8_.out; have := hs9_.out; have := hs10_.out; have := hs11_.out; have := hs12_.out; have := hs13_.out; have := hs14_.out; have := hs15_.out; have := hs16_.out; have := hs17_.out; have := hs18_.out; have := hs19_.out; have := hs20_.out; have := hs21_.out; have := hs22_.out; have := hs23_.out; have := hs24_.out; have := hs25_.out; have := hs26_.out; have := (HC2_.out i y hy).2 k e; have := (HLO2.out i y hy).2 k e; omega⟩)
  replace hk6 := hk6.keptI hq (by have := hs0_.out; have := hs1_.out; have := hs2_.out; have := hs3_.out; have := hs4_.out; have := hs5_.out; have := hs6_.out; have := hs7_.out; have := hs8_.out; have := hs9_.out; have := hs10_.out; have := hs11_.out; have := hs12_.out; have := hs13_.out; have := hs14_.out; have := hs15_.out; have := hs16_.out; have := hs17_.out; have := hs18_.out; have := hs19_.out; have := hs20_.out; have := hs21_.out; have := hs22_.out; have := hs23_.out; have := hs24_.out; have := hs25_.out; have := hs26_.out; omega)
  replace ho3 := row_keptI ho3 hq (fun k e => by have := hs0_.out; have := hs1_.out; have := hs2_.out; have := hs3_.out; have := hs4_.out; have := hs5_.out; have := hs6_.out; have := hs7_.out; have := hs8_.out; have := hs9_.out; have := hs10_.out; have := hs11_.out; have := hs12_.out; have := hs13_.out; have := hs14_.out; have := hs15_.out; have := hs16_.out; have := hs17_.out; have := hs18_.out; have := hs19_.out; have := hs20_.out; have := hs21_.out; have := hs22_.out; have := hs23_.out; have := hs24_.out; have := hs25_.out; have := hs26_.out; have := HR3.out k e; omega)
  replace ho4 := row_keptI ho4 hq (fun k e => by have := hs0_.out; have := hs1_.out; have := hs2_.out; have := hs3_.out; have := hs4_.out; have := hs5_.out; have := hs6_.out; have := hs7_.out; have := hs8_.out; have := hs9_.out; have := hs10_.out; have := hs11_.out; have := hs12_.out; have := hs13_.out; have := hs14_.out; have := hs15_.out; have := hs16_.out; have := hs17_.out; have := hs18_.out; have := hs19_.out; have := hs20_.out; have := hs21_.out; have := hs22_.out; have := hs23_.out; have := hs24_.out; have := hs25_.out; have := hs26_.out; have := HR4.out k e; omega)
  replace hoi4 := hoi4.keptI hq (fun i y hy => ⟨fun k e => by have := hs0_.out; have := hs1_.out; have := hs2_.out; have := hs3_.out; have := hs4_.out; have := hs5_.out; have := hs6_.out; have := hs7_.out; have := hs8_.out; have := hs9_.out; have := hs10_.out; have := hs11_.out; have := hs12_.out; have := hs13_.out; have := hs14_.out; have := hs15_.out; have := hs16_.out; have := hs17_.out; have := hs18_.out; have := hs19_.out; have := hs20_.out; have := hs21_.out; have := hs22_.out; have := hs23_.out; have := hs24_.out; have := hs25_.out; have := hs26_.out; have := (HC4_.out i y hy).1 k e; have := (HLO4.out i y hy).1 k e; omega, fun k e => by have := hs0_.out; have := hs1_.out; have := hs2_.out; have := hs3_.out; have := hs4_.out; have := hs5_.out; have := hs6_.out; have := hs7_.out; have := hs8_.out; have := hs9_.out; have := hs10_.out; have := hs11_.out; have := hs12_.out; have := hs13_.out; have := hs14_.out; have := hs15_.out; have := hs16_.out; have := hs17_.out; have := hs18_.out; have := hs19_.out; have := hs20_.out; have := hs21_.out; have := hs22_.out; have := hs23_.out; have := hs24_.out; have := hs25_.out; have := hs26_.out; have := (HC4_.out i y hy).2 k e; have := (HLO4.out i y hy).2 k e; omega⟩)
  have hs27_ := Lib.hid (show w18.heap.size ≤ w19.heap.size from hq.size)
  clear hq
  go_wp2_with fail
  refine (markIntS_any _ _ _ xs3 _ _ (hk6.row (B := g6) (size := 1) (by simp [HL3.out]) (by unfold maxLen; omega) (Nat.le_refl _)) hm3 (by omega)).mono ?_
  rintro e1 w20 ⟨rfl, _, hq⟩
  clear hk6
  replace hq := KeptI.of_grown (lo := g6) (hi := g6 + 1) hq (fun k e => by injection e with e; simp at e; omega)
  replace hb := hb.trans (hq.below (by have := hs0_.out; have := hs1_.out; have := hs2_.out; have := hs3_.out; have := hs4_.out; have := hs5_.out; have := hs6_.out; have := hs7_.out; have := hs8_.out; have := hs9_.out; have := hs10_.out; have := hs11_.out; have := hs12_.out; have := hs13_.out; have := hs14_.out; have := hs15_.out; have := hs16_.out; have := hs17_.out; have := hs18_.out; have := hs19_.out; have := hs20_.out; have := hs21_.out; have := hs22_.out; have := hs23_.out; have := hs24_.out; have := hs25_.out; have := hs26_.out; have := hs27_.out; omega) hb.size)
  replace ho1 := row_keptI ho1 hq (fun k e => by have := hs0_.out; have := hs1_.out; have := hs2_.out; have := hs3_.out; have := hs4_.out; have := hs5_.out; have := hs6_.out; have := hs7_.out; have := hs8_.out; have := hs9_.out; have := hs10_.out; have := hs11_.out; have := hs12_.out; have := hs13_.out; have := hs14_.out; have := hs15_.out; have := hs16_.out; have := hs17_.out; have := hs18_.out; have := hs19_.out; have := hs20_.out; have := hs21_.out; have := hs22_.out; have := hs23_.out; have := hs24_.out; have := hs25_.out; have := hs26_.out; have := hs27_.out; have := HR1.out k e; omega)
  replace ho2 := row_keptI ho2 hq (fun k e => by have := hs0_.out; have := hs1_.out; have := hs2_.out; have := hs3_.out; have := hs4_.out; have := hs5_.out; have := hs6_.out; have := hs7_.out; have := hs8_.out; have := hs9_.out; have := hs10_.out; have := hs11_.out; have := hs12_.out; have := hs13_.out; have := hs14_.out; have := hs15_.out; have := hs16_.out; have := hs17_.out; have := hs18_.out; have := hs19_.out; have := hs20_.out; have := hs21_.out; have := hs22_.out; have := hs23_.out; have := hs24_.out; have := hs25_.out; have := hs26_.out; have := hs27_.out; have := HR2.out k e; omega)
  replace hoi2 := hoi2.keptI hq (fun i y hy => ⟨fun k e => by have := hs0_.out; have := hs1_.out; have := hs2_.out; have := hs3_.out; have := hs4_.out; have := hs5_.out; have := hs6_.out; have := hs7_.out; have := hs8_.out; have := hs9_.out; have := hs10_.out; have := hs11_.out; have := hs12_.out; have := hs13_.out; have := hs14_.out; have := hs15_.out; have := hs16_.out; have := hs17_.out; have := hs18_.out; have := hs19_.out; have := hs20_.out; have := hs21_.out; have := hs22_.out; have := hs23_.out; have := hs24_.out; have := hs25_.out; have := hs26_.out; have := hs27_.out; have := (HC2_.out i y hy).1 k e; have := (HLO2.out i y hy).1 k e; omega, fun k e => by have := hs0_.out; have := hs1_.out; have := hs2_.out; have := hs3_.out; have := hs4_.out; have := hs5_.out; have := hs6_.out; have := hs7_.out; have := hs8_.out; have := hs9_.out; have := hs10_.out; have := hs11_.out; have := hs12_.out; have := hs13_.out; have := hs14_.out; have := hs15_.out; have := hs16_.out; have := hs17_.out; have := hs18_.out; have := hs19_.out; have := hs20_.out; have := hs21_.out; have := hs22_.out; have := hs23_.out; have := hs24_.out; have := hs25_.out; have := hs26_.out; have := hs27_.out; have := (HC2_.out i y hy).2 k e; have := (HLO2.out i y hy).2 k e; omega⟩)
  replace ho3 := row_keptI ho3 hq (fun k e => by have := hs0_.out; have := hs1_.out; have := hs2_.out; have := hs3_.out; have := hs4_.out; have := hs5_.out; have := hs6_.out; have := hs7_.out; have := hs8_.out; have := hs9_.out; have := hs10_.out; have := hs11_.out; have := hs12_.out; have := hs13_.out; have := hs14_.out; have := hs15_.out; have := hs16_.out; have := hs17_.out; have := hs18_.out; have := hs19_.out; have := hs20_.out; have := hs21_.out; have := hs22_.out; have := hs23_.out; have := hs24_.out; have := hs25_.out; have := hs26_.out; have := hs27_.out; have := HR3.out k e; omega)
  replace ho4 := row_keptI ho4 hq (fun k e => by have := hs0_.out; have := hs1_.out; have := hs2_.out; have := hs3_.out; have := hs4_.out; have := hs5_.out; have := hs6_.out; have := hs7_.out; have := hs8_.out; have := hs9_.out; have := hs10_.out; have := hs11_.out; have := hs12_.out; have := hs13_.out; have := hs14_.out; have := hs15_.out; have := hs16_.out; have := hs17_.out; have := hs18_.out; have := hs19_.out; have := hs20_.out; have := hs21_.out; have := hs22_.out; have := hs23_.out; have := hs24_.out; have := hs25_.out; have := hs26_.out; have := hs27_.out; have := HR4.out k e; omega)
  replace hoi4 := hoi4.keptI hq (fun i y hy => ⟨fun k e => by have := hs0_.out; have := hs1_.out; have := hs2_.out; have := hs3_.out; have := hs4_.out; have := hs5_.out; have := hs6_.out; have := hs7_.out; have := hs8_.out; have := hs9_.out; have := hs10_.out; have := hs11_.out; have := hs12_.out; have := hs13_.out; have := hs14_.out; have := hs15_.out; have := hs16_.out; have := hs17_.out; have := hs18_.out; have := hs19_.out; have := hs20_.out; have := hs21_.out; have := hs22_.out; have := hs23_.out; have := hs24_.out; have := hs25_.out; have := hs26_.out; have := hs27_.out; have := (HC4_.out i y hy).1 k e; have := (HLO4.out i y hy).1 k e; omega, fun k e => by have := hs0_.out; have := hs1_.out; have := hs2_.out; have := hs3_.out; have := hs4_.out; have := hs5_.out; have := hs6_.out; have := hs7_.out; have := hs8_.out; have := hs9_.out; have := hs10_.out; have := hs11_.out; have := hs12_.out; have := hs13_.out; have := hs14_.out; have := hs15_.out; have := hs16_.out; have := hs17_.out; have := hs18_.out; have := hs19_.out; have := hs20_.out; have := hs21_.out; have := hs22_.out; have := hs23_.out; have := hs24_.out; have := hs25_.out; have := hs26_.out; have := hs27_.out; have := (HC4_.out i y hy).2 k e; have := (HLO4.out i y hy).2 k e; omega⟩)
  have hs28_ := Lib.hid (show w19.heap.size ≤ w20.heap.size from hq.size)
  clear hq
  go_wp2_with fail
  refine (eqIntS_same (own_rints ho3) (own_rints ho1) (Nat.le_refl _) (Nat.le_refl _) hN3).mono ?_
  rintro e1 w21 ⟨rfl, hn⟩
  have hs29_ := Lib.hid (show w20.heap.size ≤ w21.heap.size by have hq9 := hn.size; (try simp at hq9); (try simp); omega)
  replace hb := hb.trans (hn.mono hb.size)
  replace ho1 := row_step ho1 hn
  replace ho2 := row_step ho2 hn
  replace hoi2 := hoi2.step hn
  replace ho3 := row_step ho3 hn
  replace ho4 := row_step ho4 hn
  replace hoi4 := hoi4.step hn
  clear hn
  go_wp2_with fail
  refine (eqFormS_same (OwnF.reads ho4 hoi4) (OwnF.reads ho2 hoi2) (by rw [HQE4.out, HQE2.out]) hN4 HBD4.out).mono ?_
  rintro e1 w22 ⟨rfl, hn⟩
  have hs30_ := Lib.hid (show w21.heap.size ≤ w22.heap.size by have hq9 := hn.size; (try simp at hq9); (try simp); omega)
  replace hb := hb.trans (hn.mono hb.size)
  replace ho1 := row_step ho1 hn
  replace ho2 := row_step ho2 hn
  replace hoi2 := hoi2.step hn
  replace ho3 := row_step ho3 hn
  replace ho4 := row_step ho4 hn
  replace hoi4 := hoi4.step hn
  clear hn
  have HAP4 := Lib.hid (owns_apart ho4 ho3 (by decide))
  go_wp2_with fail
  refine (markIntS_any _ _ _ _ _ _ ho3 hN3 (by omega)).mono ?_
  rintro e1 w23 ⟨rfl, ho3, hq⟩
  replace ho4 := kept_of_apart ho4 hq HAP4.out
  replace hoi4 := OIn.grew hoi4 hq HNI4.out
  clear HAP4
  replace hq := KeptI.of_grown hq HR3.out
  replace hb := hb.trans (hq.below (by have := hs0_.out; have := hs1_.out; have := hs2_.out; have := hs3_.out; have := hs4_.out; have := hs5_.out; have := hs6_.out; have := hs7_.out; have := hs8_.out; have := hs9_.out; have := hs10_.out; have := hs11_.out; have := hs12_.out; have := hs13_.out; have := hs14_.out; have := hs15_.out; have := hs16_.out; have := hs17_.out; have := hs18_.out; have := hs19_.out; have := hs20_.out; have := hs21_.out; have := hs22_.out; have := hs23_.out; have := hs24_.out; have := hs25_.out; have := hs26_.out; have := hs27_.out; have := hs28_.out; have := hs29_.out; have := hs30_.out; omega) hb.size)
  replace ho1 := row_keptI ho1 hq (fun k e => by have := hs0_.out; have := hs1_.out; have := hs2_.out; have := hs3_.out; have := hs4_.out; have := hs5_.out; have := hs6_.out; have := hs7_.out; have := hs8_.out; have := hs9_.out; have := hs10_.out; have := hs11_.out; have := hs12_.out; have := hs13_.out; have := hs14_.out; have := hs15_.out; have := hs16_.out; have := hs17_.out; have := hs18_.out; have := hs19_.out; have := hs20_.out; have := hs21_.out; have := hs22_.out; have := hs23_.out; have := hs24_.out; have := hs25_.out; have := hs26_.out; have := hs27_.out; have := hs28_.out; have := hs29_.out; have := hs30_.out; have := HR1.out k e; omega)
  replace ho2 := row_keptI ho2 hq (fun k e => by have := hs0_.out; have := hs1_.out; have := hs2_.out; have := hs3_.out; have := hs4_.out; have := hs5_.out; have := hs6_.out; have := hs7_.out; have := hs8_.out; have := hs9_.out; have := hs10_.out; have := hs11_.out; have := hs12_.out; have := hs13_.out; have := hs14_.out; have := hs15_.out; have := hs16_.out; have := hs17_.out; have := hs18_.out; have := hs19_.out; have := hs20_.out; have := hs21_.out; have := hs22_.out; have := hs23_.out; have := hs24_.out; have := hs25_.out; have := hs26_.out; have := hs27_.out; have := hs28_.out; have := hs29_.out; have := hs30_.out; have := HR2.out k e; omega)
  replace hoi2 := hoi2.keptI hq (fun i y hy => ⟨fun k e => by have := hs0_.out; have := hs1_.out; have := hs2_.out; have := hs3_.out; have := hs4_.out; have := hs5_.out; have := hs6_.out; have := hs7_.out; have := hs8_.out; have := hs9_.out; have := hs10_.out; have := hs11_.out; have := hs12_.out; have := hs13_.out; have := hs14_.out; have := hs15_.out; have := hs16_.out; have := hs17_.out; have := hs18_.out; have := hs19_.out; have := hs20_.out; have := hs21_.out; have := hs22_.out; have := hs23_.out; have := hs24_.out; have := hs25_.out; have := hs26_.out; have := hs27_.out; have := hs28_.out; have := hs29_.out; have := hs30_.out; have := (HC2_.out i y hy).1 k e; have := (HLO2.out i y hy).1 k e; omega, fun k e => by have := hs0_.out; have := hs1_.out; have := hs2_.out; have := hs3_.out; have := hs4_.out; have := hs5_.out; have := hs6_.out; have := hs7_.out; have := hs8_.out; have := hs9_.out; have := hs10_.out; have := hs11_.out; have := hs12_.out; have := hs13_.out; have := hs14_.out; have := hs15_.out; have := hs16_.out; have := hs17_.out; have := hs18_.out; have := hs19_.out; have := hs20_.out; have := hs21_.out; have := hs22_.out; have := hs23_.out; have := hs24_.out; have := hs25_.out; have := hs26_.out; have := hs27_.out; have := hs28_.out; have := hs29_.out; have := hs30_.out; have := (HC2_.out i y hy).2 k e; have := (HLO2.out i y hy).2 k e; omega⟩)
  have hs31_ := Lib.hid (show w22.heap.size ≤ w23.heap.size from hq.size)
  clear hq
  go_wp2_with fail
  refine (markFormS_o ho4 hoi4 hTT4 hN4 (by omega)).mono ?_
  rintro e1 w24 ⟨rfl, hmk4, ho4, hqn⟩
  replace ho3 := row_keptN ho3 hqn (fun k e => HNI4.out k e)
  have hq := KeptN.keptI (lo := w8.heap.size) (hi := w9.heap.size) hqn (fun k hk => by obtain ⟨i, y, hy, hin⟩ := hk; have h8 := HLO4.out i y hy; have h9 := HC4_.out i y hy; exact hin.elim (fun h => ⟨h8.1 k h, h9.1 k h⟩) (fun h => ⟨h8.2 k h, h9.2 k h⟩))
  clear hqn hoi4
  replace hb := hb.trans (hq.below (by have := hs0_.out; have := hs1_.out; have := hs2_.out; have := hs3_.out; have := hs4_.out; have := hs5_.out; have := hs6_.out; have := hs7_.out; have := hs8_.out; have := hs9_.out; have := hs10_.out; have := hs11_.out; have := hs12_.out; have := hs13_.out; have := hs14_.out; have := hs15_.out; have := hs16_.out; have := hs17_.out; have := hs18_.out; have := hs19_.out; have := hs20_.out; have := hs21_.out; have := hs22_.out; have := hs23_.out; have := hs24_.out; have := hs25_.out; have := hs26_.out; have := hs27_.out; have := hs28_.out; have := hs29_.out; have := hs30_.out; have := hs31_.out; omega) hb.size)
  replace ho1 := row_keptI ho1 hq (fun k e => by have := hs0_.out; have := hs1_.out; have := hs2_.out; have := hs3_.out; have := hs4_.out; have := hs5_.out; have := hs6_.out; have := hs7_.out; have := hs8_.out; have := hs9_.out; have := hs10_.out; have := hs11_.out; have := hs12_.out; have := hs13_.out; have := hs14_.out; have := hs15_.out; have := hs16_.out; have := hs17_.out; have := hs18_.out; have := hs19_.out; have := hs20_.out; have := hs21_.out; have := hs22_.out; have := hs23_.out; have := hs24_.out; have := hs25_.out; have := hs26_.out; have := hs27_.out; have := hs28_.out; have := hs29_.out; have := hs30_.out; have := hs31_.out; have := HR1.out k e; omega)
  replace ho2 := row_keptI ho2 hq (fun k e => by have := hs0_.out; have := hs1_.out; have := hs2_.out; have := hs3_.out; have := hs4_.out; have := hs5_.out; have := hs6_.out; have := hs7_.out; have := hs8_.out; have := hs9_.out; have := hs10_.out; have := hs11_.out; have := hs12_.out; have := hs13_.out; have := hs14_.out; have := hs15_.out; have := hs16_.out; have := hs17_.out; have := hs18_.out; have := hs19_.out; have := hs20_.out; have := hs21_.out; have := hs22_.out; have := hs23_.out; have := hs24_.out; have := hs25_.out; have := hs26_.out; have := hs27_.out; have := hs28_.out; have := hs29_.out; have := hs30_.out; have := hs31_.out; have := HR2.out k e; omega)
  replace hoi2 := hoi2.keptI hq (fun i y hy => ⟨fun k e => by have := hs0_.out; have := hs1_.out; have := hs2_.out; have := hs3_.out; have := hs4_.out; have := hs5_.out; have := hs6_.out; have := hs7_.out; have := hs8_.out; have := hs9_.out; have := hs10_.out; have := hs11_.out; have := hs12_.out; have := hs13_.out; have := hs14_.out; have := hs15_.out; have := hs16_.out; have := hs17_.out; have := hs18_.out; have := hs19_.out; have := hs20_.out; have := hs21_.out; have := hs22_.out; have := hs23_.out; have := hs24_.out; have := hs25_.out; have := hs26_.out; have := hs27_.out; have := hs28_.out; have := hs29_.out; have := hs30_.out; have := hs31_.out; have := (HC2_.out i y hy).1 k e; have := (HLO2.out i y hy).1 k e; omega, fun k e => by have := hs0_.out; have := hs1_.out; have := hs2_.out; have := hs3_.out; have := hs4_.out; have := hs5_.out; have := hs6_.out; have := hs7_.out; have := hs8_.out; have := hs9_.out; have := hs10_.out; have := hs11_.out; have := hs12_.out; have := hs13_.out; have := hs14_.out; have := hs15_.out; have := hs16_.out; have := hs17_.out; have := hs18_.out; have := hs19_.out; have := hs20_.out; have := hs21_.out; have := hs22_.out; have := hs23_.out; have := hs24_.out; have := hs25_.out; have := hs26_.out; have := hs27_.out; have := hs28_.out; have := hs29_.out; have := hs30_.out; have := hs31_.out; have := (HC2_.out i y hy).2 k e; have := (HLO2.out i y hy).2 k e; omega⟩)
  have hs32_ := Lib.hid (show w23.heap.size ≤ w24.heap.size from hq.size)
  clear hq
  -- held
  go_wp2_with fail
  refine (heldIntS_any _ _ _ _ _ _ (own_rints ho3) hN3 (by omega)).mono ?_
  rintro e1 wq ⟨rfl, hwq⟩
  subst hwq
  -- held
  go_wp2_with fail
  refine (heldFormS_o ho4 hmk4 hTT4 hN4 (by omega)).mono ?_
  rintro e1 wq ⟨rfl, hwq⟩
  subst hwq
  go_wp2_with fail
  refine (toIntS_any _ _ _ _ xs0 _ (RInts.below hr0 hb) hb.size hm0).mono ?_
  rintro e1 w25 ⟨g10, rfl, hg10, hk10, hn⟩
  have hs33_ := Lib.hid (show w24.heap.size ≤ w25.heap.size by have hq9 := hn.size; (try simp at hq9); (try simp); omega)
  replace hb := hb.trans (hn.mono hb.size)
  replace ho1 := row_step ho1 hn
  replace ho2 := row_step ho2 hn
  replace hoi2 := hoi2.step hn
  replace ho3 := row_step ho3 hn
  replace ho4 := row_step ho4 hn
  replace hmk4 := Mk.step hmk4 hn
  clear hn
  have hs34_ := Lib.hid (show w24.heap.size ≤ g10 ∧ g10 < w25.heap.size from ⟨by (try simp at hg10); omega, hk10.lt⟩)
  clear hg10
  go_wp2_with fail
  refine (toFormS_any _ _ _ _ xs1 _ (hr1.below hb) hb.size hm1 HX1.out).mono ?_
  rintro e1 w26 ⟨g11, Y11, rfl, hg11, hM11, hk11, hO11, hn⟩
  have HM11 := Lib.hid hM11; clear hM11
  replace hO11 := hO11
  have hOx11 := hO11; clear hO11; have hO11 := hOx11; clear hOx11
  have hs35_ := Lib.hid (show w25.heap.size ≤ w26.heap.size by have hq9 := hn.size; (try simp at hq9); (try simp); omega)
  replace hb := hb.trans (hn.mono hb.size)
  replace ho1 := row_step ho1 hn
  replace ho2 := row_step ho2 hn
  replace hoi2 := hoi2.step hn
  replace ho3 := row_step ho3 hn
  replace ho4 := row_step ho4 hn
  replace hmk4 := Mk.step hmk4 hn
  replace hk10 := hk10.below hn hk10.lt
  clear hn
  have hs36_ := Lib.hid (show w25.heap.size ≤ g11 ∧ g11 < w26.heap.size from ⟨by (try simp at hg11); omega, hk11.lt⟩)
  clear hg11
  have HC11 := Lib.hid (show ∀ (i : Nat) (y : FV), Y11[i]? = some y → (∀ j, y.v1.ownBlock = some j → j < w26.heap.size) ∧ (∀ j, y.v2.ownBlock = some j → j < w26.heap.size) from fun i y hy => ⟨fun j hj => ((hO11.lt hy).1 j hj).2, fun j hj => ((hO11.lt hy).2 j hj).2⟩)
  go_wp2_with fail
  refine (toIntS_any _ _ _ _ xs3 _ (RInts.below hr3 hb) hb.size hm3).mono ?_
  rintro e1 w27 ⟨g12, rfl, hg12, hk12, hn⟩
  have hs37_ := Lib.hid (show w26.heap.size ≤ w27.heap.size by have hq9 := hn.size; (try simp at hq9); (try simp); omega)
  replace hb := hb.trans (hn.mono hb.size)
  replace ho1 := row_step ho1 hn
  replace ho2 := row_step ho2 hn
  replace hoi2 := hoi2.step hn
  replace ho3 := row_step ho3 hn
  replace ho4 := row_step ho4 hn
  replace hmk4 := Mk.step hmk4 hn
  replace hk10 := hk10.below hn hk10.lt
  replace hk11 := hk11.below hn hk11.lt
  replace hO11 := hO11.step hn
  clear hn
  have hs38_ := Lib.hid (show w26.heap.size ≤ g12 ∧ g12 < w27.heap.size from ⟨by (try simp at hg12); omega, hk12.lt⟩)
  clear hg12
  go_wp2_with fail
  refine (giveSorts_impl (hk10.rintsN HL0.out) hm0 (AForms.of_copy hk11 hO11 HM11.out HL1.out HX1.out) hm1 hI2 (hk12.rintsN HL3.out) hm3).mono ?_
  rintro e1 w28 ⟨V5, N5, C5, V6, N6, C6, Y6, rfl, ho5, hRF6, hni6, hN5, hn⟩
  clear hk10
  clear hk11
  clear hO11
  clear hk12
  have hs39_ := Lib.hid (show w27.heap.size ≤ w28.heap.size by have hq9 := hn.size; (try simp at hq9); (try simp); omega)
  replace hb := hb.trans (hn.mono hb.size)
  replace ho1 := row_step ho1 hn
  replace ho2 := row_step ho2 hn
  replace hoi2 := hoi2.step hn
  replace ho3 := row_step ho3 hn
  replace ho4 := row_step ho4 hn
  replace hmk4 := Mk.step hmk4 hn
  clear hn
  have HR5 := Lib.hid (show ∀ k, (Value.slice V5 N5 C5).ownBlock = some k → w27.heap.size ≤ k ∧ k < w28.heap.size from fun k e => ⟨by have h9 := (ho5.lt k e).1; (try simp at h9); omega, (ho5.lt k e).2⟩)
  have ho6 := hRF6.row; have hoi6 := hRF6.inn; have HQE6 := Lib.hid hRF6.eq; have hN6 := hRF6.le; have hTT6 := hRF6.tot; have HBD6 := Lib.hid hRF6.bd; have HNI6 := Lib.hid hni6; clear hRF6 hni6
  have HC6_ := Lib.hid (show ∀ (i : Nat) (y : FV), Y6[i]? = some y → (∀ j, y.v1.ownBlock = some j → j < w28.heap.size) ∧ (∀ j, y.v2.ownBlock = some j → j < w28.heap.size) from fun i y hy => ⟨fun j hj => ((hoi6.lt hy).1 j hj).2, fun j hj => ((hoi6.lt hy).2 j hj).2⟩)
  have HLO6 := Lib.hid (show ∀ (i : Nat) (y : FV), Y6[i]? = some y → (∀ j, y.v1.ownBlock = some j → w27.heap.size ≤ j) ∧ (∀ j, y.v2.ownBlock = some j → w27.heap.size ≤ j) from fun i y hy => ⟨fun j hj => by have h9 := ((hoi6.lt hy).1 j hj).1; (try simp at h9); omega, fun j hj => by have h9 := ((hoi6.lt hy).2 j hj).1; (try simp at h9); omega⟩)
  have HR6 := Lib.hid (show ∀ k, (Value.slice V6 N6 C6).ownBlock = some k → w27.heap.size ≤ k ∧ k < w28.heap.size from fun k e => ⟨by have h9 := (ho6.lt k e).1; (try simp at h9); omega, (ho6.lt k e).2⟩)
  go_wp2_with fail
  refine (eqIntS_same (own_rints ho5) (own_rints ho1) (Nat.le_refl _) (Nat.le_refl _) hN5).mono ?_
  rintro e1 w29 ⟨rfl, hn⟩
  have hs40_ := Lib.hid (show w28.heap.size ≤ w29.heap.size by have hq9 := hn.size; (try simp at hq9); (try simp); omega)
  replace hb := hb.trans (hn.mono hb.size)
  replace ho1 := row_step ho1 hn
  replace ho2 := row_step ho2 hn
  replace hoi2 := hoi2.step hn
  replace ho3 := row_step ho3 hn
  replace ho4 := row_step ho4 hn
  replace hmk4 := Mk.step hmk4 hn
  replace ho5 := row_step ho5 hn
  replace ho6 := row_step ho6 hn
  replace hoi6 := hoi6.step hn
  clear hn
  go_wp2_with fail
  refine (eqFormS_same (OwnF.reads ho6 hoi6) (OwnF.reads ho2 hoi2) (by rw [HQE6.out, HQE2.out]) hN6 HBD6.out).mono ?_
  rintro e1 w30 ⟨rfl, hn⟩
  have hs41_ := Lib.hid (show w29.heap.size ≤ w30.heap.size by have hq9 := hn.size; (try simp at hq9); (try simp); omega)
  replace hb := hb.trans (hn.mono hb.size)
  replace ho1 := row_step ho1 hn
  replace ho2 := row_step ho2 hn
  replace hoi2 := hoi2.step hn
  replace ho3 := row_step ho3 hn
  replace ho4 := row_step ho4 hn
  replace hmk4 := Mk.step hmk4 hn
  replace ho5 := row_step ho5 hn
  replace ho6 := row_step ho6 hn
  replace hoi6 := hoi6.step hn
  clear hn
  -- held
  go_wp2_with fail
  refine (heldIntS_any _ _ _ _ _ _ (own_rints ho3) hN3 (by omega)).mono ?_
  rintro e1 wq ⟨rfl, hwq⟩
  subst hwq
  -- held
  go_wp2_with fail
  refine (heldFormS_o ho4 hmk4 hTT4 hN4 (by omega)).mono ?_
  rintro e1 wq ⟨rfl, hwq⟩
  subst hwq
  go_wp2_with fail
  go_ret
  exact ⟨rfl, hb⟩
end Go.Proofs.Ytfemacefkaehjaa
