/-
  The walk of the law of FinishForm.
-/
import Derived.Test.YtljefnfekbajkaaSt12
import Derived.Deep.RegionHeld3
namespace Go.Proofs.Ytljefnfekbajkaa
open Go.RowKit
set_option maxRecDepth 100000 in
set_option maxHeartbeats 4000000 in
theorem finishFormLaw (W : World) (A0 : Option Addr) (n0 cp0 : Nat) (xs0 : List Int) (hr0 : RInts W W.heap.size A0 n0 xs0) (hn0 : n0 ≤ maxLen) (_ : ∀ x ∈ xs0, (Lit.int .i64 x).wf = true) (A1 : Option Addr) (n1 cp1 : Nat) (xs1 : List FV) (hr1 : RForms W W.heap.size A1 n1 xs1) (hn1 : n1 ≤ maxLen) (hX1 : ∀ y ∈ xs1, y.f.held.length ≤ maxLen ∧ y.f.wanted.length ≤ maxLen) (k2 : Int) (hI2 : -9223372036854775808 ≤ k2 ∧ k2 ≤ 9223372036854775807) : Calls Try.prog 3 #[.slice A0 n0 cp0, .slice A1 n1 cp1, .int .i64 k2] W fun e W' => e = .returned (.bool true) ∧ Below W.heap.size W W' := by
  unfold maxLen at hn0
  have HL0 := Lib.hid hr0.len
  unfold maxLen at hn1
  have HL1 := Lib.hid hr1.len
  have hb : Below W.heap.size W W := (by (repeat (first | exact Below.refl _ _ | exact hb | apply Below.drew | (refine Below.alloc ?_ (by first | (simp; done) | (simp; omega) | (have := hb.size; simp at this ⊢; omega)) _) | (refine Below.setCell ?_ (by simp) _))))
  by_cases hbig0 : 1048576 < n0
  · go_enter Try.func3, Try.ntmps3
    go_wp2_with fail
    go_ret
    exact ⟨rfl, hb⟩
  have hm0 : n0 ≤ 1048576 := by omega
  by_cases hz1 : szFs xs1 1048576 < 0
  · go_enter Try.func3, Try.ntmps3
    go_wp2_with fail
    refine (szFormS_any (hr1.below hb |>.more hb.size) (by omega) hX1 (l := 1048576) (by omega)).mono ?_
    rintro e1 w1 ⟨rfl, hn⟩
    have hs0_ := Lib.hid (show W.heap.size ≤ w1.heap.size by have hq9 := hn.size; (try simp at hq9); (try simp); omega)
    replace hb := hb.trans (hn.mono hb.size)
    clear hn
    go_wp2_with fail
    go_ret
    exact ⟨rfl, hb⟩
  have hy1 := szFs_ok (xs := xs1) (l := 1048576) (by omega) (by omega)
  have hm1 : n1 ≤ 1048576 := by have := HL1.out; omega
  have hT1 : totF xs1 ≤ 1048576 := by omega
  have HX1 := Lib.hid (show ∀ y ∈ xs1, y.f.held.length ≤ 1048576 ∧ y.f.wanted.length ≤ 1048576 from fun y hy => by have := hy1.2.2 y hy; omega)
  have hz1_ : szFs xs1 1048576 ≤ 1048576 := hy1.2.1
  clear hy1
  go_enter Try.func3, Try.ntmps3
  go_wp2_with fail
  refine (szFormS_any (hr1.below hb |>.more hb.size) (by omega) hX1 (l := 1048576) (by omega)).mono ?_
  rintro e1 w1 ⟨rfl, hn⟩
  have hs0_ := Lib.hid (show W.heap.size ≤ w1.heap.size by have hq9 := hn.size; (try simp at hq9); (try simp); omega)
  replace hb := hb.trans (hn.mono hb.size)
  clear hn
  go_wp2_with fail
  refine (toIntS_any _ _ _ _ xs0 _ (RInts.below hr0 hb) hb.size hm0).mono ?_
  rintro e1 w2 ⟨g1, rfl, hg1, hk1, hn⟩
  have hs1_ := Lib.hid (show w1.heap.size ≤ w2.heap.size by have hq9 := hn.size; (try simp at hq9); (try simp); omega)
  replace hb := hb.trans (hn.mono hb.size)
  clear hn
  have hs2_ := Lib.hid (show w1.heap.size ≤ g1 ∧ g1 < w2.heap.size from ⟨by (try simp at hg1); omega, hk1.lt⟩)
  clear hg1
  go_wp2_with fail
  refine (toFormS_any _ _ _ _ xs1 _ (hr1.below hb) hb.size hm1 HX1.out).mono ?_
  rintro e1 w3 ⟨g2, Y2, rfl, hg2, hM2, hk2, hO2, hn⟩
  have HM2 := Lib.hid hM2; clear hM2
  replace hO2 := hO2
  have hOx2 := hO2; clear hO2; have hO2 := hOx2; clear hOx2
  have hs3_ := Lib.hid (show w2.heap.size ≤ w3.heap.size by have hq9 := hn.size; (try simp at hq9); (try simp); omega)
  replace hb := hb.trans (hn.mono hb.size)
  replace hk1 := hk1.below hn hk1.lt
  clear hn
  have hs4_ := Lib.hid (show w2.heap.size ≤ g2 ∧ g2 < w3.heap.size from ⟨by (try simp at hg2); omega, hk2.lt⟩)
  clear hg2
  have HC2 := Lib.hid (show ∀ (i : Nat) (y : FV), Y2[i]? = some y → (∀ j, y.v1.ownBlock = some j → j < w3.heap.size) ∧ (∀ j, y.v2.ownBlock = some j → j < w3.heap.size) from fun i y hy => ⟨fun j hj => ((hO2.lt hy).1 j hj).2, fun j hj => ((hO2.lt hy).2 j hj).2⟩)
  go_wp2_with fail
  refine (finishForm_spec (hk1.rintsN HL0.out) hm0 (AForms.of_copy hk2 hO2 HM2.out HL1.out HX1.out) hm1 hI2).mono ?_
  rintro e1 w4 ⟨V1, N1, C1, V2, N2, C2, Y2, rfl, ho1, hRF2, hni2, hN1, hn⟩
  clear hk1
  clear hk2
  clear hO2
  have hs5_ := Lib.hid (show w3.heap.size ≤ w4.heap.size by have hq9 := hn.size; (try simp at hq9); (try simp); omega)
  replace hb := hb.trans (hn.mono hb.size)
  clear hn
  have HR1 := Lib.hid (show ∀ k, (Value.slice V1 N1 C1).ownBlock = some k → w3.heap.size ≤ k ∧ k < w4.heap.size from fun k e => ⟨by have h9 := (ho1.lt k e).1; (try simp at h9); omega, (ho1.lt k e).2⟩)
  have ho2 := hRF2.row; have hoi2 := hRF2.inn; have HQE2 := Lib.hid hRF2.eq; have hN2 := hRF2.le; have hTT2 := hRF2.tot; have HBD2 := Lib.hid hRF2.bd; have HNI2 := Lib.hid hni2; clear hRF2 hni2
  have HC2_ := Lib.hid (show ∀ (i : Nat) (y : FV), Y2[i]? = some y → (∀ j, y.v1.ownBlock = some j → j < w4.heap.size) ∧ (∀ j, y.v2.ownBlock = some j → j < w4.heap.size) from fun i y hy => ⟨fun j hj => ((hoi2.lt hy).1 j hj).2, fun j hj => ((hoi2.lt hy).2 j hj).2⟩)
  have HLO2 := Lib.hid (show ∀ (i : Nat) (y : FV), Y2[i]? = some y → (∀ j, y.v1.ownBlock = some j → w3.heap.size ≤ j) ∧ (∀ j, y.v2.ownBlock = some j → w3.heap.size ≤ j) from fun i y hy => ⟨fun j hj => by have h9 := ((hoi2.lt hy).1 j hj).1; (try simp at h9); omega, fun j hj => by have h9 := ((hoi2.lt hy).2 j hj).1; (try simp at h9); omega⟩)
  have HR2 := Lib.hid (show ∀ k, (Value.slice V2 N2 C2).ownBlock = some k → w3.heap.size ≤ k ∧ k < w4.heap.size from fun k e => ⟨by have h9 := (ho2.lt k e).1; (try simp at h9); omega, (ho2.lt k e).2⟩)
  go_wp2_with fail
  refine (toIntS_any _ _ _ _ xs0 _ (RInts.below hr0 hb) hb.size hm0).mono ?_
  rintro e1 w5 ⟨g3, rfl, hg3, hk3, hn⟩
  have hs6_ := Lib.hid (show w4.heap.size ≤ w5.heap.size by have hq9 := hn.size; (try simp at hq9); (try simp); omega)
  replace hb := hb.trans (hn.mono hb.size)
  replace ho1 := row_step ho1 hn
  replace ho2 := row_step ho2 hn
  replace hoi2 := hoi2.step hn
  clear hn
  have hs7_ := Lib.hid (show w4.heap.size ≤ g3 ∧ g3 < w5.heap.size from ⟨by (try simp at hg3); omega, hk3.lt⟩)
  clear hg3
  go_wp2_with fail
  refine (toFormS_any _ _ _ _ xs1 _ (hr1.below hb) hb.size hm1 HX1.out).mono ?_
  rintro e1 w6 ⟨g4, Y4, rfl, hg4, hM4, hk4, hO4, hn⟩
  have HM4 := Lib.hid hM4; clear hM4
  replace hO4 := hO4
  have hOx4 := hO4; clear hO4; have hO4 := hOx4; clear hOx4
  have hs8_ := Lib.hid (show w5.heap.size ≤ w6.heap.size by have hq9 := hn.size; (try simp at hq9); (try simp); omega)
  replace hb := hb.trans (hn.mono hb.size)
  replace ho1 := row_step ho1 hn
  replace ho2 := row_step ho2 hn
  replace hoi2 := hoi2.step hn
  replace hk3 := hk3.below hn hk3.lt
  clear hn
  have hs9_ := Lib.hid (show w5.heap.size ≤ g4 ∧ g4 < w6.heap.size from ⟨by (try simp at hg4); omega, hk4.lt⟩)
  clear hg4
  have HC4 := Lib.hid (show ∀ (i : Nat) (y : FV), Y4[i]? = some y → (∀ j, y.v1.ownBlock = some j → j < w6.heap.size) ∧ (∀ j, y.v2.ownBlock = some j → j < w6.heap.size) from fun i y hy => ⟨fun j hj => ((hO4.lt hy).1 j hj).2, fun j hj => ((hO4.lt hy).2 j hj).2⟩)
  go_wp2_with fail
  refine (finishForm_impl (hk3.rintsN HL0.out) hm0 (AForms.of_copy hk4 hO4 HM4.out HL1.out HX1.out) hm1 hI2).mono ?_
  rintro e1 w7 ⟨V3, N3, C3, V4, N4, C4, Y4, rfl, ho3, hRF4, hni4, hN3, hn⟩
  have hs10_ := Lib.hid (show w6.heap.size ≤ w7.heap.size by have hq9 := hn.size; (try simp at hq9); (try simp); omega)
  replace hb := hb.trans (hn.mono hb.size)
  replace ho1 := row_step ho1 hn
  replace ho2 := row_step ho2 hn
  replace hoi2 := hoi2.step hn
  replace hk3 := hk3.below hn hk3.lt
  replace hk4 := hk4.below hn hk4.lt
  replace hO4 := hO4.step hn
  clear hn
  have HR3 := Lib.hid (show ∀ k, (Value.slice V3 N3 C3).ownBlock = some k → w6.heap.size ≤ k ∧ k < w7.heap.size from fun k e => ⟨by have h9 := (ho3.lt k e).1; (try simp at h9); omega, (ho3.lt k e).2⟩)
  have ho4 := hRF4.row; have hoi4 := hRF4.inn; have HQE4 := Lib.hid hRF4.eq; have hN4 := hRF4.le; have hTT4 := hRF4.tot; have HBD4 := Lib.hid hRF4.bd; have HNI4 := Lib.hid hni4; clear hRF4 hni4
  have HC4_ := Lib.hid (show ∀ (i : Nat) (y : FV), Y4[i]? = some y → (∀ j, y.v1.ownBlock = some j → j < w7.heap.size) ∧ (∀ j, y.v2.ownBlock = some j → j < w7.heap.size) from fun i y hy => ⟨fun j hj => ((hoi4.lt hy).1 j hj).2, fun j hj => ((hoi4.lt hy).2 j hj).2⟩)
  have HLO4 := Lib.hid (show ∀ (i : Nat) (y : FV), Y4[i]? = some y → (∀ j, y.v1.ownBlock = some j → w6.heap.size ≤ j) ∧ (∀ j, y.v2.ownBlock = some j → w6.heap.size ≤ j) from fun i y hy => ⟨fun j hj => by have h9 := ((hoi4.lt hy).1 j hj).1; (try simp at h9); omega, fun j hj => by have h9 := ((hoi4.lt hy).2 j hj).1; (try simp at h9); omega⟩)
  have HR4 := Lib.hid (show ∀ k, (Value.slice V4 N4 C4).ownBlock = some k → w6.heap.size ≤ k ∧ k < w7.heap.size from fun k e => ⟨by have h9 := (ho4.lt k e).1; (try simp at h9); omega, (ho4.lt k e).2⟩)
  go_wp2_with fail
  refine (eqIntS_same (own_rints ho3) (own_rints ho1) (Nat.le_refl _) (Nat.le_refl _) hN3).mono ?_
  rintro e1 w8 ⟨rfl, hn⟩
  have hs11_ := Lib.hid (show w7.heap.size ≤ w8.heap.size by have hq9 := hn.size; (try simp at hq9); (try simp); omega)
  replace hb := hb.trans (hn.mono hb.size)
  replace ho1 := row_step ho1 hn
  replace ho2 := row_step ho2 hn
  replace hoi2 := hoi2.step hn
  replace hk3 := hk3.below hn hk3.lt
  replace hk4 := hk4.below hn hk4.lt
  replace hO4 := hO4.step hn
  replace ho3 := row_step ho3 hn
  replace ho4 := row_step ho4 hn
  replace hoi4 := hoi4.step hn
  clear hn
  go_wp2_with fail
  refine (eqFormS_same (OwnF.reads ho4 hoi4) (OwnF.reads ho2 hoi2) (by rw [HQE4.out, HQE2.out]) hN4 HBD4.out).mono ?_
  rintro e1 w9 ⟨rfl, hn⟩
  have hs12_ := Lib.hid (show w8.heap.size ≤ w9.heap.size by have hq9 := hn.size; (try simp at hq9); (try simp); omega)
  replace hb := hb.trans (hn.mono hb.size)
  replace ho1 := row_step ho1 hn
  replace ho2 := row_step ho2 hn
  replace hoi2 := hoi2.step hn
  replace hk3 := hk3.below hn hk3.lt
  replace hk4 := hk4.below hn hk4.lt
  replace hO4 := hO4.step hn
  replace ho3 := row_step ho3 hn
  replace ho4 := row_step ho4 hn
  replace hoi4 := hoi4.step hn
  clear hn
  go_wp2_with fail
  refine (toIntS_any _ _ _ _ xs0 _ (RInts.below hr0 hb) hb.size hm0).mono ?_
  rintro e1 w10 ⟨g5, rfl, hg5, hk5, hn⟩
  have hs13_ := Lib.hid (show w9.heap.size ≤ w10.heap.size by have hq9 := hn.size; (try simp at hq9); (try simp); omega)
  replace hb := hb.trans (hn.mono hb.size)
  replace ho1 := row_step ho1 hn
  replace ho2 := row_step ho2 hn
  replace hoi2 := hoi2.step hn
  replace hk3 := hk3.below hn hk3.lt
  replace hk4 := hk4.below hn hk4.lt
  replace hO4 := hO4.step hn
  replace ho3 := row_step ho3 hn
  replace ho4 := row_step ho4 hn
  replace hoi4 := hoi4.step hn
  clear hn
  have hs14_ := Lib.hid (show w9.heap.size ≤ g5 ∧ g5 < w10.heap.size from ⟨by (try simp at hg5); omega, hk5.lt⟩)
  clear hg5
  go_wp2_with fail
  refine (eqIntS_same (hk3.rintsN HL0.out) (hk5.rintsN HL0.out) (Nat.le_refl _) (Nat.le_refl _) hm0).mono ?_
  rintro e1 w11 ⟨rfl, hn⟩
  clear hk5
  have hs15_ := Lib.hid (show w10.heap.size ≤ w11.heap.size by have hq9 := hn.size; (try simp at hq9); (try simp); omega)
  replace hb := hb.trans (hn.mono hb.size)
  replace ho1 := row_step ho1 hn
  replace ho2 := row_step ho2 hn
  replace hoi2 := hoi2.step hn
  replace hk3 := hk3.below hn hk3.lt
  replace hk4 := hk4.below hn hk4.lt
  replace hO4 := hO4.step hn
  replace ho3 := row_step ho3 hn
  replace ho4 := row_step ho4 hn
  replace hoi4 := hoi4.step hn
  clear hn
  go_wp2_with fail
  refine (toFormS_any _ _ _ _ xs1 _ (hr1.below hb) hb.size hm1 HX1.out).mono ?_
  rintro e1 w12 ⟨g6, Y6, rfl, hg6, hM6, hk6, hO6, hn⟩
  have HM6 := Lib.hid hM6; clear hM6
  replace hO6 := hO6
  have hOx6 := hO6; clear hO6; have hO6 := hOx6; clear hOx6
  have hs16_ := Lib.hid (show w11.heap.size ≤ w12.heap.size by have hq9 := hn.size; (try simp at hq9); (try simp); omega)
  replace hb := hb.trans (hn.mono hb.size)
  replace ho1 := row_step ho1 hn
  replace ho2 := row_step ho2 hn
  replace hoi2 := hoi2.step hn
  replace hk3 := hk3.below hn hk3.lt
  replace hk4 := hk4.below hn hk4.lt
  replace hO4 := hO4.step hn
  replace ho3 := row_step ho3 hn
  replace ho4 := row_step ho4 hn
  replace hoi4 := hoi4.step hn
  clear hn
  have hs17_ := Lib.hid (show w11.heap.size ≤ g6 ∧ g6 < w12.heap.size from ⟨by (try simp at hg6); omega, hk6.lt⟩)
  clear hg6
  have HC6 := Lib.hid (show ∀ (i : Nat) (y : FV), Y6[i]? = some y → (∀ j, y.v1.ownBlock = some j → j < w12.heap.size) ∧ (∀ j, y.v2.ownBlock = some j → j < w12.heap.size) from fun i y hy => ⟨fun j hj => ((hO6.lt hy).1 j hj).2, fun j hj => ((hO6.lt hy).2 j hj).2⟩)
  go_wp2_with fail
  refine (eqFormS_any (RForms.of_copy hk4 hO4 (len_of_map HM4.out HL1.out)) (RForms.of_copy hk6 hO6 (len_of_map HM6.out HL1.out)) (Nat.le_refl _) (Nat.le_refl _) (by rw [HM4.out, HM6.out]) hm1 (lens_of_map HM4.out HX1.out)).mono ?_
  rintro e1 w13 ⟨rfl, hn⟩
  clear hk6
  clear hO6
  have hs18_ := Lib.hid (show w12.heap.size ≤ w13.heap.size by have hq9 := hn.size; (try simp at hq9); (try simp); omega)
  replace hb := hb.trans (hn.mono hb.size)
  replace ho1 := row_step ho1 hn
  replace ho2 := row_step ho2 hn
  replace hoi2 := hoi2.step hn
  replace hk3 := hk3.below hn hk3.lt
  replace hk4 := hk4.below hn hk4.lt
  replace hO4 := hO4.step hn
  replace ho3 := row_step ho3 hn
  replace ho4 := row_step ho4 hn
  replace hoi4 := hoi4.step hn
  clear hn
  go_wp2_with fail
  refine (markIntS_any _ _ _ xs0 _ _ (hk3.row (B := g3) (size := 1) (by simp [HL0.out]) (by unfold maxLen; omega) (Nat.le_refl _)) hm0 (by omega)).mono ?_
  rintro e1 w14 ⟨rfl, _, hq⟩
  clear hk3
  replace hq := KeptI.of_grown (lo := g3) (hi := g3 + 1) hq (fun k e => by injection e with e; simp at e; omega)
  replace hb := hb.trans (hq.below (by have := hs0_.out; have := hs1_.out; have := hs2_.out; have := hs3_.out; have := hs4_.out; have := hs5_.out; have := hs6_.out; have := hs7_.out; have := hs8_.out; have := hs9_.out; have := hs10_.out; have := hs11_.out; have := hs12_.out; have := hs13_.out; have := hs14_.out; have := hs15_.out; have := hs16_.out; have := hs17_.out; have := hs18_.out; omega) hb.size)
  replace ho1 := row_keptI ho1 hq (fun k e => by have := hs0_.out; have := hs1_.out; have := hs2_.out; have := hs3_.out; have := hs4_.out; have := hs5_.out; have := hs6_.out; have := hs7_.out; have := hs8_.out; have := hs9_.out; have := hs10_.out; have := hs11_.out; have := hs12_.out; have := hs13_.out; have := hs14_.out; have := hs15_.out; have := hs16_.out; have := hs17_.out; have := hs18_.out; have := HR1.out k e; omega)
  replace ho2 := row_keptI ho2 hq (fun k e => by have := hs0_.out; have := hs1_.out; have := hs2_.out; have := hs3_.out; have := hs4_.out; have := hs5_.out; have := hs6_.out; have := hs7_.out; have := hs8_.out; have := hs9_.out; have := hs10_.out; have := hs11_.out; have := hs12_.out; have := hs13_.out; have := hs14_.out; have := hs15_.out; have := hs16_.out; have := hs17_.out; have := hs18_.out; have := HR2.out k e; omega)
  replace hoi2 := hoi2.keptI hq (fun i y hy => ⟨fun k e => by have := hs0_.out; have := hs1_.out; have := hs2_.out; have := hs3_.out; have := hs4_.out; have := hs5_.out; have := hs6_.out; have := hs7_.out; have := hs8_.out; have := hs9_.out; have := hs10_.out; have := hs11_.out; have := hs12_.out; have := hs13_.out; have := hs14_.out; have := hs15_.out; have := hs16_.out; have := hs17_.out; have := hs18_.out; have := (HC2_.out i y hy).1 k e; have := (HLO2.out i y hy).1 k e; omega, fun k e => by have := hs0_.out; have := hs1_.out; have := hs2_.out; have := hs3_.out; have := hs4_.out; have := hs5_.out; have := hs6_.out; have := hs7_.out; have := hs8_.out; have := hs9_.out; have := hs10_.out; have := hs11_.out; have := hs12_.out; have := hs13_.out; have := hs14_.out; have := hs15_.out; have := hs16_.out; have := hs17_.out; have := hs18_.out; have := (HC2_.out i y hy).2 k e; have := (HLO2.out i y hy).2 k e; omega⟩)
  replace hk4 := hk4.keptI hq (by have := hs0_.out; have := hs1_.out; have := hs2_.out; have := hs3_.out; have := hs4_.out; have := hs5_.out; have := hs6_.out; have := hs7_.out; have := hs8_.out; have := hs9_.out; have := hs10_.out; have := hs11_.out; have := hs12_.out; have := hs13_.out; have := hs14_.out; have := hs15_.out; have := hs16_.out; have := hs17_.out; have := hs18_.out; omega)
  replace hO4 := hO4.keptI hq (fun i y hy => ⟨fun k e => by have := hs0_.out; have := hs1_.out; have := hs2_.out; have := hs3_.out; have := hs4_.out; have := hs5_.out; have := hs6_.out; have := hs7_.out; have := hs8_.out; have := hs9_.out; have := hs10_.out; have := hs11_.out; have := hs12_.out; have := hs13_.out; have := hs14_.out; have := hs15_.out; have := hs16_.out; have := hs17_.out; have := hs18_.out; have := (HC4.out i y hy).1 k e; have := (hO4.lt hy).1 k e; omega, fun k e => by have := hs0_.out; have := hs1_.out; have := hs2_.out; have := hs3_.out; have := hs4_.out; have := hs5_.out; have := hs6_.out; have := hs7_.out; have := hs8_.out; have := hs9_.out; have := hs10_.out; have := hs11_.out; have := hs12_.out; have := hs13_.out; have := hs14_.out; have := hs15_.out; have := hs16_.out; have := hs17_.out; have := hs18_.out; have := (HC4.out i y hy).2 k e; have := (hO4.lt hy).2 k e; omega⟩)
  replace ho3 := row_keptI ho3 hq (fun k e => by have := hs0_.out; have := hs1_.out; have := hs2_.out; have := hs3_.out; have := hs4_.out; have := hs5_.out; have := hs6_.out; have := hs7_.out; have := hs8_.out; have := hs9_.out; have := hs10_.out; have := hs11_.out; have := hs12_.out; have := hs13_.out; have := hs14_.out; have := hs15_.out; have := hs16_.out; have := hs17_.out; have := hs18_.out; have := HR3.out k e; omega)
  replace ho4 := row_keptI ho4 hq (fun k e => by have := hs0_.out; have := hs1_.out; have := hs2_.out; have := hs3_.out; have := hs4_.out; have := hs5_.out; have := hs6_.out; have := hs7_.out; have := hs8_.out; have := hs9_.out; have := hs10_.out; have := hs11_.out; have := hs12_.out; have := hs13_.out; have := hs14_.out; have := hs15_.out; have := hs16_.out; have := hs17_.out; have := hs18_.out; have := HR4.out k e; omega)
  replace hoi4 := hoi4.keptI hq (fun i y hy => ⟨fun k e => by have := hs0_.out; have := hs1_.out; have := hs2_.out; have := hs3_.out; have := hs4_.out; have := hs5_.out; have := hs6_.out; have := hs7_.out; have := hs8_.out; have := hs9_.out; have := hs10_.out; have := hs11_.out; have := hs12_.out; have := hs13_.out; have := hs14_.out; have := hs15_.out; have := hs16_.out; have := hs17_.out; have := hs18_.out; have := (HC4_.out i y hy).1 k e; have := (HLO4.out i y hy).1 k e; omega, fun k e => by have := hs0_.out; have := hs1_.out; have := hs2_.out; have := hs3_.out; have := hs4_.out; have := hs5_.out; have := hs6_.out; have := hs7_.out; have := hs8_.out; have := hs9_.out; have := hs10_.out; have := hs11_.out; have := hs12_.out; have := hs13_.out; have := hs14_.out; have := hs15_.out; have := hs16_.out; have := hs17_.out; have := hs18_.out; have := (HC4_.out i y hy).2 k e; have := (HLO4.out i y hy).2 k e; omega⟩)
  have hs19_ := Lib.hid (show w13.heap.size ≤ w14.heap.size from hq.size)
  clear hq
  go_wp2_with fail
  refine (markFormS_any (C := w6.heap.size) (len_of_map HM4.out HL1.out) (rows_of_blk hk4) hO4 (out_of_oin hO4) HC4.out (by rw [tot_of_map HM4.out]; exact hT1) hm1 (by omega)).mono ?_
  rintro e1 w15 ⟨rfl, _, hq⟩
  clear hk4 hO4
  replace hb := hb.trans (hq.below (by have := hs0_.out; have := hs1_.out; have := hs2_.out; have := hs3_.out; have := hs4_.out; have := hs5_.out; have := hs6_.out; have := hs7_.out; have := hs8_.out; have := hs9_.out; have := hs10_.out; have := hs11_.out; have := hs12_.out; have := hs13_.out; have := hs14_.out; have := hs15_.out; have := hs16_.out; have := hs17_.out; have := hs18_.out; have := hs19_.out; omega) hb.size)
  replace ho1 := row_keptI ho1 hq (fun k e => by have := hs0_.out; have := hs1_.out; have := hs2_.out; have := hs3_.out; have := hs4_.out; have := hs5_.out; have := hs6_.out; have := hs7_.out; have := hs8_.out; have := hs9_.out; have := hs10_.out; have := hs11_.out; have := hs12_.out; have := hs13_.out; have := hs14_.out; have := hs15_.out; have := hs16_.out; have := hs17_.out; have := hs18_.out; have := hs19_.out; have := HR1.out k e; omega)
  replace ho2 := row_keptI ho2 hq (fun k e => by have := hs0_.out; have := hs1_.out; have := hs2_.out; have := hs3_.out; have := hs4_.out; have := hs5_.out; have := hs6_.out; have := hs7_.out; have := hs8_.out; have := hs9_.out; have := hs10_.out; have := hs11_.out; have := hs12_.out; have := hs13_.out; have := hs14_.out; have := hs15_.out; have := hs16_.out; have := hs17_.out; have := hs18_.out; have := hs19_.out; have := HR2.out k e; omega)
  replace hoi2 := hoi2.keptI hq (fun i y hy => ⟨fun k e => by have := hs0_.out; have := hs1_.out; have := hs2_.out; have := hs3_.out; have := hs4_.out; have := hs5_.out; have := hs6_.out; have := hs7_.out; have := hs8_.out; have := hs9_.out; have := hs10_.out; have := hs11_.out; have := hs12_.out; have := hs13_.out; have := hs14_.out; have := hs15_.out; have := hs16_.out; have := hs17_.out; have := hs18_.out; have := hs19_.out; have := (HC2_.out i y hy).1 k e; have := (HLO2.out i y hy).1 k e; omega, fun k e => by have := hs0_.out; have := hs1_.out; have := hs2_.out; have := hs3_.out; have := hs4_.out; have := hs5_.out; have := hs6_.out; have := hs7_.out; have := hs8_.out; have := hs9_.out; have := hs10_.out; have := hs11_.out; have := hs12_.out; have := hs13_.out; have := hs14_.out; have := hs15_.out; have := hs16_.out; have := hs17_.out; have := hs18_.out; have := hs19_.out; have := (HC2_.out i y hy).2 k e; have := (HLO2.out i y hy).2 k e; omega⟩)
  replace ho3 := row_keptI ho3 hq (fun k e => by have := hs0_.out; have := hs1_.out; have := hs2_.out; have := hs3_.out; have := hs4_.out; have := hs5_.out; have := hs6_.out; have := hs7_.out; have := hs8_.out; have := hs9_.out; have := hs10_.out; have := hs11_.out; have := hs12_.out; have := hs13_.out; have := hs14_.out; have := hs15_.out; have := hs16_.out; have := hs17_.out; have := hs18_.out; have := hs19_.out; have := HR3.out k e; omega)
  replace ho4 := row_keptI ho4 hq (fun k e => by have := hs0_.out; have := hs1_.out; have := hs2_.out; have := hs3_.out; have := hs4_.out; have := hs5_.out; have := hs6_.out; have := hs7_.out; have := hs8_.out; have := hs9_.out; have := hs10_.out; have := hs11_.out; have := hs12_.out; have := hs13_.out; have := hs14_.out; have := hs15_.out; have := hs16_.out; have := hs17_.out; have := hs18_.out; have := hs19_.out; have := HR4.out k e; omega)
  replace hoi4 := hoi4.keptI hq (fun i y hy => ⟨fun k e => by have := hs0_.out; have := hs1_.out; have := hs2_.out; have := hs3_.out; have := hs4_.out; have := hs5_.out; have := hs6_.out; have := hs7_.out; have := hs8_.out; have := hs9_.out; have := hs10_.out; have := hs11_.out; have := hs12_.out; have := hs13_.out; have := hs14_.out; have := hs15_.out; have := hs16_.out; have := hs17_.out; have := hs18_.out; have := hs19_.out; have := (HC4_.out i y hy).1 k e; have := (HLO4.out i y hy).1 k e; omega, fun k e => by have := hs0_.out; have := hs1_.out; have := hs2_.out; have := hs3_.out; have := hs4_.out; have := hs5_.out; have := hs6_.out; have := hs7_.out; have := hs8_.out; have := hs9_.out; have := hs10_.out; have := hs11_.out; have := hs12_.out; have := hs13_.out; have := hs14_.out; have := hs15_.out; have := hs16_.out; have := hs17_.out; have := hs18_.out; have := hs19_.out; have := (HC4_.out i y hy).2 k e; have := (HLO4.out i y hy).2 k e; omega⟩)
  have hs20_ := Lib.hid (show w14.heap.size ≤ w15.heap.size from hq.size)
  clear hq
  go_wp2_with fail
  refine (eqIntS_same (own_rints ho3) (own_rints ho1) (Nat.le_refl _) (Nat.le_refl _) hN3).mono ?_
  rintro e1 w16 ⟨rfl, hn⟩
  have hs21_ := Lib.hid (show w15.heap.size ≤ w16.heap.size by have hq9 := hn.size; (try simp at hq9); (try simp); omega)
  replace hb := hb.trans (hn.mono hb.size)
  replace ho1 := row_step ho1 hn
  replace ho2 := row_step ho2 hn
  replace hoi2 := hoi2.step hn
  replace ho3 := row_step ho3 hn
  replace ho4 := row_step ho4 hn
  replace hoi4 := hoi4.step hn
  clear hn
  go_wp2_with fail
  refine (eqFormS_same (OwnF.reads ho4 hoi4) (OwnF.reads ho2 hoi2) (by rw [HQE4.out, HQE2.out]) hN4 HBD4.out).mono ?_
  rintro e1 w17 ⟨rfl, hn⟩
  have hs22_ := Lib.hid (show w16.heap.size ≤ w17.heap.size by have hq9 := hn.size; (try simp at hq9); (try simp); omega)
  replace hb := hb.trans (hn.mono hb.size)
  replace ho1 := row_step ho1 hn
  replace ho2 := row_step ho2 hn
  replace hoi2 := hoi2.step hn
  replace ho3 := row_step ho3 hn
  replace ho4 := row_step ho4 hn
  replace hoi4 := hoi4.step hn
  clear hn
  have HAP4 := Lib.hid (owns_apart ho4 ho3 (by decide))
  go_wp2_with fail
  refine (markIntS_any _ _ _ _ _ _ ho3 hN3 (by omega)).mono ?_
  rintro e1 w18 ⟨rfl, ho3, hq⟩
  replace ho4 := kept_of_apart ho4 hq HAP4.out
  replace hoi4 := OIn.grew hoi4 hq HNI4.out
  clear HAP4
  replace hq := KeptI.of_grown hq HR3.out
  replace hb := hb.trans (hq.below (by have := hs0_.out; have := hs1_.out; have := hs2_.out; have := hs3_.out; have := hs4_.out; have := hs5_.out; have := hs6_.out; have := hs7_.out; have := hs8_.out; have := hs9_.out; have := hs10_.out; have := hs11_.out; have := hs12_.out; have := hs13_.out; have := hs14_.out; have := hs15_.out; have := hs16_.out; have := hs17_.out; have := hs18_.out; have := hs19_.out; have := hs20_.out; have := hs21_.out; have := hs22_.out; omega) hb.size)
  replace ho1 := row_keptI ho1 hq (fun k e => by have := hs0_.out; have := hs1_.out; have := hs2_.out; have := hs3_.out; have := hs4_.out; have := hs5_.out; have := hs6_.out; have := hs7_.out; have := hs8_.out; have := hs9_.out; have := hs10_.out; have := hs11_.out; have := hs12_.out; have := hs13_.out; have := hs14_.out; have := hs15_.out; have := hs16_.out; have := hs17_.out; have := hs18_.out; have := hs19_.out; have := hs20_.out; have := hs21_.out; have := hs22_.out; have := HR1.out k e; omega)
  replace ho2 := row_keptI ho2 hq (fun k e => by have := hs0_.out; have := hs1_.out; have := hs2_.out; have := hs3_.out; have := hs4_.out; have := hs5_.out; have := hs6_.out; have := hs7_.out; have := hs8_.out; have := hs9_.out; have := hs10_.out; have := hs11_.out; have := hs12_.out; have := hs13_.out; have := hs14_.out; have := hs15_.out; have := hs16_.out; have := hs17_.out; have := hs18_.out; have := hs19_.out; have := hs20_.out; have := hs21_.out; have := hs22_.out; have := HR2.out k e; omega)
  replace hoi2 := hoi2.keptI hq (fun i y hy => ⟨fun k e => by have := hs0_.out; have := hs1_.out; have := hs2_.out; have := hs3_.out; have := hs4_.out; have := hs5_.out; have := hs6_.out; have := hs7_.out; have := hs8_.out; have := hs9_.out; have := hs10_.out; have := hs11_.out; have := hs12_.out; have := hs13_.out; have := hs14_.out; have := hs15_.out; have := hs16_.out; have := hs17_.out; have := hs18_.out; have := hs19_.out; have := hs20_.out; have := hs21_.out; have := hs22_.out; have := (HC2_.out i y hy).1 k e; have := (HLO2.out i y hy).1 k e; omega, fun k e => by have := hs0_.out; have := hs1_.out; have := hs2_.out; have := hs3_.out; have := hs4_.out; have := hs5_.out; have := hs6_.out; have := hs7_.out; have := hs8_.out; have := hs9_.out; have := hs10_.out; have := hs11_.out; have := hs12_.out; have := hs13_.out; have := hs14_.out; have := hs15_.out; have := hs16_.out; have := hs17_.out; have := hs18_.out; have := hs19_.out; have := hs20_.out; have := hs21_.out; have := hs22_.out; have := (HC2_.out i y hy).2 k e; have := (HLO2.out i y hy).2 k e; omega⟩)
  have hs23_ := Lib.hid (show w17.heap.size ≤ w18.heap.size from hq.size)
  clear hq
  go_wp2_with fail
  refine (markFormS_o ho4 hoi4 hTT4 hN4 (by omega)).mono ?_
  rintro e1 w19 ⟨rfl, hmk4, ho4, hqn⟩
  replace ho3 := row_keptN ho3 hqn (fun k e => HNI4.out k e)
  have hq := KeptN.keptI (lo := w6.heap.size) (hi := w7.heap.size) hqn (fun k hk => by obtain ⟨i, y, hy, hin⟩ := hk; have h8 := HLO4.out i y hy; have h9 := HC4_.out i y hy; exact hin.elim (fun h => ⟨h8.1 k h, h9.1 k h⟩) (fun h => ⟨h8.2 k h, h9.2 k h⟩))
  clear hqn hoi4
  replace hb := hb.trans (hq.below (by have := hs0_.out; have := hs1_.out; have := hs2_.out; have := hs3_.out; have := hs4_.out; have := hs5_.out; have := hs6_.out; have := hs7_.out; have := hs8_.out; have := hs9_.out; have := hs10_.out; have := hs11_.out; have := hs12_.out; have := hs13_.out; have := hs14_.out; have := hs15_.out; have := hs16_.out; have := hs17_.out; have := hs18_.out; have := hs19_.out; have := hs20_.out; have := hs21_.out; have := hs22_.out; have := hs23_.out; omega) hb.size)
  replace ho1 := row_keptI ho1 hq (fun k e => by have := hs0_.out; have := hs1_.out; have := hs2_.out; have := hs3_.out; have := hs4_.out; have := hs5_.out; have := hs6_.out; have := hs7_.out; have := hs8_.out; have := hs9_.out; have := hs10_.out; have := hs11_.out; have := hs12_.out; have := hs13_.out; have := hs14_.out; have := hs15_.out; have := hs16_.out; have := hs17_.out; have := hs18_.out; have := hs19_.out; have := hs20_.out; have := hs21_.out; have := hs22_.out; have := hs23_.out; have := HR1.out k e; omega)
  replace ho2 := row_keptI ho2 hq (fun k e => by have := hs0_.out; have := hs1_.out; have := hs2_.out; have := hs3_.out; have := hs4_.out; have := hs5_.out; have := hs6_.out; have := hs7_.out; have := hs8_.out; have := hs9_.out; have := hs10_.out; have := hs11_.out; have := hs12_.out; have := hs13_.out; have := hs14_.out; have := hs15_.out; have := hs16_.out; have := hs17_.out; have := hs18_.out; have := hs19_.out; have := hs20_.out; have := hs21_.out; have := hs22_.out; have := hs23_.out; have := HR2.out k e; omega)
  replace hoi2 := hoi2.keptI hq (fun i y hy => ⟨fun k e => by have := hs0_.out; have := hs1_.out; have := hs2_.out; have := hs3_.out; have := hs4_.out; have := hs5_.out; have := hs6_.out; have := hs7_.out; have := hs8_.out; have := hs9_.out; have := hs10_.out; have := hs11_.out; have := hs12_.out; have := hs13_.out; have := hs14_.out; have := hs15_.out; have := hs16_.out; have := hs17_.out; have := hs18_.out; have := hs19_.out; have := hs20_.out; have := hs21_.out; have := hs22_.out; have := hs23_.out; have := (HC2_.out i y hy).1 k e; have := (HLO2.out i y hy).1 k e; omega, fun k e => by have := hs0_.out; have := hs1_.out; have := hs2_.out; have := hs3_.out; have := hs4_.out; have := hs5_.out; have := hs6_.out; have := hs7_.out; have := hs8_.out; have := hs9_.out; have := hs10_.out; have := hs11_.out; have := hs12_.out; have := hs13_.out; have := hs14_.out; have := hs15_.out; have := hs16_.out; have := hs17_.out; have := hs18_.out; have := hs19_.out; have := hs20_.out; have := hs21_.out; have := hs22_.out; have := hs23_.out; have := (HC2_.out i y hy).2 k e; have := (HLO2.out i y hy).2 k e; omega⟩)
  have hs24_ := Lib.hid (show w18.heap.size ≤ w19.heap.size from hq.size)
  clear hq
  -- held
  go_wp2_with fail
  refine (heldIntS_any _ _ _ _ _ _ (own_rints ho3) hN3 (by omega)).mono ?_
  rintro e1 wq ⟨rfl, hwq⟩
  subst hwq
  -- held
  go_wp2_with fail
  refine (heldFormS_o ho4 hmk4 hTT4 hN4 (by omega)).mono ?_
  rintro e1 wq ⟨rfl, hwq⟩
  subst hwq
  go_wp2_with fail
  refine (toIntS_any _ _ _ _ xs0 _ (RInts.below hr0 hb) hb.size hm0).mono ?_
  rintro e1 w20 ⟨g7, rfl, hg7, hk7, hn⟩
  have hs25_ := Lib.hid (show w19.heap.size ≤ w20.heap.size by have hq9 := hn.size; (try simp at hq9); (try simp); omega)
  replace hb := hb.trans (hn.mono hb.size)
  replace ho1 := row_step ho1 hn
  replace ho2 := row_step ho2 hn
  replace hoi2 := hoi2.step hn
  replace ho3 := row_step ho3 hn
  replace ho4 := row_step ho4 hn
  replace hmk4 := Mk.step hmk4 hn
  clear hn
  have hs26_ := Lib.hid (show w19.heap.size ≤ g7 ∧ g7 < w20.heap.size from ⟨by (try simp at hg7); omega, hk7.lt⟩)
  clear hg7
  go_wp2_with fail
  refine (toFormS_any _ _ _ _ xs1 _ (hr1.below hb) hb.size hm1 HX1.out).mono ?_
  rintro e1 w21 ⟨g8, Y8, rfl, hg8, hM8, hk8, hO8, hn⟩
  have HM8 := Lib.hid hM8; clear hM8
  replace hO8 := hO8
  have hOx8 := hO8; clear hO8; have hO8 := hOx8; clear hOx8
  have hs27_ := Lib.hid (show w20.heap.size ≤ w21.heap.size by have hq9 := hn.size; (try simp at hq9); (try simp); omega)
  replace hb := hb.trans (hn.mono hb.size)
  replace ho1 := row_step ho1 hn
  replace ho2 := row_step ho2 hn
  replace hoi2 := hoi2.step hn
  replace ho3 := row_step ho3 hn
  replace ho4 := row_step ho4 hn
  replace hmk4 := Mk.step hmk4 hn
  replace hk7 := hk7.below hn hk7.lt
  clear hn
  have hs28_ := Lib.hid (show w20.heap.size ≤ g8 ∧ g8 < w21.heap.size from ⟨by (try simp at hg8); omega, hk8.lt⟩)
  clear hg8
  have HC8 := Lib.hid (show ∀ (i : Nat) (y : FV), Y8[i]? = some y → (∀ j, y.v1.ownBlock = some j → j < w21.heap.size) ∧ (∀ j, y.v2.ownBlock = some j → j < w21.heap.size) from fun i y hy => ⟨fun j hj => ((hO8.lt hy).1 j hj).2, fun j hj => ((hO8.lt hy).2 j hj).2⟩)
  go_wp2_with fail
  refine (finishForm_impl (hk7.rintsN HL0.out) hm0 (AForms.of_copy hk8 hO8 HM8.out HL1.out HX1.out) hm1 hI2).mono ?_
  rintro e1 w22 ⟨V5, N5, C5, V6, N6, C6, Y6, rfl, ho5, hRF6, hni6, hN5, hn⟩
  clear hk7
  clear hk8
  clear hO8
  have hs29_ := Lib.hid (show w21.heap.size ≤ w22.heap.size by have hq9 := hn.size; (try simp at hq9); (try simp); omega)
  replace hb := hb.trans (hn.mono hb.size)
  replace ho1 := row_step ho1 hn
  replace ho2 := row_step ho2 hn
  replace hoi2 := hoi2.step hn
  replace ho3 := row_step ho3 hn
  replace ho4 := row_step ho4 hn
  replace hmk4 := Mk.step hmk4 hn
  clear hn
  have HR5 := Lib.hid (show ∀ k, (Value.slice V5 N5 C5).ownBlock = some k → w21.heap.size ≤ k ∧ k < w22.heap.size from fun k e => ⟨by have h9 := (ho5.lt k e).1; (try simp at h9); omega, (ho5.lt k e).2⟩)
  have ho6 := hRF6.row; have hoi6 := hRF6.inn; have HQE6 := Lib.hid hRF6.eq; have hN6 := hRF6.le; have hTT6 := hRF6.tot; have HBD6 := Lib.hid hRF6.bd; have HNI6 := Lib.hid hni6; clear hRF6 hni6
  have HC6_ := Lib.hid (show ∀ (i : Nat) (y : FV), Y6[i]? = some y → (∀ j, y.v1.ownBlock = some j → j < w22.heap.size) ∧ (∀ j, y.v2.ownBlock = some j → j < w22.heap.size) from fun i y hy => ⟨fun j hj => ((hoi6.lt hy).1 j hj).2, fun j hj => ((hoi6.lt hy).2 j hj).2⟩)
  have HLO6 := Lib.hid (show ∀ (i : Nat) (y : FV), Y6[i]? = some y → (∀ j, y.v1.ownBlock = some j → w21.heap.size ≤ j) ∧ (∀ j, y.v2.ownBlock = some j → w21.heap.size ≤ j) from fun i y hy => ⟨fun j hj => by have h9 := ((hoi6.lt hy).1 j hj).1; (try simp at h9); omega, fun j hj => by have h9 := ((hoi6.lt hy).2 j hj).1; (try simp at h9); omega⟩)
  have HR6 := Lib.hid (show ∀ k, (Value.slice V6 N6 C6).ownBlock = some k → w21.heap.size ≤ k ∧ k < w22.heap.size from fun k e => ⟨by have h9 := (ho6.lt k e).1; (try simp at h9); omega, (ho6.lt k e).2⟩)
  go_wp2_with fail
  refine (eqIntS_same (own_rints ho5) (own_rints ho1) (Nat.le_refl _) (Nat.le_refl _) hN5).mono ?_
  rintro e1 w23 ⟨rfl, hn⟩
  have hs30_ := Lib.hid (show w22.heap.size ≤ w23.heap.size by have hq9 := hn.size; (try simp at hq9); (try simp); omega)
  replace hb := hb.trans (hn.mono hb.size)
  replace ho1 := row_step ho1 hn
  replace ho2 := row_step ho2 hn
  replace hoi2 := hoi2.step hn
  replace ho3 := row_step ho3 hn
  replace ho4 := row_step ho4 hn
  replace hmk4 := Mk.step hmk4 hn
  replace ho5 := row_step ho5 hn
  replace ho6 := row_step ho6 hn
  replace hoi6 := hoi6.step hn
  clear hn
  go_wp2_with fail
  refine (eqFormS_same (OwnF.reads ho6 hoi6) (OwnF.reads ho2 hoi2) (by rw [HQE6.out, HQE2.out]) hN6 HBD6.out).mono ?_
  rintro e1 w24 ⟨rfl, hn⟩
  have hs31_ := Lib.hid (show w23.heap.size ≤ w24.heap.size by have hq9 := hn.size; (try simp at hq9); (try simp); omega)
  replace hb := hb.trans (hn.mono hb.size)
  replace ho1 := row_step ho1 hn
  replace ho2 := row_step ho2 hn
  replace hoi2 := hoi2.step hn
  replace ho3 := row_step ho3 hn
  replace ho4 := row_step ho4 hn
  replace hmk4 := Mk.step hmk4 hn
  replace ho5 := row_step ho5 hn
  replace ho6 := row_step ho6 hn
  replace hoi6 := hoi6.step hn
  clear hn
  -- held
  go_wp2_with fail
  refine (heldIntS_any _ _ _ _ _ _ (own_rints ho3) hN3 (by omega)).mono ?_
  rintro e1 wq ⟨rfl, hwq⟩
  subst hwq
  -- held
  go_wp2_with fail
  refine (heldFormS_o ho4 hmk4 hTT4 hN4 (by omega)).mono ?_
  rintro e1 wq ⟨rfl, hwq⟩
  subst hwq
  go_wp2_with fail
  go_ret
  exact ⟨rfl, hb⟩
end Go.Proofs.Ytljefnfekbajkaa
