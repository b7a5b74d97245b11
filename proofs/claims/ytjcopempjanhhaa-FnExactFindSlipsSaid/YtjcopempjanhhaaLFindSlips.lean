/-
  The walk of the law of FindSlips.
-/
import Derived.Test.YtjcopempjanhhaaFs1
import Derived.Test.YtjcopempjanhhaaMBox
import Derived.Test.YtjcopempjanhhaaMMisput
import Derived.Deep.RegionHeld3
namespace Go.Proofs.Ytjcopempjanhhaa
open Go.RowKit
set_option maxRecDepth 100000 in
set_option maxHeartbeats 4000000 in
theorem findSlipsLaw (W : World) (A0 : Option Addr) (n0 cp0 : Nat) (xs0 : List Bx) (hr0 : RBxs W W.heap.size A0 n0 xs0) (hn0 : n0 ≤ maxLen) (hX0 : ∀ m ∈ xs0, m.code.size ≤ maxLen) (A1 : Option Addr) (n1 cp1 : Nat) (xs1 : List Bx) (hr1 : RBxs W W.heap.size A1 n1 xs1) (hn1 : n1 ≤ maxLen) (hX1 : ∀ m ∈ xs1, m.code.size ≤ maxLen) : Calls Try.prog 7 #[.slice A0 n0 cp0, .slice A1 n1 cp1] W fun e W' => e = .returned (.bool true) ∧ Below W.heap.size W W' := by
  unfold maxLen at hn0
  have HL0 := Lib.hid hr0.len
  unfold maxLen at hn1
  have HL1 := Lib.hid hr1.len
  have hb : Below W.heap.size W W := (by (repeat (first | exact Below.refl _ _ | exact hb | apply Below.drew | (refine Below.alloc ?_ (by first | (simp; done) | (simp; omega) | (have := hb.size; simp at this ⊢; omega)) _) | (refine Below.setCell ?_ (by simp) _))))
  by_cases hz0 : szSBx xs0 1048576 < 0
  · go_enter Try.func7, Try.ntmps7
    go_wp2_with fail
    refine (szBoxS_any (RBxs.below hr0 hb |>.more hb.size) (by omega) hX0 (l := 1048576) (by omega)).mono ?_
    rintro e1 w1 ⟨rfl, hn⟩
    have hs0_ := Lib.hid (show W.heap.size ≤ w1.heap.size by have hq9 := hn.size; (try simp at hq9); (try simp); omega)
    replace hb := hb.trans (hn.mono hb.size)
    clear hn
    go_wp2_with fail
    go_ret
    exact ⟨rfl, hb⟩
  have hy0 := szSBx_ok (ms := xs0) (l := 1048576) (by omega) (by omega)
  have hm0 : n0 ≤ 1048576 := by have := HL0.out; omega
  have HX0 := Lib.hid (show ∀ m ∈ xs0, m.code.size ≤ 1048576 from fun m hm => by have := hy0.2.2 m hm; omega)
  have hz0_ : szSBx xs0 1048576 ≤ 1048576 := hy0.2.1
  clear hy0
  by_cases hz1 : szSBx xs1 (szSBx xs0 1048576) < 0
  · go_enter Try.func7, Try.ntmps7
    go_wp2_with fail
    refine (szBoxS_any (RBxs.below hr0 hb |>.more hb.size) (by omega) hX0 (l := 1048576) (by omega)).mono ?_
    rintro e1 w1 ⟨rfl, hn⟩
    have hs0_ := Lib.hid (show W.heap.size ≤ w1.heap.size by have hq9 := hn.size; (try simp at hq9); (try simp); omega)
    replace hb := hb.trans (hn.mono hb.size)
    clear hn
    go_wp2_with fail
    refine (szBoxS_any (RBxs.below hr1 hb |>.more hb.size) (by omega) hX1 (l := (szSBx xs0 1048576)) (by omega)).mono ?_
    rintro e1 w2 ⟨rfl, hn⟩
    have hs1_ := Lib.hid (show w1.heap.size ≤ w2.heap.size by have hq9 := hn.size; (try simp at hq9); (try simp); omega)
    replace hb := hb.trans (hn.mono hb.size)
    clear hn
    go_wp2_with fail
    go_ret
    exact ⟨rfl, hb⟩
  have hy1 := szSBx_ok (ms := xs1) (l := szSBx xs0 1048576) (by omega) (by omega)
  have hm1 : n1 ≤ 1048576 := by have := HL1.out; omega
  have HX1 := Lib.hid (show ∀ m ∈ xs1, m.code.size ≤ 1048576 from fun m hm => by have := hy1.2.2 m hm; omega)
  have hz1_ : szSBx xs1 (szSBx xs0 1048576) ≤ (szSBx xs0 1048576) := hy1.2.1
  clear hy1
  go_enter Try.func7, Try.ntmps7
  go_wp2_with fail
  refine (szBoxS_any (RBxs.below hr0 hb |>.more hb.size) (by omega) hX0 (l := 1048576) (by omega)).mono ?_
  rintro e1 w1 ⟨rfl, hn⟩
  have hs0_ := Lib.hid (show W.heap.size ≤ w1.heap.size by have hq9 := hn.size; (try simp at hq9); (try simp); omega)
  replace hb := hb.trans (hn.mono hb.size)
  clear hn
  go_wp2_with fail
  refine (szBoxS_any (RBxs.below hr1 hb |>.more hb.size) (by omega) hX1 (l := (szSBx xs0 1048576)) (by omega)).mono ?_
  rintro e1 w2 ⟨rfl, hn⟩
  have hs1_ := Lib.hid (show w1.heap.size ≤ w2.heap.size by have hq9 := hn.size; (try simp at hq9); (try simp); omega)
  replace hb := hb.trans (hn.mono hb.size)
  clear hn
  go_wp2_with fail
  refine (toBoxS_any _ _ _ _ xs0 _ (RBxs.below hr0 hb) hb.size hm0).mono ?_
  rintro e1 w3 ⟨g1, rfl, hg1, hk1, hn⟩
  have hs2_ := Lib.hid (show w2.heap.size ≤ w3.heap.size by have hq9 := hn.size; (try simp at hq9); (try simp); omega)
  replace hb := hb.trans (hn.mono hb.size)
  clear hn
  have hs3_ := Lib.hid (show w2.heap.size ≤ g1 ∧ g1 < w3.heap.size from ⟨by (try simp at hg1); omega, hk1.lt⟩)
  clear hg1
  go_wp2_with fail
  refine (toBoxS_any _ _ _ _ xs1 _ (RBxs.below hr1 hb) hb.size hm1).mono ?_
  rintro e1 w4 ⟨g2, rfl, hg2, hk2, hn⟩
  have hs4_ := Lib.hid (show w3.heap.size ≤ w4.heap.size by have hq9 := hn.size; (try simp at hq9); (try simp); omega)
  replace hb := hb.trans (hn.mono hb.size)
  replace hk1 := hk1.below hn hk1.lt
  clear hn
  have hs5_ := Lib.hid (show w3.heap.size ≤ g2 ∧ g2 < w4.heap.size from ⟨by (try simp at hg2); omega, hk2.lt⟩)
  clear hg2
  go_wp2_with fail
  refine (findSlips_spec (RBxs.of_blk hk1 HL0.out) hm0 (Nat.le_refl _) HX0.out (RBxs.of_blk hk2 HL1.out) hm1 (Nat.le_refl _) HX1.out).mono ?_
  rintro e1 w5 ⟨V1, N1, C1, rfl, ho1, hN1, hn⟩
  clear hk1
  clear hk2
  have hs6_ := Lib.hid (show w4.heap.size ≤ w5.heap.size by have hq9 := hn.size; (try simp at hq9); (try simp); omega)
  replace hb := hb.trans (hn.mono hb.size)
  clear hn
  have HR1 := Lib.hid (show ∀ k, (Value.slice V1 N1 C1).ownBlock = some k → w4.heap.size ≤ k ∧ k < w5.heap.size from fun k e => ⟨by have h9 := (ho1.lt k e).1; (try simp at h9); omega, (ho1.lt k e).2⟩)
  go_wp2_with fail
  refine (toBoxS_any _ _ _ _ xs0 _ (RBxs.below hr0 hb) hb.size hm0).mono ?_
  rintro e1 w6 ⟨g3, rfl, hg3, hk3, hn⟩
  have hs7_ := Lib.hid (show w5.heap.size ≤ w6.heap.size by have hq9 := hn.size; (try simp at hq9); (try simp); omega)
  replace hb := hb.trans (hn.mono hb.size)
  replace ho1 := row_step ho1 hn
  clear hn
  have hs8_ := Lib.hid (show w5.heap.size ≤ g3 ∧ g3 < w6.heap.size from ⟨by (try simp at hg3); omega, hk3.lt⟩)
  clear hg3
  go_wp2_with fail
  refine (toBoxS_any _ _ _ _ xs1 _ (RBxs.below hr1 hb) hb.size hm1).mono ?_
  rintro e1 w7 ⟨g4, rfl, hg4, hk4, hn⟩
  have hs9_ := Lib.hid (show w6.heap.size ≤ w7.heap.size by have hq9 := hn.size; (try simp at hq9); (try simp); omega)
  replace hb := hb.trans (hn.mono hb.size)
  replace ho1 := row_step ho1 hn
  replace hk3 := hk3.below hn hk3.lt
  clear hn
  have hs10_ := Lib.hid (show w6.heap.size ≤ g4 ∧ g4 < w7.heap.size from ⟨by (try simp at hg4); omega, hk4.lt⟩)
  clear hg4
  go_wp2_with fail
  refine (findSlips_impl (RBxs.of_blk hk3 HL0.out) hm0 (Nat.le_refl _) HX0.out (RBxs.of_blk hk4 HL1.out) hm1 (Nat.le_refl _) HX1.out).mono ?_
  rintro e1 w8 ⟨V2, N2, C2, rfl, ho2, hN2, hn⟩
  have hs11_ := Lib.hid (show w7.heap.size ≤ w8.heap.size by have hq9 := hn.size; (try simp at hq9); (try simp); omega)
  replace hb := hb.trans (hn.mono hb.size)
  replace ho1 := row_step ho1 hn
  replace hk3 := hk3.below hn hk3.lt
  replace hk4 := hk4.below hn hk4.lt
  clear hn
  have HR2 := Lib.hid (show ∀ k, (Value.slice V2 N2 C2).ownBlock = some k → w7.heap.size ≤ k ∧ k < w8.heap.size from fun k e => ⟨by have h9 := (ho2.lt k e).1; (try simp at h9); omega, (ho2.lt k e).2⟩)
  go_wp2_with fail
  refine (eqMisputS_same (RMsps.of_own ho2) (RMsps.of_own ho1) hN2).mono ?_
  rintro e1 w9 ⟨rfl, hn⟩
  have hs12_ := Lib.hid (show w8.heap.size ≤ w9.heap.size by have hq9 := hn.size; (try simp at hq9); (try simp); omega)
  replace hb := hb.trans (hn.mono hb.size)
  replace ho1 := row_step ho1 hn
  replace hk3 := hk3.below hn hk3.lt
  replace hk4 := hk4.below hn hk4.lt
  replace ho2 := row_step ho2 hn
  clear hn
  go_wp2_with fail
  refine (toBoxS_any _ _ _ _ xs0 _ (RBxs.below hr0 hb) hb.size hm0).mono ?_
  rintro e1 w10 ⟨g5, rfl, hg5, hk5, hn⟩
  have hs13_ := Lib.hid (show w9.heap.size ≤ w10.heap.size by have hq9 := hn.size; (try simp at hq9); (try simp); omega)
  replace hb := hb.trans (hn.mono hb.size)
  replace ho1 := row_step ho1 hn
  replace hk3 := hk3.below hn hk3.lt
  replace hk4 := hk4.below hn hk4.lt
  replace ho2 := row_step ho2 hn
  clear hn
  have hs14_ := Lib.hid (show w9.heap.size ≤ g5 ∧ g5 < w10.heap.size from ⟨by (try simp at hg5); omega, hk5.lt⟩)
  clear hg5
  go_wp2_with fail
  refine (eqBoxS_any _ _ _ _ _ _ _ _ _ (RBxs.of_blk hk3 HL0.out) (RBxs.of_blk hk5 HL0.out) (Nat.le_refl _) (Nat.le_refl _) hm0).mono ?_
  rintro e1 w11 ⟨rfl, hn⟩
  clear hk5
  have hs15_ := Lib.hid (show w10.heap.size ≤ w11.heap.size by have hq9 := hn.size; (try simp at hq9); (try simp); omega)
  replace hb := hb.trans (hn.mono hb.size)
  replace ho1 := row_step ho1 hn
  replace hk3 := hk3.below hn hk3.lt
  replace hk4 := hk4.below hn hk4.lt
  replace ho2 := row_step ho2 hn
  clear hn
  go_wp2_with fail
  refine (toBoxS_any _ _ _ _ xs1 _ (RBxs.below hr1 hb) hb.size hm1).mono ?_
  rintro e1 w12 ⟨g6, rfl, hg6, hk6, hn⟩
  have hs16_ := Lib.hid (show w11.heap.size ≤ w12.heap.size by have hq9 := hn.size; (try simp at hq9); (try simp); omega)
  replace hb := hb.trans (hn.mono hb.size)
  replace ho1 := row_step ho1 hn
  replace hk3 := hk3.below hn hk3.lt
  replace hk4 := hk4.below hn hk4.lt
  replace ho2 := row_step ho2 hn
  clear hn
  have hs17_ := Lib.hid (show w11.heap.size ≤ g6 ∧ g6 < w12.heap.size from ⟨by (try simp at hg6); omega, hk6.lt⟩)
  clear hg6
  go_wp2_with fail
  refine (eqBoxS_any _ _ _ _ _ _ _ _ _ (RBxs.of_blk hk4 HL1.out) (RBxs.of_blk hk6 HL1.out) (Nat.le_refl _) (Nat.le_refl _) hm1).mono ?_
  rintro e1 w13 ⟨rfl, hn⟩
  clear hk6
  have hs18_ := Lib.hid (show w12.heap.size ≤ w13.heap.size by have hq9 := hn.size; (try simp at hq9); (try simp); omega)
  replace hb := hb.trans (hn.mono hb.size)
  replace ho1 := row_step ho1 hn
  replace hk3 := hk3.below hn hk3.lt
  replace hk4 := hk4.below hn hk4.lt
  replace ho2 := row_step ho2 hn
  clear hn
  go_wp2_with fail
  refine (markBoxS_any _ _ _ xs0 _ _ (hk3.row (B := g3) (size := 4) (by rw [flatten_len (size := 4) (by simp [Bx.row]), List.length_map, HL0.out]) (by unfold maxLen; omega) (Nat.le_refl _)) hm0 (by omega)).mono ?_
  rintro e1 w14 ⟨rfl, _, hq⟩
  clear hk3
  replace hq := KeptI.of_grown (lo := g3) (hi := g3 + 1) hq (fun k e => by injection e with e; simp at e; omega)
  replace hb := hb.trans (hq.below (by have := hs0_.out; have := hs1_.out; have := hs2_.out; have := hs3_.out; have := hs4_.out; have := hs5_.out; have := hs6_.out; have := hs7_.out; have := hs8_.out; have := hs9_.out; have := hs10_.out; have := hs11_.out; have := hs12_.out; have := hs13_.out; have := hs14_.out; have := hs15_.out; have := hs16_.out; have := hs17_.out; have := hs18_.out; omega) hb.size)
  replace ho1 := row_keptI ho1 hq (fun k e => by have := hs0_.out; have := hs1_.out; have := hs2_.out; have := hs3_.out; have := hs4_.out; have := hs5_.out; have := hs6_.out; have := hs7_.out; have := hs8_.out; have := hs9_.out; have := hs10_.out; have := hs11_.out; have := hs12_.out; have := hs13_.out; have := hs14_.out; have := hs15_.out; have := hs16_.out; have := hs17_.out; have := hs18_.out; have := HR1.out k e; omega)
  replace hk4 := hk4.keptI hq (by have := hs0_.out; have := hs1_.out; have := hs2_.out; have := hs3_.out; have := hs4_.out; have := hs5_.out; have := hs6_.out; have := hs7_.out; have := hs8_.out; have := hs9_.out; have := hs10_.out; have := hs11_.out; have := hs12_.out; have := hs13_.out; have := hs14_.out; have := hs15_.out; have := hs16_.out; have := hs17_.out; have := hs18_.out; omega)
  replace ho2 := row_keptI ho2 hq (fun k e => by have := hs0_.out; have := hs1_.out; have := hs2_.out; have := hs3_.out; have := hs4_.out; have := hs5_.out; have := hs6_.out; have := hs7_.out; have := hs8_.out; have := hs9_.out; have := hs10_.out; have := hs11_.out; have := hs12_.out; have := hs13_.out; have := hs14_.out; have := hs15_.out; have := hs16_.out; have := hs17_.out; have := hs18_.out; have := HR2.out k e; omega)
  have hs19_ := Lib.hid (show w13.heap.size ≤ w14.heap.size from hq.size)
  clear hq
  go_wp2_with fail
  refine (markBoxS_any _ _ _ xs1 _ _ (hk4.row (B := g4) (size := 4) (by rw [flatten_len (size := 4) (by simp [Bx.row]), List.length_map, HL1.out]) (by unfold maxLen; omega) (Nat.le_refl _)) hm1 (by omega)).mono ?_
  rintro e1 w15 ⟨rfl, _, hq⟩
  clear hk4
  replace hq := KeptI.of_grown (lo := g4) (hi := g4 + 1) hq (fun k e => by injection e with e; simp at e; omega)
  replace hb := hb.trans (hq.below (by have := hs0_.out; have := hs1_.out; have := hs2_.out; have := hs3_.out; have := hs4_.out; have := hs5_.out; have := hs6_.out; have := hs7_.out; have := hs8_.out; have := hs9_.out; have := hs10_.out; have := hs11_.out; have := hs12_.out; have := hs13_.out; have := hs14_.out; have := hs15_.out; have := hs16_.out; have := hs17_.out; have := hs18_.out; have := hs19_.out; omega) hb.size)
  replace ho1 := row_keptI ho1 hq (fun k e => by have := hs0_.out; have := hs1_.out; have := hs2_.out; have := hs3_.out; have := hs4_.out; have := hs5_.out; have := hs6_.out; have := hs7_.out; have := hs8_.out; have := hs9_.out; have := hs10_.out; have := hs11_.out; have := hs12_.out; have := hs13_.out; have := hs14_.out; have := hs15_.out; have := hs16_.out; have := hs17_.out; have := hs18_.out; have := hs19_.out; have := HR1.out k e; omega)
  replace ho2 := row_keptI ho2 hq (fun k e => by have := hs0_.out; have := hs1_.out; have := hs2_.out; have := hs3_.out; have := hs4_.out; have := hs5_.out; have := hs6_.out; have := hs7_.out; have := hs8_.out; have := hs9_.out; have := hs10_.out; have := hs11_.out; have := hs12_.out; have := hs13_.out; have := hs14_.out; have := hs15_.out; have := hs16_.out; have := hs17_.out; have := hs18_.out; have := hs19_.out; have := HR2.out k e; omega)
  have hs20_ := Lib.hid (show w14.heap.size ≤ w15.heap.size from hq.size)
  clear hq
  go_wp2_with fail
  refine (eqMisputS_same (RMsps.of_own ho2) (RMsps.of_own ho1) hN2).mono ?_
  rintro e1 w16 ⟨rfl, hn⟩
  have hs21_ := Lib.hid (show w15.heap.size ≤ w16.heap.size by have hq9 := hn.size; (try simp at hq9); (try simp); omega)
  replace hb := hb.trans (hn.mono hb.size)
  replace ho1 := row_step ho1 hn
  replace ho2 := row_step ho2 hn
  clear hn
  go_wp2_with fail
  refine (markMisputS_any _ _ _ _ _ _ ho2 hN2 (by omega)).mono ?_
  rintro e1 w17 ⟨rfl, ho2, hq⟩
  replace hq := KeptI.of_grown hq HR2.out
  replace hb := hb.trans (hq.below (by have := hs0_.out; have := hs1_.out; have := hs2_.out; have := hs3_.out; have := hs4_.out; have := hs5_.out; have := hs6_.out; have := hs7_.out; have := hs8_.out; have := hs9_.out; have := hs10_.out; have := hs11_.out; have := hs12_.out; have := hs13_.out; have := hs14_.out; have := hs15_.out; have := hs16_.out; have := hs17_.out; have := hs18_.out; have := hs19_.out; have := hs20_.out; have := hs21_.out; omega) hb.size)
  replace ho1 := row_keptI ho1 hq (fun k e => by have := hs0_.out; have := hs1_.out; have := hs2_.out; have := hs3_.out; have := hs4_.out; have := hs5_.out; have := hs6_.out; have := hs7_.out; have := hs8_.out; have := hs9_.out; have := hs10_.out; have := hs11_.out; have := hs12_.out; have := hs13_.out; have := hs14_.out; have := hs15_.out; have := hs16_.out; have := hs17_.out; have := hs18_.out; have := hs19_.out; have := hs20_.out; have := hs21_.out; have := HR1.out k e; omega)
  have hs22_ := Lib.hid (show w16.heap.size ≤ w17.heap.size from hq.size)
  clear hq
  -- held
  go_wp2_with fail
  refine (heldMisputS_any _ _ _ _ _ (RMsps.of_own ho2) hN2 (by omega)).mono ?_
  rintro e1 w18 ⟨rfl, hn⟩
  have hs23_ := Lib.hid (show w17.heap.size ≤ w18.heap.size by have hq9 := hn.size; (try simp at hq9); (try simp); omega)
  replace hb := hb.trans (hn.mono hb.size)
  replace ho1 := row_step ho1 hn
  replace ho2 := row_step ho2 hn
  clear hn
  go_wp2_with fail
  refine (toBoxS_any _ _ _ _ xs0 _ (RBxs.below hr0 hb) hb.size hm0).mono ?_
  rintro e1 w19 ⟨g7, rfl, hg7, hk7, hn⟩
  have hs24_ := Lib.hid (show w18.heap.size ≤ w19.heap.size by have hq9 := hn.size; (try simp at hq9); (try simp); omega)
  replace hb := hb.trans (hn.mono hb.size)
  replace ho1 := row_step ho1 hn
  replace ho2 := row_step ho2 hn
  clear hn
  have hs25_ := Lib.hid (show w18.heap.size ≤ g7 ∧ g7 < w19.heap.size from ⟨by (try simp at hg7); omega, hk7.lt⟩)
  clear hg7
  go_wp2_with fail
  refine (toBoxS_any _ _ _ _ xs1 _ (RBxs.below hr1 hb) hb.size hm1).mono ?_
  rintro e1 w20 ⟨g8, rfl, hg8, hk8, hn⟩
  have hs26_ := Lib.hid (show w19.heap.size ≤ w20.heap.size by have hq9 := hn.size; (try simp at hq9); (try simp); omega)
  replace hb := hb.trans (hn.mono hb.size)
  replace ho1 := row_step ho1 hn
  replace ho2 := row_step ho2 hn
  replace hk7 := hk7.below hn hk7.lt
  clear hn
  have hs27_ := Lib.hid (show w19.heap.size ≤ g8 ∧ g8 < w20.heap.size from ⟨by (try simp at hg8); omega, hk8.lt⟩)
  clear hg8
  go_wp2_with fail
  refine (findSlips_impl (RBxs.of_blk hk7 HL0.out) hm0 (Nat.le_refl _) HX0.out (RBxs.of_blk hk8 HL1.out) hm1 (Nat.le_refl _) HX1.out).mono ?_
  rintro e1 w21 ⟨V3, N3, C3, rfl, ho3, hN3, hn⟩
  clear hk7
  clear hk8
  have hs28_ := Lib.hid (show w20.heap.size ≤ w21.heap.size by have hq9 := hn.size; (try simp at hq9); (try simp); omega)
  replace hb := hb.trans (hn.mono hb.size)
  replace ho1 := row_step ho1 hn
  replace ho2 := row_step ho2 hn
  clear hn
  have HR3 := Lib.hid (show ∀ k, (Value.slice V3 N3 C3).ownBlock = some k → w20.heap.size ≤ k ∧ k < w21.heap.size from fun k e => ⟨by have h9 := (ho3.lt k e).1; (try simp at h9); omega, (ho3.lt k e).2⟩)
  go_wp2_with fail
  refine (eqMisputS_same (RMsps.of_own ho3) (RMsps.of_own ho1) hN3).mono ?_
  rintro e1 w22 ⟨rfl, hn⟩
  have hs29_ := Lib.hid (show w21.heap.size ≤ w22.heap.size by have hq9 := hn.size; (try simp at hq9); (try simp); omega)
  replace hb := hb.trans (hn.mono hb.size)
  replace ho1 := row_step ho1 hn
  replace ho2 := row_step ho2 hn
  replace ho3 := row_step ho3 hn
  clear hn
  -- held
  go_wp2_with fail
  refine (heldMisputS_any _ _ _ _ _ (RMsps.of_own ho2) hN2 (by omega)).mono ?_
  rintro e1 w23 ⟨rfl, hn⟩
  have hs30_ := Lib.hid (show w22.heap.size ≤ w23.heap.size by have hq9 := hn.size; (try simp at hq9); (try simp); omega)
  replace hb := hb.trans (hn.mono hb.size)
  replace ho1 := row_step ho1 hn
  replace ho2 := row_step ho2 hn
  replace ho3 := row_step ho3 hn
  clear hn
  go_wp2_with fail
  go_ret
  exact ⟨rfl, hb⟩
end Go.Proofs.Ytjcopempjanhhaa
