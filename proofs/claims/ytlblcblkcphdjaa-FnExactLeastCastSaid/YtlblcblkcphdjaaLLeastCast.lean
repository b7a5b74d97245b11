/-
  The walk of the law of LeastCast.
-/
import Derived.Test.YtlblcblkcphdjaaSt9
import Derived.Deep.RegionHeld3
namespace Go.Proofs.Ytlblcblkcphdjaa
open Go.RowKit
set_option maxHeartbeats 1000000 in
theorem leastCastLaw (W : World) (A0 : Option Addr) (n0 cp0 : Nat) (xs0 : List Int) (hr0 : RInts W W.heap.size A0 n0 xs0) (hn0 : n0 ≤ maxLen) (_ : ∀ x ∈ xs0, (Lit.int .i64 x).wf = true) (A1 : Option Addr) (n1 cp1 : Nat) (xs1 : List FV) (hr1 : RForms W W.heap.size A1 n1 xs1) (hn1 : n1 ≤ maxLen) (hX1 : ∀ y ∈ xs1, y.f.held.length ≤ maxLen ∧ y.f.wanted.length ≤ maxLen) (k2 : Int) (hI2 : -9223372036854775808 ≤ k2 ∧ k2 ≤ 9223372036854775807) : Calls Try.prog 9 #[.slice A0 n0 cp0, .slice A1 n1 cp1, .int .i64 k2] W fun e W' => e = .returned (.bool true) ∧ Below W.heap.size W W' := by
  unfold maxLen at hn0
  have HL0 := Lib.hid hr0.len
  unfold maxLen at hn1
  have HL1 := Lib.hid hr1.len
  have hb : Below W.heap.size W W := (by (repeat (first | exact Below.refl _ _ | exact hb | apply Below.drew | (refine Below.alloc ?_ (by first | (simp; done) | (simp; omega) | (have := hb.size; simp at this ⊢; omega)) _) | (refine Below.setCell ?_ (by simp) _))))
  by_cases hbig0 : 1048576 < n0
  · go_enter Try.func9, Try.ntmps9
    go_wp2_with fail
    go_ret
    exact ⟨rfl, hb⟩
  have hm0 : n0 ≤ 1048576 := by omega
  by_cases hz1 : szFs xs1 1048576 < 0
  · go_enter Try.func9, Try.ntmps9
    go_wp2_with fail
    refine (szFormS_any (hr1.below hb |>.more hb.size) (by omega) hX1 (l := 1048576) (by omega)).mono ?_
    rintro e1 w1 ⟨rfl, hn⟩
    have hs0_ := Lib.hid (show W.heap.size ≤ w1.heap.size by have hq9 := hn.size; (try simp at hq9); (try simp); omega)
    replace hb := hb.trans (hn.mono hb.size)
    clear hn
    go_wp2_with fail
    go_ret
    exact ⟨rfl, hb⟩
  have hy1 := szFs_ok (xs := xs1) (l := 1048576) (by omega) (by omega)
  have hm1 : n1 ≤ 1048576 := by have := HL1.out; omega
  have hT1 : totF xs1 ≤ 1048576 := by omega
  have HX1 := Lib.hid (show ∀ y ∈ xs1, y.f.held.length ≤ 1048576 ∧ y.f.wanted.length ≤ 1048576 from fun y hy => by have := hy1.2.2 y hy; omega)
  have hz1_ : szFs xs1 1048576 ≤ 1048576 := hy1.2.1
  clear hy1
  go_enter Try.func9, Try.ntmps9
  go_wp2_with fail
  refine (szFormS_any (hr1.below hb |>.more hb.size) (by omega) hX1 (l := 1048576) (by omega)).mono ?_
  rintro e1 w1 ⟨rfl, hn⟩
  have hs0_ := Lib.hid (show W.heap.size ≤ w1.heap.size by have hq9 := hn.size; (try simp at hq9); (try simp); omega)
  replace hb := hb.trans (hn.mono hb.size)
  clear hn
  go_wp2_with fail
  refine (toIntS_any _ _ _ _ xs0 _ (RInts.below hr0 hb) hb.size hm0).mono ?_
  rintro e1 w2 ⟨g1, rfl, hg1, hk1, hn⟩
  have hs1_ := Lib.hid (show w1.heap.size ≤ w2.heap.size by have hq9 := hn.size; (try simp at hq9); (try simp); omega)
  replace hb := hb.trans (hn.mono hb.size)
  clear hn
  have hs2_ := Lib.hid (show w1.heap.size ≤ g1 ∧ g1 < w2.heap.size from ⟨by (try simp at hg1); omega, hk1.lt⟩)
  clear hg1
  go_wp2_with fail
  refine (toFormS_any _ _ _ _ xs1 _ (hr1.below hb) hb.size hm1 HX1.out).mono ?_
  rintro e1 w3 ⟨g2, Y2, rfl, hg2, hM2, hk2, hO2, hn⟩
  have HM2 := Lib.hid hM2; clear hM2
  replace hO2 := hO2
  have hOx2 := hO2; clear hO2; have hO2 := hOx2; clear hOx2
  have hs3_ := Lib.hid (show w2.heap.size ≤ w3.heap.size by have hq9 := hn.size; (try simp at hq9); (try simp); omega)
  replace hb := hb.trans (hn.mono hb.size)
  replace hk1 := hk1.below hn hk1.lt
  clear hn
  have hs4_ := Lib.hid (show w2.heap.size ≤ g2 ∧ g2 < w3.heap.size from ⟨by (try simp at hg2); omega, hk2.lt⟩)
  clear hg2
  have HC2 := Lib.hid (show ∀ (i : Nat) (y : FV), Y2[i]? = some y → (∀ j, y.v1.ownBlock = some j → j < w3.heap.size) ∧ (∀ j, y.v2.ownBlock = some j → j < w3.heap.size) from fun i y hy => ⟨fun j hj => ((hO2.lt hy).1 j hj).2, fun j hj => ((hO2.lt hy).2 j hj).2⟩)
  go_wp2_with fail
  refine (leastCast_spec (hk1.rintsN HL0.out) hm0 (AForms.of_copy hk2 hO2 HM2.out HL1.out HX1.out) hm1 hI2).mono ?_
  rintro e1 w4 ⟨rfl, hn⟩
  clear hk1
  clear hk2
  clear hO2
  have hs5_ := Lib.hid (show w3.heap.size ≤ w4.heap.size by have hq9 := hn.size; (try simp at hq9); (try simp); omega)
  replace hb := hb.trans (hn.mono hb.size)
  clear hn
  go_wp2_with fail
  refine (toIntS_any _ _ _ _ xs0 _ (RInts.below hr0 hb) hb.size hm0).mono ?_
  rintro e1 w5 ⟨g3, rfl, hg3, hk3, hn⟩
  have hs6_ := Lib.hid (show w4.heap.size ≤ w5.heap.size by have hq9 := hn.size; (try simp at hq9); (try simp); omega)
  replace hb := hb.trans (hn.mono hb.size)
  clear hn
  have hs7_ := Lib.hid (show w4.heap.size ≤ g3 ∧ g3 < w5.heap.size from ⟨by (try simp at hg3); omega, hk3.lt⟩)
  clear hg3
  go_wp2_with fail
  refine (toFormS_any _ _ _ _ xs1 _ (hr1.below hb) hb.size hm1 HX1.out).mono ?_
  rintro e1 w6 ⟨g4, Y4, rfl, hg4, hM4, hk4, hO4, hn⟩
  have HM4 := Lib.hid hM4; clear hM4
  replace hO4 := hO4
  have hOx4 := hO4; clear hO4; have hO4 := hOx4; clear hOx4
  have hs8_ := Lib.hid (show w5.heap.size ≤ w6.heap.size by have hq9 := hn.size; (try simp at hq9); (try simp); omega)
  replace hb := hb.trans (hn.mono hb.size)
  replace hk3 := hk3.below hn hk3.lt
  clear hn
  have hs9_ := Lib.hid (show w5.heap.size ≤ g4 ∧ g4 < w6.heap.size from ⟨by (try simp at hg4); omega, hk4.lt⟩)
  clear hg4
  have HC4 := Lib.hid (show ∀ (i : Nat) (y : FV), Y4[i]? = some y → (∀ j, y.v1.ownBlock = some j → j < w6.heap.size) ∧ (∀ j, y.v2.ownBlock = some j → j < w6.heap.size) from fun i y hy => ⟨fun j hj => ((hO4.lt hy).1 j hj).2, fun j hj => ((hO4.lt hy).2 j hj).2⟩)
  go_wp2_with fail
  refine (leastCast_impl (hk3.rintsN HL0.out) hm0 (AForms.of_copy hk4 hO4 HM4.out HL1.out HX1.out) hm1 hI2).mono ?_
  rintro e1 w7 ⟨rfl, hn⟩
  have hs10_ := Lib.hid (show w6.heap.size ≤ w7.heap.size by have hq9 := hn.size; (try simp at hq9); (try simp); omega)
  replace hb := hb.trans (hn.mono hb.size)
  replace hk3 := hk3.below hn hk3.lt
  replace hk4 := hk4.below hn hk4.lt
  replace hO4 := hO4.step hn
  clear hn
  go_wp2_with fail
  refine (toIntS_any _ _ _ _ xs0 _ (RInts.below hr0 hb) hb.size hm0).mono ?_
  rintro e1 w8 ⟨g5, rfl, hg5, hk5, hn⟩
  have hs11_ := Lib.hid (show w7.heap.size ≤ w8.heap.size by have hq9 := hn.size; (try simp at hq9); (try simp); omega)
  replace hb := hb.trans (hn.mono hb.size)
  replace hk3 := hk3.below hn hk3.lt
  replace hk4 := hk4.below hn hk4.lt
  replace hO4 := hO4.step hn
  clear hn
  have hs12_ := Lib.hid (show w7.heap.size ≤ g5 ∧ g5 < w8.heap.size from ⟨by (try simp at hg5); omega, hk5.lt⟩)
  clear hg5
  go_wp2_with fail
  refine (eqIntS_same (hk3.rintsN HL0.out) (hk5.rintsN HL0.out) (Nat.le_refl _) (Nat.le_refl _) hm0).mono ?_
  rintro e1 w9 ⟨rfl, hn⟩
  clear hk5
  have hs13_ := Lib.hid (show w8.heap.size ≤ w9.heap.size by have hq9 := hn.size; (try simp at hq9); (try simp); omega)
  replace hb := hb.trans (hn.mono hb.size)
  replace hk3 := hk3.below hn hk3.lt
  replace hk4 := hk4.below hn hk4.lt
  replace hO4 := hO4.step hn
  clear hn
  go_wp2_with fail
  refine (toFormS_any _ _ _ _ xs1 _ (hr1.below hb) hb.size hm1 HX1.out).mono ?_
  rintro e1 w10 ⟨g6, Y6, rfl, hg6, hM6, hk6, hO6, hn⟩
  have HM6 := Lib.hid hM6; clear hM6
  replace hO6 := hO6
  have hOx6 := hO6; clear hO6; have hO6 := hOx6; clear hOx6
  have hs14_ := Lib.hid (show w9.heap.size ≤ w10.heap.size by have hq9 := hn.size; (try simp at hq9); (try simp); omega)
  replace hb := hb.trans (hn.mono hb.size)
  replace hk3 := hk3.below hn hk3.lt
  replace hk4 := hk4.below hn hk4.lt
  replace hO4 := hO4.step hn
  clear hn
  have hs15_ := Lib.hid (show w9.heap.size ≤ g6 ∧ g6 < w10.heap.size from ⟨by (try simp at hg6); omega, hk6.lt⟩)
  clear hg6
  have HC6 := Lib.hid (show ∀ (i : Nat) (y : FV), Y6[i]? = some y → (∀ j, y.v1.ownBlock = some j → j < w10.heap.size) ∧ (∀ j, y.v2.ownBlock = some j → j < w10.heap.size) from fun i y hy => ⟨fun j hj => ((hO6.lt hy).1 j hj).2, fun j hj => ((hO6.lt hy).2 j hj).2⟩)
  go_wp2_with fail
  refine (eqFormS_any (RForms.of_copy hk4 hO4 (len_of_map HM4.out HL1.out)) (RForms.of_copy hk6 hO6 (len_of_map HM6.out HL1.out)) (Nat.le_refl _) (Nat.le_refl _) (by rw [HM4.out, HM6.out]) hm1 (lens_of_map HM4.out HX1.out)).mono ?_
  rintro e1 w11 ⟨rfl, hn⟩
  clear hk6
  clear hO6
  have hs16_ := Lib.hid (show w10.heap.size ≤ w11.heap.size by have hq9 := hn.size; (try simp at hq9); (try simp); omega)
  replace hb := hb.trans (hn.mono hb.size)
  replace hk3 := hk3.below hn hk3.lt
  replace hk4 := hk4.below hn hk4.lt
  replace hO4 := hO4.step hn
  clear hn
  go_wp2_with fail
  go_ret
  exact ⟨rfl, hb⟩
end Go.Proofs.Ytlblcblkcphdjaa
