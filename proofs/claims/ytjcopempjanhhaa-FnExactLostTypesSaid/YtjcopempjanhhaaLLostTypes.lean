/-
  The walk of the law of LostTypes.
-/
import Derived.Test.YtjcopempjanhhaaLt
import Derived.Test.YtjcopempjanhhaaOBox
import Derived.Test.YtjcopempjanhhaaOSetg
import Derived.Deep.RegionHeld3
namespace Go.Proofs.Ytjcopempjanhhaa
open Go.RowKit
set_option maxRecDepth 100000 in
set_option maxHeartbeats 4000000 in
theorem lostTypesLaw (W : World) (A0 : Option Addr) (n0 cp0 : Nat) (xs0 : List Bx) (hr0 : RBxs W W.heap.size A0 n0 xs0) (hn0 : n0 ≤ maxLen) (hX0 : ∀ m ∈ xs0, m.code.size ≤ maxLen) (A1 : Option Addr) (n1 cp1 : Nat) (xs1 : List Bx) (hr1 : RBxs W W.heap.size A1 n1 xs1) (hn1 : n1 ≤ maxLen) (hX1 : ∀ m ∈ xs1, m.code.size ≤ maxLen) (D1 : Option Addr) (m1 cd1 : Nat) (ys1 : List ByteArray) (hs1 : RStrs W W.heap.size D1 m1 ys1) (hmm1 : m1 ≤ maxLen) (hY1 : ∀ s ∈ ys1, s.size ≤ maxLen) : Calls Try.prog 11 #[.slice A0 n0 cp0, .agg #[.slice A1 n1 cp1, .slice D1 m1 cd1]] W fun e W' => e = .returned (.bool true) ∧ Below W.heap.size W W' := by
  unfold maxLen at hn0
  have HL0 := Lib.hid hr0.len
  unfold maxLen at hn1
  have HL1 := Lib.hid hr1.len
  unfold maxLen at hmm1
  have HLs1 := Lib.hid hs1.len
  have hbB1 := Blk.new' W 26 #[.slice A1 n1 cp1, .slice D1 m1 cd1]
  have hb : Below W.heap.size W (W.alloc (.cells #[.slice A1 n1 cp1, .slice D1 m1 cd1] 26)) := (by (repeat (first | exact Below.refl _ _ | exact hb | apply Below.drew | (refine Below.alloc ?_ (by first | (simp; done) | (simp; omega) | (have := hb.size; simp at this ⊢; omega)) _) | (refine Below.setCell ?_ (by simp) _))))
  by_cases hz0 : szSBx xs0 1048576 < 0
  · go_enter Try.func11, Try.ntmps11
    go_wp2_with fail
    refine (szBoxS_any (RBxs.below hr0 hb |>.more hb.size) (by omega) hX0 (l := 1048576) (by omega)).mono ?_
    rintro e1 w1 ⟨rfl, hn⟩
    have hs0_ := Lib.hid (show W.heap.size + 1 ≤ w1.heap.size by have hq9 := hn.size; (try simp at hq9); (try simp); omega)
    replace hb := hb.trans (hn.mono hb.size)
    replace hbB1 := hbB1.below hn hbB1.lt
    clear hn
    go_wp2_with fail
    go_ret
    exact ⟨rfl, hb⟩
  have hy0 := szSBx_ok (ms := xs0) (l := 1048576) (by omega) (by omega)
  have hm0 : n0 ≤ 1048576 := by have := HL0.out; omega
  have HX0 := Lib.hid (show ∀ m ∈ xs0, m.code.size ≤ 1048576 from fun m hm => by have := hy0.2.2 m hm; omega)
  have hz0_ : szSBx xs0 1048576 ≤ 1048576 := hy0.2.1
  clear hy0
  by_cases hz1 : szSet xs1 ys1 (szSBx xs0 1048576) < 0
  · go_enter Try.func11, Try.ntmps11
    go_wp2_with fail
    refine (szBoxS_any (RBxs.below hr0 hb |>.more hb.size) (by omega) hX0 (l := 1048576) (by omega)).mono ?_
    rintro e1 w1 ⟨rfl, hn⟩
    have hs0_ := Lib.hid (show W.heap.size + 1 ≤ w1.heap.size by have hq9 := hn.size; (try simp at hq9); (try simp); omega)
    replace hb := hb.trans (hn.mono hb.size)
    replace hbB1 := hbB1.below hn hbB1.lt
    clear hn
    have pB10 : _ = some (.slice A1 n1 cp1 : Value) := hbB1.cell 0
    have pB11 : _ = some (.slice D1 m1 cd1 : Value) := hbB1.cell 1
    go_wp2_with fail
    refine (szSetting_any (RBxs.below hr1 hb |>.more hb.size) (by omega) hX1 (RStrs.below hs1 hb |>.more hb.size) (by omega) hY1 (l := (szSBx xs0 1048576)) (by omega)).mono ?_
    rintro e1 w2 ⟨rfl, hn⟩
    clear pB10 pB11
    have hs1_ := Lib.hid (show w1.heap.size ≤ w2.heap.size by have hq9 := hn.size; (try simp at hq9); (try simp); omega)
    replace hb := hb.trans (hn.mono hb.size)
    replace hbB1 := hbB1.below hn hbB1.lt
    clear hn
    go_wp2_with fail
    go_ret
    exact ⟨rfl, hb⟩
  have hy1 := szSet_ok (bs := xs1) (ss := ys1) (l := szSBx xs0 1048576) (by omega) (by omega)
  have hm1 : n1 ≤ 1048576 := by have := HL1.out; omega
  have hms1 : m1 ≤ 1048576 := by have := HLs1.out; omega
  have HX1 := Lib.hid (show ∀ m ∈ xs1, m.code.size ≤ 1048576 from fun m hm => by have := hy1.2.2.2.1 m hm; omega)
  have HY1 := Lib.hid (show ∀ m ∈ ys1, m.size ≤ 1048576 from fun m hm => by have := hy1.2.2.2.2 m hm; omega)
  have hz1_ : szSet xs1 ys1 (szSBx xs0 1048576) ≤ (szSBx xs0 1048576) := hy1.2.2.1
  clear hy1
  go_enter Try.func11, Try.ntmps11
  go_wp2_with fail
  refine (szBoxS_any (RBxs.below hr0 hb |>.more hb.size) (by omega) hX0 (l := 1048576) (by omega)).mono ?_
  rintro e1 w1 ⟨rfl, hn⟩
  have hs0_ := Lib.hid (show W.heap.size + 1 ≤ w1.heap.size by have hq9 := hn.size; (try simp at hq9); (try simp); omega)
  replace hb := hb.trans (hn.mono hb.size)
  replace hbB1 := hbB1.below hn hbB1.lt
  clear hn
  have pB10 : _ = some (.slice A1 n1 cp1 : Value) := hbB1.cell 0
  have pB11 : _ = some (.slice D1 m1 cd1 : Value) := hbB1.cell 1
  go_wp2_with fail
  refine (szSetting_any (RBxs.below hr1 hb |>.more hb.size) (by omega) hX1 (RStrs.below hs1 hb |>.more hb.size) (by omega) hY1 (l := (szSBx xs0 1048576)) (by omega)).mono ?_
  rintro e1 w2 ⟨rfl, hn⟩
  clear pB10 pB11
  have hs1_ := Lib.hid (show w1.heap.size ≤ w2.heap.size by have hq9 := hn.size; (try simp at hq9); (try simp); omega)
  replace hb := hb.trans (hn.mono hb.size)
  replace hbB1 := hbB1.below hn hbB1.lt
  clear hn
  have HC := Lib.hid (show ∀ wx, Below w2.heap.size w2 wx → (wx.cell? ⟨W.heap.size, 0, none⟩ = some (.slice A1 n1 cp1) ∧ wx.cell? ⟨W.heap.size, 1, none⟩ = some (.slice D1 m1 cd1)) from fun wx h => ⟨(hbB1.below h hbB1.lt).cell 0, (hbB1.below h hbB1.lt).cell 1⟩)
  go_wp2_with fail
  go_region_held3 (fun wx => Below w2.heap.size w2 wx ∧ (wx.cell? ⟨W.heap.size, 0, none⟩ = some (.slice A1 n1 cp1) ∧ wx.cell? ⟨W.heap.size, 1, none⟩ = some (.slice D1 m1 cd1))) ((first | exact ⟨(Below.refl _ _).drew, HC.out _ (Below.refl _ _).drew⟩ | (have hh : Below _ _ _ ∧ _ := (by assumption); have hh0 := hh.1.trans (hn.mono hh.1.size); exact ⟨hh0, HC.out _ hh0⟩) | assumption | go_keep)) (first
    | (go_at_call 29; (have hh : Below _ _ _ ∧ _ := (by assumption)); refine (toBoxS_any _ _ _ _ xs0 _ (RBxs.below hr0 (hb.trans (hh.1.mono hb.size))) (Nat.le_trans hb.size hh.1.size) hm0).mono ?_; rintro e1 wi3 ⟨gq0, rfl, hgq0, hkq0, hn⟩)
    | (go_at_call 18; (have hh : Below _ _ _ ∧ _ := (by assumption)); refine (toSetting_any ((RBxs.below hr1 (hb.trans (hh.1.mono hb.size))).more (Nat.le_trans hb.size hh.1.size)) hm1 ((RStrs.below hs1 (hb.trans (hh.1.mono hb.size))).more (Nat.le_trans hb.size hh.1.size)) hms1).mono ?_; rintro e1 wi3 ⟨gq1, gqq1, rfl, hgq1, hgqq1, hkq1, hkqq1, hn⟩; replace hkq0 := Blk.below (by exact hkq0) hn (by exact hkq0.lt))
    | (go_at_call 52; (have hh : Below _ _ _ ∧ _ := (by assumption)); refine (lostTypes_spec (by exact (RBxs.of_blk hkq0 HL0.out)) hm0 (Nat.le_refl _) HX0.out (RBxs.of_blk (by exact hkq1) HL1.out) hm1 (Nat.le_refl _) HX1.out (RStrs.of_blk (by exact hkqq1) HLs1.out) hms1 (Nat.le_refl _) HY1.out).mono ?_; rintro e1 wi3 ⟨V1, N1, C1, V2, N2, C2, rfl, ho1, ho2, hN1, hN2, hn⟩; replace ho1 := row_lower ho1 hh.1.size; replace ho2 := own_lower ho2 hh.1.size))
  clear HC
  have hn0 : Below w2.heap.size w2 _ ∧ _ := (by assumption)
  obtain ⟨hn, _⟩ := hn0
  have hs2_ := Lib.hid (show w2.heap.size ≤ wi3.heap.size by have hq9 := hn.size; (try simp at hq9); (try simp); omega)
  replace hb := hb.trans (hn.mono hb.size)
  replace hbB1 := hbB1.below hn hbB1.lt
  clear hn
  have HR1 := Lib.hid (show ∀ k, (Value.slice V1 N1 C1).ownBlock = some k → w2.heap.size ≤ k ∧ k < wi3.heap.size from fun k e => ⟨by have h9 := (ho1.lt k e).1; (try simp at h9); omega, (ho1.lt k e).2⟩)
  have HR2 := Lib.hid (show ∀ k, (Value.slice V2 N2 C2).ownBlock = some k → w2.heap.size ≤ k ∧ k < wi3.heap.size from fun k e => ⟨by have h9 := (ho2.lt k e).1; (try simp at h9); omega, (ho2.lt k e).2⟩)
  have pB10 : _ = some (.slice A1 n1 cp1 : Value) := hbB1.cell 0
  have pB11 : _ = some (.slice D1 m1 cd1 : Value) := hbB1.cell 1
  go_wp2_with fail
  refine (toBoxS_any _ _ _ _ xs0 _ (RBxs.below hr0 hb) hb.size hm0).mono ?_
  rintro e1 w5 ⟨g1, rfl, hg1, hk1, hn⟩
  clear pB10 pB11
  have hs3_ := Lib.hid (show wi3.heap.size ≤ w5.heap.size by have hq9 := hn.size; (try simp at hq9); (try simp); omega)
  replace hb := hb.trans (hn.mono hb.size)
  replace hbB1 := hbB1.below hn hbB1.lt
  replace ho1 := row_step ho1 hn
  replace ho2 := row_step ho2 hn
  clear hn
  have hs4_ := Lib.hid (show wi3.heap.size ≤ g1 ∧ g1 < w5.heap.size from ⟨by (try simp at hg1); omega, hk1.lt⟩)
  clear hg1
  have pB10 : _ = some (.slice A1 n1 cp1 : Value) := hbB1.cell 0
  have pB11 : _ = some (.slice D1 m1 cd1 : Value) := hbB1.cell 1
  go_wp2_with fail
  refine (toSetting_any (RBxs.below hr1 hb |>.more hb.size) hm1 (RStrs.below hs1 hb |>.more hb.size) hms1).mono ?_
  rintro e1 w6 ⟨g2, gg2, rfl, hg2, hgg2, hk2, hkk2, hn⟩
  clear pB10 pB11
  have hs5_ := Lib.hid (show w5.heap.size ≤ w6.heap.size by have hq9 := hn.size; (try simp at hq9); (try simp); omega)
  replace hb := hb.trans (hn.mono hb.size)
  replace hbB1 := hbB1.below hn hbB1.lt
  replace ho1 := row_step ho1 hn
  replace ho2 := row_step ho2 hn
  replace hk1 := hk1.below hn hk1.lt
  clear hn
  have hs6_ := Lib.hid (show w5.heap.size ≤ g2 ∧ g2 < gg2 ∧ gg2 < w6.heap.size from ⟨by (try simp at hg2); omega, hgg2, hkk2.lt⟩)
  clear hg2 hgg2
  have hbXx1 := Blk.new' w6 31 #[.slice (some ⟨g2, 0, none⟩) n1 n1, .slice (some ⟨gg2, 0, none⟩) m1 m1]
  replace hb := hb.alloc hb.size (.cells #[.slice (some ⟨g2, 0, none⟩) n1 n1, .slice (some ⟨gg2, 0, none⟩) m1 m1] 31)
  replace hbB1 := hbB1.alloc (.cells #[.slice (some ⟨g2, 0, none⟩) n1 n1, .slice (some ⟨gg2, 0, none⟩) m1 m1] 31)
  replace ho1 := row_alloc ho1 (.cells #[.slice (some ⟨g2, 0, none⟩) n1 n1, .slice (some ⟨gg2, 0, none⟩) m1 m1] 31)
  replace ho2 := row_alloc ho2 (.cells #[.slice (some ⟨g2, 0, none⟩) n1 n1, .slice (some ⟨gg2, 0, none⟩) m1 m1] 31)
  replace hk1 := hk1.alloc (.cells #[.slice (some ⟨g2, 0, none⟩) n1 n1, .slice (some ⟨gg2, 0, none⟩) m1 m1] 31)
  replace hk2 := hk2.alloc (.cells #[.slice (some ⟨g2, 0, none⟩) n1 n1, .slice (some ⟨gg2, 0, none⟩) m1 m1] 31)
  replace hkk2 := hkk2.alloc (.cells #[.slice (some ⟨g2, 0, none⟩) n1 n1, .slice (some ⟨gg2, 0, none⟩) m1 m1] 31)
  have pB10 : _ = some (.slice A1 n1 cp1 : Value) := hbB1.cell 0
  have pB11 : _ = some (.slice D1 m1 cd1 : Value) := hbB1.cell 1
  have pXx10 : _ = some (.slice (some ⟨g2, 0, none⟩) n1 n1 : Value) := hbXx1.cell 0
  have pXx11 : _ = some (.slice (some ⟨gg2, 0, none⟩) m1 m1 : Value) := hbXx1.cell 1
  go_wp2_with fail
  refine (lostTypes_impl (RBxs.of_blk hk1 HL0.out) hm0 (Nat.le_refl _) HX0.out (RBxs.of_blk hk2 HL1.out) hm1 (Nat.le_refl _) HX1.out (RStrs.of_blk hkk2 HLs1.out) hms1 (Nat.le_refl _) HY1.out).mono ?_
  rintro e1 w7 ⟨V3, N3, C3, V4, N4, C4, rfl, ho3, ho4, hN3, hN4, hn⟩
  clear pB10 pB11 pXx10 pXx11
  have hs7_ := Lib.hid (show w6.heap.size + 1 ≤ w7.heap.size by have hq9 := hn.size; (try simp at hq9); (try simp); omega)
  replace hb := hb.trans (hn.mono hb.size)
  replace hbB1 := hbB1.below hn hbB1.lt
  replace hbXx1 := hbXx1.below hn hbXx1.lt
  replace ho1 := row_step ho1 hn
  replace ho2 := row_step ho2 hn
  replace hk1 := hk1.below hn hk1.lt
  replace hk2 := hk2.below hn hk2.lt
  replace hkk2 := hkk2.below hn hkk2.lt
  clear hn
  have HR3 := Lib.hid (show ∀ k, (Value.slice V3 N3 C3).ownBlock = some k → w6.heap.size + 1 ≤ k ∧ k < w7.heap.size from fun k e => ⟨by have h9 := (ho3.lt k e).1; (try simp at h9); omega, (ho3.lt k e).2⟩)
  have HR4 := Lib.hid (show ∀ k, (Value.slice V4 N4 C4).ownBlock = some k → w6.heap.size + 1 ≤ k ∧ k < w7.heap.size from fun k e => ⟨by have h9 := (ho4.lt k e).1; (try simp at h9); omega, (ho4.lt k e).2⟩)
  have pB10 : _ = some (.slice A1 n1 cp1 : Value) := hbB1.cell 0
  have pB11 : _ = some (.slice D1 m1 cd1 : Value) := hbB1.cell 1
  have pXx10 : _ = some (.slice (some ⟨g2, 0, none⟩) n1 n1 : Value) := hbXx1.cell 0
  have pXx11 : _ = some (.slice (some ⟨gg2, 0, none⟩) m1 m1 : Value) := hbXx1.cell 1
  go_wp2_with fail
  refine (eqStringS_same (RStrs.of_own ho3) (RStrs.of_own ho1) hN3).mono ?_
  rintro e1 w8 ⟨rfl, hn⟩
  clear pB10 pB11 pXx10 pXx11
  have hs8_ := Lib.hid (show w7.heap.size ≤ w8.heap.size by have hq9 := hn.size; (try simp at hq9); (try simp); omega)
  replace hb := hb.trans (hn.mono hb.size)
  replace hbB1 := hbB1.below hn hbB1.lt
  replace hbXx1 := hbXx1.below hn hbXx1.lt
  replace ho1 := row_step ho1 hn
  replace ho2 := row_step ho2 hn
  replace hk1 := hk1.below hn hk1.lt
  replace hk2 := hk2.below hn hk2.lt
  replace hkk2 := hkk2.below hn hkk2.lt
  replace ho3 := row_step ho3 hn
  replace ho4 := row_step ho4 hn
  clear hn
  have pB10 : _ = some (.slice A1 n1 cp1 : Value) := hbB1.cell 0
  have pB11 : _ = some (.slice D1 m1 cd1 : Value) := hbB1.cell 1
  have pXx10 : _ = some (.slice (some ⟨g2, 0, none⟩) n1 n1 : Value) := hbXx1.cell 0
  have pXx11 : _ = some (.slice (some ⟨gg2, 0, none⟩) m1 m1 : Value) := hbXx1.cell 1
  go_wp2_with fail
  refine (eqIntS_same (own_rints ho4) (own_rints ho2) (Nat.le_refl _) (Nat.le_refl _) hN4).mono ?_
  rintro e1 w9 ⟨rfl, hn⟩
  clear pB10 pB11 pXx10 pXx11
  have hs9_ := Lib.hid (show w8.heap.size ≤ w9.heap.size by have hq9 := hn.size; (try simp at hq9); (try simp); omega)
  replace hb := hb.trans (hn.mono hb.size)
  replace hbB1 := hbB1.below hn hbB1.lt
  replace hbXx1 := hbXx1.below hn hbXx1.lt
  replace ho1 := row_step ho1 hn
  replace ho2 := row_step ho2 hn
  replace hk1 := hk1.below hn hk1.lt
  replace hk2 := hk2.below hn hk2.lt
  replace hkk2 := hkk2.below hn hkk2.lt
  replace ho3 := row_step ho3 hn
  replace ho4 := row_step ho4 hn
  clear hn
  have pB10 : _ = some (.slice A1 n1 cp1 : Value) := hbB1.cell 0
  have pB11 : _ = some (.slice D1 m1 cd1 : Value) := hbB1.cell 1
  have pXx10 : _ = some (.slice (some ⟨g2, 0, none⟩) n1 n1 : Value) := hbXx1.cell 0
  have pXx11 : _ = some (.slice (some ⟨gg2, 0, none⟩) m1 m1 : Value) := hbXx1.cell 1
  go_wp2_with fail
  refine (toBoxS_any _ _ _ _ xs0 _ (RBxs.below hr0 hb) hb.size hm0).mono ?_
  rintro e1 w10 ⟨g3, rfl, hg3, hk3, hn⟩
  clear pB10 pB11 pXx10 pXx11
  have hs10_ := Lib.hid (show w9.heap.size ≤ w10.heap.size by have hq9 := hn.size; (try simp at hq9); (try simp); omega)
  replace hb := hb.trans (hn.mono hb.size)
  replace hbB1 := hbB1.below hn hbB1.lt
  replace hbXx1 := hbXx1.below hn hbXx1.lt
  replace ho1 := row_step ho1 hn
  replace ho2 := row_step ho2 hn
  replace hk1 := hk1.below hn hk1.lt
  replace hk2 := hk2.below hn hk2.lt
  replace hkk2 := hkk2.below hn hkk2.lt
  replace ho3 := row_step ho3 hn
  replace ho4 := row_step ho4 hn
  clear hn
  have hs11_ := Lib.hid (show w9.heap.size ≤ g3 ∧ g3 < w10.heap.size from ⟨by (try simp at hg3); omega, hk3.lt⟩)
  clear hg3
  have pB10 : _ = some (.slice A1 n1 cp1 : Value) := hbB1.cell 0
  have pB11 : _ = some (.slice D1 m1 cd1 : Value) := hbB1.cell 1
  have pXx10 : _ = some (.slice (some ⟨g2, 0, none⟩) n1 n1 : Value) := hbXx1.cell 0
  have pXx11 : _ = some (.slice (some ⟨gg2, 0, none⟩) m1 m1 : Value) := hbXx1.cell 1
  go_wp2_with fail
  refine (eqBoxS_any _ _ _ _ _ _ _ _ _ (RBxs.of_blk hk1 HL0.out) (RBxs.of_blk hk3 HL0.out) (Nat.le_refl _) (Nat.le_refl _) hm0).mono ?_
  rintro e1 w11 ⟨rfl, hn⟩
  clear pB10 pB11 pXx10 pXx11
  clear hk3
  have hs12_ := Lib.hid (show w10.heap.size ≤ w11.heap.size by have hq9 := hn.size; (try simp at hq9); (try simp); omega)
  replace hb := hb.trans (hn.mono hb.size)
  replace hbB1 := hbB1.below hn hbB1.lt
  replace hbXx1 := hbXx1.below hn hbXx1.lt
  replace ho1 := row_step ho1 hn
  replace ho2 := row_step ho2 hn
  replace hk1 := hk1.below hn hk1.lt
  replace hk2 := hk2.below hn hk2.lt
  replace hkk2 := hkk2.below hn hkk2.lt
  replace ho3 := row_step ho3 hn
  replace ho4 := row_step ho4 hn
  clear hn
  have HC := Lib.hid (show ∀ wx, Below w11.heap.size w11 wx → (wx.cell? ⟨w6.heap.size, 0, none⟩ = some (.slice (some ⟨g2, 0, none⟩) n1 n1) ∧ wx.cell? ⟨w6.heap.size, 1, none⟩ = some (.slice (some ⟨gg2, 0, none⟩) m1 m1)) ∧ (wx.cell? ⟨W.heap.size, 0, none⟩ = some (.slice A1 n1 cp1) ∧ wx.cell? ⟨W.heap.size, 1, none⟩ = some (.slice D1 m1 cd1)) from fun wx h => ⟨⟨(hbXx1.below h hbXx1.lt).cell 0, (hbXx1.below h hbXx1.lt).cell 1⟩, ⟨(hbB1.below h hbB1.lt).cell 0, (hbB1.below h hbB1.lt).cell 1⟩⟩)
  go_wp2_with fail
  go_region_held3 (fun wx => Below w11.heap.size w11 wx ∧ (wx.cell? ⟨w6.heap.size, 0, none⟩ = some (.slice (some ⟨g2, 0, none⟩) n1 n1) ∧ wx.cell? ⟨w6.heap.size, 1, none⟩ = some (.slice (some ⟨gg2, 0, none⟩) m1 m1)) ∧ (wx.cell? ⟨W.heap.size, 0, none⟩ = some (.slice A1 n1 cp1) ∧ wx.cell? ⟨W.heap.size, 1, none⟩ = some (.slice D1 m1 cd1))) ((first | exact ⟨(Below.refl _ _).drew, HC.out _ (Below.refl _ _).drew⟩ | (have hh : Below _ _ _ ∧ _ := (by assumption); have hh0 := hh.1.trans (hn.mono hh.1.size); exact ⟨hh0, HC.out _ hh0⟩) | assumption | go_keep)) (first
    | (go_at_call 18; (have hh : Below _ _ _ ∧ _ := (by assumption)); refine (toSetting_any ((RBxs.below hr1 (hb.trans (hh.1.mono hb.size))).more (Nat.le_trans hb.size hh.1.size)) hm1 ((RStrs.below hs1 (hb.trans (hh.1.mono hb.size))).more (Nat.le_trans hb.size hh.1.size)) hms1).mono ?_; rintro e1 wi12 ⟨gq, gqq, rfl, hgq, hgqq, hkq, hkqq, hn⟩)
    | (go_at_call 20; (have hh : Below _ _ _ ∧ _ := (by assumption)); refine (eqSetting_any ((RBxs.below (RBxs.of_blk hk2 HL1.out) hh.1).more hh.1.size) ((RStrs.below (RStrs.of_blk hkk2 HLs1.out) hh.1).more hh.1.size) (RBxs.of_blk (by exact hkq) HL1.out) (RStrs.of_blk (by exact hkqq) HLs1.out) hm1 hms1).mono ?_; rintro e1 wi12 ⟨rfl, hn⟩))
  clear HC
  have hn0 : Below w11.heap.size w11 _ ∧ _ := (by assumption)
  obtain ⟨hn, _⟩ := hn0
  have hs13_ := Lib.hid (show w11.heap.size ≤ wi12.heap.size by have hq9 := hn.size; (try simp at hq9); (try simp); omega)
  replace hb := hb.trans (hn.mono hb.size)
  replace hbB1 := hbB1.below hn hbB1.lt
  replace hbXx1 := hbXx1.below hn hbXx1.lt
  replace ho1 := row_step ho1 hn
  replace ho2 := row_step ho2 hn
  replace hk1 := hk1.below hn hk1.lt
  replace hk2 := hk2.below hn hk2.lt
  replace hkk2 := hkk2.below hn hkk2.lt
  replace ho3 := row_step ho3 hn
  replace ho4 := row_step ho4 hn
  clear hn
  have pB10 : _ = some (.slice A1 n1 cp1 : Value) := hbB1.cell 0
  have pB11 : _ = some (.slice D1 m1 cd1 : Value) := hbB1.cell 1
  have pXx10 : _ = some (.slice (some ⟨g2, 0, none⟩) n1 n1 : Value) := hbXx1.cell 0
  have pXx11 : _ = some (.slice (some ⟨gg2, 0, none⟩) m1 m1 : Value) := hbXx1.cell 1
  go_wp2_with fail
  refine (markBoxS_any _ _ _ xs0 _ _ (hk1.row (B := g1) (size := 4) (by rw [flatten_len (size := 4) (by simp [Bx.row]), List.length_map, HL0.out]) (by unfold maxLen; omega) (Nat.le_refl _)) hm0 (by omega)).mono ?_
  rintro e1 w13 ⟨rfl, _, hq⟩
  clear pB10 pB11 pXx10 pXx11
  clear hk1
  replace hq := KeptI.of_grown (lo := g1) (hi := g1 + 1) hq (fun k e => by injection e with e; simp at e; omega)
  replace hb := hb.trans (hq.below (by have := hs0_.out; have := hs1_.out; have := hs2_.out; have := hs3_.out; have := hs4_.out; have := hs5_.out; have := hs6_.out; have := hs7_.out; have := hs8_.out; have := hs9_.out; have := hs10_.out; have := hs11_.out; have := hs12_.out; have := hs13_.out; omega) hb.size)
  replace hbB1 := hbB1.keptI hq (by have := hs0_.out; have := hs1_.out; have := hs2_.out; have := hs3_.out; have := hs4_.out; have := hs5_.out; have := hs6_.out; have := hs7_.out; have := hs8_.out; have := hs9_.out; have := hs10_.out; have := hs11_.out; have := hs12_.out; have := hs13_.out; omega)
  replace hbXx1 := hbXx1.keptI hq (by have := hs0_.out; have := hs1_.out; have := hs2_.out; have := hs3_.out; have := hs4_.out; have := hs5_.out; have := hs6_.out; have := hs7_.out; have := hs8_.out; have := hs9_.out; have := hs10_.out; have := hs11_.out; have := hs12_.out; have := hs13_.out; omega)
  replace ho1 := row_keptI ho1 hq (fun k e => by have := hs0_.out; have := hs1_.out; have := hs2_.out; have := hs3_.out; have := hs4_.out; have := hs5_.out; have := hs6_.out; have := hs7_.out; have := hs8_.out; have := hs9_.out; have := hs10_.out; have := hs11_.out; have := hs12_.out; have := hs13_.out; have := HR1.out k e; omega)
  replace ho2 := row_keptI ho2 hq (fun k e => by have := hs0_.out; have := hs1_.out; have := hs2_.out; have := hs3_.out; have := hs4_.out; have := hs5_.out; have := hs6_.out; have := hs7_.out; have := hs8_.out; have := hs9_.out; have := hs10_.out; have := hs11_.out; have := hs12_.out; have := hs13_.out; have := HR2.out k e; omega)
  replace hk2 := hk2.keptI hq (by have := hs0_.out; have := hs1_.out; have := hs2_.out; have := hs3_.out; have := hs4_.out; have := hs5_.out; have := hs6_.out; have := hs7_.out; have := hs8_.out; have := hs9_.out; have := hs10_.out; have := hs11_.out; have := hs12_.out; have := hs13_.out; omega)
  replace hkk2 := hkk2.keptI hq (by have := hs0_.out; have := hs1_.out; have := hs2_.out; have := hs3_.out; have := hs4_.out; have := hs5_.out; have := hs6_.out; have := hs7_.out; have := hs8_.out; have := hs9_.out; have := hs10_.out; have := hs11_.out; have := hs12_.out; have := hs13_.out; omega)
  replace ho3 := row_keptI ho3 hq (fun k e => by have := hs0_.out; have := hs1_.out; have := hs2_.out; have := hs3_.out; have := hs4_.out; have := hs5_.out; have := hs6_.out; have := hs7_.out; have := hs8_.out; have := hs9_.out; have := hs10_.out; have := hs11_.out; have := hs12_.out; have := hs13_.out; have := HR3.out k e; omega)
  replace ho4 := row_keptI ho4 hq (fun k e => by have := hs0_.out; have := hs1_.out; have := hs2_.out; have := hs3_.out; have := hs4_.out; have := hs5_.out; have := hs6_.out; have := hs7_.out; have := hs8_.out; have := hs9_.out; have := hs10_.out; have := hs11_.out; have := hs12_.out; have := hs13_.out; have := HR4.out k e; omega)
  have hs14_ := Lib.hid (show wi12.heap.size ≤ w13.heap.size from hq.size)
  clear hq
  have pB10 : _ = some (.slice A1 n1 cp1 : Value) := hbB1.cell 0
  have pB11 : _ = some (.slice D1 m1 cd1 : Value) := hbB1.cell 1
  have pXx10 : _ = some (.slice (some ⟨g2, 0, none⟩) n1 n1 : Value) := hbXx1.cell 0
  have pXx11 : _ = some (.slice (some ⟨gg2, 0, none⟩) m1 m1 : Value) := hbXx1.cell 1
  go_wp2_with fail
  refine (markSetting_any (lo := g2) (hi := gg2 + 1) (bs := xs1) (ss := ys1) (hk2.row (B := g2) (size := 4) (by rw [flatten_len (size := 4) (by simp [Bx.row]), List.length_map, HL1.out]) (by unfold maxLen; omega) (Nat.le_refl _)) (hkk2.row (B := gg2) (size := 1) (by simp [HLs1.out]) (by unfold maxLen; omega) (Nat.le_refl _)) hm1 hms1 (by omega) (fun k e => by have := hs0_.out; have := hs1_.out; have := hs2_.out; have := hs3_.out; have := hs4_.out; have := hs5_.out; have := hs6_.out; have := hs7_.out; have := hs8_.out; have := hs9_.out; have := hs10_.out; have := hs11_.out; have := hs12_.out; have := hs13_.out; have := hs14_.out; injection e with e; simp at e; omega) (fun k e => by have := hs0_.out; have := hs1_.out; have := hs2_.out; have := hs3_.out; have := hs4_.out; have := hs5_.out; have := hs6_.out; have := hs7_.out; have := hs8_.out; have := hs9_.out; have := hs10_.out; have := hs11_.out; have := hs12_.out; have := hs13_.out; have := hs14_.out; injection e with e; simp at e; omega)).mono ?_
  rintro e1 w14 ⟨rfl, _, _, hq⟩
  clear pB10 pB11 pXx10 pXx11
  clear hk2 hkk2
  replace hb := hb.trans (hq.below (by have := hs0_.out; have := hs1_.out; have := hs2_.out; have := hs3_.out; have := hs4_.out; have := hs5_.out; have := hs6_.out; have := hs7_.out; have := hs8_.out; have := hs9_.out; have := hs10_.out; have := hs11_.out; have := hs12_.out; have := hs13_.out; have := hs14_.out; omega) hb.size)
  replace hbB1 := hbB1.keptI hq (by have := hs0_.out; have := hs1_.out; have := hs2_.out; have := hs3_.out; have := hs4_.out; have := hs5_.out; have := hs6_.out; have := hs7_.out; have := hs8_.out; have := hs9_.out; have := hs10_.out; have := hs11_.out; have := hs12_.out; have := hs13_.out; have := hs14_.out; omega)
  replace hbXx1 := hbXx1.keptI hq (by have := hs0_.out; have := hs1_.out; have := hs2_.out; have := hs3_.out; have := hs4_.out; have := hs5_.out; have := hs6_.out; have := hs7_.out; have := hs8_.out; have := hs9_.out; have := hs10_.out; have := hs11_.out; have := hs12_.out; have := hs13_.out; have := hs14_.out; omega)
  replace ho1 := row_keptI ho1 hq (fun k e => by have := hs0_.out; have := hs1_.out; have := hs2_.out; have := hs3_.out; have := hs4_.out; have := hs5_.out; have := hs6_.out; have := hs7_.out; have := hs8_.out; have := hs9_.out; have := hs10_.out; have := hs11_.out; have := hs12_.out; have := hs13_.out; have := hs14_.out; have := HR1.out k e; omega)
  replace ho2 := row_keptI ho2 hq (fun k e => by have := hs0_.out; have := hs1_.out; have := hs2_.out; have := hs3_.out; have := hs4_.out; have := hs5_.out; have := hs6_.out; have := hs7_.out; have := hs8_.out; have := hs9_.out; have := hs10_.out; have := hs11_.out; have := hs12_.out; have := hs13_.out; have := hs14_.out; have := HR2.out k e; omega)
  replace ho3 := row_keptI ho3 hq (fun k e => by have := hs0_.out; have := hs1_.out; have := hs2_.out; have := hs3_.out; have := hs4_.out; have := hs5_.out; have := hs6_.out; have := hs7_.out; have := hs8_.out; have := hs9_.out; have := hs10_.out; have := hs11_.out; have := hs12_.out; have := hs13_.out; have := hs14_.out; have := HR3.out k e; omega)
  replace ho4 := row_keptI ho4 hq (fun k e => by have := hs0_.out; have := hs1_.out; have := hs2_.out; have := hs3_.out; have := hs4_.out; have := hs5_.out; have := hs6_.out; have := hs7_.out; have := hs8_.out; have := hs9_.out; have := hs10_.out; have := hs11_.out; have := hs12_.out; have := hs13_.out; have := hs14_.out; have := HR4.out k e; omega)
  have hs15_ := Lib.hid (show w13.heap.size ≤ w14.heap.size from hq.size)
  clear hq
  have pB10 : _ = some (.slice A1 n1 cp1 : Value) := hbB1.cell 0
  have pB11 : _ = some (.slice D1 m1 cd1 : Value) := hbB1.cell 1
  have pXx10 : _ = some (.slice (some ⟨g2, 0, none⟩) n1 n1 : Value) := hbXx1.cell 0
  have pXx11 : _ = some (.slice (some ⟨gg2, 0, none⟩) m1 m1 : Value) := hbXx1.cell 1
  go_wp2_with fail
  refine (eqStringS_same (RStrs.of_own ho3) (RStrs.of_own ho1) hN3).mono ?_
  rintro e1 w15 ⟨rfl, hn⟩
  clear pB10 pB11 pXx10 pXx11
  have hs16_ := Lib.hid (show w14.heap.size ≤ w15.heap.size by have hq9 := hn.size; (try simp at hq9); (try simp); omega)
  replace hb := hb.trans (hn.mono hb.size)
  replace hbB1 := hbB1.below hn hbB1.lt
  replace hbXx1 := hbXx1.below hn hbXx1.lt
  replace ho1 := row_step ho1 hn
  replace ho2 := row_step ho2 hn
  replace ho3 := row_step ho3 hn
  replace ho4 := row_step ho4 hn
  clear hn
  have pB10 : _ = some (.slice A1 n1 cp1 : Value) := hbB1.cell 0
  have pB11 : _ = some (.slice D1 m1 cd1 : Value) := hbB1.cell 1
  have pXx10 : _ = some (.slice (some ⟨g2, 0, none⟩) n1 n1 : Value) := hbXx1.cell 0
  have pXx11 : _ = some (.slice (some ⟨gg2, 0, none⟩) m1 m1 : Value) := hbXx1.cell 1
  go_wp2_with fail
  refine (eqIntS_same (own_rints ho4) (own_rints ho2) (Nat.le_refl _) (Nat.le_refl _) hN4).mono ?_
  rintro e1 w16 ⟨rfl, hn⟩
  clear pB10 pB11 pXx10 pXx11
  have hs17_ := Lib.hid (show w15.heap.size ≤ w16.heap.size by have hq9 := hn.size; (try simp at hq9); (try simp); omega)
  replace hb := hb.trans (hn.mono hb.size)
  replace hbB1 := hbB1.below hn hbB1.lt
  replace hbXx1 := hbXx1.below hn hbXx1.lt
  replace ho1 := row_step ho1 hn
  replace ho2 := row_step ho2 hn
  replace ho3 := row_step ho3 hn
  replace ho4 := row_step ho4 hn
  clear hn
  have HAP4 := Lib.hid (owns_apart ho4 ho3 (by decide))
  have pB10 : _ = some (.slice A1 n1 cp1 : Value) := hbB1.cell 0
  have pB11 : _ = some (.slice D1 m1 cd1 : Value) := hbB1.cell 1
  have pXx10 : _ = some (.slice (some ⟨g2, 0, none⟩) n1 n1 : Value) := hbXx1.cell 0
  have pXx11 : _ = some (.slice (some ⟨gg2, 0, none⟩) m1 m1 : Value) := hbXx1.cell 1
  go_wp2_with fail
  refine (markStringS_any _ _ _ _ _ _ ho3 hN3 (by omega)).mono ?_
  rintro e1 w17 ⟨rfl, ho3, hq⟩
  clear pB10 pB11 pXx10 pXx11
  replace ho4 := kept_of_apart ho4 hq HAP4.out
  clear HAP4
  replace hq := KeptI.of_grown hq HR3.out
  replace hb := hb.trans (hq.below (by have := hs0_.out; have := hs1_.out; have := hs2_.out; have := hs3_.out; have := hs4_.out; have := hs5_.out; have := hs6_.out; have := hs7_.out; have := hs8_.out; have := hs9_.out; have := hs10_.out; have := hs11_.out; have := hs12_.out; have := hs13_.out; have := hs14_.out; have := hs15_.out; have := hs16_.out; have := hs17_.out; omega) hb.size)
  replace hbB1 := hbB1.keptI hq (by have := hs0_.out; have := hs1_.out; have := hs2_.out; have := hs3_.out; have := hs4_.out; have := hs5_.out; have := hs6_.out; have := hs7_.out; have := hs8_.out; have := hs9_.out; have := hs10_.out; have := hs11_.out; have := hs12_.out; have := hs13_.out; have := hs14_.out; have := hs15_.out; have := hs16_.out; have := hs17_.out; omega)
  replace hbXx1 := hbXx1.keptI hq (by have := hs0_.out; have := hs1_.out; have := hs2_.out; have := hs3_.out; have := hs4_.out; have := hs5_.out; have := hs6_.out; have := hs7_.out; have := hs8_.out; have := hs9_.out; have := hs10_.out; have := hs11_.out; have := hs12_.out; have := hs13_.out; have := hs14_.out; have := hs15_.out; have := hs16_.out; have := hs17_.out; omega)
  replace ho1 := row_keptI ho1 hq (fun k e => by have := hs0_.out; have := hs1_.out; have := hs2_.out; have := hs3_.out; have := hs4_.out; have := hs5_.out; have := hs6_.out; have := hs7_.out; have := hs8_.out; have := hs9_.out; have := hs10_.out; have := hs11_.out; have := hs12_.out; have := hs13_.out; have := hs14_.out; have := hs15_.out; have := hs16_.out; have := hs17_.out; have := HR1.out k e; omega)
  replace ho2 := row_keptI ho2 hq (fun k e => by have := hs0_.out; have := hs1_.out; have := hs2_.out; have := hs3_.out; have := hs4_.out; have := hs5_.out; have := hs6_.out; have := hs7_.out; have := hs8_.out; have := hs9_.out; have := hs10_.out; have := hs11_.out; have := hs12_.out; have := hs13_.out; have := hs14_.out; have := hs15_.out; have := hs16_.out; have := hs17_.out; have := HR2.out k e; omega)
  have hs18_ := Lib.hid (show w16.heap.size ≤ w17.heap.size from hq.size)
  clear hq
  have HAP3 := Lib.hid (owns_apart ho3 ho4 (by decide))
  have pB10 : _ = some (.slice A1 n1 cp1 : Value) := hbB1.cell 0
  have pB11 : _ = some (.slice D1 m1 cd1 : Value) := hbB1.cell 1
  have pXx10 : _ = some (.slice (some ⟨g2, 0, none⟩) n1 n1 : Value) := hbXx1.cell 0
  have pXx11 : _ = some (.slice (some ⟨gg2, 0, none⟩) m1 m1 : Value) := hbXx1.cell 1
  go_wp2_with fail
  refine (markIntS_any _ _ _ _ _ _ ho4 hN4 (by omega)).mono ?_
  rintro e1 w18 ⟨rfl, ho4, hq⟩
  clear pB10 pB11 pXx10 pXx11
  replace ho3 := kept_of_apart ho3 hq HAP3.out
  clear HAP3
  replace hq := KeptI.of_grown hq HR4.out
  replace hb := hb.trans (hq.below (by have := hs0_.out; have := hs1_.out; have := hs2_.out; have := hs3_.out; have := hs4_.out; have := hs5_.out; have := hs6_.out; have := hs7_.out; have := hs8_.out; have := hs9_.out; have := hs10_.out; have := hs11_.out; have := hs12_.out; have := hs13_.out; have := hs14_.out; have := hs15_.out; have := hs16_.out; have := hs17_.out; have := hs18_.out; omega) hb.size)
  replace hbB1 := hbB1.keptI hq (by have := hs0_.out; have := hs1_.out; have := hs2_.out; have := hs3_.out; have := hs4_.out; have := hs5_.out; have := hs6_.out; have := hs7_.out; have := hs8_.out; have := hs9_.out; have := hs10_.out; have := hs11_.out; have := hs12_.out; have := hs13_.out; have := hs14_.out; have := hs15_.out; have := hs16_.out; have := hs17_.out; have := hs18_.out; omega)
  replace hbXx1 := hbXx1.keptI hq (by have := hs0_.out; have := hs1_.out; have := hs2_.out; have := hs3_.out; have := hs4_.out; have := hs5_.out; have := hs6_.out; have := hs7_.out; have := hs8_.out; have := hs9_.out; have := hs10_.out; have := hs11_.out; have := hs12_.out; have := hs13_.out; have := hs14_.out; have := hs15_.out; have := hs16_.out; have := hs17_.out; have := hs18_.out; omega)
  replace ho1 := row_keptI ho1 hq (fun k e => by have := hs0_.out; have := hs1_.out; have := hs2_.out; have := hs3_.out; have := hs4_.out; have := hs5_.out; have := hs6_.out; have := hs7_.out; have := hs8_.out; have := hs9_.out; have := hs10_.out; have := hs11_.out; have := hs12_.out; have := hs13_.out; have := hs14_.out; have := hs15_.out; have := hs16_.out; have := hs17_.out; have := hs18_.out; have := HR1.out k e; omega)
  replace ho2 := row_keptI ho2 hq (fun k e => by have := hs0_.out; have := hs1_.out; have := hs2_.out; have := hs3_.out; have := hs4_.out; have := hs5_.out; have := hs6_.out; have := hs7_.out; have := hs8_.out; have := hs9_.out; have := hs10_.out; have := hs11_.out; have := hs12_.out; have := hs13_.out; have := hs14_.out; have := hs15_.out; have := hs16_.out; have := hs17_.out; have := hs18_.out; have := HR2.out k e; omega)
  have hs19_ := Lib.hid (show w17.heap.size ≤ w18.heap.size from hq.size)
  clear hq
  -- held
  have pB10 : _ = some (.slice A1 n1 cp1 : Value) := hbB1.cell 0
  have pB11 : _ = some (.slice D1 m1 cd1 : Value) := hbB1.cell 1
  have pXx10 : _ = some (.slice (some ⟨g2, 0, none⟩) n1 n1 : Value) := hbXx1.cell 0
  have pXx11 : _ = some (.slice (some ⟨gg2, 0, none⟩) m1 m1 : Value) := hbXx1.cell 1
  go_wp2_with fail
  refine (heldStringS_any _ _ _ _ _ (RStrs.of_own ho3) hN3 (by omega)).mono ?_
  rintro e1 w19 ⟨rfl, hn⟩
  clear pB10 pB11 pXx10 pXx11
  have hs20_ := Lib.hid (show w18.heap.size ≤ w19.heap.size by have hq9 := hn.size; (try simp at hq9); (try simp); omega)
  replace hb := hb.trans (hn.mono hb.size)
  replace hbB1 := hbB1.below hn hbB1.lt
  replace hbXx1 := hbXx1.below hn hbXx1.lt
  replace ho1 := row_step ho1 hn
  replace ho2 := row_step ho2 hn
  replace ho3 := row_step ho3 hn
  replace ho4 := row_step ho4 hn
  clear hn
  -- held
  have pB10 : _ = some (.slice A1 n1 cp1 : Value) := hbB1.cell 0
  have pB11 : _ = some (.slice D1 m1 cd1 : Value) := hbB1.cell 1
  have pXx10 : _ = some (.slice (some ⟨g2, 0, none⟩) n1 n1 : Value) := hbXx1.cell 0
  have pXx11 : _ = some (.slice (some ⟨gg2, 0, none⟩) m1 m1 : Value) := hbXx1.cell 1
  go_wp2_with fail
  refine (heldIntS_any _ _ _ _ _ _ (own_rints ho4) hN4 (by omega)).mono ?_
  rintro e1 wq ⟨rfl, hwq⟩
  subst hwq
  clear pB10 pB11 pXx10 pXx11
  have HC := Lib.hid (show ∀ wx, Below w19.heap.size w19 wx → (wx.cell? ⟨W.heap.size, 0, none⟩ = some (.slice A1 n1 cp1) ∧ wx.cell? ⟨W.heap.size, 1, none⟩ = some (.slice D1 m1 cd1)) ∧ (wx.cell? ⟨w6.heap.size, 0, none⟩ = some (.slice (some ⟨g2, 0, none⟩) n1 n1) ∧ wx.cell? ⟨w6.heap.size, 1, none⟩ = some (.slice (some ⟨gg2, 0, none⟩) m1 m1)) from fun wx h => ⟨⟨(hbB1.below h hbB1.lt).cell 0, (hbB1.below h hbB1.lt).cell 1⟩, ⟨(hbXx1.below h hbXx1.lt).cell 0, (hbXx1.below h hbXx1.lt).cell 1⟩⟩)
  go_wp2_with fail
  go_region_held3 (fun wx => Below w19.heap.size w19 wx ∧ (wx.cell? ⟨W.heap.size, 0, none⟩ = some (.slice A1 n1 cp1) ∧ wx.cell? ⟨W.heap.size, 1, none⟩ = some (.slice D1 m1 cd1)) ∧ (wx.cell? ⟨w6.heap.size, 0, none⟩ = some (.slice (some ⟨g2, 0, none⟩) n1 n1) ∧ wx.cell? ⟨w6.heap.size, 1, none⟩ = some (.slice (some ⟨gg2, 0, none⟩) m1 m1))) ((first | exact ⟨(Below.refl _ _).drew, HC.out _ (Below.refl _ _).drew⟩ | (have hh : Below _ _ _ ∧ _ := (by assumption); have hh0 := hh.1.trans (hn.mono hh.1.size); exact ⟨hh0, HC.out _ hh0⟩) | assumption | go_keep)) (first
    | (go_at_call 29; (have hh : Below _ _ _ ∧ _ := (by assumption)); refine (toBoxS_any _ _ _ _ xs0 _ (RBxs.below hr0 (hb.trans (hh.1.mono hb.size))) (Nat.le_trans hb.size hh.1.size) hm0).mono ?_; rintro e1 wi20 ⟨gq0, rfl, hgq0, hkq0, hn⟩)
    | (go_at_call 18; (have hh : Below _ _ _ ∧ _ := (by assumption)); refine (toSetting_any ((RBxs.below hr1 (hb.trans (hh.1.mono hb.size))).more (Nat.le_trans hb.size hh.1.size)) hm1 ((RStrs.below hs1 (hb.trans (hh.1.mono hb.size))).more (Nat.le_trans hb.size hh.1.size)) hms1).mono ?_; rintro e1 wi20 ⟨gq1, gqq1, rfl, hgq1, hgqq1, hkq1, hkqq1, hn⟩; replace hkq0 := Blk.below (by exact hkq0) hn (by exact hkq0.lt))
    | (go_at_call 53; (have hh : Below _ _ _ ∧ _ := (by assumption)); refine (lostTypes_impl (by exact (RBxs.of_blk hkq0 HL0.out)) hm0 (Nat.le_refl _) HX0.out (RBxs.of_blk (by exact hkq1) HL1.out) hm1 (Nat.le_refl _) HX1.out (RStrs.of_blk (by exact hkqq1) HLs1.out) hms1 (Nat.le_refl _) HY1.out).mono ?_; rintro e1 wi20 ⟨V5, N5, C5, V6, N6, C6, rfl, ho5, ho6, hN5, hN6, hn⟩; replace ho5 := row_lower ho5 hh.1.size; replace ho6 := own_lower ho6 hh.1.size))
  clear HC
  have hn0 : Below w19.heap.size w19 _ ∧ _ := (by assumption)
  obtain ⟨hn, _⟩ := hn0
  have hs21_ := Lib.hid (show w19.heap.size ≤ wi20.heap.size by have hq9 := hn.size; (try simp at hq9); (try simp); omega)
  replace hb := hb.trans (hn.mono hb.size)
  replace hbB1 := hbB1.below hn hbB1.lt
  replace hbXx1 := hbXx1.below hn hbXx1.lt
  replace ho1 := row_step ho1 hn
  replace ho2 := row_step ho2 hn
  replace ho3 := row_step ho3 hn
  replace ho4 := row_step ho4 hn
  clear hn
  have HR5 := Lib.hid (show ∀ k, (Value.slice V5 N5 C5).ownBlock = some k → w19.heap.size ≤ k ∧ k < wi20.heap.size from fun k e => ⟨by have h9 := (ho5.lt k e).1; (try simp at h9); omega, (ho5.lt k e).2⟩)
  have HR6 := Lib.hid (show ∀ k, (Value.slice V6 N6 C6).ownBlock = some k → w19.heap.size ≤ k ∧ k < wi20.heap.size from fun k e => ⟨by have h9 := (ho6.lt k e).1; (try simp at h9); omega, (ho6.lt k e).2⟩)
  have pB10 : _ = some (.slice A1 n1 cp1 : Value) := hbB1.cell 0
  have pB11 : _ = some (.slice D1 m1 cd1 : Value) := hbB1.cell 1
  have pXx10 : _ = some (.slice (some ⟨g2, 0, none⟩) n1 n1 : Value) := hbXx1.cell 0
  have pXx11 : _ = some (.slice (some ⟨gg2, 0, none⟩) m1 m1 : Value) := hbXx1.cell 1
  go_wp2_with fail
  refine (eqStringS_same (RStrs.of_own ho5) (RStrs.of_own ho1) hN5).mono ?_
  rintro e1 w22 ⟨rfl, hn⟩
  clear pB10 pB11 pXx10 pXx11
  have hs22_ := Lib.hid (show wi20.heap.size ≤ w22.heap.size by have hq9 := hn.size; (try simp at hq9); (try simp); omega)
  replace hb := hb.trans (hn.mono hb.size)
  replace hbB1 := hbB1.below hn hbB1.lt
  replace hbXx1 := hbXx1.below hn hbXx1.lt
  replace ho1 := row_step ho1 hn
  replace ho2 := row_step ho2 hn
  replace ho3 := row_step ho3 hn
  replace ho4 := row_step ho4 hn
  replace ho5 := row_step ho5 hn
  replace ho6 := row_step ho6 hn
  clear hn
  have pB10 : _ = some (.slice A1 n1 cp1 : Value) := hbB1.cell 0
  have pB11 : _ = some (.slice D1 m1 cd1 : Value) := hbB1.cell 1
  have pXx10 : _ = some (.slice (some ⟨g2, 0, none⟩) n1 n1 : Value) := hbXx1.cell 0
  have pXx11 : _ = some (.slice (some ⟨gg2, 0, none⟩) m1 m1 : Value) := hbXx1.cell 1
  go_wp2_with fail
  refine (eqIntS_same (own_rints ho6) (own_rints ho2) (Nat.le_refl _) (Nat.le_refl _) hN6).mono ?_
  rintro e1 w23 ⟨rfl, hn⟩
  clear pB10 pB11 pXx10 pXx11
  have hs23_ := Lib.hid (show w22.heap.size ≤ w23.heap.size by have hq9 := hn.size; (try simp at hq9); (try simp); omega)
  replace hb := hb.trans (hn.mono hb.size)
  replace hbB1 := hbB1.below hn hbB1.lt
  replace hbXx1 := hbXx1.below hn hbXx1.lt
  replace ho1 := row_step ho1 hn
  replace ho2 := row_step ho2 hn
  replace ho3 := row_step ho3 hn
  replace ho4 := row_step ho4 hn
  replace ho5 := row_step ho5 hn
  replace ho6 := row_step ho6 hn
  clear hn
  -- held
  have pB10 : _ = some (.slice A1 n1 cp1 : Value) := hbB1.cell 0
  have pB11 : _ = some (.slice D1 m1 cd1 : Value) := hbB1.cell 1
  have pXx10 : _ = some (.slice (some ⟨g2, 0, none⟩) n1 n1 : Value) := hbXx1.cell 0
  have pXx11 : _ = some (.slice (some ⟨gg2, 0, none⟩) m1 m1 : Value) := hbXx1.cell 1
  go_wp2_with fail
  refine (heldStringS_any _ _ _ _ _ (RStrs.of_own ho3) hN3 (by omega)).mono ?_
  rintro e1 w24 ⟨rfl, hn⟩
  clear pB10 pB11 pXx10 pXx11
  have hs24_ := Lib.hid (show w23.heap.size ≤ w24.heap.size by have hq9 := hn.size; (try simp at hq9); (try simp); omega)
  replace hb := hb.trans (hn.mono hb.size)
  replace hbB1 := hbB1.below hn hbB1.lt
  replace hbXx1 := hbXx1.below hn hbXx1.lt
  replace ho1 := row_step ho1 hn
  replace ho2 := row_step ho2 hn
  replace ho3 := row_step ho3 hn
  replace ho4 := row_step ho4 hn
  replace ho5 := row_step ho5 hn
  replace ho6 := row_step ho6 hn
  clear hn
  -- held
  have pB10 : _ = some (.slice A1 n1 cp1 : Value) := hbB1.cell 0
  have pB11 : _ = some (.slice D1 m1 cd1 : Value) := hbB1.cell 1
  have pXx10 : _ = some (.slice (some ⟨g2, 0, none⟩) n1 n1 : Value) := hbXx1.cell 0
  have pXx11 : _ = some (.slice (some ⟨gg2, 0, none⟩) m1 m1 : Value) := hbXx1.cell 1
  go_wp2_with fail
  refine (heldIntS_any _ _ _ _ _ _ (own_rints ho4) hN4 (by omega)).mono ?_
  rintro e1 wq ⟨rfl, hwq⟩
  subst hwq
  clear pB10 pB11 pXx10 pXx11
  have pB10 : _ = some (.slice A1 n1 cp1 : Value) := hbB1.cell 0
  have pB11 : _ = some (.slice D1 m1 cd1 : Value) := hbB1.cell 1
  have pXx10 : _ = some (.slice (some ⟨g2, 0, none⟩) n1 n1 : Value) := hbXx1.cell 0
  have pXx11 : _ = some (.slice (some ⟨gg2, 0, none⟩) m1 m1 : Value) := hbXx1.cell 1
  go_wp2_with fail
  go_ret
  exact ⟨rfl, hb⟩
end Go.Proofs.Ytjcopempjanhhaa
