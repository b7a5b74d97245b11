/-
  The walk of the law of WhatCanBeSet.
-/
import Derived.Test.YtjcopempjanhhaaSw5
import Derived.Test.YtjcopempjanhhaaMSort
import Derived.Test.YtjcopempjanhhaaOSetg
import Derived.Deep.RegionHeld3
namespace Go.Proofs.Ytjcopempjanhhaa
open Go.RowKit
set_option maxRecDepth 100000 in
set_option maxHeartbeats 4000000 in
theorem whatCanBeSetLaw (W : World) (A0 : Option Addr) (n0 cp0 : Nat) (xs0 : List Srt) (hr0 : RSrts W W.heap.size A0 n0 xs0) (hn0 : n0 ≤ maxLen) (hX0 : ∀ m ∈ xs0, m.code.size ≤ maxLen) (A1 : Option Addr) (n1 cp1 : Nat) (xs1 : List Bx) (hr1 : RBxs W W.heap.size A1 n1 xs1) (hn1 : n1 ≤ maxLen) (hX1 : ∀ m ∈ xs1, m.code.size ≤ maxLen) (D1 : Option Addr) (m1 cd1 : Nat) (ys1 : List ByteArray) (hs1 : RStrs W W.heap.size D1 m1 ys1) (hmm1 : m1 ≤ maxLen) (hY1 : ∀ s ∈ ys1, s.size ≤ maxLen) (A2 : Option Addr) (n2 cp2 : Nat) (xs2 : List ByteArray) (hr2 : RStrs W W.heap.size A2 n2 xs2) (hn2 : n2 ≤ maxLen) (hX2 : ∀ m ∈ xs2, m.size ≤ maxLen) : Calls Try.prog 12 #[.slice A0 n0 cp0, .agg #[.slice A1 n1 cp1, .slice D1 m1 cd1], .slice A2 n2 cp2] W fun e W' => e = .returned (.bool true) ∧ Below W.heap.size W W' := by
  unfold maxLen at hn0
  have HL0 := Lib.hid hr0.len
  unfold maxLen at hn1
  have HL1 := Lib.hid hr1.len
  unfold maxLen at hmm1
  have HLs1 := Lib.hid hs1.len
  unfold maxLen at hn2
  have HL2 := Lib.hid hr2.len
  have hbB1 := Blk.new' W 26 #[.slice A1 n1 cp1, .slice D1 m1 cd1]
  have hb : Below W.heap.size W (W.alloc (.cells #[.slice A1 n1 cp1, .slice D1 m1 cd1] 26)) := (by (repeat (first | exact Below.refl _ _ | exact hb | apply Below.drew | (refine Below.alloc ?_ (by first | (simp; done) | (simp; omega) | (have := hb.size; simp at this ⊢; omega)) _) | (refine Below.setCell ?_ (by simp) _))))
  by_cases hz0 : szSSrt xs0 1048576 < 0
  · go_enter Try.func12, Try.ntmps12
    go_wp2_with fail
    refine (szSortS_any (RSrts.below hr0 hb |>.more hb.size) (by omega) hX0 (l := 1048576) (by omega)).mono ?_
    rintro e1 w1 ⟨rfl, hn⟩
    have hs0_ := Lib.hid (show W.heap.size + 1 ≤ w1.heap.size by have hq9 := hn.size; (try simp at hq9); (try simp); omega)
    replace hb := hb.trans (hn.mono hb.size)
    replace hbB1 := hbB1.below hn hbB1.lt
    clear hn
    go_wp2_with fail
    go_ret
    exact ⟨rfl, hb⟩
  have hy0 := szSSrt_ok (ms := xs0) (l := 1048576) (by omega) (by omega)
  have hm0 : n0 ≤ 1048576 := by have := HL0.out; omega
  have HX0 := Lib.hid (show ∀ m ∈ xs0, m.code.size ≤ 1048576 from fun m hm => by have := hy0.2.2 m hm; omega)
  have hz0_ : szSSrt xs0 1048576 ≤ 1048576 := hy0.2.1
  clear hy0
  by_cases hz1 : szSet xs1 ys1 (szSSrt xs0 1048576) < 0
  · go_enter Try.func12, Try.ntmps12
    go_wp2_with fail
    refine (szSortS_any (RSrts.below hr0 hb |>.more hb.size) (by omega) hX0 (l := 1048576) (by omega)).mono ?_
    rintro e1 w1 ⟨rfl, hn⟩
    have hs0_ := Lib.hid (show W.heap.size + 1 ≤ w1.heap.size by have hq9 := hn.size; (try simp at hq9); (try simp); omega)
    replace hb := hb.trans (hn.mono hb.size)
    replace hbB1 := hbB1.below hn hbB1.lt
    clear hn
    have pB10 : _ = some (.slice A1 n1 cp1 : Value) := hbB1.cell 0
    have pB11 : _ = some (.slice D1 m1 cd1 : Value) := hbB1.cell 1
    go_wp2_with fail
    refine (szSetting_any (RBxs.below hr1 hb |>.more hb.size) (by omega) hX1 (RStrs.below hs1 hb |>.more hb.size) (by omega) hY1 (l := (szSSrt xs0 1048576)) (by omega)).mono ?_
    rintro e1 w2 ⟨rfl, hn⟩
    clear pB10 pB11
    have hs1_ := Lib.hid (show w1.heap.size ≤ w2.heap.size by have hq9 := hn.size; (try simp at hq9); (try simp); omega)
    replace hb := hb.trans (hn.mono hb.size)
    replace hbB1 := hbB1.below hn hbB1.lt
    clear hn
    go_wp2_with fail
    go_ret
    exact ⟨rfl, hb⟩
  have hy1 := szSet_ok (bs := xs1) (ss := ys1) (l := szSSrt xs0 1048576) (by omega) (by omega)
  have hm1 : n1 ≤ 1048576 := by have := HL1.out; omega
  have hms1 : m1 ≤ 1048576 := by have := HLs1.out; omega
  have HX1 := Lib.hid (show ∀ m ∈ xs1, m.code.size ≤ 1048576 from fun m hm => by have := hy1.2.2.2.1 m hm; omega)
  have HY1 := Lib.hid (show ∀ m ∈ ys1, m.size ≤ 1048576 from fun m hm => by have := hy1.2.2.2.2 m hm; omega)
  have hz1_ : szSet xs1 ys1 (szSSrt xs0 1048576) ≤ (szSSrt xs0 1048576) := hy1.2.2.1
  clear hy1
  by_cases hz2 : szST xs2 (szSet xs1 ys1 (szSSrt xs0 1048576)) < 0
  · go_enter Try.func12, Try.ntmps12
    go_wp2_with fail
    refine (szSortS_any (RSrts.below hr0 hb |>.more hb.size) (by omega) hX0 (l := 1048576) (by omega)).mono ?_
    rintro e1 w1 ⟨rfl, hn⟩
    have hs0_ := Lib.hid (show W.heap.size + 1 ≤ w1.heap.size by have hq9 := hn.size; (try simp at hq9); (try simp); omega)
    replace hb := hb.trans (hn.mono hb.size)
    replace hbB1 := hbB1.below hn hbB1.lt
    clear hn
    have pB10 : _ = some (.slice A1 n1 cp1 : Value) := hbB1.cell 0
    have pB11 : _ = some (.slice D1 m1 cd1 : Value) := hbB1.cell 1
    go_wp2_with fail
    refine (szSetting_any (RBxs.below hr1 hb |>.more hb.size) (by omega) hX1 (RStrs.below hs1 hb |>.more hb.size) (by omega) hY1 (l := (szSSrt xs0 1048576)) (by omega)).mono ?_
    rintro e1 w2 ⟨rfl, hn⟩
    clear pB10 pB11
    have hs1_ := Lib.hid (show w1.heap.size ≤ w2.heap.size by have hq9 := hn.size; (try simp at hq9); (try simp); omega)
    replace hb := hb.trans (hn.mono hb.size)
    replace hbB1 := hbB1.below hn hbB1.lt
    clear hn
    have pB10 : _ = some (.slice A1 n1 cp1 : Value) := hbB1.cell 0
    have pB11 : _ = some (.slice D1 m1 cd1 : Value) := hbB1.cell 1
    go_wp2_with fail
    refine (szStringS_any (RStrs.below hr2 hb |>.more hb.size) (by omega) hX2 (l := (szSet xs1 ys1 (szSSrt xs0 1048576))) (by omega)).mono ?_
    rintro e1 w2_ ⟨rfl, hw2_⟩
    subst hw2_
    clear pB10 pB11
    go_wp2_with fail
    go_ret
    exact ⟨rfl, hb⟩
  have hy2 := szST_ok (xs := xs2) (l := szSet xs1 ys1 (szSSrt xs0 1048576)) (by omega) (by omega)
  have hm2 : n2 ≤ 1048576 := by have := HL2.out; omega
  have HX2 := Lib.hid (show ∀ m ∈ xs2, m.size ≤ 1048576 from fun m hm => by have := hy2.2.2 m hm; omega)
  have hz2_ : szST xs2 (szSet xs1 ys1 (szSSrt xs0 1048576)) ≤ (szSet xs1 ys1 (szSSrt xs0 1048576)) := hy2.2.1
  clear hy2
  go_enter Try.func12, Try.ntmps12
  go_wp2_with fail
  refine (szSortS_any (RSrts.below hr0 hb |>.more hb.size) (by omega) hX0 (l := 1048576) (by omega)).mono ?_
  rintro e1 w1 ⟨rfl, hn⟩
  have hs0_ := Lib.hid (show W.heap.size + 1 ≤ w1.heap.size by have hq9 := hn.size; (try simp at hq9); (try simp); omega)
  replace hb := hb.trans (hn.mono hb.size)
  replace hbB1 := hbB1.below hn hbB1.lt
  clear hn
  have pB10 : _ = some (.slice A1 n1 cp1 : Value) := hbB1.cell 0
  have pB11 : _ = some (.slice D1 m1 cd1 : Value) := hbB1.cell 1
  go_wp2_with fail
  refine (szSetting_any (RBxs.below hr1 hb |>.more hb.size) (by omega) hX1 (RStrs.below hs1 hb |>.more hb.size) (by omega) hY1 (l := (szSSrt xs0 1048576)) (by omega)).mono ?_
  rintro e1 w2 ⟨rfl, hn⟩
  clear pB10 pB11
  have hs1_ := Lib.hid (show w1.heap.size ≤ w2.heap.size by have hq9 := hn.size; (try simp at hq9); (try simp); omega)
  replace hb := hb.trans (hn.mono hb.size)
  replace hbB1 := hbB1.below hn hbB1.lt
  clear hn
  have pB10 : _ = some (.slice A1 n1 cp1 : Value) := hbB1.cell 0
  have pB11 : _ = some (.slice D1 m1 cd1 : Value) := hbB1.cell 1
  go_wp2_with fail
  refine (szStringS_any (RStrs.below hr2 hb |>.more hb.size) (by omega) hX2 (l := (szSet xs1 ys1 (szSSrt xs0 1048576))) (by omega)).mono ?_
  rintro e1 w2_ ⟨rfl, hw2_⟩
  subst hw2_
  clear pB10 pB11
  have HC := Lib.hid (show ∀ wx, Below w2.heap.size w2 wx → (wx.cell? ⟨W.heap.size, 0, none⟩ = some (.slice A1 n1 cp1) ∧ wx.cell? ⟨W.heap.size, 1, none⟩ = some (.slice D1 m1 cd1)) from fun wx h => ⟨(hbB1.below h hbB1.lt).cell 0, (hbB1.below h hbB1.lt).cell 1⟩)
  go_wp2_with fail
  go_region_held3 (fun wx => Below w2.heap.size w2 wx ∧ (wx.cell? ⟨W.heap.size, 0, none⟩ = some (.slice A1 n1 cp1) ∧ wx.cell? ⟨W.heap.size, 1, none⟩ = some (.slice D1 m1 cd1))) ((first | exact ⟨(Below.refl _ _).drew, HC.out _ (Below.refl _ _).drew⟩ | (have hh : Below _ _ _ ∧ _ := (by assumption); have hh0 := hh.1.trans (hn.mono hh.1.size); exact ⟨hh0, HC.out _ hh0⟩) | assumption | go_keep)) (first
    | (go_at_call 17; (have hh : Below _ _ _ ∧ _ := (by assumption)); refine (toSortS_any _ _ _ _ xs0 _ (RSrts.below hr0 (hb.trans (hh.1.mono hb.size))) (Nat.le_trans hb.size hh.1.size) hm0).mono ?_; rintro e1 wi3 ⟨gq0, rfl, hgq0, hkq0, hn⟩)
    | (go_at_call 18; (have hh : Below _ _ _ ∧ _ := (by assumption)); refine (toSetting_any ((RBxs.below hr1 (hb.trans (hh.1.mono hb.size))).more (Nat.le_trans hb.size hh.1.size)) hm1 ((RStrs.below hs1 (hb.trans (hh.1.mono hb.size))).more (Nat.le_trans hb.size hh.1.size)) hms1).mono ?_; rintro e1 wi3 ⟨gq1, gqq1, rfl, hgq1, hgqq1, hkq1, hkqq1, hn⟩; replace hkq0 := Blk.below (by exact hkq0) hn (by exact hkq0.lt))
    | (go_at_call 59; (have hh : Below _ _ _ ∧ _ := (by assumption)); refine (toStringS_any _ _ _ _ xs2 _ (RStrs.below hr2 (hb.trans (hh.1.mono hb.size))) (Nat.le_trans hb.size hh.1.size) hm2).mono ?_; rintro e1 wi3 ⟨gq2, rfl, hgq2, hkq2, hn⟩; replace hkq0 := Blk.below (by exact hkq0) hn (by exact hkq0.lt); replace hkq1 := Blk.below (by exact hkq1) hn (by exact hkq1.lt); replace hkqq1 := Blk.below (by exact hkqq1) hn (by exact hkqq1.lt))
    | (go_at_call 58; (have hh : Below _ _ _ ∧ _ := (by assumption)); refine (whatCanBeSet_spec (by exact (RSrts.of_blk hkq0 HL0.out)) hm0 (Nat.le_refl _) HX0.out (RBxs.of_blk (by exact hkq1) HL1.out) hm1 (Nat.le_refl _) HX1.out (RStrs.of_blk (by exact hkqq1) HLs1.out) hms1 (Nat.le_refl _) HY1.out (by exact (RStrs.of_blk hkq2 HL2.out)) hm2 (Nat.le_refl _) HX2.out).mono ?_; rintro e1 wi3 ⟨rfl, hn⟩))
  clear HC
  have hn0 : Below w2.heap.size w2 _ ∧ _ := (by assumption)
  obtain ⟨hn, _⟩ := hn0
  have hs2_ := Lib.hid (show w2.heap.size ≤ wi3.heap.size by have hq9 := hn.size; (try simp at hq9); (try simp); omega)
  replace hb := hb.trans (hn.mono hb.size)
  replace hbB1 := hbB1.below hn hbB1.lt
  clear hn
  have pB10 : _ = some (.slice A1 n1 cp1 : Value) := hbB1.cell 0
  have pB11 : _ = some (.slice D1 m1 cd1 : Value) := hbB1.cell 1
  go_wp2_with fail
  refine (toSortS_any _ _ _ _ xs0 _ (RSrts.below hr0 hb) hb.size hm0).mono ?_
  rintro e1 w5 ⟨g1, rfl, hg1, hk1, hn⟩
  clear pB10 pB11
  have hs3_ := Lib.hid (show wi3.heap.size ≤ w5.heap.size by have hq9 := hn.size; (try simp at hq9); (try simp); omega)
  replace hb := hb.trans (hn.mono hb.size)
  replace hbB1 := hbB1.below hn hbB1.lt
  clear hn
  have hs4_ := Lib.hid (show wi3.heap.size ≤ g1 ∧ g1 < w5.heap.size from ⟨by (try simp at hg1); omega, hk1.lt⟩)
  clear hg1
  have pB10 : _ = some (.slice A1 n1 cp1 : Value) := hbB1.cell 0
  have pB11 : _ = some (.slice D1 m1 cd1 : Value) := hbB1.cell 1
  go_wp2_with fail
  refine (toSetting_any (RBxs.below hr1 hb |>.more hb.size) hm1 (RStrs.below hs1 hb |>.more hb.size) hms1).mono ?_
  rintro e1 w6 ⟨g2, gg2, rfl, hg2, hgg2, hk2, hkk2, hn⟩
  clear pB10 pB11
  have hs5_ := Lib.hid (show w5.heap.size ≤ w6.heap.size by have hq9 := hn.size; (try simp at hq9); (try simp); omega)
  replace hb := hb.trans (hn.mono hb.size)
  replace hbB1 := hbB1.below hn hbB1.lt
  replace hk1 := hk1.below hn hk1.lt
  clear hn
  have hs6_ := Lib.hid (show w5.heap.size ≤ g2 ∧ g2 < gg2 ∧ gg2 < w6.heap.size from ⟨by (try simp at hg2); omega, hgg2, hkk2.lt⟩)
  clear hg2 hgg2
  have hbXx1 := Blk.new' w6 31 #[.slice (some ⟨g2, 0, none⟩) n1 n1, .slice (some ⟨gg2, 0, none⟩) m1 m1]
  replace hb := hb.alloc hb.size (.cells #[.slice (some ⟨g2, 0, none⟩) n1 n1, .slice (some ⟨gg2, 0, none⟩) m1 m1] 31)
  replace hbB1 := hbB1.alloc (.cells #[.slice (some ⟨g2, 0, none⟩) n1 n1, .slice (some ⟨gg2, 0, none⟩) m1 m1] 31)
  replace hk1 := hk1.alloc (.cells #[.slice (some ⟨g2, 0, none⟩) n1 n1, .slice (some ⟨gg2, 0, none⟩) m1 m1] 31)
  replace hk2 := hk2.alloc (.cells #[.slice (some ⟨g2, 0, none⟩) n1 n1, .slice (some ⟨gg2, 0, none⟩) m1 m1] 31)
  replace hkk2 := hkk2.alloc (.cells #[.slice (some ⟨g2, 0, none⟩) n1 n1, .slice (some ⟨gg2, 0, none⟩) m1 m1] 31)
  have pB10 : _ = some (.slice A1 n1 cp1 : Value) := hbB1.cell 0
  have pB11 : _ = some (.slice D1 m1 cd1 : Value) := hbB1.cell 1
  have pXx10 : _ = some (.slice (some ⟨g2, 0, none⟩) n1 n1 : Value) := hbXx1.cell 0
  have pXx11 : _ = some (.slice (some ⟨gg2, 0, none⟩) m1 m1 : Value) := hbXx1.cell 1
  go_wp2_with fail
  refine (toStringS_any _ _ _ _ xs2 _ (RStrs.below hr2 hb) hb.size hm2).mono ?_
  rintro e1 w7 ⟨g3, rfl, hg3, hk3, hn⟩
  clear pB10 pB11 pXx10 pXx11
  have hs7_ := Lib.hid (show w6.heap.size + 1 ≤ w7.heap.size by have hq9 := hn.size; (try simp at hq9); (try simp); omega)
  replace hb := hb.trans (hn.mono hb.size)
  replace hbB1 := hbB1.below hn hbB1.lt
  replace hbXx1 := hbXx1.below hn hbXx1.lt
  replace hk1 := hk1.below hn hk1.lt
  replace hk2 := hk2.below hn hk2.lt
  replace hkk2 := hkk2.below hn hkk2.lt
  clear hn
  have hs8_ := Lib.hid (show w6.heap.size + 1 ≤ g3 ∧ g3 < w7.heap.size from ⟨by (try simp at hg3); omega, hk3.lt⟩)
  clear hg3
  have pB10 : _ = some (.slice A1 n1 cp1 : Value) := hbB1.cell 0
  have pB11 : _ = some (.slice D1 m1 cd1 : Value) := hbB1.cell 1
  have pXx10 : _ = some (.slice (some ⟨g2, 0, none⟩) n1 n1 : Value) := hbXx1.cell 0
  have pXx11 : _ = some (.slice (some ⟨gg2, 0, none⟩) m1 m1 : Value) := hbXx1.cell 1
  go_wp2_with fail
  refine (whatCanBeSet_impl (RSrts.of_blk hk1 HL0.out) hm0 (Nat.le_refl _) HX0.out (RBxs.of_blk hk2 HL1.out) hm1 (Nat.le_refl _) HX1.out (RStrs.of_blk hkk2 HLs1.out) hms1 (Nat.le_refl _) HY1.out (RStrs.of_blk hk3 HL2.out) hm2 (Nat.le_refl _) HX2.out).mono ?_
  rintro e1 w8 ⟨rfl, hn⟩
  clear pB10 pB11 pXx10 pXx11
  have hs9_ := Lib.hid (show w7.heap.size ≤ w8.heap.size by have hq9 := hn.size; (try simp at hq9); (try simp); omega)
  replace hb := hb.trans (hn.mono hb.size)
  replace hbB1 := hbB1.below hn hbB1.lt
  replace hbXx1 := hbXx1.below hn hbXx1.lt
  replace hk1 := hk1.below hn hk1.lt
  replace hk2 := hk2.below hn hk2.lt
  replace hkk2 := hkk2.below hn hkk2.lt
  replace hk3 := hk3.below hn hk3.lt
  clear hn
  have pB10 : _ = some (.slice A1 n1 cp1 : Value) := hbB1.cell 0
  have pB11 : _ = some (.slice D1 m1 cd1 : Value) := hbB1.cell 1
  have pXx10 : _ = some (.slice (some ⟨g2, 0, none⟩) n1 n1 : Value) := hbXx1.cell 0
  have pXx11 : _ = some (.slice (some ⟨gg2, 0, none⟩) m1 m1 : Value) := hbXx1.cell 1
  go_wp2_with fail
  refine (toSortS_any _ _ _ _ xs0 _ (RSrts.below hr0 hb) hb.size hm0).mono ?_
  rintro e1 w9 ⟨g4, rfl, hg4, hk4, hn⟩
  clear pB10 pB11 pXx10 pXx11
  have hs10_ := Lib.hid (show w8.heap.size ≤ w9.heap.size by have hq9 := hn.size; (try simp at hq9); (try simp); omega)
  replace hb := hb.trans (hn.mono hb.size)
  replace hbB1 := hbB1.below hn hbB1.lt
  replace hbXx1 := hbXx1.below hn hbXx1.lt
  replace hk1 := hk1.below hn hk1.lt
  replace hk2 := hk2.below hn hk2.lt
  replace hkk2 := hkk2.below hn hkk2.lt
  replace hk3 := hk3.below hn hk3.lt
  clear hn
  have hs11_ := Lib.hid (show w8.heap.size ≤ g4 ∧ g4 < w9.heap.size from ⟨by (try simp at hg4); omega, hk4.lt⟩)
  clear hg4
  have pB10 : _ = some (.slice A1 n1 cp1 : Value) := hbB1.cell 0
  have pB11 : _ = some (.slice D1 m1 cd1 : Value) := hbB1.cell 1
  have pXx10 : _ = some (.slice (some ⟨g2, 0, none⟩) n1 n1 : Value) := hbXx1.cell 0
  have pXx11 : _ = some (.slice (some ⟨gg2, 0, none⟩) m1 m1 : Value) := hbXx1.cell 1
  go_wp2_with fail
  refine (eqSortS_any _ _ _ _ _ _ _ _ _ (RSrts.of_blk hk1 HL0.out) (RSrts.of_blk hk4 HL0.out) (Nat.le_refl _) (Nat.le_refl _) hm0).mono ?_
  rintro e1 w10 ⟨rfl, hn⟩
  clear pB10 pB11 pXx10 pXx11
  clear hk4
  have hs12_ := Lib.hid (show w9.heap.size ≤ w10.heap.size by have hq9 := hn.size; (try simp at hq9); (try simp); omega)
  replace hb := hb.trans (hn.mono hb.size)
  replace hbB1 := hbB1.below hn hbB1.lt
  replace hbXx1 := hbXx1.below hn hbXx1.lt
  replace hk1 := hk1.below hn hk1.lt
  replace hk2 := hk2.below hn hk2.lt
  replace hkk2 := hkk2.below hn hkk2.lt
  replace hk3 := hk3.below hn hk3.lt
  clear hn
  have HC := Lib.hid (show ∀ wx, Below w10.heap.size w10 wx → (wx.cell? ⟨w6.heap.size, 0, none⟩ = some (.slice (some ⟨g2, 0, none⟩) n1 n1) ∧ wx.cell? ⟨w6.heap.size, 1, none⟩ = some (.slice (some ⟨gg2, 0, none⟩) m1 m1)) ∧ (wx.cell? ⟨W.heap.size, 0, none⟩ = some (.slice A1 n1 cp1) ∧ wx.cell? ⟨W.heap.size, 1, none⟩ = some (.slice D1 m1 cd1)) from fun wx h => ⟨⟨(hbXx1.below h hbXx1.lt).cell 0, (hbXx1.below h hbXx1.lt).cell 1⟩, ⟨(hbB1.below h hbB1.lt).cell 0, (hbB1.below h hbB1.lt).cell 1⟩⟩)
  go_wp2_with fail
  go_region_held3 (fun wx => Below w10.heap.size w10 wx ∧ (wx.cell? ⟨w6.heap.size, 0, none⟩ = some (.slice (some ⟨g2, 0, none⟩) n1 n1) ∧ wx.cell? ⟨w6.heap.size, 1, none⟩ = some (.slice (some ⟨gg2, 0, none⟩) m1 m1)) ∧ (wx.cell? ⟨W.heap.size, 0, none⟩ = some (.slice A1 n1 cp1) ∧ wx.cell? ⟨W.heap.size, 1, none⟩ = some (.slice D1 m1 cd1))) ((first | exact ⟨(Below.refl _ _).drew, HC.out _ (Below.refl _ _).drew⟩ | (have hh : Below _ _ _ ∧ _ := (by assumption); have hh0 := hh.1.trans (hn.mono hh.1.size); exact ⟨hh0, HC.out _ hh0⟩) | assumption | go_keep)) (first
    | (go_at_call 18; (have hh : Below _ _ _ ∧ _ := (by assumption)); refine (toSetting_any ((RBxs.below hr1 (hb.trans (hh.1.mono hb.size))).more (Nat.le_trans hb.size hh.1.size)) hm1 ((RStrs.below hs1 (hb.trans (hh.1.mono hb.size))).more (Nat.le_trans hb.size hh.1.size)) hms1).mono ?_; rintro e1 wi11 ⟨gq, gqq, rfl, hgq, hgqq, hkq, hkqq, hn⟩)
    | (go_at_call 20; (have hh : Below _ _ _ ∧ _ := (by assumption)); refine (eqSetting_any ((RBxs.below (RBxs.of_blk hk2 HL1.out) hh.1).more hh.1.size) ((RStrs.below (RStrs.of_blk hkk2 HLs1.out) hh.1).more hh.1.size) (RBxs.of_blk (by exact hkq) HL1.out) (RStrs.of_blk (by exact hkqq) HLs1.out) hm1 hms1).mono ?_; rintro e1 wi11 ⟨rfl, hn⟩))
  clear HC
  have hn0 : Below w10.heap.size w10 _ ∧ _ := (by assumption)
  obtain ⟨hn, _⟩ := hn0
  have hs13_ := Lib.hid (show w10.heap.size ≤ wi11.heap.size by have hq9 := hn.size; (try simp at hq9); (try simp); omega)
  replace hb := hb.trans (hn.mono hb.size)
  replace hbB1 := hbB1.below hn hbB1.lt
  replace hbXx1 := hbXx1.below hn hbXx1.lt
  replace hk1 := hk1.below hn hk1.lt
  replace hk2 := hk2.below hn hk2.lt
  replace hkk2 := hkk2.below hn hkk2.lt
  replace hk3 := hk3.below hn hk3.lt
  clear hn
  have pB10 : _ = some (.slice A1 n1 cp1 : Value) := hbB1.cell 0
  have pB11 : _ = some (.slice D1 m1 cd1 : Value) := hbB1.cell 1
  have pXx10 : _ = some (.slice (some ⟨g2, 0, none⟩) n1 n1 : Value) := hbXx1.cell 0
  have pXx11 : _ = some (.slice (some ⟨gg2, 0, none⟩) m1 m1 : Value) := hbXx1.cell 1
  go_wp2_with fail
  refine (toStringS_any _ _ _ _ xs2 _ (RStrs.below hr2 hb) hb.size hm2).mono ?_
  rintro e1 w12 ⟨g5, rfl, hg5, hk5, hn⟩
  clear pB10 pB11 pXx10 pXx11
  have hs14_ := Lib.hid (show wi11.heap.size ≤ w12.heap.size by have hq9 := hn.size; (try simp at hq9); (try simp); omega)
  replace hb := hb.trans (hn.mono hb.size)
  replace hbB1 := hbB1.below hn hbB1.lt
  replace hbXx1 := hbXx1.below hn hbXx1.lt
  replace hk1 := hk1.below hn hk1.lt
  replace hk2 := hk2.below hn hk2.lt
  replace hkk2 := hkk2.below hn hkk2.lt
  replace hk3 := hk3.below hn hk3.lt
  clear hn
  have hs15_ := Lib.hid (show wi11.heap.size ≤ g5 ∧ g5 < w12.heap.size from ⟨by (try simp at hg5); omega, hk5.lt⟩)
  clear hg5
  have pB10 : _ = some (.slice A1 n1 cp1 : Value) := hbB1.cell 0
  have pB11 : _ = some (.slice D1 m1 cd1 : Value) := hbB1.cell 1
  have pXx10 : _ = some (.slice (some ⟨g2, 0, none⟩) n1 n1 : Value) := hbXx1.cell 0
  have pXx11 : _ = some (.slice (some ⟨gg2, 0, none⟩) m1 m1 : Value) := hbXx1.cell 1
  go_wp2_with fail
  refine (eqStrW_any _ _ _ _ _ _ _ _ _ (RStrs.of_blk hk3 HL2.out) (RStrs.of_blk hk5 HL2.out) (Nat.le_refl _) (Nat.le_refl _) hm2).mono ?_
  rintro e1 w13 ⟨rfl, hn⟩
  clear pB10 pB11 pXx10 pXx11
  clear hk5
  have hs16_ := Lib.hid (show w12.heap.size ≤ w13.heap.size by have hq9 := hn.size; (try simp at hq9); (try simp); omega)
  replace hb := hb.trans (hn.mono hb.size)
  replace hbB1 := hbB1.below hn hbB1.lt
  replace hbXx1 := hbXx1.below hn hbXx1.lt
  replace hk1 := hk1.below hn hk1.lt
  replace hk2 := hk2.below hn hk2.lt
  replace hkk2 := hkk2.below hn hkk2.lt
  replace hk3 := hk3.below hn hk3.lt
  clear hn
  have pB10 : _ = some (.slice A1 n1 cp1 : Value) := hbB1.cell 0
  have pB11 : _ = some (.slice D1 m1 cd1 : Value) := hbB1.cell 1
  have pXx10 : _ = some (.slice (some ⟨g2, 0, none⟩) n1 n1 : Value) := hbXx1.cell 0
  have pXx11 : _ = some (.slice (some ⟨gg2, 0, none⟩) m1 m1 : Value) := hbXx1.cell 1
  go_wp2_with fail
  go_ret
  exact ⟨rfl, hb⟩
end Go.Proofs.Ytjcopempjanhhaa
