/-
  The walk of the law of SetWord.
-/
import Derived.Test.YtfdmenhnejfhjaaSw6
import Derived.Test.YtfdmenhnejfhjaaMSort
import Derived.Test.YtfdmenhnejfhjaaOSetg
import Derived.Deep.RegionHeld3
import Derived.Deep.DeepCutAuto
namespace Go.Proofs.Ytfdmenhnejfhjaa
open Go.RowKit
set_option maxRecDepth 100000 in
set_option maxHeartbeats 4000000 in
theorem setWordLaw (W : World) (A0 : Option Addr) (n0 cp0 : Nat) (xs0 : List Srt) (hr0 : RSrts W W.heap.size A0 n0 xs0) (hn0 : n0 ≤ maxLen) (hX0 : ∀ m ∈ xs0, m.code.size ≤ maxLen) (A1 : Option Addr) (n1 cp1 : Nat) (xs1 : List Bx) (hr1 : RBxs W W.heap.size A1 n1 xs1) (hn1 : n1 ≤ maxLen) (hX1 : ∀ m ∈ xs1, m.code.size ≤ maxLen) (D1 : Option Addr) (m1 cd1 : Nat) (ys1 : List ByteArray) (hs1 : RStrs W W.heap.size D1 m1 ys1) (hmm1 : m1 ≤ maxLen) (hY1 : ∀ s ∈ ys1, s.size ≤ maxLen) (s2 : ByteArray) (hs2 : s2.size ≤ maxLen) : Calls Try.prog 3 #[.slice A0 n0 cp0, .agg #[.slice A1 n1 cp1, .slice D1 m1 cd1], .string s2] W fun e W' => e = .returned (.bool true) ∧ Below W.heap.size W W' := by
  unfold maxLen at hn0
  have HL0 := Lib.hid hr0.len
  unfold maxLen at hn1
  have HL1 := Lib.hid hr1.len
  unfold maxLen at hmm1
  have HLs1 := Lib.hid hs1.len
  have hbB1 := Blk.new' W 26 #[.slice A1 n1 cp1, .slice D1 m1 cd1]
  have hb : Below W.heap.size W (W.alloc (.cells #[.slice A1 n1 cp1, .slice D1 m1 cd1] 26)) := (by (repeat (first | exact Below.refl _ _ | exact hb | apply Below.drew | (refine Below.alloc ?_ (by first | (simp; done) | (simp; omega) | (have := hb.size; simp at this ⊢; omega)) _) | (refine Below.setCell ?_ (by simp) _))))
  by_cases hbig2 : 1048576 < s2.size
  · go_enter Try.func3, Try.ntmps3
    go_wp2_with fail
    go_ret
    exact ⟨rfl, hb⟩
  have hm2 : s2.size ≤ 1048576 := by omega
  by_cases hz1 : szSSrt xs0 1048576 < 0
  · go_enter Try.func3, Try.ntmps3
    go_wp2_with fail
    refine (szSortS_any (RSrts.below hr0 hb |>.more hb.size) (by omega) hX0 (l := 1048576) (by omega)).mono ?_
    rintro e1 w1 ⟨rfl, hn⟩
    have hs0_ := Lib.hid (show W.heap.size + 1 ≤ w1.heap.size by have hq9 := hn.size; (try simp at hq9); (try simp); omega)
    replace hb := hb.trans (hn.mono hb.size)
    replace hbB1 := hbB1.below hn hbB1.lt
    clear hn
    go_wp2_with fail
    go_ret
    exact ⟨rfl, hb⟩
  have hy1 := szSSrt_ok (ms := xs0) (l := 1048576) (by omega) (by omega)
  have hm0 : n0 ≤ 1048576 := by have := HL0.out; omega
  have HX0 := Lib.hid (show ∀ m ∈ xs0, m.code.size ≤ 1048576 from fun m hm => by have := hy1.2.2 m hm; omega)
  have hz1_ : szSSrt xs0 1048576 ≤ 1048576 := hy1.2.1
  clear hy1
  by_cases hz2 : szSet xs1 ys1 (szSSrt xs0 1048576) < 0
  · go_enter Try.func3, Try.ntmps3
    go_wp2_with fail
    refine (szSortS_any (RSrts.below hr0 hb |>.more hb.size) (by omega) hX0 (l := 1048576) (by omega)).mono ?_
    rintro e1 w1 ⟨rfl, hn⟩
    have hs0_ := Lib.hid (show W.heap.size + 1 ≤ w1.heap.size by have hq9 := hn.size; (try simp at hq9); (try simp); omega)
    replace hb := hb.trans (hn.mono hb.size)
    replace hbB1 := hbB1.below hn hbB1.lt
    clear hn
    have pB10 : _ = some (.slice A1 n1 cp1 : Value) := hbB1.cell 0
    have pB11 : _ = some (.slice D1 m1 cd1 : Value) := hbB1.cell 1
    go_wp2_with fail
    refine (szSetting_any (RBxs.below hr1 hb |>.more hb.size) (by omega) hX1 (RStrs.below hs1 hb |>.more hb.size) (by omega) hY1 (l := (szSSrt xs0 1048576)) (by omega)).mono ?_
    rintro e1 w2 ⟨rfl, hn⟩
    clear pB10 pB11
    have hs1_ := Lib.hid (show w1.heap.size ≤ w2.heap.size by have hq9 := hn.size; (try simp at hq9); (try simp); omega)
    replace hb := hb.trans (hn.mono hb.size)
    replace hbB1 := hbB1.below hn hbB1.lt
    clear hn
    go_wp2_with fail
    go_ret
    exact ⟨rfl, hb⟩
  have hy2 := szSet_ok (bs := xs1) (ss := ys1) (l := szSSrt xs0 1048576) (by omega) (by omega)
  have hm1 : n1 ≤ 1048576 := by have := HL1.out; omega
  have hms1 : m1 ≤ 1048576 := by have := HLs1.out; omega
  have HX1 := Lib.hid (show ∀ m ∈ xs1, m.code.size ≤ 1048576 from fun m hm => by have := hy2.2.2.2.1 m hm; omega)
  have HY1 := Lib.hid (show ∀ m ∈ ys1, m.size ≤ 1048576 from fun m hm => by have := hy2.2.2.2.2 m hm; omega)
  have hz2_ : szSet xs1 ys1 (szSSrt xs0 1048576) ≤ (szSSrt xs0 1048576) := hy2.2.2.1
  clear hy2
  go_enter Try.func3, Try.ntmps3
  go_wp2_with fail
  refine (szSortS_any (RSrts.below hr0 hb |>.more hb.size) (by omega) hX0 (l := 1048576) (by omega)).mono ?_
  rintro e1 w1 ⟨rfl, hn⟩
  have hs0_ := Lib.hid (show W.heap.size + 1 ≤ w1.heap.size by have hq9 := hn.size; (try simp at hq9); (try simp); omega)
  replace hb := hb.trans (hn.mono hb.size)
  replace hbB1 := hbB1.below hn hbB1.lt
  clear hn
  have pB10 : _ = some (.slice A1 n1 cp1 : Value) := hbB1.cell 0
  have pB11 : _ = some (.slice D1 m1 cd1 : Value) := hbB1.cell 1
  go_wp2_with fail
  refine (szSetting_any (RBxs.below hr1 hb |>.more hb.size) (by omega) hX1 (RStrs.below hs1 hb |>.more hb.size) (by omega) hY1 (l := (szSSrt xs0 1048576)) (by omega)).mono ?_
  rintro e1 w2 ⟨rfl, hn⟩
  clear pB10 pB11
  have hs1_ := Lib.hid (show w1.heap.size ≤ w2.heap.size by have hq9 := hn.size; (try simp at hq9); (try simp); omega)
  replace hb := hb.trans (hn.mono hb.size)
  replace hbB1 := hbB1.below hn hbB1.lt
  clear hn
  have HC := Lib.hid (show ∀ wx, Below w2.heap.size w2 wx → (wx.cell? ⟨W.heap.size, 0, none⟩ = some (.slice A1 n1 cp1) ∧ wx.cell? ⟨W.heap.size, 1, none⟩ = some (.slice D1 m1 cd1)) from fun wx h => ⟨(hbB1.below h hbB1.lt).cell 0, (hbB1.below h hbB1.lt).cell 1⟩)
  go_wp2_with fail
  go_cut [8, 9] (fun s8 s9 wx => ∃ (V : Option Addr) (N C : Nat) (U : Option Addr) (M E g : Nat), s8 = .pointer (some ⟨g, 0, none⟩) ∧ s9 = .bool (sxG xs0 xs1 ys1 s2) ∧ SetR w2 wx g V N C U M E (sxB xs0 xs1 ys1 s2) (sxS xs0 xs1 ys1 s2))
  case first =>
    go_region_held3 (fun wx => Below w2.heap.size w2 wx ∧ (wx.cell? ⟨W.heap.size, 0, none⟩ = some (.slice A1 n1 cp1) ∧ wx.cell? ⟨W.heap.size, 1, none⟩ = some (.slice D1 m1 cd1))) ((first | exact ⟨FIN.out.bel, HC.out _ FIN.out.bel⟩ | exact ⟨HAL.out _, HC.out _ (HAL.out _)⟩ | exact ⟨(Below.refl _ _).drew, HC.out _ (Below.refl _ _).drew⟩ | (have hh : Below _ _ _ ∧ _ := (by assumption); have hh0 := hh.1.trans (hn.mono hh.1.size); exact ⟨hh0, HC.out _ hh0⟩) | (have hh : Below _ _ _ ∧ _ := (by assumption); exact ⟨hh.1.alloc hh.1.size _, HC.out _ (hh.1.alloc hh.1.size _)⟩) | assumption | go_keep)) (first
      | (go_at_call 7; (have hh : Below _ _ _ ∧ _ := (by assumption)); refine (toSortS_any _ _ _ _ xs0 _ (RSrts.below hr0 (hb.trans (hh.1.mono hb.size))) (Nat.le_trans hb.size hh.1.size) hm0).mono ?_; rintro e1 wi3_1 ⟨gq0, rfl, hgq0, hkq0, hn⟩; have hsz_1 : w2.heap.size ≤ wi3_1.heap.size := Nat.le_trans hh.1.size hn.size; (first | (have hzb1 := Zb.newd (B := w2.heap.size) (Nat.le_refl _) hn) | skip))
      | (go_at_call 8; (have hh : Below _ _ _ ∧ _ := (by assumption)); refine (toSetting_any ((RBxs.below hr1 (hb.trans (hh.1.mono hb.size))).more (Nat.le_trans hb.size hh.1.size)) hm1 ((RStrs.below hs1 (hb.trans (hh.1.mono hb.size))).more (Nat.le_trans hb.size hh.1.size)) hms1).mono ?_; rintro e1 wi3_2 ⟨gq1, gqq1, rfl, hgq1, hgqq1, hkq1, hkqq1, hn⟩; replace hkq0 := Blk.below (by first | exact hkq0 | exact hkq0.alloc _) hn (by first | exact hkq0.lt | exact (hkq0.alloc _).lt); have hsz_2 : w2.heap.size ≤ wi3_2.heap.size := Nat.le_trans hh.1.size hn.size; (first | (have hzb2 := Zb.step hzb1 hn) | (have hzb2 := Zb.new (B := w2.heap.size) hsz_1 hn) | skip))
      | (go_at_call 6; (have hh : Below _ _ _ ∧ _ := (by assumption)); refine (setWordX_spec (by first | exact (RSrts.of_blk hkq0 HL0.out) | exact (RSrts.of_blk (hkq0.alloc _) HL0.out)) hm0 (Nat.le_refl _) HX0.out (by first | exact (RBxs.of_blk hkq1 HL1.out) | exact (RBxs.of_blk (hkq1.alloc _) HL1.out)) hm1 (Nat.le_refl _) HX1.out (by first | exact (RStrs.of_blk hkqq1 HLs1.out) | exact (RStrs.of_blk (hkqq1.alloc _) HLs1.out)) hms1 (Nat.le_refl _) HY1.out hm2).mono ?_; rintro e1 wi3_3 ⟨V1, N1, C1, U1, M1, E1, rfl, ho1, hp1, hN1, hM1, hn⟩; (first | (have hz_9 := hzb2; have FIN := Lib.hid (SetR.stores (bs := sxB xs0 xs1 ys1 s2) (ss := sxS xs0 xs1 ys1 s2) hh.1 hz_9 hn ho1 hp1 hN1 hM1); have hz_8 := Zb.step hz_9 hn; have hz_1 : _ = some (Value.slice none 0 0) := hz_8.blk.cell 0; have hz_2 : _ = some (Value.slice none 0 0) := hz_8.blk.cell 1; have hz_3 := hz_8.blk.frozen 0; have hz_4 := hz_8.blk.frozen 1) | (have FIN := Lib.hid (SetR.stores (bs := sxB xs0 xs1 ys1 s2) (ss := sxS xs0 xs1 ys1 s2) hh.1 (Zb.at_ hsz_2) hn ho1 hp1 hN1 hM1); have hz_8 := Zb.new (B := w2.heap.size) hsz_2 hn; have hz_1 : _ = some (Value.slice none 0 0) := hz_8.blk.cell 0; have hz_2 : _ = some (Value.slice none 0 0) := hz_8.blk.cell 1; have hz_3 := hz_8.blk.frozen 0; have hz_4 := hz_8.blk.frozen 1) | (have hn_9 := hh.1.trans (hn.mono hh.1.size); have HAL := Lib.hid (show ∀ o, Below _ _ (wi3_3.alloc o) from fun o => hn_9.alloc hn_9.size o); have FIN := Lib.hid (SetR.alloc (bs := sxB xs0 xs1 ys1 s2) (ss := sxS xs0 xs1 ys1 s2) hh.1 hn ho1 hp1 hN1 hM1)))))
    all_goals (go_wp2_with fail; go_meet; exact ⟨_, _, _, _, _, _, _, rfl, rfl, FIN.out⟩)
  clear HC
  obtain ⟨V1, N1, C1, U1, M1, E1, g9_1, rfl, rfl, hcut⟩ := hcut
  obtain ⟨wi3, hwc9⟩ : ∃ x, x = wc := ⟨_, rfl⟩
  subst hwc9
  obtain ⟨hn, hbXw0, hlo_1, ho1, hp1, hN1, hM1⟩ := hcut
  have hs2_ := Lib.hid (show w2.heap.size ≤ wi3.heap.size by have hq9 := hn.size; (try simp at hq9); (try simp); omega)
  replace hb := hb.trans (hn.mono hb.size)
  replace hbB1 := hbB1.below hn hbB1.lt
  clear hn
  have hs3_ := Lib.hid (show w2.heap.size ≤ g9_1 ∧ g9_1 < wi3.heap.size from ⟨by omega, hbXw0.lt⟩)
  have HR1 := Lib.hid (show ∀ k, (Value.slice V1 N1 C1).ownBlock = some k → w2.heap.size ≤ k ∧ k < wi3.heap.size from fun k e => ⟨by have h9 := (ho1.lt k e).1; (try simp at h9); omega, (ho1.lt k e).2⟩)
  have HQ1 := Lib.hid (show ∀ k, (Value.slice U1 M1 E1).ownBlock = some k → w2.heap.size ≤ k ∧ k < wi3.heap.size from fun k e => ⟨by have h9 := (hp1.lt k e).1; (try simp at h9); omega, (hp1.lt k e).2⟩)
  have pB10 : _ = some (.slice A1 n1 cp1 : Value) := hbB1.cell 0
  have pB11 : _ = some (.slice D1 m1 cd1 : Value) := hbB1.cell 1
  have pXw00 : _ = some (.slice V1 N1 C1 : Value) := hbXw0.cell 0
  have pXw01 : _ = some (.slice U1 M1 E1 : Value) := hbXw0.cell 1
  go_wp2_with fail
  refine (toSortS_any _ _ _ _ xs0 _ (RSrts.below hr0 hb) hb.size hm0).mono ?_
  rintro e1 w5 ⟨g1, rfl, hg1, hk1, hn⟩
  clear pB10 pB11 pXw00 pXw01
  have hs4_ := Lib.hid (show wi3.heap.size ≤ w5.heap.size by have hq9 := hn.size; (try simp at hq9); (try simp); omega)
  replace hb := hb.trans (hn.mono hb.size)
  replace hbB1 := hbB1.below hn hbB1.lt
  replace hbXw0 := hbXw0.below hn hbXw0.lt
  replace ho1 := row_step ho1 hn
  replace hp1 := row_step hp1 hn
  clear hn
  have hs5_ := Lib.hid (show wi3.heap.size ≤ g1 ∧ g1 < w5.heap.size from ⟨by (try simp at hg1); omega, hk1.lt⟩)
  clear hg1
  have pB10 : _ = some (.slice A1 n1 cp1 : Value) := hbB1.cell 0
  have pB11 : _ = some (.slice D1 m1 cd1 : Value) := hbB1.cell 1
  have pXw00 : _ = some (.slice V1 N1 C1 : Value) := hbXw0.cell 0
  have pXw01 : _ = some (.slice U1 M1 E1 : Value) := hbXw0.cell 1
  go_wp2_with fail
  refine (toSetting_any (RBxs.below hr1 hb |>.more hb.size) hm1 (RStrs.below hs1 hb |>.more hb.size) hms1).mono ?_
  rintro e1 w6 ⟨g2, gg2, rfl, hg2, hgg2, hk2, hkk2, hn⟩
  clear pB10 pB11 pXw00 pXw01
  have hs6_ := Lib.hid (show w5.heap.size ≤ w6.heap.size by have hq9 := hn.size; (try simp at hq9); (try simp); omega)
  replace hb := hb.trans (hn.mono hb.size)
  replace hbB1 := hbB1.below hn hbB1.lt
  replace hbXw0 := hbXw0.below hn hbXw0.lt
  replace ho1 := row_step ho1 hn
  replace hp1 := row_step hp1 hn
  replace hk1 := hk1.below hn hk1.lt
  clear hn
  have hs7_ := Lib.hid (show w5.heap.size ≤ g2 ∧ g2 < gg2 ∧ gg2 < w6.heap.size from ⟨by (try simp at hg2); omega, hgg2, hkk2.lt⟩)
  clear hg2 hgg2
  have hbXx1 := Blk.new' w6 31 #[.slice (some ⟨g2, 0, none⟩) n1 n1, .slice (some ⟨gg2, 0, none⟩) m1 m1]
  replace hb := hb.alloc hb.size (.cells #[.slice (some ⟨g2, 0, none⟩) n1 n1, .slice (some ⟨gg2, 0, none⟩) m1 m1] 31)
  replace hbB1 := hbB1.alloc (.cells #[.slice (some ⟨g2, 0, none⟩) n1 n1, .slice (some ⟨gg2, 0, none⟩) m1 m1] 31)
  replace hbXw0 := hbXw0.alloc (.cells #[.slice (some ⟨g2, 0, none⟩) n1 n1, .slice (some ⟨gg2, 0, none⟩) m1 m1] 31)
  replace ho1 := row_alloc ho1 (.cells #[.slice (some ⟨g2, 0, none⟩) n1 n1, .slice (some ⟨gg2, 0, none⟩) m1 m1] 31)
  replace hp1 := row_alloc hp1 (.cells #[.slice (some ⟨g2, 0, none⟩) n1 n1, .slice (some ⟨gg2, 0, none⟩) m1 m1] 31)
  replace hk1 := hk1.alloc (.cells #[.slice (some ⟨g2, 0, none⟩) n1 n1, .slice (some ⟨gg2, 0, none⟩) m1 m1] 31)
  replace hk2 := hk2.alloc (.cells #[.slice (some ⟨g2, 0, none⟩) n1 n1, .slice (some ⟨gg2, 0, none⟩) m1 m1] 31)
  replace hkk2 := hkk2.alloc (.cells #[.slice (some ⟨g2, 0, none⟩) n1 n1, .slice (some ⟨gg2, 0, none⟩) m1 m1] 31)
  have pB10 : _ = some (.slice A1 n1 cp1 : Value) := hbB1.cell 0
  have pB11 : _ = some (.slice D1 m1 cd1 : Value) := hbB1.cell 1
  have pXw00 : _ = some (.slice V1 N1 C1 : Value) := hbXw0.cell 0
  have pXw01 : _ = some (.slice U1 M1 E1 : Value) := hbXw0.cell 1
  have pXx10 : _ = some (.slice (some ⟨g2, 0, none⟩) n1 n1 : Value) := hbXx1.cell 0
  have pXx11 : _ = some (.slice (some ⟨gg2, 0, none⟩) m1 m1 : Value) := hbXx1.cell 1
  go_wp2_with fail
  refine (setWordX_impl (RSrts.of_blk hk1 HL0.out) hm0 (Nat.le_refl _) HX0.out (RBxs.of_blk hk2 HL1.out) hm1 (Nat.le_refl _) HX1.out (RStrs.of_blk hkk2 HLs1.out) hms1 (Nat.le_refl _) HY1.out hm2).mono ?_
  rintro e1 w7 ⟨V2, N2, C2, U2, M2, E2, rfl, ho2, hp2, hN2, hM2, hn⟩
  clear pB10 pB11 pXw00 pXw01 pXx10 pXx11
  have hs8_ := Lib.hid (show w6.heap.size + 1 ≤ w7.heap.size by have hq9 := hn.size; (try simp at hq9); (try simp); omega)
  replace hb := hb.trans (hn.mono hb.size)
  replace hbB1 := hbB1.below hn hbB1.lt
  replace hbXw0 := hbXw0.below hn hbXw0.lt
  replace hbXx1 := hbXx1.below hn hbXx1.lt
  replace ho1 := row_step ho1 hn
  replace hp1 := row_step hp1 hn
  replace hk1 := hk1.below hn hk1.lt
  replace hk2 := hk2.below hn hk2.lt
  replace hkk2 := hkk2.below hn hkk2.lt
  clear hn
  have HR2 := Lib.hid (show ∀ k, (Value.slice V2 N2 C2).ownBlock = some k → w6.heap.size + 1 ≤ k ∧ k < w7.heap.size from fun k e => ⟨by have h9 := (ho2.lt k e).1; (try simp at h9); omega, (ho2.lt k e).2⟩)
  have HQ2 := Lib.hid (show ∀ k, (Value.slice U2 M2 E2).ownBlock = some k → w6.heap.size + 1 ≤ k ∧ k < w7.heap.size from fun k e => ⟨by have h9 := (hp2.lt k e).1; (try simp at h9); omega, (hp2.lt k e).2⟩)
  have hbXg0 := Blk.new' w7 31 #[.slice V2 N2 C2, .slice U2 M2 E2]
  replace hb := hb.alloc hb.size (.cells #[.slice V2 N2 C2, .slice U2 M2 E2] 31)
  replace hbB1 := hbB1.alloc (.cells #[.slice V2 N2 C2, .slice U2 M2 E2] 31)
  replace hbXw0 := hbXw0.alloc (.cells #[.slice V2 N2 C2, .slice U2 M2 E2] 31)
  replace hbXx1 := hbXx1.alloc (.cells #[.slice V2 N2 C2, .slice U2 M2 E2] 31)
  replace ho1 := row_alloc ho1 (.cells #[.slice V2 N2 C2, .slice U2 M2 E2] 31)
  replace hp1 := row_alloc hp1 (.cells #[.slice V2 N2 C2, .slice U2 M2 E2] 31)
  replace hk1 := hk1.alloc (.cells #[.slice V2 N2 C2, .slice U2 M2 E2] 31)
  replace hk2 := hk2.alloc (.cells #[.slice V2 N2 C2, .slice U2 M2 E2] 31)
  replace hkk2 := hkk2.alloc (.cells #[.slice V2 N2 C2, .slice U2 M2 E2] 31)
  replace ho2 := row_alloc ho2 (.cells #[.slice V2 N2 C2, .slice U2 M2 E2] 31)
  replace hp2 := row_alloc hp2 (.cells #[.slice V2 N2 C2, .slice U2 M2 E2] 31)
  have pB10 : _ = some (.slice A1 n1 cp1 : Value) := hbB1.cell 0
  have pB11 : _ = some (.slice D1 m1 cd1 : Value) := hbB1.cell 1
  have pXw00 : _ = some (.slice V1 N1 C1 : Value) := hbXw0.cell 0
  have pXw01 : _ = some (.slice U1 M1 E1 : Value) := hbXw0.cell 1
  have pXx10 : _ = some (.slice (some ⟨g2, 0, none⟩) n1 n1 : Value) := hbXx1.cell 0
  have pXx11 : _ = some (.slice (some ⟨gg2, 0, none⟩) m1 m1 : Value) := hbXx1.cell 1
  have pXg00 : _ = some (.slice V2 N2 C2 : Value) := hbXg0.cell 0
  have pXg01 : _ = some (.slice U2 M2 E2 : Value) := hbXg0.cell 1
  go_wp2_with fail
  refine (eqSetting_same (RBxs.of_own ho2) (RStrs.of_own hp2) (RBxs.of_own ho1) (RStrs.of_own hp1) hN2 hM2).mono ?_
  rintro e1 w8 ⟨rfl, hn⟩
  clear pB10 pB11 pXw00 pXw01 pXx10 pXx11 pXg00 pXg01
  have hs9_ := Lib.hid (show w7.heap.size + 1 ≤ w8.heap.size by have hq9 := hn.size; (try simp at hq9); (try simp); omega)
  replace hb := hb.trans (hn.mono hb.size)
  replace hbB1 := hbB1.below hn hbB1.lt
  replace hbXw0 := hbXw0.below hn hbXw0.lt
  replace hbXx1 := hbXx1.below hn hbXx1.lt
  replace hbXg0 := hbXg0.below hn hbXg0.lt
  replace ho1 := row_step ho1 hn
  replace hp1 := row_step hp1 hn
  replace hk1 := hk1.below hn hk1.lt
  replace hk2 := hk2.below hn hk2.lt
  replace hkk2 := hkk2.below hn hkk2.lt
  replace ho2 := row_step ho2 hn
  replace hp2 := row_step hp2 hn
  clear hn
  have pB10 : _ = some (.slice A1 n1 cp1 : Value) := hbB1.cell 0
  have pB11 : _ = some (.slice D1 m1 cd1 : Value) := hbB1.cell 1
  have pXw00 : _ = some (.slice V1 N1 C1 : Value) := hbXw0.cell 0
  have pXw01 : _ = some (.slice U1 M1 E1 : Value) := hbXw0.cell 1
  have pXx10 : _ = some (.slice (some ⟨g2, 0, none⟩) n1 n1 : Value) := hbXx1.cell 0
  have pXx11 : _ = some (.slice (some ⟨gg2, 0, none⟩) m1 m1 : Value) := hbXx1.cell 1
  have pXg00 : _ = some (.slice V2 N2 C2 : Value) := hbXg0.cell 0
  have pXg01 : _ = some (.slice U2 M2 E2 : Value) := hbXg0.cell 1
  go_wp2_with fail
  refine (toSortS_any _ _ _ _ xs0 _ (RSrts.below hr0 hb) hb.size hm0).mono ?_
  rintro e1 w9 ⟨g3, rfl, hg3, hk3, hn⟩
  clear pB10 pB11 pXw00 pXw01 pXx10 pXx11 pXg00 pXg01
  have hs10_ := Lib.hid (show w8.heap.size ≤ w9.heap.size by have hq9 := hn.size; (try simp at hq9); (try simp); omega)
  replace hb := hb.trans (hn.mono hb.size)
  replace hbB1 := hbB1.below hn hbB1.lt
  replace hbXw0 := hbXw0.below hn hbXw0.lt
  replace hbXx1 := hbXx1.below hn hbXx1.lt
  replace hbXg0 := hbXg0.below hn hbXg0.lt
  replace ho1 := row_step ho1 hn
  replace hp1 := row_step hp1 hn
  replace hk1 := hk1.below hn hk1.lt
  replace hk2 := hk2.below hn hk2.lt
  replace hkk2 := hkk2.below hn hkk2.lt
  replace ho2 := row_step ho2 hn
  replace hp2 := row_step hp2 hn
  clear hn
  have hs11_ := Lib.hid (show w8.heap.size ≤ g3 ∧ g3 < w9.heap.size from ⟨by (try simp at hg3); omega, hk3.lt⟩)
  clear hg3
  have pB10 : _ = some (.slice A1 n1 cp1 : Value) := hbB1.cell 0
  have pB11 : _ = some (.slice D1 m1 cd1 : Value) := hbB1.cell 1
  have pXw00 : _ = some (.slice V1 N1 C1 : Value) := hbXw0.cell 0
  have pXw01 : _ = some (.slice U1 M1 E1 : Value) := hbXw0.cell 1
  have pXx10 : _ = some (.slice (some ⟨g2, 0, none⟩) n1 n1 : Value) := hbXx1.cell 0
  have pXx11 : _ = some (.slice (some ⟨gg2, 0, none⟩) m1 m1 : Value) := hbXx1.cell 1
  have pXg00 : _ = some (.slice V2 N2 C2 : Value) := hbXg0.cell 0
  have pXg01 : _ = some (.slice U2 M2 E2 : Value) := hbXg0.cell 1
  go_wp2_with fail
  refine (eqSortS_any _ _ _ _ _ _ _ _ _ (RSrts.of_blk hk1 HL0.out) (RSrts.of_blk hk3 HL0.out) (Nat.le_refl _) (Nat.le_refl _) hm0).mono ?_
  rintro e1 w10 ⟨rfl, hn⟩
  clear pB10 pB11 pXw00 pXw01 pXx10 pXx11 pXg00 pXg01
  clear hk3
  have hs12_ := Lib.hid (show w9.heap.size ≤ w10.heap.size by have hq9 := hn.size; (try simp at hq9); (try simp); omega)
  replace hb := hb.trans (hn.mono hb.size)
  replace hbB1 := hbB1.below hn hbB1.lt
  replace hbXw0 := hbXw0.below hn hbXw0.lt
  replace hbXx1 := hbXx1.below hn hbXx1.lt
  replace hbXg0 := hbXg0.below hn hbXg0.lt
  replace ho1 := row_step ho1 hn
  replace hp1 := row_step hp1 hn
  replace hk1 := hk1.below hn hk1.lt
  replace hk2 := hk2.below hn hk2.lt
  replace hkk2 := hkk2.below hn hkk2.lt
  replace ho2 := row_step ho2 hn
  replace hp2 := row_step hp2 hn
  clear hn
  have HC := Lib.hid (show ∀ wx, Below w10.heap.size w10 wx → (wx.cell? ⟨w6.heap.size, 0, none⟩ = some (.slice (some ⟨g2, 0, none⟩) n1 n1) ∧ wx.cell? ⟨w6.heap.size, 1, none⟩ = some (.slice (some ⟨gg2, 0, none⟩) m1 m1)) ∧ (wx.cell? ⟨W.heap.size, 0, none⟩ = some (.slice A1 n1 cp1) ∧ wx.cell? ⟨W.heap.size, 1, none⟩ = some (.slice D1 m1 cd1)) from fun wx h => ⟨⟨(hbXx1.below h hbXx1.lt).cell 0, (hbXx1.below h hbXx1.lt).cell 1⟩, ⟨(hbB1.below h hbB1.lt).cell 0, (hbB1.below h hbB1.lt).cell 1⟩⟩)
  go_wp2_with fail
  go_region_held3 (fun wx => Below w10.heap.size w10 wx ∧ (wx.cell? ⟨w6.heap.size, 0, none⟩ = some (.slice (some ⟨g2, 0, none⟩) n1 n1) ∧ wx.cell? ⟨w6.heap.size, 1, none⟩ = some (.slice (some ⟨gg2, 0, none⟩) m1 m1)) ∧ (wx.cell? ⟨W.heap.size, 0, none⟩ = some (.slice A1 n1 cp1) ∧ wx.cell? ⟨W.heap.size, 1, none⟩ = some (.slice D1 m1 cd1))) ((first | exact ⟨(Below.refl _ _).drew, HC.out _ (Below.refl _ _).drew⟩ | (have hh : Below _ _ _ ∧ _ := (by assumption); have hh0 := hh.1.trans (hn.mono hh.1.size); exact ⟨hh0, HC.out _ hh0⟩) | assumption | go_keep)) (first
    | (go_at_call 8; (have hh : Below _ _ _ ∧ _ := (by assumption)); refine (toSetting_any ((RBxs.below hr1 (hb.trans (hh.1.mono hb.size))).more (Nat.le_trans hb.size hh.1.size)) hm1 ((RStrs.below hs1 (hb.trans (hh.1.mono hb.size))).more (Nat.le_trans hb.size hh.1.size)) hms1).mono ?_; rintro e1 wi11 ⟨gq, gqq, rfl, hgq, hgqq, hkq, hkqq, hn⟩)
    | (go_at_call 10; (have hh : Below _ _ _ ∧ _ := (by assumption)); refine (eqSetting_any ((RBxs.below (RBxs.of_blk hk2 HL1.out) hh.1).more hh.1.size) ((RStrs.below (RStrs.of_blk hkk2 HLs1.out) hh.1).more hh.1.size) (RBxs.of_blk (by exact hkq) HL1.out) (RStrs.of_blk (by exact hkqq) HLs1.out) hm1 hms1).mono ?_; rintro e1 wi11 ⟨rfl, hn⟩))
  clear HC
  have hn0 : Below w10.heap.size w10 _ ∧ _ := (by assumption)
  obtain ⟨hn, _⟩ := hn0
  have hs13_ := Lib.hid (show w10.heap.size ≤ wi11.heap.size by have hq9 := hn.size; (try simp at hq9); (try simp); omega)
  replace hb := hb.trans (hn.mono hb.size)
  replace hbB1 := hbB1.below hn hbB1.lt
  replace hbXw0 := hbXw0.below hn hbXw0.lt
  replace hbXx1 := hbXx1.below hn hbXx1.lt
  replace hbXg0 := hbXg0.below hn hbXg0.lt
  replace ho1 := row_step ho1 hn
  replace hp1 := row_step hp1 hn
  replace hk1 := hk1.below hn hk1.lt
  replace hk2 := hk2.below hn hk2.lt
  replace hkk2 := hkk2.below hn hkk2.lt
  replace ho2 := row_step ho2 hn
  replace hp2 := row_step hp2 hn
  clear hn
  have pB10 : _ = some (.slice A1 n1 cp1 : Value) := hbB1.cell 0
  have pB11 : _ = some (.slice D1 m1 cd1 : Value) := hbB1.cell 1
  have pXw00 : _ = some (.slice V1 N1 C1 : Value) := hbXw0.cell 0
  have pXw01 : _ = some (.slice U1 M1 E1 : Value) := hbXw0.cell 1
  have pXx10 : _ = some (.slice (some ⟨g2, 0, none⟩) n1 n1 : Value) := hbXx1.cell 0
  have pXx11 : _ = some (.slice (some ⟨gg2, 0, none⟩) m1 m1 : Value) := hbXx1.cell 1
  have pXg00 : _ = some (.slice V2 N2 C2 : Value) := hbXg0.cell 0
  have pXg01 : _ = some (.slice U2 M2 E2 : Value) := hbXg0.cell 1
  go_wp2_with fail
  refine (markSortS_any _ _ _ xs0 _ _ (hk1.row (B := g1) (size := 2) (by rw [flatten_len (size := 2) (by simp [Srt.row]), List.length_map, HL0.out]) (by unfold maxLen; omega) (Nat.le_refl _)) hm0 (by omega)).mono ?_
  rintro e1 w12 ⟨rfl, _, hq⟩
  clear pB10 pB11 pXw00 pXw01 pXx10 pXx11 pXg00 pXg01
  clear hk1
  replace hq := KeptI.of_grown (lo := g1) (hi := g1 + 1) hq (fun k e => by injection e with e; simp at e; omega)
  replace hb := hb.trans (hq.below (by have := hs0_.out; have := hs1_.out; have := hs2_.out; have := hs3_.out; have := hs4_.out; have := hs5_.out; have := hs6_.out; have := hs7_.out; have := hs8_.out; have := hs9_.out; have := hs10_.out; have := hs11_.out; have := hs12_.out; have := hs13_.out; omega) hb.size)
  replace hbB1 := hbB1.keptI hq (by have := hs0_.out; have := hs1_.out; have := hs2_.out; have := hs3_.out; have := hs4_.out; have := hs5_.out; have := hs6_.out; have := hs7_.out; have := hs8_.out; have := hs9_.out; have := hs10_.out; have := hs11_.out; have := hs12_.out; have := hs13_.out; omega)
  replace hbXw0 := hbXw0.keptI hq (by have := hs0_.out; have := hs1_.out; have := hs2_.out; have := hs3_.out; have := hs4_.out; have := hs5_.out; have := hs6_.out; have := hs7_.out; have := hs8_.out; have := hs9_.out; have := hs10_.out; have := hs11_.out; have := hs12_.out; have := hs13_.out; omega)
  replace hbXx1 := hbXx1.keptI hq (by have := hs0_.out; have := hs1_.out; have := hs2_.out; have := hs3_.out; have := hs4_.out; have := hs5_.out; have := hs6_.out; have := hs7_.out; have := hs8_.out; have := hs9_.out; have := hs10_.out; have := hs11_.out; have := hs12_.out; have := hs13_.out; omega)
  replace hbXg0 := hbXg0.keptI hq (by have := hs0_.out; have := hs1_.out; have := hs2_.out; have := hs3_.out; have := hs4_.out; have := hs5_.out; have := hs6_.out; have := hs7_.out; have := hs8_.out; have := hs9_.out; have := hs10_.out; have := hs11_.out; have := hs12_.out; have := hs13_.out; omega)
  replace ho1 := row_keptI ho1 hq (fun k e => by have := hs0_.out; have := hs1_.out; have := hs2_.out; have := hs3_.out; have := hs4_.out; have := hs5_.out; have := hs6_.out; have := hs7_.out; have := hs8_.out; have := hs9_.out; have := hs10_.out; have := hs11_.out; have := hs12_.out; have := hs13_.out; have := HR1.out k e; omega)
  replace hp1 := row_keptI hp1 hq (fun k e => by have := hs0_.out; have := hs1_.out; have := hs2_.out; have := hs3_.out; have := hs4_.out; have := hs5_.out; have := hs6_.out; have := hs7_.out; have := hs8_.out; have := hs9_.out; have := hs10_.out; have := hs11_.out; have := hs12_.out; have := hs13_.out; have := HQ1.out k e; omega)
  replace hk2 := hk2.keptI hq (by have := hs0_.out; have := hs1_.out; have := hs2_.out; have := hs3_.out; have := hs4_.out; have := hs5_.out; have := hs6_.out; have := hs7_.out; have := hs8_.out; have := hs9_.out; have := hs10_.out; have := hs11_.out; have := hs12_.out; have := hs13_.out; omega)
  replace hkk2 := hkk2.keptI hq (by have := hs0_.out; have := hs1_.out; have := hs2_.out; have := hs3_.out; have := hs4_.out; have := hs5_.out; have := hs6_.out; have := hs7_.out; have := hs8_.out; have := hs9_.out; have := hs10_.out; have := hs11_.out; have := hs12_.out; have := hs13_.out; omega)
  replace ho2 := row_keptI ho2 hq (fun k e => by have := hs0_.out; have := hs1_.out; have := hs2_.out; have := hs3_.out; have := hs4_.out; have := hs5_.out; have := hs6_.out; have := hs7_.out; have := hs8_.out; have := hs9_.out; have := hs10_.out; have := hs11_.out; have := hs12_.out; have := hs13_.out; have := HR2.out k e; omega)
  replace hp2 := row_keptI hp2 hq (fun k e => by have := hs0_.out; have := hs1_.out; have := hs2_.out; have := hs3_.out; have := hs4_.out; have := hs5_.out; have := hs6_.out; have := hs7_.out; have := hs8_.out; have := hs9_.out; have := hs10_.out; have := hs11_.out; have := hs12_.out; have := hs13_.out; have := HQ2.out k e; omega)
  have hs14_ := Lib.hid (show wi11.heap.size ≤ w12.heap.size from hq.size)
  clear hq
  have pB10 : _ = some (.slice A1 n1 cp1 : Value) := hbB1.cell 0
  have pB11 : _ = some (.slice D1 m1 cd1 : Value) := hbB1.cell 1
  have pXw00 : _ = some (.slice V1 N1 C1 : Value) := hbXw0.cell 0
  have pXw01 : _ = some (.slice U1 M1 E1 : Value) := hbXw0.cell 1
  have pXx10 : _ = some (.slice (some ⟨g2, 0, none⟩) n1 n1 : Value) := hbXx1.cell 0
  have pXx11 : _ = some (.slice (some ⟨gg2, 0, none⟩) m1 m1 : Value) := hbXx1.cell 1
  have pXg00 : _ = some (.slice V2 N2 C2 : Value) := hbXg0.cell 0
  have pXg01 : _ = some (.slice U2 M2 E2 : Value) := hbXg0.cell 1
  go_wp2_with fail
  refine (markSetting_any (lo := g2) (hi := gg2 + 1) (bs := xs1) (ss := ys1) (hk2.row (B := g2) (size := 4) (by rw [flatten_len (size := 4) (by simp [Bx.row]), List.length_map, HL1.out]) (by unfold maxLen; omega) (Nat.le_refl _)) (hkk2.row (B := gg2) (size := 1) (by simp [HLs1.out]) (by unfold maxLen; omega) (Nat.le_refl _)) hm1 hms1 (by omega) (fun k e => by have := hs0_.out; have := hs1_.out; have := hs2_.out; have := hs3_.out; have := hs4_.out; have := hs5_.out; have := hs6_.out; have := hs7_.out; have := hs8_.out; have := hs9_.out; have := hs10_.out; have := hs11_.out; have := hs12_.out; have := hs13_.out; have := hs14_.out; injection e with e; simp at e; omega) (fun k e => by have := hs0_.out; have := hs1_.out; have := hs2_.out; have := hs3_.out; have := hs4_.out; have := hs5_.out; have := hs6_.out; have := hs7_.out; have := hs8_.out; have := hs9_.out; have := hs10_.out; have := hs11_.out; have := hs12_.out; have := hs13_.out; have := hs14_.out; injection e with e; simp at e; omega)).mono ?_
  rintro e1 w13 ⟨rfl, _, _, hq⟩
  clear pB10 pB11 pXw00 pXw01 pXx10 pXx11 pXg00 pXg01
  clear hk2 hkk2
  replace hb := hb.trans (hq.below (by have := hs0_.out; have := hs1_.out; have := hs2_.out; have := hs3_.out; have := hs4_.out; have := hs5_.out; have := hs6_.out; have := hs7_.out; have := hs8_.out; have := hs9_.out; have := hs10_.out; have := hs11_.out; have := hs12_.out; have := hs13_.out; have := hs14_.out; omega) hb.size)
  replace hbB1 := hbB1.keptI hq (by have := hs0_.out; have := hs1_.out; have := hs2_.out; have := hs3_.out; have := hs4_.out; have := hs5_.out; have := hs6_.out; have := hs7_.out; have := hs8_.out; have := hs9_.out; have := hs10_.out; have := hs11_.out; have := hs12_.out; have := hs13_.out; have := hs14_.out; omega)
  replace hbXw0 := hbXw0.keptI hq (by have := hs0_.out; have := hs1_.out; have := hs2_.out; have := hs3_.out; have := hs4_.out; have := hs5_.out; have := hs6_.out; have := hs7_.out; have := hs8_.out; have := hs9_.out; have := hs10_.out; have := hs11_.out; have := hs12_.out; have := hs13_.out; have := hs14_.out; omega)
  replace hbXx1 := hbXx1.keptI hq (by have := hs0_.out; have := hs1_.out; have := hs2_.out; have := hs3_.out; have := hs4_.out; have := hs5_.out; have := hs6_.out; have := hs7_.out; have := hs8_.out; have := hs9_.out; have := hs10_.out; have := hs11_.out; have := hs12_.out; have := hs13_.out; have := hs14_.out; omega)
  replace hbXg0 := hbXg0.keptI hq (by have := hs0_.out; have := hs1_.out; have := hs2_.out; have := hs3_.out; have := hs4_.out; have := hs5_.out; have := hs6_.out; have := hs7_.out; have := hs8_.out; have := hs9_.out; have := hs10_.out; have := hs11_.out; have := hs12_.out; have := hs13_.out; have := hs14_.out; omega)
  replace ho1 := row_keptI ho1 hq (fun k e => by have := hs0_.out; have := hs1_.out; have := hs2_.out; have := hs3_.out; have := hs4_.out; have := hs5_.out; have := hs6_.out; have := hs7_.out; have := hs8_.out; have := hs9_.out; have := hs10_.out; have := hs11_.out; have := hs12_.out; have := hs13_.out; have := hs14_.out; have := HR1.out k e; omega)
  replace hp1 := row_keptI hp1 hq (fun k e => by have := hs0_.out; have := hs1_.out; have := hs2_.out; have := hs3_.out; have := hs4_.out; have := hs5_.out; have := hs6_.out; have := hs7_.out; have := hs8_.out; have := hs9_.out; have := hs10_.out; have := hs11_.out; have := hs12_.out; have := hs13_.out; have := hs14_.out; have := HQ1.out k e; omega)
  replace ho2 := row_keptI ho2 hq (fun k e => by have := hs0_.out; have := hs1_.out; have := hs2_.out; have := hs3_.out; have := hs4_.out; have := hs5_.out; have := hs6_.out; have := hs7_.out; have := hs8_.out; have := hs9_.out; have := hs10_.out; have := hs11_.out; have := hs12_.out; have := hs13_.out; have := hs14_.out; have := HR2.out k e; omega)
  replace hp2 := row_keptI hp2 hq (fun k e => by have := hs0_.out; have := hs1_.out; have := hs2_.out; have := hs3_.out; have := hs4_.out; have := hs5_.out; have := hs6_.out; have := hs7_.out; have := hs8_.out; have := hs9_.out; have := hs10_.out; have := hs11_.out; have := hs12_.out; have := hs13_.out; have := hs14_.out; have := HQ2.out k e; omega)
  have hs15_ := Lib.hid (show w12.heap.size ≤ w13.heap.size from hq.size)
  clear hq
  have pB10 : _ = some (.slice A1 n1 cp1 : Value) := hbB1.cell 0
  have pB11 : _ = some (.slice D1 m1 cd1 : Value) := hbB1.cell 1
  have pXw00 : _ = some (.slice V1 N1 C1 : Value) := hbXw0.cell 0
  have pXw01 : _ = some (.slice U1 M1 E1 : Value) := hbXw0.cell 1
  have pXx10 : _ = some (.slice (some ⟨g2, 0, none⟩) n1 n1 : Value) := hbXx1.cell 0
  have pXx11 : _ = some (.slice (some ⟨gg2, 0, none⟩) m1 m1 : Value) := hbXx1.cell 1
  have pXg00 : _ = some (.slice V2 N2 C2 : Value) := hbXg0.cell 0
  have pXg01 : _ = some (.slice U2 M2 E2 : Value) := hbXg0.cell 1
  go_wp2_with fail
  refine (eqSetting_same (RBxs.of_own ho2) (RStrs.of_own hp2) (RBxs.of_own ho1) (RStrs.of_own hp1) hN2 hM2).mono ?_
  rintro e1 w14 ⟨rfl, hn⟩
  clear pB10 pB11 pXw00 pXw01 pXx10 pXx11 pXg00 pXg01
  have hs16_ := Lib.hid (show w13.heap.size ≤ w14.heap.size by have hq9 := hn.size; (try simp at hq9); (try simp); omega)
  replace hb := hb.trans (hn.mono hb.size)
  replace hbB1 := hbB1.below hn hbB1.lt
  replace hbXw0 := hbXw0.below hn hbXw0.lt
  replace hbXx1 := hbXx1.below hn hbXx1.lt
  replace hbXg0 := hbXg0.below hn hbXg0.lt
  replace ho1 := row_step ho1 hn
  replace hp1 := row_step hp1 hn
  replace ho2 := row_step ho2 hn
  replace hp2 := row_step hp2 hn
  clear hn
  have pB10 : _ = some (.slice A1 n1 cp1 : Value) := hbB1.cell 0
  have pB11 : _ = some (.slice D1 m1 cd1 : Value) := hbB1.cell 1
  have pXw00 : _ = some (.slice V1 N1 C1 : Value) := hbXw0.cell 0
  have pXw01 : _ = some (.slice U1 M1 E1 : Value) := hbXw0.cell 1
  have pXx10 : _ = some (.slice (some ⟨g2, 0, none⟩) n1 n1 : Value) := hbXx1.cell 0
  have pXx11 : _ = some (.slice (some ⟨gg2, 0, none⟩) m1 m1 : Value) := hbXx1.cell 1
  have pXg00 : _ = some (.slice V2 N2 C2 : Value) := hbXg0.cell 0
  have pXg01 : _ = some (.slice U2 M2 E2 : Value) := hbXg0.cell 1
  go_wp2_with fail
  refine (markSetting_any (lo := w6.heap.size + 1) (hi := w7.heap.size) ho2 hp2 hN2 hM2 (by omega) HR2.out HQ2.out).mono ?_
  rintro e1 w15 ⟨rfl, ho2, hp2, hq⟩
  clear pB10 pB11 pXw00 pXw01 pXx10 pXx11 pXg00 pXg01
  replace hb := hb.trans (hq.below (by have := hs0_.out; have := hs1_.out; have := hs2_.out; have := hs3_.out; have := hs4_.out; have := hs5_.out; have := hs6_.out; have := hs7_.out; have := hs8_.out; have := hs9_.out; have := hs10_.out; have := hs11_.out; have := hs12_.out; have := hs13_.out; have := hs14_.out; have := hs15_.out; have := hs16_.out; omega) hb.size)
  replace hbB1 := hbB1.keptI hq (by have := hs0_.out; have := hs1_.out; have := hs2_.out; have := hs3_.out; have := hs4_.out; have := hs5_.out; have := hs6_.out; have := hs7_.out; have := hs8_.out; have := hs9_.out; have := hs10_.out; have := hs11_.out; have := hs12_.out; have := hs13_.out; have := hs14_.out; have := hs15_.out; have := hs16_.out; omega)
  replace hbXw0 := hbXw0.keptI hq (by have := hs0_.out; have := hs1_.out; have := hs2_.out; have := hs3_.out; have := hs4_.out; have := hs5_.out; have := hs6_.out; have := hs7_.out; have := hs8_.out; have := hs9_.out; have := hs10_.out; have := hs11_.out; have := hs12_.out; have := hs13_.out; have := hs14_.out; have := hs15_.out; have := hs16_.out; omega)
  replace hbXx1 := hbXx1.keptI hq (by have := hs0_.out; have := hs1_.out; have := hs2_.out; have := hs3_.out; have := hs4_.out; have := hs5_.out; have := hs6_.out; have := hs7_.out; have := hs8_.out; have := hs9_.out; have := hs10_.out; have := hs11_.out; have := hs12_.out; have := hs13_.out; have := hs14_.out; have := hs15_.out; have := hs16_.out; omega)
  replace hbXg0 := hbXg0.keptI hq (by have := hs0_.out; have := hs1_.out; have := hs2_.out; have := hs3_.out; have := hs4_.out; have := hs5_.out; have := hs6_.out; have := hs7_.out; have := hs8_.out; have := hs9_.out; have := hs10_.out; have := hs11_.out; have := hs12_.out; have := hs13_.out; have := hs14_.out; have := hs15_.out; have := hs16_.out; omega)
  replace ho1 := row_keptI ho1 hq (fun k e => by have := hs0_.out; have := hs1_.out; have := hs2_.out; have := hs3_.out; have := hs4_.out; have := hs5_.out; have := hs6_.out; have := hs7_.out; have := hs8_.out; have := hs9_.out; have := hs10_.out; have := hs11_.out; have := hs12_.out; have := hs13_.out; have := hs14_.out; have := hs15_.out; have := hs16_.out; have := HR1.out k e; omega)
  replace hp1 := row_keptI hp1 hq (fun k e => by have := hs0_.out; have := hs1_.out; have := hs2_.out; have := hs3_.out; have := hs4_.out; have := hs5_.out; have := hs6_.out; have := hs7_.out; have := hs8_.out; have := hs9_.out; have := hs10_.out; have := hs11_.out; have := hs12_.out; have := hs13_.out; have := hs14_.out; have := hs15_.out; have := hs16_.out; have := HQ1.out k e; omega)
  have hs17_ := Lib.hid (show w14.heap.size ≤ w15.heap.size from hq.size)
  clear hq
  -- held
  have pB10 : _ = some (.slice A1 n1 cp1 : Value) := hbB1.cell 0
  have pB11 : _ = some (.slice D1 m1 cd1 : Value) := hbB1.cell 1
  have pXw00 : _ = some (.slice V1 N1 C1 : Value) := hbXw0.cell 0
  have pXw01 : _ = some (.slice U1 M1 E1 : Value) := hbXw0.cell 1
  have pXx10 : _ = some (.slice (some ⟨g2, 0, none⟩) n1 n1 : Value) := hbXx1.cell 0
  have pXx11 : _ = some (.slice (some ⟨gg2, 0, none⟩) m1 m1 : Value) := hbXx1.cell 1
  have pXg00 : _ = some (.slice V2 N2 C2 : Value) := hbXg0.cell 0
  have pXg01 : _ = some (.slice U2 M2 E2 : Value) := hbXg0.cell 1
  go_wp2_with fail
  refine (heldSetting_any (RBxs.of_own ho2) (RStrs.of_own hp2) hN2 hM2 (by omega)).mono ?_
  rintro e1 w16 ⟨rfl, hn⟩
  clear pB10 pB11 pXw00 pXw01 pXx10 pXx11 pXg00 pXg01
  have hs18_ := Lib.hid (show w15.heap.size ≤ w16.heap.size by have hq9 := hn.size; (try simp at hq9); (try simp); omega)
  replace hb := hb.trans (hn.mono hb.size)
  replace hbB1 := hbB1.below hn hbB1.lt
  replace hbXw0 := hbXw0.below hn hbXw0.lt
  replace hbXx1 := hbXx1.below hn hbXx1.lt
  replace hbXg0 := hbXg0.below hn hbXg0.lt
  replace ho1 := row_step ho1 hn
  replace hp1 := row_step hp1 hn
  replace ho2 := row_step ho2 hn
  replace hp2 := row_step hp2 hn
  clear hn
  have HC := Lib.hid (show ∀ wx, Below w16.heap.size w16 wx → (wx.cell? ⟨W.heap.size, 0, none⟩ = some (.slice A1 n1 cp1) ∧ wx.cell? ⟨W.heap.size, 1, none⟩ = some (.slice D1 m1 cd1)) ∧ (wx.cell? ⟨g9_1, 0, none⟩ = some (.slice V1 N1 C1) ∧ wx.cell? ⟨g9_1, 1, none⟩ = some (.slice U1 M1 E1)) ∧ (wx.cell? ⟨w6.heap.size, 0, none⟩ = some (.slice (some ⟨g2, 0, none⟩) n1 n1) ∧ wx.cell? ⟨w6.heap.size, 1, none⟩ = some (.slice (some ⟨gg2, 0, none⟩) m1 m1)) ∧ (wx.cell? ⟨w7.heap.size, 0, none⟩ = some (.slice V2 N2 C2) ∧ wx.cell? ⟨w7.heap.size, 1, none⟩ = some (.slice U2 M2 E2)) from fun wx h => ⟨⟨(hbB1.below h hbB1.lt).cell 0, (hbB1.below h hbB1.lt).cell 1⟩, ⟨(hbXw0.below h hbXw0.lt).cell 0, (hbXw0.below h hbXw0.lt).cell 1⟩, ⟨(hbXx1.below h hbXx1.lt).cell 0, (hbXx1.below h hbXx1.lt).cell 1⟩, ⟨(hbXg0.below h hbXg0.lt).cell 0, (hbXg0.below h hbXg0.lt).cell 1⟩⟩)
  go_wp2_with fail
  go_cut [17, 18] (fun s8 s9 wx => ∃ (V : Option Addr) (N C : Nat) (U : Option Addr) (M E g : Nat), s8 = .pointer (some ⟨g, 0, none⟩) ∧ s9 = .bool (sxG xs0 xs1 ys1 s2) ∧ SetR w16 wx g V N C U M E (sxB xs0 xs1 ys1 s2) (sxS xs0 xs1 ys1 s2))
  case first =>
    go_region_held3 (fun wx => Below w16.heap.size w16 wx ∧ (wx.cell? ⟨W.heap.size, 0, none⟩ = some (.slice A1 n1 cp1) ∧ wx.cell? ⟨W.heap.size, 1, none⟩ = some (.slice D1 m1 cd1)) ∧ (wx.cell? ⟨g9_1, 0, none⟩ = some (.slice V1 N1 C1) ∧ wx.cell? ⟨g9_1, 1, none⟩ = some (.slice U1 M1 E1)) ∧ (wx.cell? ⟨w6.heap.size, 0, none⟩ = some (.slice (some ⟨g2, 0, none⟩) n1 n1) ∧ wx.cell? ⟨w6.heap.size, 1, none⟩ = some (.slice (some ⟨gg2, 0, none⟩) m1 m1)) ∧ (wx.cell? ⟨w7.heap.size, 0, none⟩ = some (.slice V2 N2 C2) ∧ wx.cell? ⟨w7.heap.size, 1, none⟩ = some (.slice U2 M2 E2))) ((first | exact ⟨FIN.out.bel, HC.out _ FIN.out.bel⟩ | exact ⟨HAL.out _, HC.out _ (HAL.out _)⟩ | exact ⟨(Below.refl _ _).drew, HC.out _ (Below.refl _ _).drew⟩ | (have hh : Below _ _ _ ∧ _ := (by assumption); have hh0 := hh.1.trans (hn.mono hh.1.size); exact ⟨hh0, HC.out _ hh0⟩) | (have hh : Below _ _ _ ∧ _ := (by assumption); exact ⟨hh.1.alloc hh.1.size _, HC.out _ (hh.1.alloc hh.1.size _)⟩) | assumption | go_keep)) (first
      | (go_at_call 7; (have hh : Below _ _ _ ∧ _ := (by assumption)); refine (toSortS_any _ _ _ _ xs0 _ (RSrts.below hr0 (hb.trans (hh.1.mono hb.size))) (Nat.le_trans hb.size hh.1.size) hm0).mono ?_; rintro e1 wi17_1 ⟨gq0, rfl, hgq0, hkq0, hn⟩; have hsz_1 : w16.heap.size ≤ wi17_1.heap.size := Nat.le_trans hh.1.size hn.size; (first | (have hzb1 := Zb.newd (B := w16.heap.size) (Nat.le_refl _) hn) | skip))
      | (go_at_call 8; (have hh : Below _ _ _ ∧ _ := (by assumption)); refine (toSetting_any ((RBxs.below hr1 (hb.trans (hh.1.mono hb.size))).more (Nat.le_trans hb.size hh.1.size)) hm1 ((RStrs.below hs1 (hb.trans (hh.1.mono hb.size))).more (Nat.le_trans hb.size hh.1.size)) hms1).mono ?_; rintro e1 wi17_2 ⟨gq1, gqq1, rfl, hgq1, hgqq1, hkq1, hkqq1, hn⟩; replace hkq0 := Blk.below (by first | exact hkq0 | exact hkq0.alloc _) hn (by first | exact hkq0.lt | exact (hkq0.alloc _).lt); have hsz_2 : w16.heap.size ≤ wi17_2.heap.size := Nat.le_trans hh.1.size hn.size; (first | (have hzb2 := Zb.step hzb1 hn) | (have hzb2 := Zb.new (B := w16.heap.size) hsz_1 hn) | skip))
      | (go_at_call 9; (have hh : Below _ _ _ ∧ _ := (by assumption)); refine (setWordX_impl (by first | exact (RSrts.of_blk hkq0 HL0.out) | exact (RSrts.of_blk (hkq0.alloc _) HL0.out)) hm0 (Nat.le_refl _) HX0.out (by first | exact (RBxs.of_blk hkq1 HL1.out) | exact (RBxs.of_blk (hkq1.alloc _) HL1.out)) hm1 (Nat.le_refl _) HX1.out (by first | exact (RStrs.of_blk hkqq1 HLs1.out) | exact (RStrs.of_blk (hkqq1.alloc _) HLs1.out)) hms1 (Nat.le_refl _) HY1.out hm2).mono ?_; rintro e1 wi17_3 ⟨V3, N3, C3, U3, M3, E3, rfl, ho3, hp3, hN3, hM3, hn⟩; (first | (have hz_9 := hzb2; have FIN := Lib.hid (SetR.stores (bs := sxB xs0 xs1 ys1 s2) (ss := sxS xs0 xs1 ys1 s2) hh.1 hz_9 hn ho3 hp3 hN3 hM3); have hz_8 := Zb.step hz_9 hn; have hz_1 : _ = some (Value.slice none 0 0) := hz_8.blk.cell 0; have hz_2 : _ = some (Value.slice none 0 0) := hz_8.blk.cell 1; have hz_3 := hz_8.blk.frozen 0; have hz_4 := hz_8.blk.frozen 1) | (have FIN := Lib.hid (SetR.stores (bs := sxB xs0 xs1 ys1 s2) (ss := sxS xs0 xs1 ys1 s2) hh.1 (Zb.at_ hsz_2) hn ho3 hp3 hN3 hM3); have hz_8 := Zb.new (B := w16.heap.size) hsz_2 hn; have hz_1 : _ = some (Value.slice none 0 0) := hz_8.blk.cell 0; have hz_2 : _ = some (Value.slice none 0 0) := hz_8.blk.cell 1; have hz_3 := hz_8.blk.frozen 0; have hz_4 := hz_8.blk.frozen 1) | (have hn_9 := hh.1.trans (hn.mono hh.1.size); have HAL := Lib.hid (show ∀ o, Below _ _ (wi17_3.alloc o) from fun o => hn_9.alloc hn_9.size o); have FIN := Lib.hid (SetR.alloc (bs := sxB xs0 xs1 ys1 s2) (ss := sxS xs0 xs1 ys1 s2) hh.1 hn ho3 hp3 hN3 hM3)))))
    all_goals (go_wp2_with fail; go_meet; exact ⟨_, _, _, _, _, _, _, rfl, rfl, FIN.out⟩)
  clear HC
  obtain ⟨V3, N3, C3, U3, M3, E3, g9_3, rfl, rfl, hcut⟩ := hcut
  obtain ⟨wi17, hwc9⟩ : ∃ x, x = wc := ⟨_, rfl⟩
  subst hwc9
  obtain ⟨hn, hbXh0, hlo_3, ho3, hp3, hN3, hM3⟩ := hcut
  have hs19_ := Lib.hid (show w16.heap.size ≤ wi17.heap.size by have hq9 := hn.size; (try simp at hq9); (try simp); omega)
  replace hb := hb.trans (hn.mono hb.size)
  replace hbB1 := hbB1.below hn hbB1.lt
  replace hbXw0 := hbXw0.below hn hbXw0.lt
  replace hbXx1 := hbXx1.below hn hbXx1.lt
  replace hbXg0 := hbXg0.below hn hbXg0.lt
  replace ho1 := row_step ho1 hn
  replace hp1 := row_step hp1 hn
  replace ho2 := row_step ho2 hn
  replace hp2 := row_step hp2 hn
  clear hn
  have hs20_ := Lib.hid (show w16.heap.size ≤ g9_3 ∧ g9_3 < wi17.heap.size from ⟨by omega, hbXh0.lt⟩)
  have HR3 := Lib.hid (show ∀ k, (Value.slice V3 N3 C3).ownBlock = some k → w16.heap.size ≤ k ∧ k < wi17.heap.size from fun k e => ⟨by have h9 := (ho3.lt k e).1; (try simp at h9); omega, (ho3.lt k e).2⟩)
  have HQ3 := Lib.hid (show ∀ k, (Value.slice U3 M3 E3).ownBlock = some k → w16.heap.size ≤ k ∧ k < wi17.heap.size from fun k e => ⟨by have h9 := (hp3.lt k e).1; (try simp at h9); omega, (hp3.lt k e).2⟩)
  have pB10 : _ = some (.slice A1 n1 cp1 : Value) := hbB1.cell 0
  have pB11 : _ = some (.slice D1 m1 cd1 : Value) := hbB1.cell 1
  have pXw00 : _ = some (.slice V1 N1 C1 : Value) := hbXw0.cell 0
  have pXw01 : _ = some (.slice U1 M1 E1 : Value) := hbXw0.cell 1
  have pXx10 : _ = some (.slice (some ⟨g2, 0, none⟩) n1 n1 : Value) := hbXx1.cell 0
  have pXx11 : _ = some (.slice (some ⟨gg2, 0, none⟩) m1 m1 : Value) := hbXx1.cell 1
  have pXg00 : _ = some (.slice V2 N2 C2 : Value) := hbXg0.cell 0
  have pXg01 : _ = some (.slice U2 M2 E2 : Value) := hbXg0.cell 1
  have pXh00 : _ = some (.slice V3 N3 C3 : Value) := hbXh0.cell 0
  have pXh01 : _ = some (.slice U3 M3 E3 : Value) := hbXh0.cell 1
  go_wp2_with fail
  refine (eqSetting_same (RBxs.of_own ho3) (RStrs.of_own hp3) (RBxs.of_own ho1) (RStrs.of_own hp1) hN3 hM3).mono ?_
  rintro e1 w19 ⟨rfl, hn⟩
  clear pB10 pB11 pXw00 pXw01 pXx10 pXx11 pXg00 pXg01 pXh00 pXh01
  have hs21_ := Lib.hid (show wi17.heap.size ≤ w19.heap.size by have hq9 := hn.size; (try simp at hq9); (try simp); omega)
  replace hb := hb.trans (hn.mono hb.size)
  replace hbB1 := hbB1.below hn hbB1.lt
  replace hbXw0 := hbXw0.below hn hbXw0.lt
  replace hbXx1 := hbXx1.below hn hbXx1.lt
  replace hbXg0 := hbXg0.below hn hbXg0.lt
  replace hbXh0 := hbXh0.below hn hbXh0.lt
  replace ho1 := row_step ho1 hn
  replace hp1 := row_step hp1 hn
  replace ho2 := row_step ho2 hn
  replace hp2 := row_step hp2 hn
  replace ho3 := row_step ho3 hn
  replace hp3 := row_step hp3 hn
  clear hn
  -- held
  have pB10 : _ = some (.slice A1 n1 cp1 : Value) := hbB1.cell 0
  have pB11 : _ = some (.slice D1 m1 cd1 : Value) := hbB1.cell 1
  have pXw00 : _ = some (.slice V1 N1 C1 : Value) := hbXw0.cell 0
  have pXw01 : _ = some (.slice U1 M1 E1 : Value) := hbXw0.cell 1
  have pXx10 : _ = some (.slice (some ⟨g2, 0, none⟩) n1 n1 : Value) := hbXx1.cell 0
  have pXx11 : _ = some (.slice (some ⟨gg2, 0, none⟩) m1 m1 : Value) := hbXx1.cell 1
  have pXg00 : _ = some (.slice V2 N2 C2 : Value) := hbXg0.cell 0
  have pXg01 : _ = some (.slice U2 M2 E2 : Value) := hbXg0.cell 1
  have pXh00 : _ = some (.slice V3 N3 C3 : Value) := hbXh0.cell 0
  have pXh01 : _ = some (.slice U3 M3 E3 : Value) := hbXh0.cell 1
  go_wp2_with fail
  refine (heldSetting_any (RBxs.of_own ho2) (RStrs.of_own hp2) hN2 hM2 (by omega)).mono ?_
  rintro e1 w20 ⟨rfl, hn⟩
  clear pB10 pB11 pXw00 pXw01 pXx10 pXx11 pXg00 pXg01 pXh00 pXh01
  have hs22_ := Lib.hid (show w19.heap.size ≤ w20.heap.size by have hq9 := hn.size; (try simp at hq9); (try simp); omega)
  replace hb := hb.trans (hn.mono hb.size)
  replace hbB1 := hbB1.below hn hbB1.lt
  replace hbXw0 := hbXw0.below hn hbXw0.lt
  replace hbXx1 := hbXx1.below hn hbXx1.lt
  replace hbXg0 := hbXg0.below hn hbXg0.lt
  replace hbXh0 := hbXh0.below hn hbXh0.lt
  replace ho1 := row_step ho1 hn
  replace hp1 := row_step hp1 hn
  replace ho2 := row_step ho2 hn
  replace hp2 := row_step hp2 hn
  replace ho3 := row_step ho3 hn
  replace hp3 := row_step hp3 hn
  clear hn
  have pB10 : _ = some (.slice A1 n1 cp1 : Value) := hbB1.cell 0
  have pB11 : _ = some (.slice D1 m1 cd1 : Value) := hbB1.cell 1
  have pXw00 : _ = some (.slice V1 N1 C1 : Value) := hbXw0.cell 0
  have pXw01 : _ = some (.slice U1 M1 E1 : Value) := hbXw0.cell 1
  have pXx10 : _ = some (.slice (some ⟨g2, 0, none⟩) n1 n1 : Value) := hbXx1.cell 0
  have pXx11 : _ = some (.slice (some ⟨gg2, 0, none⟩) m1 m1 : Value) := hbXx1.cell 1
  have pXg00 : _ = some (.slice V2 N2 C2 : Value) := hbXg0.cell 0
  have pXg01 : _ = some (.slice U2 M2 E2 : Value) := hbXg0.cell 1
  have pXh00 : _ = some (.slice V3 N3 C3 : Value) := hbXh0.cell 0
  have pXh01 : _ = some (.slice U3 M3 E3 : Value) := hbXh0.cell 1
  go_wp2_with fail
  go_ret
  exact ⟨rfl, hb⟩
end Go.Proofs.Ytfdmenhnejfhjaa
