/-
  The walk of the law of DistributeType.
-/
import Derived.Test.YtjcopempjanhhaaDt1
import Derived.Test.YtjcopempjanhhaaOSetg
import Derived.Deep.RegionHeld3
namespace Go.Proofs.Ytjcopempjanhhaa
open Go.RowKit
set_option maxRecDepth 100000 in
set_option maxHeartbeats 4000000 in
theorem distributeTypeLaw (W : World) (A0 : Option Addr) (n0 cp0 : Nat) (xs0 : List Bx) (hr0 : RBxs W W.heap.size A0 n0 xs0) (hn0 : n0 ≤ maxLen) (hX0 : ∀ m ∈ xs0, m.code.size ≤ maxLen) (D0 : Option Addr) (m0 cd0 : Nat) (ys0 : List ByteArray) (hs0 : RStrs W W.heap.size D0 m0 ys0) (hmm0 : m0 ≤ maxLen) (hY0 : ∀ s ∈ ys0, s.size ≤ maxLen) (k1 : Int) (hI1 : -9223372036854775808 ≤ k1 ∧ k1 ≤ 9223372036854775807) (s2 : ByteArray) (hs2 : s2.size ≤ maxLen) : Calls Try.prog 10 #[.agg #[.slice A0 n0 cp0, .slice D0 m0 cd0], .int .i64 k1, .string s2] W fun e W' => e = .returned (.bool true) ∧ Below W.heap.size W W' := by
  unfold maxLen at hn0
  have HL0 := Lib.hid hr0.len
  unfold maxLen at hmm0
  have HLs0 := Lib.hid hs0.len
  have hbB0 := Blk.new' W 26 #[.slice A0 n0 cp0, .slice D0 m0 cd0]
  have hb : Below W.heap.size W (W.alloc (.cells #[.slice A0 n0 cp0, .slice D0 m0 cd0] 26)) := (by (repeat (first | exact Below.refl _ _ | exact hb | apply Below.drew | (refine Below.alloc ?_ (by first | (simp; done) | (simp; omega) | (have := hb.size; simp at this ⊢; omega)) _) | (refine Below.setCell ?_ (by simp) _))))
  by_cases hbig2 : 1048576 < s2.size
  · go_enter Try.func10, Try.ntmps10
    go_wp2_with fail
    go_ret
    exact ⟨rfl, hb⟩
  have hm2 : s2.size ≤ 1048576 := by omega
  by_cases hz1 : szSet xs0 ys0 1048576 < 0
  · go_enter Try.func10, Try.ntmps10
    go_wp2_with fail
    refine (szSetting_any (RBxs.below hr0 hb |>.more hb.size) (by omega) hX0 (RStrs.below hs0 hb |>.more hb.size) (by omega) hY0 (l := 1048576) (by omega)).mono ?_
    rintro e1 w1 ⟨rfl, hn⟩
    have hs0_ := Lib.hid (show W.heap.size + 1 ≤ w1.heap.size by have hq9 := hn.size; (try simp at hq9); (try simp); omega)
    replace hb := hb.trans (hn.mono hb.size)
    replace hbB0 := hbB0.below hn hbB0.lt
    clear hn
    go_wp2_with fail
    go_ret
    exact ⟨rfl, hb⟩
  have hy1 := szSet_ok (bs := xs0) (ss := ys0) (l := 1048576) (by omega) (by omega)
  have hm0 : n0 ≤ 1048576 := by have := HL0.out; omega
  have hms0 : m0 ≤ 1048576 := by have := HLs0.out; omega
  have HX0 := Lib.hid (show ∀ m ∈ xs0, m.code.size ≤ 1048576 from fun m hm => by have := hy1.2.2.2.1 m hm; omega)
  have HY0 := Lib.hid (show ∀ m ∈ ys0, m.size ≤ 1048576 from fun m hm => by have := hy1.2.2.2.2 m hm; omega)
  have hz1_ : szSet xs0 ys0 1048576 ≤ 1048576 := hy1.2.2.1
  clear hy1
  go_enter Try.func10, Try.ntmps10
  go_wp2_with fail
  refine (szSetting_any (RBxs.below hr0 hb |>.more hb.size) (by omega) hX0 (RStrs.below hs0 hb |>.more hb.size) (by omega) hY0 (l := 1048576) (by omega)).mono ?_
  rintro e1 w1 ⟨rfl, hn⟩
  have hs0_ := Lib.hid (show W.heap.size + 1 ≤ w1.heap.size by have hq9 := hn.size; (try simp at hq9); (try simp); omega)
  replace hb := hb.trans (hn.mono hb.size)
  replace hbB0 := hbB0.below hn hbB0.lt
  clear hn
  have pB00 : _ = some (.slice A0 n0 cp0 : Value) := hbB0.cell 0
  have pB01 : _ = some (.slice D0 m0 cd0 : Value) := hbB0.cell 1
  go_wp2_with fail
  refine (toSetting_any (RBxs.below hr0 hb |>.more hb.size) hm0 (RStrs.below hs0 hb |>.more hb.size) hms0).mono ?_
  rintro e1 w2 ⟨g1, gg1, rfl, hg1, hgg1, hk1, hkk1, hn⟩
  clear pB00 pB01
  have hs1_ := Lib.hid (show w1.heap.size ≤ w2.heap.size by have hq9 := hn.size; (try simp at hq9); (try simp); omega)
  replace hb := hb.trans (hn.mono hb.size)
  replace hbB0 := hbB0.below hn hbB0.lt
  clear hn
  have hs2_ := Lib.hid (show w1.heap.size ≤ g1 ∧ g1 < gg1 ∧ gg1 < w2.heap.size from ⟨by (try simp at hg1); omega, hgg1, hkk1.lt⟩)
  clear hg1 hgg1
  have pB00 : _ = some (.slice A0 n0 cp0 : Value) := hbB0.cell 0
  have pB01 : _ = some (.slice D0 m0 cd0 : Value) := hbB0.cell 1
  go_wp2_with fail
  refine (distributeType_spec (RBxs.of_blk hk1 HL0.out) hm0 (Nat.le_refl _) HX0.out (RStrs.of_blk hkk1 HLs0.out) hms0 (Nat.le_refl _) HY0.out hI1 hm2).mono ?_
  rintro e1 w3 ⟨V1, N1, C1, U1, M1, E1, rfl, ho1, hp1, hN1, hM1, hn⟩
  clear pB00 pB01
  clear hk1
  clear hkk1
  have hs3_ := Lib.hid (show w2.heap.size ≤ w3.heap.size by have hq9 := hn.size; (try simp at hq9); (try simp); omega)
  replace hb := hb.trans (hn.mono hb.size)
  replace hbB0 := hbB0.below hn hbB0.lt
  clear hn
  have HR1 := Lib.hid (show ∀ k, (Value.slice V1 N1 C1).ownBlock = some k → w2.heap.size ≤ k ∧ k < w3.heap.size from fun k e => ⟨by have h9 := (ho1.lt k e).1; (try simp at h9); omega, (ho1.lt k e).2⟩)
  have HQ1 := Lib.hid (show ∀ k, (Value.slice U1 M1 E1).ownBlock = some k → w2.heap.size ≤ k ∧ k < w3.heap.size from fun k e => ⟨by have h9 := (hp1.lt k e).1; (try simp at h9); omega, (hp1.lt k e).2⟩)
  have hbXw0 := Blk.new' w3 31 #[.slice V1 N1 C1, .slice U1 M1 E1]
  replace hb := hb.alloc hb.size (.cells #[.slice V1 N1 C1, .slice U1 M1 E1] 31)
  replace hbB0 := hbB0.alloc (.cells #[.slice V1 N1 C1, .slice U1 M1 E1] 31)
  replace ho1 := row_alloc ho1 (.cells #[.slice V1 N1 C1, .slice U1 M1 E1] 31)
  replace hp1 := row_alloc hp1 (.cells #[.slice V1 N1 C1, .slice U1 M1 E1] 31)
  have pB00 : _ = some (.slice A0 n0 cp0 : Value) := hbB0.cell 0
  have pB01 : _ = some (.slice D0 m0 cd0 : Value) := hbB0.cell 1
  have pXw00 : _ = some (.slice V1 N1 C1 : Value) := hbXw0.cell 0
  have pXw01 : _ = some (.slice U1 M1 E1 : Value) := hbXw0.cell 1
  go_wp2_with fail
  refine (toSetting_any (RBxs.below hr0 hb |>.more hb.size) hm0 (RStrs.below hs0 hb |>.more hb.size) hms0).mono ?_
  rintro e1 w4 ⟨g2, gg2, rfl, hg2, hgg2, hk2, hkk2, hn⟩
  clear pB00 pB01 pXw00 pXw01
  have hs4_ := Lib.hid (show w3.heap.size + 1 ≤ w4.heap.size by have hq9 := hn.size; (try simp at hq9); (try simp); omega)
  replace hb := hb.trans (hn.mono hb.size)
  replace hbB0 := hbB0.below hn hbB0.lt
  replace hbXw0 := hbXw0.below hn hbXw0.lt
  replace ho1 := row_step ho1 hn
  replace hp1 := row_step hp1 hn
  clear hn
  have hs5_ := Lib.hid (show w3.heap.size + 1 ≤ g2 ∧ g2 < gg2 ∧ gg2 < w4.heap.size from ⟨by (try simp at hg2); omega, hgg2, hkk2.lt⟩)
  clear hg2 hgg2
  have hbXx0 := Blk.new' w4 31 #[.slice (some ⟨g2, 0, none⟩) n0 n0, .slice (some ⟨gg2, 0, none⟩) m0 m0]
  replace hb := hb.alloc hb.size (.cells #[.slice (some ⟨g2, 0, none⟩) n0 n0, .slice (some ⟨gg2, 0, none⟩) m0 m0] 31)
  replace hbB0 := hbB0.alloc (.cells #[.slice (some ⟨g2, 0, none⟩) n0 n0, .slice (some ⟨gg2, 0, none⟩) m0 m0] 31)
  replace hbXw0 := hbXw0.alloc (.cells #[.slice (some ⟨g2, 0, none⟩) n0 n0, .slice (some ⟨gg2, 0, none⟩) m0 m0] 31)
  replace ho1 := row_alloc ho1 (.cells #[.slice (some ⟨g2, 0, none⟩) n0 n0, .slice (some ⟨gg2, 0, none⟩) m0 m0] 31)
  replace hp1 := row_alloc hp1 (.cells #[.slice (some ⟨g2, 0, none⟩) n0 n0, .slice (some ⟨gg2, 0, none⟩) m0 m0] 31)
  replace hk2 := hk2.alloc (.cells #[.slice (some ⟨g2, 0, none⟩) n0 n0, .slice (some ⟨gg2, 0, none⟩) m0 m0] 31)
  replace hkk2 := hkk2.alloc (.cells #[.slice (some ⟨g2, 0, none⟩) n0 n0, .slice (some ⟨gg2, 0, none⟩) m0 m0] 31)
  have pB00 : _ = some (.slice A0 n0 cp0 : Value) := hbB0.cell 0
  have pB01 : _ = some (.slice D0 m0 cd0 : Value) := hbB0.cell 1
  have pXw00 : _ = some (.slice V1 N1 C1 : Value) := hbXw0.cell 0
  have pXw01 : _ = some (.slice U1 M1 E1 : Value) := hbXw0.cell 1
  have pXx00 : _ = some (.slice (some ⟨g2, 0, none⟩) n0 n0 : Value) := hbXx0.cell 0
  have pXx01 : _ = some (.slice (some ⟨gg2, 0, none⟩) m0 m0 : Value) := hbXx0.cell 1
  go_wp2_with fail
  refine (distributeType_impl (RBxs.of_blk hk2 HL0.out) hm0 (Nat.le_refl _) HX0.out (RStrs.of_blk hkk2 HLs0.out) hms0 (Nat.le_refl _) HY0.out hI1 hm2).mono ?_
  rintro e1 w5 ⟨V2, N2, C2, U2, M2, E2, rfl, ho2, hp2, hN2, hM2, hn⟩
  clear pB00 pB01 pXw00 pXw01 pXx00 pXx01
  have hs6_ := Lib.hid (show w4.heap.size + 1 ≤ w5.heap.size by have hq9 := hn.size; (try simp at hq9); (try simp); omega)
  replace hb := hb.trans (hn.mono hb.size)
  replace hbB0 := hbB0.below hn hbB0.lt
  replace hbXw0 := hbXw0.below hn hbXw0.lt
  replace hbXx0 := hbXx0.below hn hbXx0.lt
  replace ho1 := row_step ho1 hn
  replace hp1 := row_step hp1 hn
  replace hk2 := hk2.below hn hk2.lt
  replace hkk2 := hkk2.below hn hkk2.lt
  clear hn
  have HR2 := Lib.hid (show ∀ k, (Value.slice V2 N2 C2).ownBlock = some k → w4.heap.size + 1 ≤ k ∧ k < w5.heap.size from fun k e => ⟨by have h9 := (ho2.lt k e).1; (try simp at h9); omega, (ho2.lt k e).2⟩)
  have HQ2 := Lib.hid (show ∀ k, (Value.slice U2 M2 E2).ownBlock = some k → w4.heap.size + 1 ≤ k ∧ k < w5.heap.size from fun k e => ⟨by have h9 := (hp2.lt k e).1; (try simp at h9); omega, (hp2.lt k e).2⟩)
  have hbXg0 := Blk.new' w5 31 #[.slice V2 N2 C2, .slice U2 M2 E2]
  replace hb := hb.alloc hb.size (.cells #[.slice V2 N2 C2, .slice U2 M2 E2] 31)
  replace hbB0 := hbB0.alloc (.cells #[.slice V2 N2 C2, .slice U2 M2 E2] 31)
  replace hbXw0 := hbXw0.alloc (.cells #[.slice V2 N2 C2, .slice U2 M2 E2] 31)
  replace hbXx0 := hbXx0.alloc (.cells #[.slice V2 N2 C2, .slice U2 M2 E2] 31)
  replace ho1 := row_alloc ho1 (.cells #[.slice V2 N2 C2, .slice U2 M2 E2] 31)
  replace hp1 := row_alloc hp1 (.cells #[.slice V2 N2 C2, .slice U2 M2 E2] 31)
  replace hk2 := hk2.alloc (.cells #[.slice V2 N2 C2, .slice U2 M2 E2] 31)
  replace hkk2 := hkk2.alloc (.cells #[.slice V2 N2 C2, .slice U2 M2 E2] 31)
  replace ho2 := row_alloc ho2 (.cells #[.slice V2 N2 C2, .slice U2 M2 E2] 31)
  replace hp2 := row_alloc hp2 (.cells #[.slice V2 N2 C2, .slice U2 M2 E2] 31)
  have pB00 : _ = some (.slice A0 n0 cp0 : Value) := hbB0.cell 0
  have pB01 : _ = some (.slice D0 m0 cd0 : Value) := hbB0.cell 1
  have pXw00 : _ = some (.slice V1 N1 C1 : Value) := hbXw0.cell 0
  have pXw01 : _ = some (.slice U1 M1 E1 : Value) := hbXw0.cell 1
  have pXx00 : _ = some (.slice (some ⟨g2, 0, none⟩) n0 n0 : Value) := hbXx0.cell 0
  have pXx01 : _ = some (.slice (some ⟨gg2, 0, none⟩) m0 m0 : Value) := hbXx0.cell 1
  have pXg00 : _ = some (.slice V2 N2 C2 : Value) := hbXg0.cell 0
  have pXg01 : _ = some (.slice U2 M2 E2 : Value) := hbXg0.cell 1
  go_wp2_with fail
  refine (eqSetting_same (RBxs.of_own ho2) (RStrs.of_own hp2) (RBxs.of_own ho1) (RStrs.of_own hp1) hN2 hM2).mono ?_
  rintro e1 w6 ⟨rfl, hn⟩
  clear pB00 pB01 pXw00 pXw01 pXx00 pXx01 pXg00 pXg01
  have hs7_ := Lib.hid (show w5.heap.size + 1 ≤ w6.heap.size by have hq9 := hn.size; (try simp at hq9); (try simp); omega)
  replace hb := hb.trans (hn.mono hb.size)
  replace hbB0 := hbB0.below hn hbB0.lt
  replace hbXw0 := hbXw0.below hn hbXw0.lt
  replace hbXx0 := hbXx0.below hn hbXx0.lt
  replace hbXg0 := hbXg0.below hn hbXg0.lt
  replace ho1 := row_step ho1 hn
  replace hp1 := row_step hp1 hn
  replace hk2 := hk2.below hn hk2.lt
  replace hkk2 := hkk2.below hn hkk2.lt
  replace ho2 := row_step ho2 hn
  replace hp2 := row_step hp2 hn
  clear hn
  have HC := Lib.hid (show ∀ wx, Below w6.heap.size w6 wx → (wx.cell? ⟨w4.heap.size, 0, none⟩ = some (.slice (some ⟨g2, 0, none⟩) n0 n0) ∧ wx.cell? ⟨w4.heap.size, 1, none⟩ = some (.slice (some ⟨gg2, 0, none⟩) m0 m0)) ∧ (wx.cell? ⟨W.heap.size, 0, none⟩ = some (.slice A0 n0 cp0) ∧ wx.cell? ⟨W.heap.size, 1, none⟩ = some (.slice D0 m0 cd0)) from fun wx h => ⟨⟨(hbXx0.below h hbXx0.lt).cell 0, (hbXx0.below h hbXx0.lt).cell 1⟩, ⟨(hbB0.below h hbB0.lt).cell 0, (hbB0.below h hbB0.lt).cell 1⟩⟩)
  go_wp2_with fail
  go_region_held3 (fun wx => Below w6.heap.size w6 wx ∧ (wx.cell? ⟨w4.heap.size, 0, none⟩ = some (.slice (some ⟨g2, 0, none⟩) n0 n0) ∧ wx.cell? ⟨w4.heap.size, 1, none⟩ = some (.slice (some ⟨gg2, 0, none⟩) m0 m0)) ∧ (wx.cell? ⟨W.heap.size, 0, none⟩ = some (.slice A0 n0 cp0) ∧ wx.cell? ⟨W.heap.size, 1, none⟩ = some (.slice D0 m0 cd0))) ((first | exact ⟨(Below.refl _ _).drew, HC.out _ (Below.refl _ _).drew⟩ | (have hh : Below _ _ _ ∧ _ := (by assumption); have hh0 := hh.1.trans (hn.mono hh.1.size); exact ⟨hh0, HC.out _ hh0⟩) | assumption | go_keep)) (first
    | (go_at_call 18; (have hh : Below _ _ _ ∧ _ := (by assumption)); refine (toSetting_any ((RBxs.below hr0 (hb.trans (hh.1.mono hb.size))).more (Nat.le_trans hb.size hh.1.size)) hm0 ((RStrs.below hs0 (hb.trans (hh.1.mono hb.size))).more (Nat.le_trans hb.size hh.1.size)) hms0).mono ?_; rintro e1 wi7 ⟨gq, gqq, rfl, hgq, hgqq, hkq, hkqq, hn⟩)
    | (go_at_call 20; (have hh : Below _ _ _ ∧ _ := (by assumption)); refine (eqSetting_any ((RBxs.below (RBxs.of_blk hk2 HL0.out) hh.1).more hh.1.size) ((RStrs.below (RStrs.of_blk hkk2 HLs0.out) hh.1).more hh.1.size) (RBxs.of_blk (by exact hkq) HL0.out) (RStrs.of_blk (by exact hkqq) HLs0.out) hm0 hms0).mono ?_; rintro e1 wi7 ⟨rfl, hn⟩))
  clear HC
  have hn0 : Below w6.heap.size w6 _ ∧ _ := (by assumption)
  obtain ⟨hn, _⟩ := hn0
  have hs8_ := Lib.hid (show w6.heap.size ≤ wi7.heap.size by have hq9 := hn.size; (try simp at hq9); (try simp); omega)
  replace hb := hb.trans (hn.mono hb.size)
  replace hbB0 := hbB0.below hn hbB0.lt
  replace hbXw0 := hbXw0.below hn hbXw0.lt
  replace hbXx0 := hbXx0.below hn hbXx0.lt
  replace hbXg0 := hbXg0.below hn hbXg0.lt
  replace ho1 := row_step ho1 hn
  replace hp1 := row_step hp1 hn
  replace hk2 := hk2.below hn hk2.lt
  replace hkk2 := hkk2.below hn hkk2.lt
  replace ho2 := row_step ho2 hn
  replace hp2 := row_step hp2 hn
  clear hn
  have pB00 : _ = some (.slice A0 n0 cp0 : Value) := hbB0.cell 0
  have pB01 : _ = some (.slice D0 m0 cd0 : Value) := hbB0.cell 1
  have pXw00 : _ = some (.slice V1 N1 C1 : Value) := hbXw0.cell 0
  have pXw01 : _ = some (.slice U1 M1 E1 : Value) := hbXw0.cell 1
  have pXx00 : _ = some (.slice (some ⟨g2, 0, none⟩) n0 n0 : Value) := hbXx0.cell 0
  have pXx01 : _ = some (.slice (some ⟨gg2, 0, none⟩) m0 m0 : Value) := hbXx0.cell 1
  have pXg00 : _ = some (.slice V2 N2 C2 : Value) := hbXg0.cell 0
  have pXg01 : _ = some (.slice U2 M2 E2 : Value) := hbXg0.cell 1
  go_wp2_with fail
  refine (markSetting_any (lo := g2) (hi := gg2 + 1) (bs := xs0) (ss := ys0) (hk2.row (B := g2) (size := 4) (by rw [flatten_len (size := 4) (by simp [Bx.row]), List.length_map, HL0.out]) (by unfold maxLen; omega) (Nat.le_refl _)) (hkk2.row (B := gg2) (size := 1) (by simp [HLs0.out]) (by unfold maxLen; omega) (Nat.le_refl _)) hm0 hms0 (by omega) (fun k e => by have := hs0_.out; have := hs1_.out; have := hs2_.out; have := hs3_.out; have := hs4_.out; have := hs5_.out; have := hs6_.out; have := hs7_.out; have := hs8_.out; injection e with e; simp at e; omega) (fun k e => by have := hs0_.out; have := hs1_.out; have := hs2_.out; have := hs3_.out; have := hs4_.out; have := hs5_.out; have := hs6_.out; have := hs7_.out; have := hs8_.out; injection e with e; simp at e; omega)).mono ?_
  rintro e1 w8 ⟨rfl, _, _, hq⟩
  clear pB00 pB01 pXw00 pXw01 pXx00 pXx01 pXg00 pXg01
  clear hk2 hkk2
  replace hb := hb.trans (hq.below (by have := hs0_.out; have := hs1_.out; have := hs2_.out; have := hs3_.out; have := hs4_.out; have := hs5_.out; have := hs6_.out; have := hs7_.out; have := hs8_.out; omega) hb.size)
  replace hbB0 := hbB0.keptI hq (by have := hs0_.out; have := hs1_.out; have := hs2_.out; have := hs3_.out; have := hs4_.out; have := hs5_.out; have := hs6_.out; have := hs7_.out; have := hs8_.out; omega)
  replace hbXw0 := hbXw0.keptI hq (by have := hs0_.out; have := hs1_.out; have := hs2_.out; have := hs3_.out; have := hs4_.out; have := hs5_.out; have := hs6_.out; have := hs7_.out; have := hs8_.out; omega)
  replace hbXx0 := hbXx0.keptI hq (by have := hs0_.out; have := hs1_.out; have := hs2_.out; have := hs3_.out; have := hs4_.out; have := hs5_.out; have := hs6_.out; have := hs7_.out; have := hs8_.out; omega)
  replace hbXg0 := hbXg0.keptI hq (by have := hs0_.out; have := hs1_.out; have := hs2_.out; have := hs3_.out; have := hs4_.out; have := hs5_.out; have := hs6_.out; have := hs7_.out; have := hs8_.out; omega)
  replace ho1 := row_keptI ho1 hq (fun k e => by have := hs0_.out; have := hs1_.out; have := hs2_.out; have := hs3_.out; have := hs4_.out; have := hs5_.out; have := hs6_.out; have := hs7_.out; have := hs8_.out; have := HR1.out k e; omega)
  replace hp1 := row_keptI hp1 hq (fun k e => by have := hs0_.out; have := hs1_.out; have := hs2_.out; have := hs3_.out; have := hs4_.out; have := hs5_.out; have := hs6_.out; have := hs7_.out; have := hs8_.out; have := HQ1.out k e; omega)
  replace ho2 := row_keptI ho2 hq (fun k e => by have := hs0_.out; have := hs1_.out; have := hs2_.out; have := hs3_.out; have := hs4_.out; have := hs5_.out; have := hs6_.out; have := hs7_.out; have := hs8_.out; have := HR2.out k e; omega)
  replace hp2 := row_keptI hp2 hq (fun k e => by have := hs0_.out; have := hs1_.out; have := hs2_.out; have := hs3_.out; have := hs4_.out; have := hs5_.out; have := hs6_.out; have := hs7_.out; have := hs8_.out; have := HQ2.out k e; omega)
  have hs9_ := Lib.hid (show wi7.heap.size ≤ w8.heap.size from hq.size)
  clear hq
  have pB00 : _ = some (.slice A0 n0 cp0 : Value) := hbB0.cell 0
  have pB01 : _ = some (.slice D0 m0 cd0 : Value) := hbB0.cell 1
  have pXw00 : _ = some (.slice V1 N1 C1 : Value) := hbXw0.cell 0
  have pXw01 : _ = some (.slice U1 M1 E1 : Value) := hbXw0.cell 1
  have pXx00 : _ = some (.slice (some ⟨g2, 0, none⟩) n0 n0 : Value) := hbXx0.cell 0
  have pXx01 : _ = some (.slice (some ⟨gg2, 0, none⟩) m0 m0 : Value) := hbXx0.cell 1
  have pXg00 : _ = some (.slice V2 N2 C2 : Value) := hbXg0.cell 0
  have pXg01 : _ = some (.slice U2 M2 E2 : Value) := hbXg0.cell 1
  go_wp2_with fail
  refine (eqSetting_same (RBxs.of_own ho2) (RStrs.of_own hp2) (RBxs.of_own ho1) (RStrs.of_own hp1) hN2 hM2).mono ?_
  rintro e1 w9 ⟨rfl, hn⟩
  clear pB00 pB01 pXw00 pXw01 pXx00 pXx01 pXg00 pXg01
  have hs10_ := Lib.hid (show w8.heap.size ≤ w9.heap.size by have hq9 := hn.size; (try simp at hq9); (try simp); omega)
  replace hb := hb.trans (hn.mono hb.size)
  replace hbB0 := hbB0.below hn hbB0.lt
  replace hbXw0 := hbXw0.below hn hbXw0.lt
  replace hbXx0 := hbXx0.below hn hbXx0.lt
  replace hbXg0 := hbXg0.below hn hbXg0.lt
  replace ho1 := row_step ho1 hn
  replace hp1 := row_step hp1 hn
  replace ho2 := row_step ho2 hn
  replace hp2 := row_step hp2 hn
  clear hn
  have pB00 : _ = some (.slice A0 n0 cp0 : Value) := hbB0.cell 0
  have pB01 : _ = some (.slice D0 m0 cd0 : Value) := hbB0.cell 1
  have pXw00 : _ = some (.slice V1 N1 C1 : Value) := hbXw0.cell 0
  have pXw01 : _ = some (.slice U1 M1 E1 : Value) := hbXw0.cell 1
  have pXx00 : _ = some (.slice (some ⟨g2, 0, none⟩) n0 n0 : Value) := hbXx0.cell 0
  have pXx01 : _ = some (.slice (some ⟨gg2, 0, none⟩) m0 m0 : Value) := hbXx0.cell 1
  have pXg00 : _ = some (.slice V2 N2 C2 : Value) := hbXg0.cell 0
  have pXg01 : _ = some (.slice U2 M2 E2 : Value) := hbXg0.cell 1
  go_wp2_with fail
  refine (markSetting_any (lo := w4.heap.size + 1) (hi := w5.heap.size) ho2 hp2 hN2 hM2 (by omega) HR2.out HQ2.out).mono ?_
  rintro e1 w10 ⟨rfl, ho2, hp2, hq⟩
  clear pB00 pB01 pXw00 pXw01 pXx00 pXx01 pXg00 pXg01
  replace hb := hb.trans (hq.below (by have := hs0_.out; have := hs1_.out; have := hs2_.out; have := hs3_.out; have := hs4_.out; have := hs5_.out; have := hs6_.out; have := hs7_.out; have := hs8_.out; have := hs9_.out; have := hs10_.out; omega) hb.size)
  replace hbB0 := hbB0.keptI hq (by have := hs0_.out; have := hs1_.out; have := hs2_.out; have := hs3_.out; have := hs4_.out; have := hs5_.out; have := hs6_.out; have := hs7_.out; have := hs8_.out; have := hs9_.out; have := hs10_.out; omega)
  replace hbXw0 := hbXw0.keptI hq (by have := hs0_.out; have := hs1_.out; have := hs2_.out; have := hs3_.out; have := hs4_.out; have := hs5_.out; have := hs6_.out; have := hs7_.out; have := hs8_.out; have := hs9_.out; have := hs10_.out; omega)
  replace hbXx0 := hbXx0.keptI hq (by have := hs0_.out; have := hs1_.out; have := hs2_.out; have := hs3_.out; have := hs4_.out; have := hs5_.out; have := hs6_.out; have := hs7_.out; have := hs8_.out; have := hs9_.out; have := hs10_.out; omega)
  replace hbXg0 := hbXg0.keptI hq (by have := hs0_.out; have := hs1_.out; have := hs2_.out; have := hs3_.out; have := hs4_.out; have := hs5_.out; have := hs6_.out; have := hs7_.out; have := hs8_.out; have := hs9_.out; have := hs10_.out; omega)
  replace ho1 := row_keptI ho1 hq (fun k e => by have := hs0_.out; have := hs1_.out; have := hs2_.out; have := hs3_.out; have := hs4_.out; have := hs5_.out; have := hs6_.out; have := hs7_.out; have := hs8_.out; have := hs9_.out; have := hs10_.out; have := HR1.out k e; omega)
  replace hp1 := row_keptI hp1 hq (fun k e => by have := hs0_.out; have := hs1_.out; have := hs2_.out; have := hs3_.out; have := hs4_.out; have := hs5_.out; have := hs6_.out; have := hs7_.out; have := hs8_.out; have := hs9_.out; have := hs10_.out; have := HQ1.out k e; omega)
  have hs11_ := Lib.hid (show w9.heap.size ≤ w10.heap.size from hq.size)
  clear hq
  -- held
  have pB00 : _ = some (.slice A0 n0 cp0 : Value) := hbB0.cell 0
  have pB01 : _ = some (.slice D0 m0 cd0 : Value) := hbB0.cell 1
  have pXw00 : _ = some (.slice V1 N1 C1 : Value) := hbXw0.cell 0
  have pXw01 : _ = some (.slice U1 M1 E1 : Value) := hbXw0.cell 1
  have pXx00 : _ = some (.slice (some ⟨g2, 0, none⟩) n0 n0 : Value) := hbXx0.cell 0
  have pXx01 : _ = some (.slice (some ⟨gg2, 0, none⟩) m0 m0 : Value) := hbXx0.cell 1
  have pXg00 : _ = some (.slice V2 N2 C2 : Value) := hbXg0.cell 0
  have pXg01 : _ = some (.slice U2 M2 E2 : Value) := hbXg0.cell 1
  go_wp2_with fail
  refine (heldSetting_any (RBxs.of_own ho2) (RStrs.of_own hp2) hN2 hM2 (by omega)).mono ?_
  rintro e1 w11 ⟨rfl, hn⟩
  clear pB00 pB01 pXw00 pXw01 pXx00 pXx01 pXg00 pXg01
  have hs12_ := Lib.hid (show w10.heap.size ≤ w11.heap.size by have hq9 := hn.size; (try simp at hq9); (try simp); omega)
  replace hb := hb.trans (hn.mono hb.size)
  replace hbB0 := hbB0.below hn hbB0.lt
  replace hbXw0 := hbXw0.below hn hbXw0.lt
  replace hbXx0 := hbXx0.below hn hbXx0.lt
  replace hbXg0 := hbXg0.below hn hbXg0.lt
  replace ho1 := row_step ho1 hn
  replace hp1 := row_step hp1 hn
  replace ho2 := row_step ho2 hn
  replace hp2 := row_step hp2 hn
  clear hn
  have pB00 : _ = some (.slice A0 n0 cp0 : Value) := hbB0.cell 0
  have pB01 : _ = some (.slice D0 m0 cd0 : Value) := hbB0.cell 1
  have pXw00 : _ = some (.slice V1 N1 C1 : Value) := hbXw0.cell 0
  have pXw01 : _ = some (.slice U1 M1 E1 : Value) := hbXw0.cell 1
  have pXx00 : _ = some (.slice (some ⟨g2, 0, none⟩) n0 n0 : Value) := hbXx0.cell 0
  have pXx01 : _ = some (.slice (some ⟨gg2, 0, none⟩) m0 m0 : Value) := hbXx0.cell 1
  have pXg00 : _ = some (.slice V2 N2 C2 : Value) := hbXg0.cell 0
  have pXg01 : _ = some (.slice U2 M2 E2 : Value) := hbXg0.cell 1
  go_wp2_with fail
  refine (toSetting_any (RBxs.below hr0 hb |>.more hb.size) hm0 (RStrs.below hs0 hb |>.more hb.size) hms0).mono ?_
  rintro e1 w12 ⟨g3, gg3, rfl, hg3, hgg3, hk3, hkk3, hn⟩
  clear pB00 pB01 pXw00 pXw01 pXx00 pXx01 pXg00 pXg01
  have hs13_ := Lib.hid (show w11.heap.size ≤ w12.heap.size by have hq9 := hn.size; (try simp at hq9); (try simp); omega)
  replace hb := hb.trans (hn.mono hb.size)
  replace hbB0 := hbB0.below hn hbB0.lt
  replace hbXw0 := hbXw0.below hn hbXw0.lt
  replace hbXx0 := hbXx0.below hn hbXx0.lt
  replace hbXg0 := hbXg0.below hn hbXg0.lt
  replace ho1 := row_step ho1 hn
  replace hp1 := row_step hp1 hn
  replace ho2 := row_step ho2 hn
  replace hp2 := row_step hp2 hn
  clear hn
  have hs14_ := Lib.hid (show w11.heap.size ≤ g3 ∧ g3 < gg3 ∧ gg3 < w12.heap.size from ⟨by (try simp at hg3); omega, hgg3, hkk3.lt⟩)
  clear hg3 hgg3
  have pB00 : _ = some (.slice A0 n0 cp0 : Value) := hbB0.cell 0
  have pB01 : _ = some (.slice D0 m0 cd0 : Value) := hbB0.cell 1
  have pXw00 : _ = some (.slice V1 N1 C1 : Value) := hbXw0.cell 0
  have pXw01 : _ = some (.slice U1 M1 E1 : Value) := hbXw0.cell 1
  have pXx00 : _ = some (.slice (some ⟨g2, 0, none⟩) n0 n0 : Value) := hbXx0.cell 0
  have pXx01 : _ = some (.slice (some ⟨gg2, 0, none⟩) m0 m0 : Value) := hbXx0.cell 1
  have pXg00 : _ = some (.slice V2 N2 C2 : Value) := hbXg0.cell 0
  have pXg01 : _ = some (.slice U2 M2 E2 : Value) := hbXg0.cell 1
  go_wp2_with fail
  refine (distributeType_impl (RBxs.of_blk hk3 HL0.out) hm0 (Nat.le_refl _) HX0.out (RStrs.of_blk hkk3 HLs0.out) hms0 (Nat.le_refl _) HY0.out hI1 hm2).mono ?_
  rintro e1 w13 ⟨V3, N3, C3, U3, M3, E3, rfl, ho3, hp3, hN3, hM3, hn⟩
  clear pB00 pB01 pXw00 pXw01 pXx00 pXx01 pXg00 pXg01
  clear hk3
  clear hkk3
  have hs15_ := Lib.hid (show w12.heap.size ≤ w13.heap.size by have hq9 := hn.size; (try simp at hq9); (try simp); omega)
  replace hb := hb.trans (hn.mono hb.size)
  replace hbB0 := hbB0.below hn hbB0.lt
  replace hbXw0 := hbXw0.below hn hbXw0.lt
  replace hbXx0 := hbXx0.below hn hbXx0.lt
  replace hbXg0 := hbXg0.below hn hbXg0.lt
  replace ho1 := row_step ho1 hn
  replace hp1 := row_step hp1 hn
  replace ho2 := row_step ho2 hn
  replace hp2 := row_step hp2 hn
  clear hn
  have HR3 := Lib.hid (show ∀ k, (Value.slice V3 N3 C3).ownBlock = some k → w12.heap.size ≤ k ∧ k < w13.heap.size from fun k e => ⟨by have h9 := (ho3.lt k e).1; (try simp at h9); omega, (ho3.lt k e).2⟩)
  have HQ3 := Lib.hid (show ∀ k, (Value.slice U3 M3 E3).ownBlock = some k → w12.heap.size ≤ k ∧ k < w13.heap.size from fun k e => ⟨by have h9 := (hp3.lt k e).1; (try simp at h9); omega, (hp3.lt k e).2⟩)
  have hbXh0 := Blk.new' w13 31 #[.slice V3 N3 C3, .slice U3 M3 E3]
  replace hb := hb.alloc hb.size (.cells #[.slice V3 N3 C3, .slice U3 M3 E3] 31)
  replace hbB0 := hbB0.alloc (.cells #[.slice V3 N3 C3, .slice U3 M3 E3] 31)
  replace hbXw0 := hbXw0.alloc (.cells #[.slice V3 N3 C3, .slice U3 M3 E3] 31)
  replace hbXx0 := hbXx0.alloc (.cells #[.slice V3 N3 C3, .slice U3 M3 E3] 31)
  replace hbXg0 := hbXg0.alloc (.cells #[.slice V3 N3 C3, .slice U3 M3 E3] 31)
  replace ho1 := row_alloc ho1 (.cells #[.slice V3 N3 C3, .slice U3 M3 E3] 31)
  replace hp1 := row_alloc hp1 (.cells #[.slice V3 N3 C3, .slice U3 M3 E3] 31)
  replace ho2 := row_alloc ho2 (.cells #[.slice V3 N3 C3, .slice U3 M3 E3] 31)
  replace hp2 := row_alloc hp2 (.cells #[.slice V3 N3 C3, .slice U3 M3 E3] 31)
  replace ho3 := row_alloc ho3 (.cells #[.slice V3 N3 C3, .slice U3 M3 E3] 31)
  replace hp3 := row_alloc hp3 (.cells #[.slice V3 N3 C3, .slice U3 M3 E3] 31)
  have pB00 : _ = some (.slice A0 n0 cp0 : Value) := hbB0.cell 0
  have pB01 : _ = some (.slice D0 m0 cd0 : Value) := hbB0.cell 1
  have pXw00 : _ = some (.slice V1 N1 C1 : Value) := hbXw0.cell 0
  have pXw01 : _ = some (.slice U1 M1 E1 : Value) := hbXw0.cell 1
  have pXx00 : _ = some (.slice (some ⟨g2, 0, none⟩) n0 n0 : Value) := hbXx0.cell 0
  have pXx01 : _ = some (.slice (some ⟨gg2, 0, none⟩) m0 m0 : Value) := hbXx0.cell 1
  have pXg00 : _ = some (.slice V2 N2 C2 : Value) := hbXg0.cell 0
  have pXg01 : _ = some (.slice U2 M2 E2 : Value) := hbXg0.cell 1
  have pXh00 : _ = some (.slice V3 N3 C3 : Value) := hbXh0.cell 0
  have pXh01 : _ = some (.slice U3 M3 E3 : Value) := hbXh0.cell 1
  go_wp2_with fail
  refine (eqSetting_same (RBxs.of_own ho3) (RStrs.of_own hp3) (RBxs.of_own ho1) (RStrs.of_own hp1) hN3 hM3).mono ?_
  rintro e1 w14 ⟨rfl, hn⟩
  clear pB00 pB01 pXw00 pXw01 pXx00 pXx01 pXg00 pXg01 pXh00 pXh01
  have hs16_ := Lib.hid (show w13.heap.size + 1 ≤ w14.heap.size by have hq9 := hn.size; (try simp at hq9); (try simp); omega)
  replace hb := hb.trans (hn.mono hb.size)
  replace hbB0 := hbB0.below hn hbB0.lt
  replace hbXw0 := hbXw0.below hn hbXw0.lt
  replace hbXx0 := hbXx0.below hn hbXx0.lt
  replace hbXg0 := hbXg0.below hn hbXg0.lt
  replace hbXh0 := hbXh0.below hn hbXh0.lt
  replace ho1 := row_step ho1 hn
  replace hp1 := row_step hp1 hn
  replace ho2 := row_step ho2 hn
  replace hp2 := row_step hp2 hn
  replace ho3 := row_step ho3 hn
  replace hp3 := row_step hp3 hn
  clear hn
  -- held
  have pB00 : _ = some (.slice A0 n0 cp0 : Value) := hbB0.cell 0
  have pB01 : _ = some (.slice D0 m0 cd0 : Value) := hbB0.cell 1
  have pXw00 : _ = some (.slice V1 N1 C1 : Value) := hbXw0.cell 0
  have pXw01 : _ = some (.slice U1 M1 E1 : Value) := hbXw0.cell 1
  have pXx00 : _ = some (.slice (some ⟨g2, 0, none⟩) n0 n0 : Value) := hbXx0.cell 0
  have pXx01 : _ = some (.slice (some ⟨gg2, 0, none⟩) m0 m0 : Value) := hbXx0.cell 1
  have pXg00 : _ = some (.slice V2 N2 C2 : Value) := hbXg0.cell 0
  have pXg01 : _ = some (.slice U2 M2 E2 : Value) := hbXg0.cell 1
  have pXh00 : _ = some (.slice V3 N3 C3 : Value) := hbXh0.cell 0
  have pXh01 : _ = some (.slice U3 M3 E3 : Value) := hbXh0.cell 1
  go_wp2_with fail
  refine (heldSetting_any (RBxs.of_own ho2) (RStrs.of_own hp2) hN2 hM2 (by omega)).mono ?_
  rintro e1 w15 ⟨rfl, hn⟩
  clear pB00 pB01 pXw00 pXw01 pXx00 pXx01 pXg00 pXg01 pXh00 pXh01
  have hs17_ := Lib.hid (show w14.heap.size ≤ w15.heap.size by have hq9 := hn.size; (try simp at hq9); (try simp); omega)
  replace hb := hb.trans (hn.mono hb.size)
  replace hbB0 := hbB0.below hn hbB0.lt
  replace hbXw0 := hbXw0.below hn hbXw0.lt
  replace hbXx0 := hbXx0.below hn hbXx0.lt
  replace hbXg0 := hbXg0.below hn hbXg0.lt
  replace hbXh0 := hbXh0.below hn hbXh0.lt
  replace ho1 := row_step ho1 hn
  replace hp1 := row_step hp1 hn
  replace ho2 := row_step ho2 hn
  replace hp2 := row_step hp2 hn
  replace ho3 := row_step ho3 hn
  replace hp3 := row_step hp3 hn
  clear hn
  have pB00 : _ = some (.slice A0 n0 cp0 : Value) := hbB0.cell 0
  have pB01 : _ = some (.slice D0 m0 cd0 : Value) := hbB0.cell 1
  have pXw00 : _ = some (.slice V1 N1 C1 : Value) := hbXw0.cell 0
  have pXw01 : _ = some (.slice U1 M1 E1 : Value) := hbXw0.cell 1
  have pXx00 : _ = some (.slice (some ⟨g2, 0, none⟩) n0 n0 : Value) := hbXx0.cell 0
  have pXx01 : _ = some (.slice (some ⟨gg2, 0, none⟩) m0 m0 : Value) := hbXx0.cell 1
  have pXg00 : _ = some (.slice V2 N2 C2 : Value) := hbXg0.cell 0
  have pXg01 : _ = some (.slice U2 M2 E2 : Value) := hbXg0.cell 1
  have pXh00 : _ = some (.slice V3 N3 C3 : Value) := hbXh0.cell 0
  have pXh01 : _ = some (.slice U3 M3 E3 : Value) := hbXh0.cell 1
  go_wp2_with fail
  go_ret
  exact ⟨rfl, hb⟩
end Go.Proofs.Ytjcopempjanhhaa
