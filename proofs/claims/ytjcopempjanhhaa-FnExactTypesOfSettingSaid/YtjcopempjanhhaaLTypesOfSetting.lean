/-
  The walk of the law of TypesOfSetting.
-/
import Derived.Test.YtjcopempjanhhaaSe2
import Derived.Deep.RegionHeld3
namespace Go.Proofs.Ytjcopempjanhhaa
open Go.RowKit
set_option maxHeartbeats 1000000 in
theorem typesOfSettingLaw (W : World) (A0 : Option Addr) (n0 cp0 : Nat) (xs0 : List Bx) (hr0 : RBxs W W.heap.size A0 n0 xs0) (hn0 : n0 ≤ maxLen) (hX0 : ∀ m ∈ xs0, m.code.size ≤ maxLen) (D0 : Option Addr) (m0 cd0 : Nat) (ys0 : List ByteArray) (hs0 : RStrs W W.heap.size D0 m0 ys0) (hmm0 : m0 ≤ maxLen) (hY0 : ∀ s ∈ ys0, s.size ≤ maxLen) : Calls Try.prog 6 #[.agg #[.slice A0 n0 cp0, .slice D0 m0 cd0]] W fun e W' => e = .returned (.bool true) ∧ Below W.heap.size W W' := by
  unfold maxLen at hn0
  have HL0 := Lib.hid hr0.len
  unfold maxLen at hmm0
  have HLs0 := Lib.hid hs0.len
  have hbB0 := Blk.new' W 26 #[.slice A0 n0 cp0, .slice D0 m0 cd0]
  have hb : Below W.heap.size W (W.alloc (.cells #[.slice A0 n0 cp0, .slice D0 m0 cd0] 26)) := (by (repeat (first | exact Below.refl _ _ | exact hb | apply Below.drew | (refine Below.alloc ?_ (by first | (simp; done) | (simp; omega) | (have := hb.size; simp at this ⊢; omega)) _) | (refine Below.setCell ?_ (by simp) _))))
  by_cases hz0 : szSet xs0 ys0 1048576 < 0
  · go_enter Try.func6, Try.ntmps6
    go_wp2_with fail
    refine (szSetting_any (RBxs.below hr0 hb |>.more hb.size) (by omega) hX0 (RStrs.below hs0 hb |>.more hb.size) (by omega) hY0 (l := 1048576) (by omega)).mono ?_
    rintro e1 w1 ⟨rfl, hn⟩
    have hs0_ := Lib.hid (show W.heap.size + 1 ≤ w1.heap.size by have hq9 := hn.size; (try simp at hq9); (try simp); omega)
    replace hb := hb.trans (hn.mono hb.size)
    replace hbB0 := hbB0.below hn hbB0.lt
    clear hn
    go_wp2_with fail
    go_ret
    exact ⟨rfl, hb⟩
  have hy0 := szSet_ok (bs := xs0) (ss := ys0) (l := 1048576) (by omega) (by omega)
  have hm0 : n0 ≤ 1048576 := by have := HL0.out; omega
  have hms0 : m0 ≤ 1048576 := by have := HLs0.out; omega
  have HX0 := Lib.hid (show ∀ m ∈ xs0, m.code.size ≤ 1048576 from fun m hm => by have := hy0.2.2.2.1 m hm; omega)
  have HY0 := Lib.hid (show ∀ m ∈ ys0, m.size ≤ 1048576 from fun m hm => by have := hy0.2.2.2.2 m hm; omega)
  have hz0_ : szSet xs0 ys0 1048576 ≤ 1048576 := hy0.2.2.1
  clear hy0
  go_enter Try.func6, Try.ntmps6
  go_wp2_with fail
  refine (szSetting_any (RBxs.below hr0 hb |>.more hb.size) (by omega) hX0 (RStrs.below hs0 hb |>.more hb.size) (by omega) hY0 (l := 1048576) (by omega)).mono ?_
  rintro e1 w1 ⟨rfl, hn⟩
  have hs0_ := Lib.hid (show W.heap.size + 1 ≤ w1.heap.size by have hq9 := hn.size; (try simp at hq9); (try simp); omega)
  replace hb := hb.trans (hn.mono hb.size)
  replace hbB0 := hbB0.below hn hbB0.lt
  clear hn
  have pB00 : _ = some (.slice A0 n0 cp0 : Value) := hbB0.cell 0
  have pB01 : _ = some (.slice D0 m0 cd0 : Value) := hbB0.cell 1
  go_wp2_with fail
  refine (toSetting_any (RBxs.below hr0 hb |>.more hb.size) hm0 (RStrs.below hs0 hb |>.more hb.size) hms0).mono ?_
  rintro e1 w2 ⟨g1, gg1, rfl, hg1, hgg1, hk1, hkk1, hn⟩
  clear pB00 pB01
  have hs1_ := Lib.hid (show w1.heap.size ≤ w2.heap.size by have hq9 := hn.size; (try simp at hq9); (try simp); omega)
  replace hb := hb.trans (hn.mono hb.size)
  replace hbB0 := hbB0.below hn hbB0.lt
  clear hn
  have hs2_ := Lib.hid (show w1.heap.size ≤ g1 ∧ g1 < gg1 ∧ gg1 < w2.heap.size from ⟨by (try simp at hg1); omega, hgg1, hkk1.lt⟩)
  clear hg1 hgg1
  have pB00 : _ = some (.slice A0 n0 cp0 : Value) := hbB0.cell 0
  have pB01 : _ = some (.slice D0 m0 cd0 : Value) := hbB0.cell 1
  go_wp2_with fail
  refine (typesOfSetting_spec (RBxs.of_blk hk1 HL0.out) hm0 (Nat.le_refl _) HX0.out (RStrs.of_blk hkk1 HLs0.out) hms0 (Nat.le_refl _) HY0.out).mono ?_
  rintro e1 w3 ⟨rfl, hn⟩
  clear pB00 pB01
  clear hk1
  clear hkk1
  have hs3_ := Lib.hid (show w2.heap.size ≤ w3.heap.size by have hq9 := hn.size; (try simp at hq9); (try simp); omega)
  replace hb := hb.trans (hn.mono hb.size)
  replace hbB0 := hbB0.below hn hbB0.lt
  clear hn
  have pB00 : _ = some (.slice A0 n0 cp0 : Value) := hbB0.cell 0
  have pB01 : _ = some (.slice D0 m0 cd0 : Value) := hbB0.cell 1
  go_wp2_with fail
  refine (toSetting_any (RBxs.below hr0 hb |>.more hb.size) hm0 (RStrs.below hs0 hb |>.more hb.size) hms0).mono ?_
  rintro e1 w4 ⟨g2, gg2, rfl, hg2, hgg2, hk2, hkk2, hn⟩
  clear pB00 pB01
  have hs4_ := Lib.hid (show w3.heap.size ≤ w4.heap.size by have hq9 := hn.size; (try simp at hq9); (try simp); omega)
  replace hb := hb.trans (hn.mono hb.size)
  replace hbB0 := hbB0.below hn hbB0.lt
  clear hn
  have hs5_ := Lib.hid (show w3.heap.size ≤ g2 ∧ g2 < gg2 ∧ gg2 < w4.heap.size from ⟨by (try simp at hg2); omega, hgg2, hkk2.lt⟩)
  clear hg2 hgg2
  have hbXx0 := Blk.new' w4 31 #[.slice (some ⟨g2, 0, none⟩) n0 n0, .slice (some ⟨gg2, 0, none⟩) m0 m0]
  replace hb := hb.alloc hb.size (.cells #[.slice (some ⟨g2, 0, none⟩) n0 n0, .slice (some ⟨gg2, 0, none⟩) m0 m0] 31)
  replace hbB0 := hbB0.alloc (.cells #[.slice (some ⟨g2, 0, none⟩) n0 n0, .slice (some ⟨gg2, 0, none⟩) m0 m0] 31)
  replace hk2 := hk2.alloc (.cells #[.slice (some ⟨g2, 0, none⟩) n0 n0, .slice (some ⟨gg2, 0, none⟩) m0 m0] 31)
  replace hkk2 := hkk2.alloc (.cells #[.slice (some ⟨g2, 0, none⟩) n0 n0, .slice (some ⟨gg2, 0, none⟩) m0 m0] 31)
  have pB00 : _ = some (.slice A0 n0 cp0 : Value) := hbB0.cell 0
  have pB01 : _ = some (.slice D0 m0 cd0 : Value) := hbB0.cell 1
  have pXx00 : _ = some (.slice (some ⟨g2, 0, none⟩) n0 n0 : Value) := hbXx0.cell 0
  have pXx01 : _ = some (.slice (some ⟨gg2, 0, none⟩) m0 m0 : Value) := hbXx0.cell 1
  go_wp2_with fail
  refine (typesOfSetting_impl (RBxs.of_blk hk2 HL0.out) hm0 (Nat.le_refl _) HX0.out (RStrs.of_blk hkk2 HLs0.out) hms0 (Nat.le_refl _) HY0.out).mono ?_
  rintro e1 w5 ⟨rfl, hn⟩
  clear pB00 pB01 pXx00 pXx01
  have hs6_ := Lib.hid (show w4.heap.size + 1 ≤ w5.heap.size by have hq9 := hn.size; (try simp at hq9); (try simp); omega)
  replace hb := hb.trans (hn.mono hb.size)
  replace hbB0 := hbB0.below hn hbB0.lt
  replace hbXx0 := hbXx0.below hn hbXx0.lt
  replace hk2 := hk2.below hn hk2.lt
  replace hkk2 := hkk2.below hn hkk2.lt
  clear hn
  have HC := Lib.hid (show ∀ wx, Below w5.heap.size w5 wx → (wx.cell? ⟨w4.heap.size, 0, none⟩ = some (.slice (some ⟨g2, 0, none⟩) n0 n0) ∧ wx.cell? ⟨w4.heap.size, 1, none⟩ = some (.slice (some ⟨gg2, 0, none⟩) m0 m0)) ∧ (wx.cell? ⟨W.heap.size, 0, none⟩ = some (.slice A0 n0 cp0) ∧ wx.cell? ⟨W.heap.size, 1, none⟩ = some (.slice D0 m0 cd0)) from fun wx h => ⟨⟨(hbXx0.below h hbXx0.lt).cell 0, (hbXx0.below h hbXx0.lt).cell 1⟩, ⟨(hbB0.below h hbB0.lt).cell 0, (hbB0.below h hbB0.lt).cell 1⟩⟩)
  go_wp2_with fail
  go_region_held3 (fun wx => Below w5.heap.size w5 wx ∧ (wx.cell? ⟨w4.heap.size, 0, none⟩ = some (.slice (some ⟨g2, 0, none⟩) n0 n0) ∧ wx.cell? ⟨w4.heap.size, 1, none⟩ = some (.slice (some ⟨gg2, 0, none⟩) m0 m0)) ∧ (wx.cell? ⟨W.heap.size, 0, none⟩ = some (.slice A0 n0 cp0) ∧ wx.cell? ⟨W.heap.size, 1, none⟩ = some (.slice D0 m0 cd0))) ((first | exact ⟨(Below.refl _ _).drew, HC.out _ (Below.refl _ _).drew⟩ | (have hh : Below _ _ _ ∧ _ := (by assumption); have hh0 := hh.1.trans (hn.mono hh.1.size); exact ⟨hh0, HC.out _ hh0⟩) | assumption | go_keep)) (first
    | (go_at_call 18; (have hh : Below _ _ _ ∧ _ := (by assumption)); refine (toSetting_any ((RBxs.below hr0 (hb.trans (hh.1.mono hb.size))).more (Nat.le_trans hb.size hh.1.size)) hm0 ((RStrs.below hs0 (hb.trans (hh.1.mono hb.size))).more (Nat.le_trans hb.size hh.1.size)) hms0).mono ?_; rintro e1 wi6 ⟨gq, gqq, rfl, hgq, hgqq, hkq, hkqq, hn⟩)
    | (go_at_call 20; (have hh : Below _ _ _ ∧ _ := (by assumption)); refine (eqSetting_any ((RBxs.below (RBxs.of_blk hk2 HL0.out) hh.1).more hh.1.size) ((RStrs.below (RStrs.of_blk hkk2 HLs0.out) hh.1).more hh.1.size) (RBxs.of_blk (by exact hkq) HL0.out) (RStrs.of_blk (by exact hkqq) HLs0.out) hm0 hms0).mono ?_; rintro e1 wi6 ⟨rfl, hn⟩))
  clear HC
  have hn0 : Below w5.heap.size w5 _ ∧ _ := (by assumption)
  obtain ⟨hn, _⟩ := hn0
  have hs7_ := Lib.hid (show w5.heap.size ≤ wi6.heap.size by have hq9 := hn.size; (try simp at hq9); (try simp); omega)
  replace hb := hb.trans (hn.mono hb.size)
  replace hbB0 := hbB0.below hn hbB0.lt
  replace hbXx0 := hbXx0.below hn hbXx0.lt
  replace hk2 := hk2.below hn hk2.lt
  replace hkk2 := hkk2.below hn hkk2.lt
  clear hn
  have pB00 : _ = some (.slice A0 n0 cp0 : Value) := hbB0.cell 0
  have pB01 : _ = some (.slice D0 m0 cd0 : Value) := hbB0.cell 1
  have pXx00 : _ = some (.slice (some ⟨g2, 0, none⟩) n0 n0 : Value) := hbXx0.cell 0
  have pXx01 : _ = some (.slice (some ⟨gg2, 0, none⟩) m0 m0 : Value) := hbXx0.cell 1
  go_wp2_with fail
  go_ret
  exact ⟨rfl, hb⟩
end Go.Proofs.Ytjcopempjanhhaa
