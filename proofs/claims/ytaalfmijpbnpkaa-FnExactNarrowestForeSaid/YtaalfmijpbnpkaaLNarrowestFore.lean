/-
  The walk of the law of NarrowestFore.
-/
import Derived.Test.YtaalfmijpbnpkaaMgT
import Derived.Deep.RegionHeld3
namespace Go.Proofs.Ytaalfmijpbnpkaa
open Go.RowKit
set_option maxHeartbeats 1000000 in
theorem narrowestForeLaw (W : World) (A0 : Option Addr) (n0 cp0 : Nat) (xs0 : List Fld) (hr0 : RFlds W W.heap.size A0 n0 xs0) (hn0 : n0 ≤ maxLen) (f1a f1b f1c f1d : Int) (hf1a : -9223372036854775808 ≤ f1a ∧ f1a ≤ 9223372036854775807) (hf1b : -9223372036854775808 ≤ f1b ∧ f1b ≤ 9223372036854775807) (hf1c : -9223372036854775808 ≤ f1c ∧ f1c ≤ 9223372036854775807) (hf1d : -9223372036854775808 ≤ f1d ∧ f1d ≤ 9223372036854775807) (k2 : Int) (hI2 : -9223372036854775808 ≤ k2 ∧ k2 ≤ 9223372036854775807) : Calls Try.prog 5 #[.slice A0 n0 cp0, .agg #[.int .i64 f1a, .int .i64 f1b, .int .i64 f1c, .int .i64 f1d], .int .i64 k2] W fun e W' => e = .returned (.bool true) ∧ Below W.heap.size W W' := by
  unfold maxLen at hn0
  have HL0 := Lib.hid hr0.len
  have hbB1 := Blk.new' W 33 #[.int .i64 f1a, .int .i64 f1b, .int .i64 f1c, .int .i64 f1d]
  have hb : Below W.heap.size W (W.alloc (.cells #[.int .i64 f1a, .int .i64 f1b, .int .i64 f1c, .int .i64 f1d] 33)) := (by (repeat (first | exact Below.refl _ _ | exact hb | apply Below.drew | (refine Below.alloc ?_ (by first | (simp; done) | (simp; omega) | (have := hb.size; simp at this ⊢; omega)) _) | (refine Below.setCell ?_ (by simp) _))))
  by_cases hz0 : szI1 n0 1048576 < 0
  · go_enter Try.func5, Try.ntmps5
    go_wp2_with fail
    refine (szFoldS_any _ _ _ 1048576 _ (by omega) (by omega)).mono ?_
    rintro e1 w0_ ⟨rfl, hw0_⟩
    subst hw0_
    go_wp2_with fail
    go_ret
    exact ⟨rfl, hb⟩
  have hy0 := szI1_ok (n := n0) (l := 1048576) (by omega)
  have hm0 : n0 ≤ 1048576 := by omega
  go_enter Try.func5, Try.ntmps5
  go_wp2_with fail
  refine (szFoldS_any _ _ _ 1048576 _ (by omega) (by omega)).mono ?_
  rintro e1 w0_ ⟨rfl, hw0_⟩
  subst hw0_
  have HC := Lib.hid (show ∀ wx, Below (W.alloc (.cells #[.int .i64 f1a, .int .i64 f1b, .int .i64 f1c, .int .i64 f1d] 33)).heap.size (W.alloc (.cells #[.int .i64 f1a, .int .i64 f1b, .int .i64 f1c, .int .i64 f1d] 33)) wx → (wx.cell? ⟨W.heap.size, 0, none⟩ = some (.int .i64 f1a) ∧ wx.cell? ⟨W.heap.size, 1, none⟩ = some (.int .i64 f1b) ∧ wx.cell? ⟨W.heap.size, 2, none⟩ = some (.int .i64 f1c) ∧ wx.cell? ⟨W.heap.size, 3, none⟩ = some (.int .i64 f1d)) from fun wx h => ⟨(hbB1.below h hbB1.lt).cell 0, (hbB1.below h hbB1.lt).cell 1, (hbB1.below h hbB1.lt).cell 2, (hbB1.below h hbB1.lt).cell 3⟩)
  go_wp2_with fail
  go_region_held3 (fun wx => Below (W.alloc (.cells #[.int .i64 f1a, .int .i64 f1b, .int .i64 f1c, .int .i64 f1d] 33)).heap.size (W.alloc (.cells #[.int .i64 f1a, .int .i64 f1b, .int .i64 f1c, .int .i64 f1d] 33)) wx ∧ (wx.cell? ⟨W.heap.size, 0, none⟩ = some (.int .i64 f1a) ∧ wx.cell? ⟨W.heap.size, 1, none⟩ = some (.int .i64 f1b) ∧ wx.cell? ⟨W.heap.size, 2, none⟩ = some (.int .i64 f1c) ∧ wx.cell? ⟨W.heap.size, 3, none⟩ = some (.int .i64 f1d))) ((first | exact ⟨(Below.refl _ _).drew, HC.out _ (Below.refl _ _).drew⟩ | (have hh : Below _ _ _ ∧ _ := (by assumption); have hh0 := hh.1.trans (hn.mono hh.1.size); exact ⟨hh0, HC.out _ hh0⟩) | assumption | go_keep)) (first
    | (go_at_call 9; (have hh : Below _ _ _ ∧ _ := (by assumption)); refine (toFoldS_any _ _ _ _ xs0 _ (RFlds.below hr0 (hb.trans (hh.1.mono hb.size))) (Nat.le_trans hb.size hh.1.size) hm0).mono ?_; rintro e1 wi1 ⟨gq0, rfl, hgq0, hkq0, hn⟩)
    | (go_at_call 15; refine (toMargins_any _ _ _ _ _).mono ?_; rintro e1 wi1 ⟨rfl, hn⟩; replace hkq0 := Blk.below (by exact hkq0) hn (by exact hkq0.lt))
    | (go_at_call 14; (have hh : Below _ _ _ ∧ _ := (by assumption)); refine (narrowestFore_spec (by exact (RFlds.of_blk hkq0 HL0.out)) hm0 hf1a hf1b hf1c hf1d hI2).mono ?_; rintro e1 wi1 ⟨rfl, hn⟩))
  clear HC
  have hn0 : Below (W.alloc (.cells #[.int .i64 f1a, .int .i64 f1b, .int .i64 f1c, .int .i64 f1d] 33)).heap.size (W.alloc (.cells #[.int .i64 f1a, .int .i64 f1b, .int .i64 f1c, .int .i64 f1d] 33)) _ ∧ _ := (by assumption)
  obtain ⟨hn, _⟩ := hn0
  have hs0_ := Lib.hid (show W.heap.size + 1 ≤ wi1.heap.size by have hq9 := hn.size; (try simp at hq9); (try simp); omega)
  replace hb := hb.trans (hn.mono hb.size)
  replace hbB1 := hbB1.below hn hbB1.lt
  clear hn
  have pB10 : _ = some (.int .i64 f1a : Value) := hbB1.cell 0
  have pB11 : _ = some (.int .i64 f1b : Value) := hbB1.cell 1
  have pB12 : _ = some (.int .i64 f1c : Value) := hbB1.cell 2
  have pB13 : _ = some (.int .i64 f1d : Value) := hbB1.cell 3
  go_wp2_with fail
  refine (toFoldS_any _ _ _ _ xs0 _ (RFlds.below hr0 hb) hb.size hm0).mono ?_
  rintro e1 w3 ⟨g1, rfl, hg1, hk1, hn⟩
  clear pB10 pB11 pB12 pB13
  have hs1_ := Lib.hid (show wi1.heap.size ≤ w3.heap.size by have hq9 := hn.size; (try simp at hq9); (try simp); omega)
  replace hb := hb.trans (hn.mono hb.size)
  replace hbB1 := hbB1.below hn hbB1.lt
  clear hn
  have hs2_ := Lib.hid (show wi1.heap.size ≤ g1 ∧ g1 < w3.heap.size from ⟨by (try simp at hg1); omega, hk1.lt⟩)
  clear hg1
  have pB10 : _ = some (.int .i64 f1a : Value) := hbB1.cell 0
  have pB11 : _ = some (.int .i64 f1b : Value) := hbB1.cell 1
  have pB12 : _ = some (.int .i64 f1c : Value) := hbB1.cell 2
  have pB13 : _ = some (.int .i64 f1d : Value) := hbB1.cell 3
  go_wp2_with fail
  refine (toMargins_any _ _ _ _ _).mono ?_
  rintro e1 w4 ⟨rfl, hn⟩
  clear pB10 pB11 pB12 pB13
  have hs3_ := Lib.hid (show w3.heap.size ≤ w4.heap.size by have hq9 := hn.size; (try simp at hq9); (try simp); omega)
  replace hb := hb.trans (hn.mono hb.size)
  replace hbB1 := hbB1.below hn hbB1.lt
  replace hk1 := hk1.below hn hk1.lt
  clear hn
  have pB10 : _ = some (.int .i64 f1a : Value) := hbB1.cell 0
  have pB11 : _ = some (.int .i64 f1b : Value) := hbB1.cell 1
  have pB12 : _ = some (.int .i64 f1c : Value) := hbB1.cell 2
  have pB13 : _ = some (.int .i64 f1d : Value) := hbB1.cell 3
  go_wp2_with fail
  refine (narrowestFore_impl (RFlds.of_blk hk1 HL0.out) hm0 hf1a hf1b hf1c hf1d hI2).mono ?_
  rintro e1 w5 ⟨rfl, hn⟩
  clear pB10 pB11 pB12 pB13
  have hs4_ := Lib.hid (show w4.heap.size ≤ w5.heap.size by have hq9 := hn.size; (try simp at hq9); (try simp); omega)
  replace hb := hb.trans (hn.mono hb.size)
  replace hbB1 := hbB1.below hn hbB1.lt
  replace hk1 := hk1.below hn hk1.lt
  clear hn
  have pB10 : _ = some (.int .i64 f1a : Value) := hbB1.cell 0
  have pB11 : _ = some (.int .i64 f1b : Value) := hbB1.cell 1
  have pB12 : _ = some (.int .i64 f1c : Value) := hbB1.cell 2
  have pB13 : _ = some (.int .i64 f1d : Value) := hbB1.cell 3
  go_wp2_with fail
  refine (toFoldS_any _ _ _ _ xs0 _ (RFlds.below hr0 hb) hb.size hm0).mono ?_
  rintro e1 w6 ⟨g2, rfl, hg2, hk2, hn⟩
  clear pB10 pB11 pB12 pB13
  have hs5_ := Lib.hid (show w5.heap.size ≤ w6.heap.size by have hq9 := hn.size; (try simp at hq9); (try simp); omega)
  replace hb := hb.trans (hn.mono hb.size)
  replace hbB1 := hbB1.below hn hbB1.lt
  replace hk1 := hk1.below hn hk1.lt
  clear hn
  have hs6_ := Lib.hid (show w5.heap.size ≤ g2 ∧ g2 < w6.heap.size from ⟨by (try simp at hg2); omega, hk2.lt⟩)
  clear hg2
  have pB10 : _ = some (.int .i64 f1a : Value) := hbB1.cell 0
  have pB11 : _ = some (.int .i64 f1b : Value) := hbB1.cell 1
  have pB12 : _ = some (.int .i64 f1c : Value) := hbB1.cell 2
  have pB13 : _ = some (.int .i64 f1d : Value) := hbB1.cell 3
  go_wp2_with fail
  refine (eqFoldS_any _ _ _ _ _ _ _ _ _ (RFlds.of_blk hk1 HL0.out) (RFlds.of_blk hk2 HL0.out) (Nat.le_refl _) (Nat.le_refl _) hm0).mono ?_
  rintro e1 w7 ⟨rfl, hn⟩
  clear pB10 pB11 pB12 pB13
  clear hk2
  have hs7_ := Lib.hid (show w6.heap.size ≤ w7.heap.size by have hq9 := hn.size; (try simp at hq9); (try simp); omega)
  replace hb := hb.trans (hn.mono hb.size)
  replace hbB1 := hbB1.below hn hbB1.lt
  replace hk1 := hk1.below hn hk1.lt
  clear hn
  have pB10 : _ = some (.int .i64 f1a : Value) := hbB1.cell 0
  have pB11 : _ = some (.int .i64 f1b : Value) := hbB1.cell 1
  have pB12 : _ = some (.int .i64 f1c : Value) := hbB1.cell 2
  have pB13 : _ = some (.int .i64 f1d : Value) := hbB1.cell 3
  go_wp2_with fail
  go_ret
  exact ⟨rfl, hb⟩
end Go.Proofs.Ytaalfmijpbnpkaa
