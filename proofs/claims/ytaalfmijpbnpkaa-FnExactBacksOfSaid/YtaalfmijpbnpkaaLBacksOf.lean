/-
  The walk of the law of BacksOf.
-/
import Derived.Test.YtaalfmijpbnpkaaMgT
import Derived.Test.YtaalfmijpbnpkaaMg8
import Derived.Deep.RegionHeld3
namespace Go.Proofs.Ytaalfmijpbnpkaa
open Go.RowKit
set_option maxHeartbeats 1000000 in
theorem backsOfLaw (W : World) (A0 : Option Addr) (n0 cp0 : Nat) (xs0 : List Fld) (hr0 : RFlds W W.heap.size A0 n0 xs0) (hn0 : n0 ≤ maxLen) (f1a f1b f1c f1d : Int) (hf1a : -9223372036854775808 ≤ f1a ∧ f1a ≤ 9223372036854775807) (hf1b : -9223372036854775808 ≤ f1b ∧ f1b ≤ 9223372036854775807) (hf1c : -9223372036854775808 ≤ f1c ∧ f1c ≤ 9223372036854775807) (hf1d : -9223372036854775808 ≤ f1d ∧ f1d ≤ 9223372036854775807) (k2 : Int) (hI2 : -9223372036854775808 ≤ k2 ∧ k2 ≤ 9223372036854775807) : Calls Try.prog 6 #[.slice A0 n0 cp0, .agg #[.int .i64 f1a, .int .i64 f1b, .int .i64 f1c, .int .i64 f1d], .int .i64 k2] W fun e W' => e = .returned (.bool true) ∧ Below W.heap.size W W' := by
  unfold maxLen at hn0
  have HL0 := Lib.hid hr0.len
  have hbB1 := Blk.new' W 33 #[.int .i64 f1a, .int .i64 f1b, .int .i64 f1c, .int .i64 f1d]
  have hb : Below W.heap.size W (W.alloc (.cells #[.int .i64 f1a, .int .i64 f1b, .int .i64 f1c, .int .i64 f1d] 33)) := (by (repeat (first | exact Below.refl _ _ | exact hb | apply Below.drew | (refine Below.alloc ?_ (by first | (simp; done) | (simp; omega) | (have := hb.size; simp at this ⊢; omega)) _) | (refine Below.setCell ?_ (by simp) _))))
  by_cases hz0 : szI1 n0 1048576 < 0
  · go_enter Try.func6, Try.ntmps6
    go_wp2_with fail
    refine (szFoldS_any _ _ _ 1048576 _ (by omega) (by omega)).mono ?_
    rintro e1 w0_ ⟨rfl, hw0_⟩
    subst hw0_
    go_wp2_with fail
    go_ret
    exact ⟨rfl, hb⟩
  have hy0 := szI1_ok (n := n0) (l := 1048576) (by omega)
  have hm0 : n0 ≤ 1048576 := by omega
  go_enter Try.func6, Try.ntmps6
  go_wp2_with fail
  refine (szFoldS_any _ _ _ 1048576 _ (by omega) (by omega)).mono ?_
  rintro e1 w0_ ⟨rfl, hw0_⟩
  subst hw0_
  have HC := Lib.hid (show ∀ wx, Below (W.alloc (.cells #[.int .i64 f1a, .int .i64 f1b, .int .i64 f1c, .int .i64 f1d] 33)).heap.size (W.alloc (.cells #[.int .i64 f1a, .int .i64 f1b, .int .i64 f1c, .int .i64 f1d] 33)) wx → (wx.cell? ⟨W.heap.size, 0, none⟩ = some (.int .i64 f1a) ∧ wx.cell? ⟨W.heap.size, 1, none⟩ = some (.int .i64 f1b) ∧ wx.cell? ⟨W.heap.size, 2, none⟩ = some (.int .i64 f1c) ∧ wx.cell? ⟨W.heap.size, 3, none⟩ = some (.int .i64 f1d)) from fun wx h => ⟨(hbB1.below h hbB1.lt).cell 0, (hbB1.below h hbB1.lt).cell 1, (hbB1.below h hbB1.lt).cell 2, (hbB1.below h hbB1.lt).cell 3⟩)
  go_wp2_with fail
  go_region_held3 (fun wx => Below (W.alloc (.cells #[.int .i64 f1a, .int .i64 f1b, .int .i64 f1c, .int .i64 f1d] 33)).heap.size (W.alloc (.cells #[.int .i64 f1a, .int .i64 f1b, .int .i64 f1c, .int .i64 f1d] 33)) wx ∧ (wx.cell? ⟨W.heap.size, 0, none⟩ = some (.int .i64 f1a) ∧ wx.cell? ⟨W.heap.size, 1, none⟩ = some (.int .i64 f1b) ∧ wx.cell? ⟨W.heap.size, 2, none⟩ = some (.int .i64 f1c) ∧ wx.cell? ⟨W.heap.size, 3, none⟩ = some (.int .i64 f1d))) ((first | exact ⟨(Below.refl _ _).drew, HC.out _ (Below.refl _ _).drew⟩ | (have hh : Below _ _ _ ∧ _ := (by assumption); have hh0 := hh.1.trans (hn.mono hh.1.size); exact ⟨hh0, HC.out _ hh0⟩) | assumption | go_keep)) (first
    | (go_at_call 9; (have hh : Below _ _ _ ∧ _ := (by assumption)); refine (toFoldS_any _ _ _ _ xs0 _ (RFlds.below hr0 (hb.trans (hh.1.mono hb.size))) (Nat.le_trans hb.size hh.1.size) hm0).mono ?_; rintro e1 wi1 ⟨gq0, rfl, hgq0, hkq0, hn⟩)
    | (go_at_call 15; refine (toMargins_any _ _ _ _ _).mono ?_; rintro e1 wi1 ⟨rfl, hn⟩; replace hkq0 := Blk.below (by exact hkq0) hn (by exact hkq0.lt))
    | (go_at_call 17; (have hh : Below _ _ _ ∧ _ := (by assumption)); refine (backsOf_spec (by exact (RFlds.of_blk hkq0 HL0.out)) hm0 hf1a hf1b hf1c hf1d hI2).mono ?_; rintro e1 wi1 ⟨V1, N1, C1, rfl, hoz1, hN1, hn⟩; have ho1 := own_lower hoz1 hh.1.size))
  clear HC
  have hn0 : Below (W.alloc (.cells #[.int .i64 f1a, .int .i64 f1b, .int .i64 f1c, .int .i64 f1d] 33)).heap.size (W.alloc (.cells #[.int .i64 f1a, .int .i64 f1b, .int .i64 f1c, .int .i64 f1d] 33)) _ ∧ _ := (by assumption)
  obtain ⟨hn, _⟩ := hn0
  have hs0_ := Lib.hid (show W.heap.size + 1 ≤ wi1.heap.size by have hq9 := hn.size; (try simp at hq9); (try simp); omega)
  replace hb := hb.trans (hn.mono hb.size)
  replace hbB1 := hbB1.below hn hbB1.lt
  clear hn
  have HR1 := Lib.hid (show ∀ k, (Value.slice V1 N1 C1).ownBlock = some k → W.heap.size + 1 ≤ k ∧ k < wi1.heap.size from fun k e => ⟨by have h9 := (ho1.lt k e).1; (try simp at h9); omega, (ho1.lt k e).2⟩)
  have pB10 : _ = some (.int .i64 f1a : Value) := hbB1.cell 0
  have pB11 : _ = some (.int .i64 f1b : Value) := hbB1.cell 1
  have pB12 : _ = some (.int .i64 f1c : Value) := hbB1.cell 2
  have pB13 : _ = some (.int .i64 f1d : Value) := hbB1.cell 3
  go_wp2_with fail
  refine (toFoldS_any _ _ _ _ xs0 _ (RFlds.below hr0 hb) hb.size hm0).mono ?_
  rintro e1 w3 ⟨g1, rfl, hg1, hk1, hn⟩
  clear pB10 pB11 pB12 pB13
  have hs1_ := Lib.hid (show wi1.heap.size ≤ w3.heap.size by have hq9 := hn.size; (try simp at hq9); (try simp); omega)
  replace hb := hb.trans (hn.mono hb.size)
  replace hbB1 := hbB1.below hn hbB1.lt
  replace ho1 := row_step ho1 hn
  clear hn
  have hs2_ := Lib.hid (show wi1.heap.size ≤ g1 ∧ g1 < w3.heap.size from ⟨by (try simp at hg1); omega, hk1.lt⟩)
  clear hg1
  have pB10 : _ = some (.int .i64 f1a : Value) := hbB1.cell 0
  have pB11 : _ = some (.int .i64 f1b : Value) := hbB1.cell 1
  have pB12 : _ = some (.int .i64 f1c : Value) := hbB1.cell 2
  have pB13 : _ = some (.int .i64 f1d : Value) := hbB1.cell 3
  go_wp2_with fail
  refine (toMargins_any _ _ _ _ _).mono ?_
  rintro e1 w4 ⟨rfl, hn⟩
  clear pB10 pB11 pB12 pB13
  have hs3_ := Lib.hid (show w3.heap.size ≤ w4.heap.size by have hq9 := hn.size; (try simp at hq9); (try simp); omega)
  replace hb := hb.trans (hn.mono hb.size)
  replace hbB1 := hbB1.below hn hbB1.lt
  replace ho1 := row_step ho1 hn
  replace hk1 := hk1.below hn hk1.lt
  clear hn
  have pB10 : _ = some (.int .i64 f1a : Value) := hbB1.cell 0
  have pB11 : _ = some (.int .i64 f1b : Value) := hbB1.cell 1
  have pB12 : _ = some (.int .i64 f1c : Value) := hbB1.cell 2
  have pB13 : _ = some (.int .i64 f1d : Value) := hbB1.cell 3
  go_wp2_with fail
  refine (backsOf_impl (RFlds.of_blk hk1 HL0.out) hm0 hf1a hf1b hf1c hf1d hI2).mono ?_
  rintro e1 w5 ⟨V2, N2, C2, rfl, ho2, hN2, hn⟩
  clear pB10 pB11 pB12 pB13
  have hs4_ := Lib.hid (show w4.heap.size ≤ w5.heap.size by have hq9 := hn.size; (try simp at hq9); (try simp); omega)
  replace hb := hb.trans (hn.mono hb.size)
  replace hbB1 := hbB1.below hn hbB1.lt
  replace ho1 := row_step ho1 hn
  replace hk1 := hk1.below hn hk1.lt
  clear hn
  have HR2 := Lib.hid (show ∀ k, (Value.slice V2 N2 C2).ownBlock = some k → w4.heap.size ≤ k ∧ k < w5.heap.size from fun k e => ⟨by have h9 := (ho2.lt k e).1; (try simp at h9); omega, (ho2.lt k e).2⟩)
  have pB10 : _ = some (.int .i64 f1a : Value) := hbB1.cell 0
  have pB11 : _ = some (.int .i64 f1b : Value) := hbB1.cell 1
  have pB12 : _ = some (.int .i64 f1c : Value) := hbB1.cell 2
  have pB13 : _ = some (.int .i64 f1d : Value) := hbB1.cell 3
  go_wp2_with fail
  refine (eqIntS_same (own_rints ho2) (own_rints ho1) (Nat.le_refl _) (Nat.le_refl _) hN2).mono ?_
  rintro e1 w6 ⟨rfl, hn⟩
  clear pB10 pB11 pB12 pB13
  have hs5_ := Lib.hid (show w5.heap.size ≤ w6.heap.size by have hq9 := hn.size; (try simp at hq9); (try simp); omega)
  replace hb := hb.trans (hn.mono hb.size)
  replace hbB1 := hbB1.below hn hbB1.lt
  replace ho1 := row_step ho1 hn
  replace hk1 := hk1.below hn hk1.lt
  replace ho2 := row_step ho2 hn
  clear hn
  have pB10 : _ = some (.int .i64 f1a : Value) := hbB1.cell 0
  have pB11 : _ = some (.int .i64 f1b : Value) := hbB1.cell 1
  have pB12 : _ = some (.int .i64 f1c : Value) := hbB1.cell 2
  have pB13 : _ = some (.int .i64 f1d : Value) := hbB1.cell 3
  go_wp2_with fail
  refine (toFoldS_any _ _ _ _ xs0 _ (RFlds.below hr0 hb) hb.size hm0).mono ?_
  rintro e1 w7 ⟨g2, rfl, hg2, hk2, hn⟩
  clear pB10 pB11 pB12 pB13
  have hs6_ := Lib.hid (show w6.heap.size ≤ w7.heap.size by have hq9 := hn.size; (try simp at hq9); (try simp); omega)
  replace hb := hb.trans (hn.mono hb.size)
  replace hbB1 := hbB1.below hn hbB1.lt
  replace ho1 := row_step ho1 hn
  replace hk1 := hk1.below hn hk1.lt
  replace ho2 := row_step ho2 hn
  clear hn
  have hs7_ := Lib.hid (show w6.heap.size ≤ g2 ∧ g2 < w7.heap.size from ⟨by (try simp at hg2); omega, hk2.lt⟩)
  clear hg2
  have pB10 : _ = some (.int .i64 f1a : Value) := hbB1.cell 0
  have pB11 : _ = some (.int .i64 f1b : Value) := hbB1.cell 1
  have pB12 : _ = some (.int .i64 f1c : Value) := hbB1.cell 2
  have pB13 : _ = some (.int .i64 f1d : Value) := hbB1.cell 3
  go_wp2_with fail
  refine (eqFoldS_any _ _ _ _ _ _ _ _ _ (RFlds.of_blk hk1 HL0.out) (RFlds.of_blk hk2 HL0.out) (Nat.le_refl _) (Nat.le_refl _) hm0).mono ?_
  rintro e1 w8 ⟨rfl, hn⟩
  clear pB10 pB11 pB12 pB13
  clear hk2
  have hs8_ := Lib.hid (show w7.heap.size ≤ w8.heap.size by have hq9 := hn.size; (try simp at hq9); (try simp); omega)
  replace hb := hb.trans (hn.mono hb.size)
  replace hbB1 := hbB1.below hn hbB1.lt
  replace ho1 := row_step ho1 hn
  replace hk1 := hk1.below hn hk1.lt
  replace ho2 := row_step ho2 hn
  clear hn
  have pB10 : _ = some (.int .i64 f1a : Value) := hbB1.cell 0
  have pB11 : _ = some (.int .i64 f1b : Value) := hbB1.cell 1
  have pB12 : _ = some (.int .i64 f1c : Value) := hbB1.cell 2
  have pB13 : _ = some (.int .i64 f1d : Value) := hbB1.cell 3
  go_wp2_with fail
  refine (markFoldS_any _ _ _ xs0 _ _ (hk1.row (B := g1) (size := 2) (by rw [flatten_len (size := 2) (by simp [Fld.row]), List.length_map, HL0.out]) (by unfold maxLen; omega) (Nat.le_refl _)) hm0 (by omega)).mono ?_
  rintro e1 w9 ⟨rfl, _, hq⟩
  clear pB10 pB11 pB12 pB13
  clear hk1
  replace hq := KeptI.of_grown (lo := g1) (hi := g1 + 1) hq (fun k e => by injection e with e; simp at e; omega)
  replace hb := hb.trans (hq.below (by have := hs0_.out; have := hs1_.out; have := hs2_.out; have := hs3_.out; have := hs4_.out; have := hs5_.out; have := hs6_.out; have := hs7_.out; have := hs8_.out; omega) hb.size)
  replace hbB1 := hbB1.keptI hq (by have := hs0_.out; have := hs1_.out; have := hs2_.out; have := hs3_.out; have := hs4_.out; have := hs5_.out; have := hs6_.out; have := hs7_.out; have := hs8_.out; omega)
  replace ho1 := row_keptI ho1 hq (fun k e => by have := hs0_.out; have := hs1_.out; have := hs2_.out; have := hs3_.out; have := hs4_.out; have := hs5_.out; have := hs6_.out; have := hs7_.out; have := hs8_.out; have := HR1.out k e; omega)
  replace ho2 := row_keptI ho2 hq (fun k e => by have := hs0_.out; have := hs1_.out; have := hs2_.out; have := hs3_.out; have := hs4_.out; have := hs5_.out; have := hs6_.out; have := hs7_.out; have := hs8_.out; have := HR2.out k e; omega)
  have hs9_ := Lib.hid (show w8.heap.size ≤ w9.heap.size from hq.size)
  clear hq
  have pB10 : _ = some (.int .i64 f1a : Value) := hbB1.cell 0
  have pB11 : _ = some (.int .i64 f1b : Value) := hbB1.cell 1
  have pB12 : _ = some (.int .i64 f1c : Value) := hbB1.cell 2
  have pB13 : _ = some (.int .i64 f1d : Value) := hbB1.cell 3
  go_wp2_with fail
  refine (eqIntS_same (own_rints ho2) (own_rints ho1) (Nat.le_refl _) (Nat.le_refl _) hN2).mono ?_
  rintro e1 w10 ⟨rfl, hn⟩
  clear pB10 pB11 pB12 pB13
  have hs10_ := Lib.hid (show w9.heap.size ≤ w10.heap.size by have hq9 := hn.size; (try simp at hq9); (try simp); omega)
  replace hb := hb.trans (hn.mono hb.size)
  replace hbB1 := hbB1.below hn hbB1.lt
  replace ho1 := row_step ho1 hn
  replace ho2 := row_step ho2 hn
  clear hn
  have pB10 : _ = some (.int .i64 f1a : Value) := hbB1.cell 0
  have pB11 : _ = some (.int .i64 f1b : Value) := hbB1.cell 1
  have pB12 : _ = some (.int .i64 f1c : Value) := hbB1.cell 2
  have pB13 : _ = some (.int .i64 f1d : Value) := hbB1.cell 3
  go_wp2_with fail
  refine (markIntS_any _ _ _ _ _ _ ho2 hN2 (by omega)).mono ?_
  rintro e1 w11 ⟨rfl, ho2, hq⟩
  clear pB10 pB11 pB12 pB13
  replace hq := KeptI.of_grown hq HR2.out
  replace hb := hb.trans (hq.below (by have := hs0_.out; have := hs1_.out; have := hs2_.out; have := hs3_.out; have := hs4_.out; have := hs5_.out; have := hs6_.out; have := hs7_.out; have := hs8_.out; have := hs9_.out; have := hs10_.out; omega) hb.size)
  replace hbB1 := hbB1.keptI hq (by have := hs0_.out; have := hs1_.out; have := hs2_.out; have := hs3_.out; have := hs4_.out; have := hs5_.out; have := hs6_.out; have := hs7_.out; have := hs8_.out; have := hs9_.out; have := hs10_.out; omega)
  replace ho1 := row_keptI ho1 hq (fun k e => by have := hs0_.out; have := hs1_.out; have := hs2_.out; have := hs3_.out; have := hs4_.out; have := hs5_.out; have := hs6_.out; have := hs7_.out; have := hs8_.out; have := hs9_.out; have := hs10_.out; have := HR1.out k e; omega)
  have hs11_ := Lib.hid (show w10.heap.size ≤ w11.heap.size from hq.size)
  clear hq
  -- held
  have pB10 : _ = some (.int .i64 f1a : Value) := hbB1.cell 0
  have pB11 : _ = some (.int .i64 f1b : Value) := hbB1.cell 1
  have pB12 : _ = some (.int .i64 f1c : Value) := hbB1.cell 2
  have pB13 : _ = some (.int .i64 f1d : Value) := hbB1.cell 3
  go_wp2_with fail
  refine (heldIntS_any _ _ _ _ _ _ (own_rints ho2) hN2 (by omega)).mono ?_
  rintro e1 wq ⟨rfl, hwq⟩
  subst hwq
  clear pB10 pB11 pB12 pB13
  have HC := Lib.hid (show ∀ wx, Below w11.heap.size w11 wx → (wx.cell? ⟨W.heap.size, 0, none⟩ = some (.int .i64 f1a) ∧ wx.cell? ⟨W.heap.size, 1, none⟩ = some (.int .i64 f1b) ∧ wx.cell? ⟨W.heap.size, 2, none⟩ = some (.int .i64 f1c) ∧ wx.cell? ⟨W.heap.size, 3, none⟩ = some (.int .i64 f1d)) from fun wx h => ⟨(hbB1.below h hbB1.lt).cell 0, (hbB1.below h hbB1.lt).cell 1, (hbB1.below h hbB1.lt).cell 2, (hbB1.below h hbB1.lt).cell 3⟩)
  go_wp2_with fail
  go_region_held3 (fun wx => Below w11.heap.size w11 wx ∧ (wx.cell? ⟨W.heap.size, 0, none⟩ = some (.int .i64 f1a) ∧ wx.cell? ⟨W.heap.size, 1, none⟩ = some (.int .i64 f1b) ∧ wx.cell? ⟨W.heap.size, 2, none⟩ = some (.int .i64 f1c) ∧ wx.cell? ⟨W.heap.size, 3, none⟩ = some (.int .i64 f1d))) ((first | exact ⟨(Below.refl _ _).drew, HC.out _ (Below.refl _ _).drew⟩ | (have hh : Below _ _ _ ∧ _ := (by assumption); have hh0 := hh.1.trans (hn.mono hh.1.size); exact ⟨hh0, HC.out _ hh0⟩) | assumption | go_keep)) (first
    | (go_at_call 9; (have hh : Below _ _ _ ∧ _ := (by assumption)); refine (toFoldS_any _ _ _ _ xs0 _ (RFlds.below hr0 (hb.trans (hh.1.mono hb.size))) (Nat.le_trans hb.size hh.1.size) hm0).mono ?_; rintro e1 wi12 ⟨gq0, rfl, hgq0, hkq0, hn⟩)
    | (go_at_call 15; refine (toMargins_any _ _ _ _ _).mono ?_; rintro e1 wi12 ⟨rfl, hn⟩; replace hkq0 := Blk.below (by exact hkq0) hn (by exact hkq0.lt))
    | (go_at_call 18; (have hh : Below _ _ _ ∧ _ := (by assumption)); refine (backsOf_impl (by exact (RFlds.of_blk hkq0 HL0.out)) hm0 hf1a hf1b hf1c hf1d hI2).mono ?_; rintro e1 wi12 ⟨V3, N3, C3, rfl, hoz3, hN3, hn⟩; have ho3 := own_lower hoz3 hh.1.size))
  clear HC
  have hn0 : Below w11.heap.size w11 _ ∧ _ := (by assumption)
  obtain ⟨hn, _⟩ := hn0
  have hs12_ := Lib.hid (show w11.heap.size ≤ wi12.heap.size by have hq9 := hn.size; (try simp at hq9); (try simp); omega)
  replace hb := hb.trans (hn.mono hb.size)
  replace hbB1 := hbB1.below hn hbB1.lt
  replace ho1 := row_step ho1 hn
  replace ho2 := row_step ho2 hn
  clear hn
  have HR3 := Lib.hid (show ∀ k, (Value.slice V3 N3 C3).ownBlock = some k → w11.heap.size ≤ k ∧ k < wi12.heap.size from fun k e => ⟨by have h9 := (ho3.lt k e).1; (try simp at h9); omega, (ho3.lt k e).2⟩)
  have pB10 : _ = some (.int .i64 f1a : Value) := hbB1.cell 0
  have pB11 : _ = some (.int .i64 f1b : Value) := hbB1.cell 1
  have pB12 : _ = some (.int .i64 f1c : Value) := hbB1.cell 2
  have pB13 : _ = some (.int .i64 f1d : Value) := hbB1.cell 3
  go_wp2_with fail
  refine (eqIntS_same (own_rints ho3) (own_rints ho1) (Nat.le_refl _) (Nat.le_refl _) hN3).mono ?_
  rintro e1 w14 ⟨rfl, hn⟩
  clear pB10 pB11 pB12 pB13
  have hs13_ := Lib.hid (show wi12.heap.size ≤ w14.heap.size by have hq9 := hn.size; (try simp at hq9); (try simp); omega)
  replace hb := hb.trans (hn.mono hb.size)
  replace hbB1 := hbB1.below hn hbB1.lt
  replace ho1 := row_step ho1 hn
  replace ho2 := row_step ho2 hn
  replace ho3 := row_step ho3 hn
  clear hn
  -- held
  have pB10 : _ = some (.int .i64 f1a : Value) := hbB1.cell 0
  have pB11 : _ = some (.int .i64 f1b : Value) := hbB1.cell 1
  have pB12 : _ = some (.int .i64 f1c : Value) := hbB1.cell 2
  have pB13 : _ = some (.int .i64 f1d : Value) := hbB1.cell 3
  go_wp2_with fail
  refine (heldIntS_any _ _ _ _ _ _ (own_rints ho2) hN2 (by omega)).mono ?_
  rintro e1 wq ⟨rfl, hwq⟩
  subst hwq
  clear pB10 pB11 pB12 pB13
  have pB10 : _ = some (.int .i64 f1a : Value) := hbB1.cell 0
  have pB11 : _ = some (.int .i64 f1b : Value) := hbB1.cell 1
  have pB12 : _ = some (.int .i64 f1c : Value) := hbB1.cell 2
  have pB13 : _ = some (.int .i64 f1d : Value) := hbB1.cell 3
  go_wp2_with fail
  go_ret
  exact ⟨rfl, hb⟩
end Go.Proofs.Ytaalfmijpbnpkaa
