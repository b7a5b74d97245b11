/-
  The walk of the law of InkRuns.
-/
import Derived.Test.YtanpiipmoedfnaaCol10
import Derived.Deep.RegionHeld3
namespace Go.Proofs.Ytanpiipmoedfnaa
open Go.RowKit
set_option maxHeartbeats 1000000 in
theorem inkRunsLaw (W : World) (t0 i0 : ByteArray) (ht0 : t0.size ≤ maxLen) (hi0 : i0.size ≤ maxLen) : Calls Try.prog 10 #[.agg #[.string t0, .string i0]] W fun e W' => e = .returned (.bool true) ∧ Below W.heap.size W W' := by
  have hbB0 := Blk.new' W 23 #[.string t0, .string i0]
  have hb : Below W.heap.size W (W.alloc (.cells #[.string t0, .string i0] 23)) := (by (repeat (first | exact Below.refl _ _ | exact hb | apply Below.drew | (refine Below.alloc ?_ (by first | (simp; done) | (simp; omega) | (have := hb.size; simp at this ⊢; omega)) _) | (refine Below.setCell ?_ (by simp) _))))
  by_cases hz0 : szI t0 i0 1048576 < 0
  · go_enter Try.func10, Try.ntmps10
    go_wp2_with fail
    refine (szInked_any _ _ 1048576 _ ht0 hi0 (by omega)).mono ?_
    rintro e1 w1 ⟨rfl, hn⟩
    have hs0_ := Lib.hid (show W.heap.size + 1 ≤ w1.heap.size by have hq9 := hn.size; (try simp at hq9); (try simp); omega)
    replace hb := hb.trans (hn.mono hb.size)
    replace hbB0 := hbB0.below hn hbB0.lt
    clear hn
    go_wp2_with fail
    go_ret
    exact ⟨rfl, hb⟩
  have hm0 := szI_ok (t := t0) (i := i0) (l := 1048576) (by omega) (by omega)
  go_enter Try.func10, Try.ntmps10
  go_wp2_with fail
  refine (szInked_any _ _ 1048576 _ ht0 hi0 (by omega)).mono ?_
  rintro e1 w1 ⟨rfl, hn⟩
  have hs0_ := Lib.hid (show W.heap.size + 1 ≤ w1.heap.size by have hq9 := hn.size; (try simp at hq9); (try simp); omega)
  replace hb := hb.trans (hn.mono hb.size)
  replace hbB0 := hbB0.below hn hbB0.lt
  clear hn
  have pB00 : _ = some (.string t0 : Value) := hbB0.cell 0
  have pB01 : _ = some (.string i0 : Value) := hbB0.cell 1
  go_wp2_with fail
  refine (toInked_any _ _ _).mono ?_
  rintro e1 w2 ⟨rfl, hn⟩
  clear pB00 pB01
  have hs1_ := Lib.hid (show w1.heap.size ≤ w2.heap.size by have hq9 := hn.size; (try simp at hq9); (try simp); omega)
  replace hb := hb.trans (hn.mono hb.size)
  replace hbB0 := hbB0.below hn hbB0.lt
  clear hn
  have pB00 : _ = some (.string t0 : Value) := hbB0.cell 0
  have pB01 : _ = some (.string i0 : Value) := hbB0.cell 1
  go_wp2_with fail
  refine (inkRuns_spec _ _ _ hm0.1).mono ?_
  rintro e1 w3 ⟨V1, N1, C1, rfl, ho1, hN1, hn⟩
  clear pB00 pB01
  have hs2_ := Lib.hid (show w2.heap.size ≤ w3.heap.size by have hq9 := hn.size; (try simp at hq9); (try simp); omega)
  replace hb := hb.trans (hn.mono hb.size)
  replace hbB0 := hbB0.below hn hbB0.lt
  clear hn
  have HR1 := Lib.hid (show ∀ k, (Value.slice V1 N1 C1).ownBlock = some k → w2.heap.size ≤ k ∧ k < w3.heap.size from fun k e => ⟨by have h9 := (ho1.lt k e).1; (try simp at h9); omega, (ho1.lt k e).2⟩)
  have pB00 : _ = some (.string t0 : Value) := hbB0.cell 0
  have pB01 : _ = some (.string i0 : Value) := hbB0.cell 1
  go_wp2_with fail
  refine (toInked_any _ _ _).mono ?_
  rintro e1 w4 ⟨rfl, hn⟩
  clear pB00 pB01
  have hs3_ := Lib.hid (show w3.heap.size ≤ w4.heap.size by have hq9 := hn.size; (try simp at hq9); (try simp); omega)
  replace hb := hb.trans (hn.mono hb.size)
  replace hbB0 := hbB0.below hn hbB0.lt
  replace ho1 := row_step ho1 hn
  clear hn
  have pB00 : _ = some (.string t0 : Value) := hbB0.cell 0
  have pB01 : _ = some (.string i0 : Value) := hbB0.cell 1
  go_wp2_with fail
  refine (inkRuns_impl _ _ _ hm0.1).mono ?_
  rintro e1 w5 ⟨V2, N2, C2, rfl, ho2, hN2, hn⟩
  clear pB00 pB01
  have hs4_ := Lib.hid (show w4.heap.size ≤ w5.heap.size by have hq9 := hn.size; (try simp at hq9); (try simp); omega)
  replace hb := hb.trans (hn.mono hb.size)
  replace hbB0 := hbB0.below hn hbB0.lt
  replace ho1 := row_step ho1 hn
  clear hn
  have HR2 := Lib.hid (show ∀ k, (Value.slice V2 N2 C2).ownBlock = some k → w4.heap.size ≤ k ∧ k < w5.heap.size from fun k e => ⟨by have h9 := (ho2.lt k e).1; (try simp at h9); omega, (ho2.lt k e).2⟩)
  have pB00 : _ = some (.string t0 : Value) := hbB0.cell 0
  have pB01 : _ = some (.string i0 : Value) := hbB0.cell 1
  go_wp2_with fail
  refine (eqIntS_same (own_rints ho2) (own_rints ho1) (Nat.le_refl _) (Nat.le_refl _) hN2).mono ?_
  rintro e1 w6 ⟨rfl, hn⟩
  clear pB00 pB01
  have hs5_ := Lib.hid (show w5.heap.size ≤ w6.heap.size by have hq9 := hn.size; (try simp at hq9); (try simp); omega)
  replace hb := hb.trans (hn.mono hb.size)
  replace hbB0 := hbB0.below hn hbB0.lt
  replace ho1 := row_step ho1 hn
  replace ho2 := row_step ho2 hn
  clear hn
  have pB00 : _ = some (.string t0 : Value) := hbB0.cell 0
  have pB01 : _ = some (.string i0 : Value) := hbB0.cell 1
  go_wp2_with fail
  refine (markIntS_any _ _ _ _ _ _ ho2 hN2 (by omega)).mono ?_
  rintro e1 w7 ⟨rfl, ho2, hq⟩
  clear pB00 pB01
  replace hq := KeptI.of_grown hq HR2.out
  replace hb := hb.trans (hq.below (by have := hs0_.out; have := hs1_.out; have := hs2_.out; have := hs3_.out; have := hs4_.out; have := hs5_.out; omega) hb.size)
  replace hbB0 := hbB0.keptI hq (by have := hs0_.out; have := hs1_.out; have := hs2_.out; have := hs3_.out; have := hs4_.out; have := hs5_.out; omega)
  replace ho1 := row_keptI ho1 hq (fun k e => by have := hs0_.out; have := hs1_.out; have := hs2_.out; have := hs3_.out; have := hs4_.out; have := hs5_.out; have := HR1.out k e; omega)
  have hs6_ := Lib.hid (show w6.heap.size ≤ w7.heap.size from hq.size)
  clear hq
  -- held
  have pB00 : _ = some (.string t0 : Value) := hbB0.cell 0
  have pB01 : _ = some (.string i0 : Value) := hbB0.cell 1
  go_wp2_with fail
  refine (heldIntS_any _ _ _ _ _ _ (own_rints ho2) hN2 (by omega)).mono ?_
  rintro e1 wq ⟨rfl, hwq⟩
  subst hwq
  clear pB00 pB01
  have pB00 : _ = some (.string t0 : Value) := hbB0.cell 0
  have pB01 : _ = some (.string i0 : Value) := hbB0.cell 1
  go_wp2_with fail
  refine (toInked_any _ _ _).mono ?_
  rintro e1 w8 ⟨rfl, hn⟩
  clear pB00 pB01
  have hs7_ := Lib.hid (show w7.heap.size ≤ w8.heap.size by have hq9 := hn.size; (try simp at hq9); (try simp); omega)
  replace hb := hb.trans (hn.mono hb.size)
  replace hbB0 := hbB0.below hn hbB0.lt
  replace ho1 := row_step ho1 hn
  replace ho2 := row_step ho2 hn
  clear hn
  have pB00 : _ = some (.string t0 : Value) := hbB0.cell 0
  have pB01 : _ = some (.string i0 : Value) := hbB0.cell 1
  go_wp2_with fail
  refine (inkRuns_impl _ _ _ hm0.1).mono ?_
  rintro e1 w9 ⟨V3, N3, C3, rfl, ho3, hN3, hn⟩
  clear pB00 pB01
  have hs8_ := Lib.hid (show w8.heap.size ≤ w9.heap.size by have hq9 := hn.size; (try simp at hq9); (try simp); omega)
  replace hb := hb.trans (hn.mono hb.size)
  replace hbB0 := hbB0.below hn hbB0.lt
  replace ho1 := row_step ho1 hn
  replace ho2 := row_step ho2 hn
  clear hn
  have HR3 := Lib.hid (show ∀ k, (Value.slice V3 N3 C3).ownBlock = some k → w8.heap.size ≤ k ∧ k < w9.heap.size from fun k e => ⟨by have h9 := (ho3.lt k e).1; (try simp at h9); omega, (ho3.lt k e).2⟩)
  have pB00 : _ = some (.string t0 : Value) := hbB0.cell 0
  have pB01 : _ = some (.string i0 : Value) := hbB0.cell 1
  go_wp2_with fail
  refine (eqIntS_same (own_rints ho3) (own_rints ho1) (Nat.le_refl _) (Nat.le_refl _) hN3).mono ?_
  rintro e1 w10 ⟨rfl, hn⟩
  clear pB00 pB01
  have hs9_ := Lib.hid (show w9.heap.size ≤ w10.heap.size by have hq9 := hn.size; (try simp at hq9); (try simp); omega)
  replace hb := hb.trans (hn.mono hb.size)
  replace hbB0 := hbB0.below hn hbB0.lt
  replace ho1 := row_step ho1 hn
  replace ho2 := row_step ho2 hn
  replace ho3 := row_step ho3 hn
  clear hn
  -- held
  have pB00 : _ = some (.string t0 : Value) := hbB0.cell 0
  have pB01 : _ = some (.string i0 : Value) := hbB0.cell 1
  go_wp2_with fail
  refine (heldIntS_any _ _ _ _ _ _ (own_rints ho2) hN2 (by omega)).mono ?_
  rintro e1 wq ⟨rfl, hwq⟩
  subst hwq
  clear pB00 pB01
  have pB00 : _ = some (.string t0 : Value) := hbB0.cell 0
  have pB01 : _ = some (.string i0 : Value) := hbB0.cell 1
  go_wp2_with fail
  go_ret
  exact ⟨rfl, hb⟩
end Go.Proofs.Ytanpiipmoedfnaa
