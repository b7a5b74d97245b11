/-
  The walk of the law of BlankUnits.
-/
import Derived.Test.YtjcopempjanhhaaBk1
import Derived.Test.YtjcopempjanhhaaMSort
import Derived.Deep.RegionHeld3
namespace Go.Proofs.Ytjcopempjanhhaa
open Go.RowKit
set_option maxRecDepth 100000 in
set_option maxHeartbeats 4000000 in
theorem blankUnitsLaw (W : World) (A0 : Option Addr) (n0 cp0 : Nat) (xs0 : List Srt) (hr0 : RSrts W W.heap.size A0 n0 xs0) (hn0 : n0 ≤ maxLen) (hX0 : ∀ m ∈ xs0, m.code.size ≤ maxLen) (t1 i1 : ByteArray) (ht1 : t1.size ≤ maxLen) (hi1 : i1.size ≤ maxLen) (s2 : ByteArray) (hs2 : s2.size ≤ maxLen) : Calls Try.prog 13 #[.slice A0 n0 cp0, .agg #[.string t1, .string i1], .string s2] W fun e W' => e = .returned (.bool true) ∧ Below W.heap.size W W' := by
  unfold maxLen at hn0
  have HL0 := Lib.hid hr0.len
  have hbB1 := Blk.new' W 79 #[.string t1, .string i1]
  have hb : Below W.heap.size W (W.alloc (.cells #[.string t1, .string i1] 79)) := (by (repeat (first | exact Below.refl _ _ | exact hb | apply Below.drew | (refine Below.alloc ?_ (by first | (simp; done) | (simp; omega) | (have := hb.size; simp at this ⊢; omega)) _) | (refine Below.setCell ?_ (by simp) _))))
  by_cases hbig2 : 1048576 < s2.size
  · go_enter Try.func13, Try.ntmps13
    go_wp2_with fail
    go_ret
    exact ⟨rfl, hb⟩
  have hm2 : s2.size ≤ 1048576 := by omega
  by_cases hz1 : szSSrt xs0 1048576 < 0
  · go_enter Try.func13, Try.ntmps13
    go_wp2_with fail
    refine (szSortS_any (RSrts.below hr0 hb |>.more hb.size) (by omega) hX0 (l := 1048576) (by omega)).mono ?_
    rintro e1 w1 ⟨rfl, hn⟩
    have hs0_ := Lib.hid (show W.heap.size + 1 ≤ w1.heap.size by have hq9 := hn.size; (try simp at hq9); (try simp); omega)
    replace hb := hb.trans (hn.mono hb.size)
    replace hbB1 := hbB1.below hn hbB1.lt
    clear hn
    go_wp2_with fail
    go_ret
    exact ⟨rfl, hb⟩
  have hy1 := szSSrt_ok (ms := xs0) (l := 1048576) (by omega) (by omega)
  have hm0 : n0 ≤ 1048576 := by have := HL0.out; omega
  have HX0 := Lib.hid (show ∀ m ∈ xs0, m.code.size ≤ 1048576 from fun m hm => by have := hy1.2.2 m hm; omega)
  have hz1_ : szSSrt xs0 1048576 ≤ 1048576 := hy1.2.1
  clear hy1
  by_cases hz2 : szI t1 i1 (szSSrt xs0 1048576) < 0
  · go_enter Try.func13, Try.ntmps13
    go_wp2_with fail
    refine (szSortS_any (RSrts.below hr0 hb |>.more hb.size) (by omega) hX0 (l := 1048576) (by omega)).mono ?_
    rintro e1 w1 ⟨rfl, hn⟩
    have hs0_ := Lib.hid (show W.heap.size + 1 ≤ w1.heap.size by have hq9 := hn.size; (try simp at hq9); (try simp); omega)
    replace hb := hb.trans (hn.mono hb.size)
    replace hbB1 := hbB1.below hn hbB1.lt
    clear hn
    have pB10 : _ = some (.string t1 : Value) := hbB1.cell 0
    have pB11 : _ = some (.string i1 : Value) := hbB1.cell 1
    go_wp2_with fail
    refine (szInked_any _ _ (szSSrt xs0 1048576) _ ht1 hi1 (by omega)).mono ?_
    rintro e1 w2 ⟨rfl, hn⟩
    clear pB10 pB11
    have hs1_ := Lib.hid (show w1.heap.size ≤ w2.heap.size by have hq9 := hn.size; (try simp at hq9); (try simp); omega)
    replace hb := hb.trans (hn.mono hb.size)
    replace hbB1 := hbB1.below hn hbB1.lt
    clear hn
    go_wp2_with fail
    go_ret
    exact ⟨rfl, hb⟩
  have hm1 := szI_ok (t := t1) (i := i1) (l := szSSrt xs0 1048576) (by omega) (by omega)
  go_enter Try.func13, Try.ntmps13
  go_wp2_with fail
  refine (szSortS_any (RSrts.below hr0 hb |>.more hb.size) (by omega) hX0 (l := 1048576) (by omega)).mono ?_
  rintro e1 w1 ⟨rfl, hn⟩
  have hs0_ := Lib.hid (show W.heap.size + 1 ≤ w1.heap.size by have hq9 := hn.size; (try simp at hq9); (try simp); omega)
  replace hb := hb.trans (hn.mono hb.size)
  replace hbB1 := hbB1.below hn hbB1.lt
  clear hn
  have pB10 : _ = some (.string t1 : Value) := hbB1.cell 0
  have pB11 : _ = some (.string i1 : Value) := hbB1.cell 1
  go_wp2_with fail
  refine (szInked_any _ _ (szSSrt xs0 1048576) _ ht1 hi1 (by omega)).mono ?_
  rintro e1 w2 ⟨rfl, hn⟩
  clear pB10 pB11
  have hs1_ := Lib.hid (show w1.heap.size ≤ w2.heap.size by have hq9 := hn.size; (try simp at hq9); (try simp); omega)
  replace hb := hb.trans (hn.mono hb.size)
  replace hbB1 := hbB1.below hn hbB1.lt
  clear hn
  have HC := Lib.hid (show ∀ wx, Below w2.heap.size w2 wx → (wx.cell? ⟨W.heap.size, 0, none⟩ = some (.string t1) ∧ wx.cell? ⟨W.heap.size, 1, none⟩ = some (.string i1)) from fun wx h => ⟨(hbB1.below h hbB1.lt).cell 0, (hbB1.below h hbB1.lt).cell 1⟩)
  go_wp2_with fail
  go_region_held3 (fun wx => Below w2.heap.size w2 wx ∧ (wx.cell? ⟨W.heap.size, 0, none⟩ = some (.string t1) ∧ wx.cell? ⟨W.heap.size, 1, none⟩ = some (.string i1))) ((first | exact ⟨(Below.refl _ _).drew, HC.out _ (Below.refl _ _).drew⟩ | (have hh : Below _ _ _ ∧ _ := (by assumption); have hh0 := hh.1.trans (hn.mono hh.1.size); exact ⟨hh0, HC.out _ hh0⟩) | assumption | go_keep)) (first
    | (go_at_call 17; (have hh : Below _ _ _ ∧ _ := (by assumption)); refine (toSortS_any _ _ _ _ xs0 _ (RSrts.below hr0 (hb.trans (hh.1.mono hb.size))) (Nat.le_trans hb.size hh.1.size) hm0).mono ?_; rintro e1 wi3 ⟨gq0, rfl, hgq0, hkq0, hn⟩)
    | (go_at_call 63; refine (toInked_any _ _ _).mono ?_; rintro e1 wi3 ⟨rfl, hn⟩; replace hkq0 := Blk.below (by exact hkq0) hn (by exact hkq0.lt))
    | (go_at_call 62; (have hh : Below _ _ _ ∧ _ := (by assumption)); refine (blankUnits_spec (by exact (RSrts.of_blk hkq0 HL0.out)) hm0 (Nat.le_refl _) HX0.out hm1.1 hm2).mono ?_; rintro e1 wi3 ⟨rfl, hn⟩))
  clear HC
  have hn0 : Below w2.heap.size w2 _ ∧ _ := (by assumption)
  obtain ⟨hn, _⟩ := hn0
  have hs2_ := Lib.hid (show w2.heap.size ≤ wi3.heap.size by have hq9 := hn.size; (try simp at hq9); (try simp); omega)
  replace hb := hb.trans (hn.mono hb.size)
  replace hbB1 := hbB1.below hn hbB1.lt
  clear hn
  have pB10 : _ = some (.string t1 : Value) := hbB1.cell 0
  have pB11 : _ = some (.string i1 : Value) := hbB1.cell 1
  go_wp2_with fail
  refine (toSortS_any _ _ _ _ xs0 _ (RSrts.below hr0 hb) hb.size hm0).mono ?_
  rintro e1 w5 ⟨g1, rfl, hg1, hk1, hn⟩
  clear pB10 pB11
  have hs3_ := Lib.hid (show wi3.heap.size ≤ w5.heap.size by have hq9 := hn.size; (try simp at hq9); (try simp); omega)
  replace hb := hb.trans (hn.mono hb.size)
  replace hbB1 := hbB1.below hn hbB1.lt
  clear hn
  have hs4_ := Lib.hid (show wi3.heap.size ≤ g1 ∧ g1 < w5.heap.size from ⟨by (try simp at hg1); omega, hk1.lt⟩)
  clear hg1
  have pB10 : _ = some (.string t1 : Value) := hbB1.cell 0
  have pB11 : _ = some (.string i1 : Value) := hbB1.cell 1
  go_wp2_with fail
  refine (toInked_any _ _ _).mono ?_
  rintro e1 w6 ⟨rfl, hn⟩
  clear pB10 pB11
  have hs5_ := Lib.hid (show w5.heap.size ≤ w6.heap.size by have hq9 := hn.size; (try simp at hq9); (try simp); omega)
  replace hb := hb.trans (hn.mono hb.size)
  replace hbB1 := hbB1.below hn hbB1.lt
  replace hk1 := hk1.below hn hk1.lt
  clear hn
  have pB10 : _ = some (.string t1 : Value) := hbB1.cell 0
  have pB11 : _ = some (.string i1 : Value) := hbB1.cell 1
  go_wp2_with fail
  refine (blankUnits_impl (RSrts.of_blk hk1 HL0.out) hm0 (Nat.le_refl _) HX0.out hm1.1 hm2).mono ?_
  rintro e1 w7 ⟨rfl, hn⟩
  clear pB10 pB11
  have hs6_ := Lib.hid (show w6.heap.size ≤ w7.heap.size by have hq9 := hn.size; (try simp at hq9); (try simp); omega)
  replace hb := hb.trans (hn.mono hb.size)
  replace hbB1 := hbB1.below hn hbB1.lt
  replace hk1 := hk1.below hn hk1.lt
  clear hn
  have pB10 : _ = some (.string t1 : Value) := hbB1.cell 0
  have pB11 : _ = some (.string i1 : Value) := hbB1.cell 1
  go_wp2_with fail
  refine (toSortS_any _ _ _ _ xs0 _ (RSrts.below hr0 hb) hb.size hm0).mono ?_
  rintro e1 w8 ⟨g2, rfl, hg2, hk2, hn⟩
  clear pB10 pB11
  have hs7_ := Lib.hid (show w7.heap.size ≤ w8.heap.size by have hq9 := hn.size; (try simp at hq9); (try simp); omega)
  replace hb := hb.trans (hn.mono hb.size)
  replace hbB1 := hbB1.below hn hbB1.lt
  replace hk1 := hk1.below hn hk1.lt
  clear hn
  have hs8_ := Lib.hid (show w7.heap.size ≤ g2 ∧ g2 < w8.heap.size from ⟨by (try simp at hg2); omega, hk2.lt⟩)
  clear hg2
  have pB10 : _ = some (.string t1 : Value) := hbB1.cell 0
  have pB11 : _ = some (.string i1 : Value) := hbB1.cell 1
  go_wp2_with fail
  refine (eqSortS_any _ _ _ _ _ _ _ _ _ (RSrts.of_blk hk1 HL0.out) (RSrts.of_blk hk2 HL0.out) (Nat.le_refl _) (Nat.le_refl _) hm0).mono ?_
  rintro e1 w9 ⟨rfl, hn⟩
  clear pB10 pB11
  clear hk2
  have hs9_ := Lib.hid (show w8.heap.size ≤ w9.heap.size by have hq9 := hn.size; (try simp at hq9); (try simp); omega)
  replace hb := hb.trans (hn.mono hb.size)
  replace hbB1 := hbB1.below hn hbB1.lt
  replace hk1 := hk1.below hn hk1.lt
  clear hn
  have pB10 : _ = some (.string t1 : Value) := hbB1.cell 0
  have pB11 : _ = some (.string i1 : Value) := hbB1.cell 1
  go_wp2_with fail
  go_ret
  exact ⟨rfl, hb⟩
end Go.Proofs.Ytjcopempjanhhaa
