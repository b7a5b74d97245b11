/-
  Contracts: MarginsText on both sides.
-/
import Derived.Test.YtoclndbenpagnaaDoorMt4
namespace Go.Proofs.YtoclndbenpagnaaDoor
open Go.RowKit
def mtV (a b c d : Int) : ByteArray := if mgB a b c d then str (joinN [a.toNat, b.toNat, c.toNat, d.toNat]) else ⟨#[]⟩
theorem mtV_no {a b c d : Int} (h : mgB a b c d = false) : mtV a b c d = ⟨#[]⟩ := by rw [mtV, h]; rfl
theorem mtV_yes {a b c d : Nat} (h : mgB (a : Int) b c d = true) : mtV (a : Int) b c d = str (joinN [a, b, c, d]) := by rw [mtV, h]; rfl
theorem ret_sb {s t : ByteArray} {x y : Bool} (h : s = t) (h2 : x = y) : Ending.returned (.tuple #[.string s, .bool x]) = .returned (.tuple #[.string t, .bool y]) := by rw [h, h2]
theorem nat_of {a : Int} (h : 0 ≤ a) : ∃ n : Nat, a = (n : Int) := ⟨a.toNat, by omega⟩
theorem marginsText_spec {a b c d : Int} {w : World} (ht : Tab w) (_ : -9223372036854775808 ≤ a ∧ a ≤ 9223372036854775807) (_ : -9223372036854775808 ≤ b ∧ b ≤ 9223372036854775807) (_ : -9223372036854775808 ≤ c ∧ c ≤ 9223372036854775807) (_ : -9223372036854775808 ≤ d ∧ d ≤ 9223372036854775807) : Calls Tryd.prog 8 #[.agg #[.int .i64 a, .int .i64 b, .int .i64 c, .int .i64 d]] w fun e w' => e = .returned (.tuple #[.string (mtV a b c d), .bool (mgB a b c d)]) ∧ Below w.heap.size w w' := by
  have hM := Blk.new' w 23 #[.int .i64 a, .int .i64 b, .int .i64 c, .int .i64 d]; have hb0 : Below w.heap.size w (w.alloc (.cells #[.int .i64 a, .int .i64 b, .int .i64 c, .int .i64 d] 23)) := (by (repeat (first | exact Below.refl _ _ | exact hb | apply Below.drew | (refine Below.alloc ?_ (by first | (simp; done) | (simp; omega) | (have := hb.size; simp at this ⊢; omega)) _) | (refine Below.setCell ?_ (by simp) _))))
  go_enter Tryd.func8, Tryd.ntmps8
  (have q0 : _ = some (Value.int .i64 a) := hM.cell 0); (have q1 : _ = some (Value.int .i64 b) := hM.cell 1); (have q2 : _ = some (Value.int .i64 c) := hM.cell 2); (have q3 : _ = some (Value.int .i64 d) := hM.cell 3)
  go_wp2_with fail
  refine (mgGood_any).mono ?_
  rintro e1 w1 ⟨rfl, hn⟩
  have hb1 := hb0.trans (hn.mono hb0.size)
  replace hM := hM.below hn hM.lt
  clear hn q0 q1 q2 q3
  cases h : mgB a b c d
  · have HV := Lib.hid (mtV_no h)
    have HH := Lib.hid h
    clear h
    go_wp2_with fail
    go_ret2
    exact ⟨ret_sb HV.out.symm HH.out.symm, hb1⟩
  · obtain ⟨r1, r2, r3, r4⟩ := mgB_true h
    obtain ⟨a, rfl⟩ := nat_of r1.1
    obtain ⟨b, rfl⟩ := nat_of r2.1
    obtain ⟨c, rfl⟩ := nat_of r3.1
    obtain ⟨d, rfl⟩ := nat_of r4.1
    have HV := Lib.hid (mtV_yes h)
    have HH := Lib.hid h
    clear h
    (have q0 : _ = some (Value.int .i64 (a : Int)) := hM.cell 0); (have q1 : _ = some (Value.int .i64 (b : Int)) := hM.cell 1); (have q2 : _ = some (Value.int .i64 (c : Int)) := hM.cell 2); (have q3 : _ = some (Value.int .i64 (d : Int)) := hM.cell 3)
    go_wp2_with fail
    refine (mgText_any (by omega) (by omega) (by omega) (by omega)).mono ?_
    rintro e1 w2 ⟨rfl, hn⟩
    have hb2 := hb1.trans (hn.mono hb1.size)
    clear hn hb1
    go_wp2_with fail
    go_ret2
    exact ⟨ret_sb HV.out.symm HH.out.symm, hb2⟩
theorem marginsText_impl {a b c d : Int} {w : World} (ht : Tab w) (_ : -9223372036854775808 ≤ a ∧ a ≤ 9223372036854775807) (_ : -9223372036854775808 ≤ b ∧ b ≤ 9223372036854775807) (_ : -9223372036854775808 ≤ c ∧ c ≤ 9223372036854775807) (_ : -9223372036854775808 ≤ d ∧ d ≤ 9223372036854775807) : Calls Tryd.prog 10 #[.agg #[.int .i64 a, .int .i64 b, .int .i64 c, .int .i64 d]] w fun e w' => e = .returned (.tuple #[.string (mtV a b c d), .bool (mgB a b c d)]) ∧ Below w.heap.size w w' := by
  have hM := Blk.new' w 23 #[.int .i64 a, .int .i64 b, .int .i64 c, .int .i64 d]; have hb0 : Below w.heap.size w (w.alloc (.cells #[.int .i64 a, .int .i64 b, .int .i64 c, .int .i64 d] 23)) := (by (repeat (first | exact Below.refl _ _ | exact hb | apply Below.drew | (refine Below.alloc ?_ (by first | (simp; done) | (simp; omega) | (have := hb.size; simp at this ⊢; omega)) _) | (refine Below.setCell ?_ (by simp) _))))
  go_enter Tryd.func10, Tryd.ntmps10
  (have q0 : _ = some (Value.int .i64 a) := hM.cell 0); (have q1 : _ = some (Value.int .i64 b) := hM.cell 1); (have q2 : _ = some (Value.int .i64 c) := hM.cell 2); (have q3 : _ = some (Value.int .i64 d) := hM.cell 3)
  go_wp2_with fail
  refine (areMargins_any).mono ?_
  rintro e1 w1 ⟨rfl, hn⟩
  have hb1 := hb0.trans (hn.mono hb0.size)
  replace hM := hM.below hn hM.lt
  clear hn q0 q1 q2 q3
  cases h : mgB a b c d
  · have HV := Lib.hid (mtV_no h)
    have HH := Lib.hid h
    clear h
    go_wp2_with fail
    go_ret2
    exact ⟨ret_sb HV.out.symm HH.out.symm, hb1⟩
  · obtain ⟨r1, r2, r3, r4⟩ := mgB_true h
    obtain ⟨a, rfl⟩ := nat_of r1.1
    obtain ⟨b, rfl⟩ := nat_of r2.1
    obtain ⟨c, rfl⟩ := nat_of r3.1
    obtain ⟨d, rfl⟩ := nat_of r4.1
    have HV := Lib.hid (mtV_yes h)
    have HH := Lib.hid h
    have HT := Lib.hid (ht.below hb1)
    clear h ht
    (have q0 : _ = some (Value.int .i64 (a : Int)) := hM.cell 0); (have q1 : _ = some (Value.int .i64 (b : Int)) := hM.cell 1); (have q2 : _ = some (Value.int .i64 (c : Int)) := hM.cell 2); (have q3 : _ = some (Value.int .i64 (d : Int)) := hM.cell 3)
    go_wp2_with fail
    refine (marginsText_any (by omega) (by omega) (by omega) (by omega) HT.out).mono ?_
    rintro e1 w2 ⟨rfl, hn⟩
    have hb2 := hb1.trans (hn.mono hb1.size)
    clear hn hb1
    go_wp2_with fail
    go_ret2
    exact ⟨ret_sb HV.out.symm HH.out.symm, hb2⟩
end Go.Proofs.YtoclndbenpagnaaDoor
