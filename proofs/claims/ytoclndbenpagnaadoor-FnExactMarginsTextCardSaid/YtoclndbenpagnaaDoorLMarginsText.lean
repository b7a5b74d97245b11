/-
  The walk of the law of MarginsText.
-/
import Derived.Test.YtoclndbenpagnaaDoorMt5
import Derived.Deep.RegionHeld3
namespace Go.Proofs.YtoclndbenpagnaaDoor
open Go.RowKit
set_option maxRecDepth 100000 in
set_option maxHeartbeats 4000000 in
theorem marginsTextLaw (W : World) (htab : Tab W) (f0a f0b f0c f0d : Int) (hf0a : -9223372036854775808 ≤ f0a ∧ f0a ≤ 9223372036854775807) (hf0b : -9223372036854775808 ≤ f0b ∧ f0b ≤ 9223372036854775807) (hf0c : -9223372036854775808 ≤ f0c ∧ f0c ≤ 9223372036854775807) (hf0d : -9223372036854775808 ≤ f0d ∧ f0d ≤ 9223372036854775807) : Calls Tryd.prog 4 #[.agg #[.int .i64 f0a, .int .i64 f0b, .int .i64 f0c, .int .i64 f0d]] W fun e W' => e = .returned (.bool true) ∧ Below W.heap.size W W' := by
  have hbB0 := Blk.new' W 28 #[.int .i64 f0a, .int .i64 f0b, .int .i64 f0c, .int .i64 f0d]
  have hb : Below W.heap.size W (W.alloc (.cells #[.int .i64 f0a, .int .i64 f0b, .int .i64 f0c, .int .i64 f0d] 28)) := (by (repeat (first | exact Below.refl _ _ | exact hb | apply Below.drew | (refine Below.alloc ?_ (by first | (simp; done) | (simp; omega) | (have := hb.size; simp at this ⊢; omega)) _) | (refine Below.setCell ?_ (by simp) _))))
  go_enter Tryd.func4, Tryd.ntmps4
  go_wp2_with fail
  refine (toMargins_any _ _ _ _ _).mono ?_
  rintro e1 w1 ⟨rfl, hn⟩
  have hs0_ := Lib.hid (show W.heap.size + 1 ≤ w1.heap.size by have hq9 := hn.size; (try simp at hq9); (try simp); omega)
  replace hb := hb.trans (hn.mono hb.size)
  replace hbB0 := hbB0.below hn hbB0.lt
  clear hn
  have pB00 : _ = some (.int .i64 f0a : Value) := hbB0.cell 0
  have pB01 : _ = some (.int .i64 f0b : Value) := hbB0.cell 1
  have pB02 : _ = some (.int .i64 f0c : Value) := hbB0.cell 2
  have pB03 : _ = some (.int .i64 f0d : Value) := hbB0.cell 3
  go_wp2_with fail
  refine (marginsText_spec (htab.below hb) hf0a hf0b hf0c hf0d).mono ?_
  rintro e1 w2 ⟨rfl, hn⟩
  clear pB00 pB01 pB02 pB03
  have hs1_ := Lib.hid (show w1.heap.size ≤ w2.heap.size by have hq9 := hn.size; (try simp at hq9); (try simp); omega)
  replace hb := hb.trans (hn.mono hb.size)
  replace hbB0 := hbB0.below hn hbB0.lt
  clear hn
  have pB00 : _ = some (.int .i64 f0a : Value) := hbB0.cell 0
  have pB01 : _ = some (.int .i64 f0b : Value) := hbB0.cell 1
  have pB02 : _ = some (.int .i64 f0c : Value) := hbB0.cell 2
  have pB03 : _ = some (.int .i64 f0d : Value) := hbB0.cell 3
  go_wp2_with fail
  refine (toMargins_any _ _ _ _ _).mono ?_
  rintro e1 w3 ⟨rfl, hn⟩
  clear pB00 pB01 pB02 pB03
  have hs2_ := Lib.hid (show w2.heap.size ≤ w3.heap.size by have hq9 := hn.size; (try simp at hq9); (try simp); omega)
  replace hb := hb.trans (hn.mono hb.size)
  replace hbB0 := hbB0.below hn hbB0.lt
  clear hn
  have pB00 : _ = some (.int .i64 f0a : Value) := hbB0.cell 0
  have pB01 : _ = some (.int .i64 f0b : Value) := hbB0.cell 1
  have pB02 : _ = some (.int .i64 f0c : Value) := hbB0.cell 2
  have pB03 : _ = some (.int .i64 f0d : Value) := hbB0.cell 3
  go_wp2_with fail
  refine (marginsText_impl (htab.below hb) hf0a hf0b hf0c hf0d).mono ?_
  rintro e1 w4 ⟨rfl, hn⟩
  clear pB00 pB01 pB02 pB03
  have hs3_ := Lib.hid (show w3.heap.size ≤ w4.heap.size by have hq9 := hn.size; (try simp at hq9); (try simp); omega)
  replace hb := hb.trans (hn.mono hb.size)
  replace hbB0 := hbB0.below hn hbB0.lt
  clear hn
  have pB00 : _ = some (.int .i64 f0a : Value) := hbB0.cell 0
  have pB01 : _ = some (.int .i64 f0b : Value) := hbB0.cell 1
  have pB02 : _ = some (.int .i64 f0c : Value) := hbB0.cell 2
  have pB03 : _ = some (.int .i64 f0d : Value) := hbB0.cell 3
  go_wp2_with fail
  go_ret
  exact ⟨rfl, hb⟩
end Go.Proofs.YtoclndbenpagnaaDoor
