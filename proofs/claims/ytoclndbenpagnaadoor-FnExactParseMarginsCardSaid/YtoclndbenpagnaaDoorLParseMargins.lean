/-
  The walk of the law of ParseMargins.
-/
import Derived.Test.YtoclndbenpagnaaDoorPm6
namespace Go.Proofs.YtoclndbenpagnaaDoor
open Go.RowKit
theorem eqMargins_same (a b c d : Int) (w : World) : Calls Tryd.prog 7 #[.agg #[.int .i64 a, .int .i64 b, .int .i64 c, .int .i64 d], .agg #[.int .i64 a, .int .i64 b, .int .i64 c, .int .i64 d]] w fun e w' => e = .returned (.bool true) ∧ Below w.heap.size w w' := by
  have hb : Below w.heap.size w ((w.alloc (.cells #[.int .i64 a, .int .i64 b, .int .i64 c, .int .i64 d] 23)).alloc (.cells #[.int .i64 a, .int .i64 b, .int .i64 c, .int .i64 d] 23)) := (by (repeat (first | exact Below.refl _ _ | exact hb | apply Below.drew | (refine Below.alloc ?_ (by first | (simp; done) | (simp; omega) | (have := hb.size; simp at this ⊢; omega)) _) | (refine Below.setCell ?_ (by simp) _))))
  go_enter Tryd.func7, Tryd.ntmps7
  go_wp2_with fail
  go_ret
  exact ⟨rfl, hb⟩
theorem pm_same {s : ByteArray} {w w' : World} {e : Ending} (h : PmPost s w e w') : ∃ (a b c d : Int) (x : Bool), e = .returned (.tuple #[.agg #[.int .i64 a, .int .i64 b, .int .i64 c, .int .i64 d], .bool x]) ∧ ∀ w0 e0 w1, PmPost s w0 e0 w1 → e0 = .returned (.tuple #[.agg #[.int .i64 a, .int .i64 b, .int .i64 c, .int .i64 d], .bool x]) := by
  obtain ⟨h, _⟩ := h
  rcases h with ⟨a, b, c, d, hI, rfl⟩ | ⟨hN, rfl⟩
  · refine ⟨a, b, c, d, true, rfl, fun w0 e0 w1 h0 => ?_⟩
    obtain ⟨h0, _⟩ := h0
    rcases h0 with ⟨a', b', c', d', hI', rfl⟩ | ⟨hN', _⟩
    · obtain ⟨rfl, rfl, rfl, rfl⟩ := isT_one hI hI'
      rfl
    · exact absurd hI (hN' a b c d)
  · refine ⟨0, 0, 0, 0, false, rfl, fun w0 e0 w1 h0 => ?_⟩
    obtain ⟨h0, _⟩ := h0
    rcases h0 with ⟨a', b', c', d', hI', _⟩ | ⟨_, rfl⟩
    · exact absurd hI' (hN a' b' c' d')
    · rfl
set_option maxRecDepth 100000 in
theorem parseMarginsLaw (W : World) (htab : Tab W) (herr : ErrV W) (s : ByteArray) (hs : s.size ≤ maxLen) : Calls Tryd.prog 3 #[.string s] W fun e W' => e = .returned (.bool true) ∧ Below W.heap.size W W' := by
  unfold maxLen at hs
  by_cases hbig : 1048576 < s.size
  · go_enter Tryd.func3, Tryd.ntmps3
    go_wp2_with fail
    go_ret
    exact ⟨rfl, Below.refl _ _⟩
  have hm : s.size ≤ 1048576 := by omega
  have HT := Lib.hid htab
  have HE := Lib.hid herr
  clear htab herr
  go_enter Tryd.func3, Tryd.ntmps3
  go_wp2_with fail
  refine (parseMargins_spec s hm _).mono ?_
  rintro e w1 hp
  have hb1 := hp.2
  obtain ⟨a, b, c, d, x, rfl, hs2⟩ := pm_same hp
  have HS2 := Lib.hid hs2
  clear hp hs2
  have hx1 := Blk.new' w1 23 #[.int .i64 a, .int .i64 b, .int .i64 c, .int .i64 d]
  have hb2 : Below W.heap.size W (w1.alloc (.cells #[.int .i64 a, .int .i64 b, .int .i64 c, .int .i64 d] 23)) := hb1.alloc hb1.size _
  go_wp2_with fail
  refine (parseMargins_impl s hm _ (HT.out.below hb2) (HE.out.below hb2)).mono ?_
  rintro e w2 hp
  have hn := hp.2
  obtain rfl := HS2.out _ _ _ hp
  clear hp
  have hb3 := hb2.trans (hn.mono hb2.size)
  have hx := hx1.below hn hx1.lt
  have hy := Blk.new' w2 23 #[.int .i64 a, .int .i64 b, .int .i64 c, .int .i64 d]
  have hxa := hx.alloc (.cells #[.int .i64 a, .int .i64 b, .int .i64 c, .int .i64 d] 23)
  have hb4 : Below W.heap.size W (w2.alloc (.cells #[.int .i64 a, .int .i64 b, .int .i64 c, .int .i64 d] 23)) := hb3.alloc hb3.size _
  have p0 : _ = some (Value.int .i64 a) := hxa.cell 0
  have p1 : _ = some (Value.int .i64 b) := hxa.cell 1
  have p2 : _ = some (Value.int .i64 c) := hxa.cell 2
  have p3 : _ = some (Value.int .i64 d) := hxa.cell 3
  have q0 : _ = some (Value.int .i64 a) := hy.cell 0
  have q1 : _ = some (Value.int .i64 b) := hy.cell 1
  have q2 : _ = some (Value.int .i64 c) := hy.cell 2
  have q3 : _ = some (Value.int .i64 d) := hy.cell 3
  have r0 : _ = some (Value.int .i64 a) := hx.cell 0
  have r1 : _ = some (Value.int .i64 b) := hx.cell 1
  have r2 : _ = some (Value.int .i64 c) := hx.cell 2
  have r3 : _ = some (Value.int .i64 d) := hx.cell 3
  clear hx1 hn
  go_wp2_with fail
  refine (eqMargins_same _ _ _ _ _).mono ?_
  rintro e w3 ⟨rfl, hn⟩
  have hb5 := hb4.trans (hn.mono hb4.size)
  clear p0 p1 p2 p3 q0 q1 q2 q3 r0 r1 r2 r3 hn
  go_wp2_with fail
  go_ret
  exact ⟨rfl, hb5⟩
end Go.Proofs.YtoclndbenpagnaaDoor
