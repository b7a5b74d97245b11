/-
  A setting that a call hands back, laid into a variable's block: the facts behind each order of the region.
-/
import Derived.Test.YtfdmenhnejfhjaaSw3
namespace Go.Proofs.Ytfdmenhnejfhjaa
open Go.RowKit
/-- A fresh variable's block. -/
structure Zb (B : Nat) (wx : World) (g : Nat) : Prop where
  blk : Blk wx g 31 [.slice none 0 0, .slice none 0 0]
  lo : B ≤ g
structure SetR (w : World) (wx : World) (g : Nat) (V : Option Addr) (N C : Nat) (U : Option Addr) (M E : Nat) (bs : List Bx) (ss : List ByteArray) : Prop where
  bel : Below w.heap.size w wx
  blk : Blk wx g 31 [.slice V N C, .slice U M E]
  lo : w.heap.size ≤ g
  ho : wx.ownsRow w.heap.size 71 4 (.slice V N C) N (bs.map Bx.row).flatten
  hp : OwnT wx w.heap.size (.slice U M E) M ss
  hN : N ≤ 1048576
  hM : M ≤ 1048576
section
variable {w W X w' : World} {g B : Nat} {V : Option Addr} {N C : Nat} {U : Option Addr} {M E : Nat} {bs : List Bx} {ss : List ByteArray}
theorem Zb.step (h : Zb B W g) (hn : Below W.heap.size W w') : Zb B w' g := ⟨h.blk.below hn h.blk.lt, h.lo⟩
theorem Zb.new (hX : B ≤ X.heap.size) (hn : Below (X.alloc (.cells #[.slice none 0 0, .slice none 0 0] 31)).heap.size (X.alloc (.cells #[.slice none 0 0, .slice none 0 0] 31)) w') : Zb B w' X.heap.size :=
  ⟨(Blk.new' X 31 #[.slice none 0 0, .slice none 0 0]).below hn (Blk.new' X 31 #[.slice none 0 0, .slice none 0 0]).lt, hX⟩
theorem Zb.newd (hX : B ≤ X.heap.size) (hn : Below (X.alloc (.cells #[.slice none 0 0, .slice none 0 0] 31)).drew.heap.size (X.alloc (.cells #[.slice none 0 0, .slice none 0 0] 31)).drew w') : Zb B w' X.heap.size :=
  ⟨(Blk.new' X 31 #[.slice none 0 0, .slice none 0 0]).drew.below hn (Blk.new' X 31 #[.slice none 0 0, .slice none 0 0]).drew.lt, hX⟩
theorem Zb.at_ (hX : B ≤ X.heap.size) : Zb B (X.alloc (.cells #[.slice none 0 0, .slice none 0 0] 31)) X.heap.size := ⟨Blk.new' X 31 #[.slice none 0 0, .slice none 0 0], hX⟩
theorem keptI_st' (w : World) (b i : Nat) (u : Value) : KeptI b (b + 1) w (w.setCell ⟨b, i, none⟩ u) := ⟨rfl, rfl, rfl, by simp, fun k _ hne => Below.heap_setCell w _ u k (by simp only []; omega)⟩
theorem row_st' {B n size b i : Nat} {e : TypeId} {v u : Value} {xs : List Value} (h : w.ownsRow B e size v n xs) (hb : b < B) : (w.setCell ⟨b, i, none⟩ u).ownsRow B e size v n xs :=
  row_keptI h (keptI_st' w b i u) fun k hk => by have := (h.lt k hk).1; omega
theorem SetR.stores (hh : Below w.heap.size w W) (hz : Zb w.heap.size W g) (hn : Below W.heap.size W w') (ho : w'.ownsRow W.heap.size 71 4 (.slice V N C) N (bs.map Bx.row).flatten) (hp : OwnT w' W.heap.size (.slice U M E) M ss) (hN : N ≤ 1048576) (hM : M ≤ 1048576) :
    SetR w ((w'.setCell ⟨g, 0, none⟩ (.slice V N C)).setCell ⟨g, 1, none⟩ (.slice U M E)) g V N C U M E bs ss := by
  have hz' := hz.step hn
  refine ⟨((hh.trans (hn.mono hh.size)).setCell hz.lo _).setCell hz.lo _, (hz'.blk.set_ 0 (.slice V N C)).set_ 1 (.slice U M E), hz.lo, row_lower (row_st' (row_st' ho hz.blk.lt) hz.blk.lt) hh.size, row_lower (row_st' (row_st' hp hz.blk.lt) hz.blk.lt) hh.size, hN, hM⟩
theorem SetR.alloc (hh : Below w.heap.size w W) (hn : Below W.heap.size W w') (ho : w'.ownsRow W.heap.size 71 4 (.slice V N C) N (bs.map Bx.row).flatten) (hp : OwnT w' W.heap.size (.slice U M E) M ss) (hN : N ≤ 1048576) (hM : M ≤ 1048576) :
    SetR w (w'.alloc (.cells #[.slice V N C, .slice U M E] 31)) w'.heap.size V N C U M E bs ss := by
  have hb := hh.trans (hn.mono hh.size)
  exact ⟨hb.alloc hb.size _, Blk.new' w' 31 #[.slice V N C, .slice U M E], hb.size, row_alloc (row_lower ho hh.size) _, row_alloc (row_lower hp hh.size) _, hN, hM⟩
end
end Go.Proofs.Ytfdmenhnejfhjaa
