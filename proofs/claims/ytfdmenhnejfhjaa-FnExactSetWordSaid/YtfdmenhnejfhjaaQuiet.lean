/-
  A region that draws its order and holds calls which make memory: the walk in the order of the text, in the class of the worlds that leave all old blocks as they were.
-/
import Derived.Test.YtfdmenhnejfhjaaWords
import Derived.Deep.QuietTactic
import Derived.BigQuiet
namespace Go.Proofs.Ytfdmenhnejfhjaa
open Go.RowKit
/-- A world that leaves all blocks below B as they were in w. -/
structure Later (B : Nat) (w : World) where
  wx : World
  ok : Below B w wx
instance (B : Nat) (w : World) : Nonempty (Later B w) := ⟨⟨w, Below.refl _ _⟩⟩
section
variable {P : Program} {a : Act} {w : World} {B : Nat} {f : FuncId} {args : Array Value} {v : Value}
/-- The beginning: B is the size of the heap at hand, as the walk spells it. -/
theorem quiet_start {id : Nat} {l : List Oper} {Q : Exit → Act → World → Prop} (B : Nat) (hm : P.follows .mixedOrders = true) (hB : Region.lexB .any l.toArray = true)
    (h : wpQuiet P l.toArray (fun w' => ∃ x : Later B w, w' = x.wx) (fun a' => ∀ w', (∃ x : Later B w, w' = x.wx) → Q .normal a' w') l a) : (Code.region id l.toArray true).wp P Q a w :=
  wp_region_quiet (C := fun w' => ∃ x : Later B w, w' = x.wx) hm hB ⟨⟨_, (Below.refl _ _).drew⟩, rfl⟩ (by simpa using h)
theorem later_call {x : Later B w} (hB : B ≤ w.heap.size) (h : Calls P f args x.wx fun e w' => e = .returned v ∧ Below x.wx.heap.size x.wx w') : Calls P f args x.wx fun e w' => e = .returned v ∧ ∃ y : Later B w, w' = y.wx :=
  h.mono fun _ w1 ⟨he, hn⟩ => ⟨he, ⟨w1, x.ok.trans (hn.mono (Nat.le_trans hB x.ok.size))⟩, rfl⟩
theorem later_same {x : Later B w} (h : Calls P f args x.wx fun e w' => e = .returned v ∧ x.wx = w') : Calls P f args x.wx fun e w' => e = .returned v ∧ ∃ y : Later B w, w' = y.wx :=
  h.mono fun _ _ ⟨he, hn⟩ => ⟨he, x, hn.symm⟩
theorem Later.cell (x : Later B w) {b o : Nat} {u : Value} (hb : b < B) (hc : w.cell? ⟨b, o, none⟩ = some u) : x.wx.cell? ⟨b, o, none⟩ = some u := (x.ok.cell (p := ⟨b, o, none⟩) hb).trans hc
end
end Go.Proofs.Ytfdmenhnejfhjaa
