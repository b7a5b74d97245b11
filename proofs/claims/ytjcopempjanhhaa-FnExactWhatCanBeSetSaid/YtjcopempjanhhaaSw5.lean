/-
  Helpers of the law of WhatCanBeSet.
-/
import Derived.Test.YtjcopempjanhhaaSw4
import Derived.Test.YtjcopempjanhhaaSetg
namespace Go.Proofs.Ytjcopempjanhhaa
open Go.RowKit
theorem eqStrW_any (A A' : Option Addr) (n c d B C : Nat) (xs : List ByteArray) (w : World) (hr0 : RStrs w B A n xs) (hs0 : RStrs w C A' n xs) (hB : B ≤ w.heap.size) (hC : C ≤ w.heap.size) (hn : n ≤ 1048576) :
    Calls Try.prog 54 #[.slice A n c, .slice A' n d] w fun e w' => e = .returned (.bool true) ∧ Below w.heap.size w w' :=
  eqStringS_any (hr0.more hB) (hs0.more hC) hn
end Go.Proofs.Ytjcopempjanhhaa
