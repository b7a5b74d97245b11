/-
  Contracts of the laws' own helpers on slices of ints: the copy, the comparison.
-/
import Derived.Test.YtoclndbenpagnaaDoorWords
import Derived.Test.YtoclndbenpagnaaDoorChecked
import Derived.WalkSpells
import Derived.Outline
import Derived.Deep.QuietTactic
import Derived.BigQuiet
import Derived.Deep.OwnRows
namespace Go.Proofs.YtoclndbenpagnaaDoor
open Go.RowKit
theorem info3 : (Tryd.prog.info? 3).map (fun i => (i.zero, i.size, i.bytes)) = some (some (.int .i64 0), 1, 8) := by kernel_rfl

/-- Two slices of ints are compared. -/
def eqI (xs ys : List Int) : Bool := decide (xs = ys)
end Go.Proofs.YtoclndbenpagnaaDoor
