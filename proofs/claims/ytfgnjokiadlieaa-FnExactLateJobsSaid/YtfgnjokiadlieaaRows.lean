/-
  No cell of these rows narrows 'for every input' (looked for: loops, veiled, ifaces, maps, wideKeys, modest, calm, conditions, laid).
  DERIVED. THE GIVEN ROWS OF THIS SEAT. 12 by the template 'for every input the law returns true; each argument reads behind the call as it read before'; 0 by the template 'total and deterministic' (their statements: YtfgnjokiadlieaaTotals.lean).
  GIVEN WITH THE SEED: the statements are not yours to turn. If you find one false, say at which input.
  Laid BY PROGRAM, IN A SANDBOX (cutbox-rows.mjs): the forced cells as the released guide's own fill.sh prints them over the translation ad31e6cf94dfd32c… (all of the seat's roots in one cut). By AI agents, Wed Nov 11 2026. No macro, syntax, notation, axiom, sorry.
-/
import Derived.Test.YtfgnjokiadlieaaChecked
import GoSem.Claim
import GoSem.ClaimJoined
import GoSem.ClaimMapViews
import Derived.JoinedTies
import Derived.KernelRfl
namespace Go.Proofs.Ytfgnjokiadlieaa
/- THE CELL 'sum', in the pinned program and in every row, IS THE sha256 OF THE DUMP (.gsa) THAT YtfgnjokiadlieaaProg.lean LOADS. Nothing in Lean hashes anything: it is a label: what it is worth is what the hold of that sum in a sandbox is worth. -/
noncomputable def Try.pinned : Pinned := { name := "ytfgnjokiadlieaa", sum := "ad31e6cf94dfd32c16c73a97bc4c5d8959e60db695b3ff9c079c54b544647b66", checked := Try.checked }
namespace Rows
def none {H : Type} : Left H := { results := [], args := [] }

/-- 'laws.FnExactArePressJobs': WHATEVER THE INPUT: true; the input reads as it did. -/
def fnExactArePressJobsSpec : ChangeSpec := { name := "fnExactArePressJobs", fn := fun _ => fun
  | [d] => { results := [.lit (.bool true)], args := [d] }
  | _ => none }
def fnExactArePressJobsRow : OpenClaim := { program := "ytfgnjokiadlieaa", sum := "ad31e6cf94dfd32c16c73a97bc4c5d8959e60db695b3ff9c079c54b544647b66", func := "loop.example/g01054/laws.FnExactArePressJobs", spec := "fnExactArePressJobs", apart := false }
def FnExactArePressJobsSaid : Prop := fnExactArePressJobsRow.holds Try.pinned (OpenSpec.ofChange fnExactArePressJobsSpec)

/-- ITS FALSE NEIGHBOUR: 'it returns false'. Refute it at one input. -/
def fnExactArePressJobsWrong : ChangeSpec := { name := "fnExactArePressJobs", fn := fun _ => fun
  | [d] => { results := [.lit (.bool false)], args := [d] }
  | _ => none }
def FnExactArePressJobsWrongFalsely : Prop := fnExactArePressJobsRow.holds Try.pinned (OpenSpec.ofChange fnExactArePressJobsWrong)

/-- 'laws.FnExactIsPress': WHATEVER THE INPUT: true; the input reads as it did. -/
def fnExactIsPressSpec : ChangeSpec := { name := "fnExactIsPress", fn := fun _ => fun
  | [d] => { results := [.lit (.bool true)], args := [d] }
  | _ => none }
def fnExactIsPressRow : OpenClaim := { program := "ytfgnjokiadlieaa", sum := "ad31e6cf94dfd32c16c73a97bc4c5d8959e60db695b3ff9c079c54b544647b66", func := "loop.example/g01054/laws.FnExactIsPress", spec := "fnExactIsPress", apart := false }
def FnExactIsPressSaid : Prop := fnExactIsPressRow.holds Try.pinned (OpenSpec.ofChange fnExactIsPressSpec)

/-- ITS FALSE NEIGHBOUR: 'it returns false'. Refute it at one input. -/
def fnExactIsPressWrong : ChangeSpec := { name := "fnExactIsPress", fn := fun _ => fun
  | [d] => { results := [.lit (.bool false)], args := [d] }
  | _ => none }
def FnExactIsPressWrongFalsely : Prop := fnExactIsPressRow.holds Try.pinned (OpenSpec.ofChange fnExactIsPressWrong)

/-- 'laws.FnExactLateJobs': WHATEVER THE INPUT: true; the input reads as it did. -/
def fnExactLateJobsSpec : ChangeSpec := { name := "fnExactLateJobs", fn := fun _ => fun
  | [d1, d2, d3, d4] => { results := [.lit (.bool true)], args := [d1, d2, d3, d4] }
  | _ => none }
def fnExactLateJobsRow : OpenClaim := { program := "ytfgnjokiadlieaa", sum := "ad31e6cf94dfd32c16c73a97bc4c5d8959e60db695b3ff9c079c54b544647b66", func := "loop.example/g01054/laws.FnExactLateJobs", spec := "fnExactLateJobs", recurses := true, apart := false }
def FnExactLateJobsSaid : Prop := fnExactLateJobsRow.holds Try.pinned (OpenSpec.ofChange fnExactLateJobsSpec)

/-- ITS FALSE NEIGHBOUR: 'it returns false'. Refute it at one input. -/
def fnExactLateJobsWrong : ChangeSpec := { name := "fnExactLateJobs", fn := fun _ => fun
  | [d1, d2, d3, d4] => { results := [.lit (.bool false)], args := [d1, d2, d3, d4] }
  | _ => none }
def FnExactLateJobsWrongFalsely : Prop := fnExactLateJobsRow.holds Try.pinned (OpenSpec.ofChange fnExactLateJobsWrong)

/-- 'laws.FnExactWashBetween': WHATEVER THE INPUT: true; the input reads as it did. -/
def fnExactWashBetweenSpec : ChangeSpec := { name := "fnExactWashBetween", fn := fun _ => fun
  | [d1, d2, d3] => { results := [.lit (.bool true)], args := [d1, d2, d3] }
  | _ => none }
def fnExactWashBetweenRow : OpenClaim := { program := "ytfgnjokiadlieaa", sum := "ad31e6cf94dfd32c16c73a97bc4c5d8959e60db695b3ff9c079c54b544647b66", func := "loop.example/g01054/laws.FnExactWashBetween", spec := "fnExactWashBetween", apart := false }
def FnExactWashBetweenSaid : Prop := fnExactWashBetweenRow.holds Try.pinned (OpenSpec.ofChange fnExactWashBetweenSpec)

/-- ITS FALSE NEIGHBOUR: 'it returns false'. Refute it at one input. -/
def fnExactWashBetweenWrong : ChangeSpec := { name := "fnExactWashBetween", fn := fun _ => fun
  | [d1, d2, d3] => { results := [.lit (.bool false)], args := [d1, d2, d3] }
  | _ => none }
def FnExactWashBetweenWrongFalsely : Prop := fnExactWashBetweenRow.holds Try.pinned (OpenSpec.ofChange fnExactWashBetweenWrong)

/-- 'laws.FnExactSheetsNeeded': WHATEVER THE INPUT: true; the input reads as it did. -/
def fnExactSheetsNeededSpec : ChangeSpec := { name := "fnExactSheetsNeeded", fn := fun _ => fun
  | [d1, d2] => { results := [.lit (.bool true)], args := [d1, d2] }
  | _ => none }
def fnExactSheetsNeededRow : OpenClaim := { program := "ytfgnjokiadlieaa", sum := "ad31e6cf94dfd32c16c73a97bc4c5d8959e60db695b3ff9c079c54b544647b66", func := "loop.example/g01054/laws.FnExactSheetsNeeded", spec := "fnExactSheetsNeeded", apart := false }
def FnExactSheetsNeededSaid : Prop := fnExactSheetsNeededRow.holds Try.pinned (OpenSpec.ofChange fnExactSheetsNeededSpec)

/-- ITS FALSE NEIGHBOUR: 'it returns false'. Refute it at one input. -/
def fnExactSheetsNeededWrong : ChangeSpec := { name := "fnExactSheetsNeeded", fn := fun _ => fun
  | [d1, d2] => { results := [.lit (.bool false)], args := [d1, d2] }
  | _ => none }
def FnExactSheetsNeededWrongFalsely : Prop := fnExactSheetsNeededRow.holds Try.pinned (OpenSpec.ofChange fnExactSheetsNeededWrong)

/-- 'laws.FnExactJobMinutes': WHATEVER THE INPUT: true; the input reads as it did. -/
def fnExactJobMinutesSpec : ChangeSpec := { name := "fnExactJobMinutes", fn := fun _ => fun
  | [d1, d2] => { results := [.lit (.bool true)], args := [d1, d2] }
  | _ => none }
def fnExactJobMinutesRow : OpenClaim := { program := "ytfgnjokiadlieaa", sum := "ad31e6cf94dfd32c16c73a97bc4c5d8959e60db695b3ff9c079c54b544647b66", func := "loop.example/g01054/laws.FnExactJobMinutes", spec := "fnExactJobMinutes", apart := false }
def FnExactJobMinutesSaid : Prop := fnExactJobMinutesRow.holds Try.pinned (OpenSpec.ofChange fnExactJobMinutesSpec)

/-- ITS FALSE NEIGHBOUR: 'it returns false'. Refute it at one input. -/
def fnExactJobMinutesWrong : ChangeSpec := { name := "fnExactJobMinutes", fn := fun _ => fun
  | [d1, d2] => { results := [.lit (.bool false)], args := [d1, d2] }
  | _ => none }
def FnExactJobMinutesWrongFalsely : Prop := fnExactJobMinutesRow.holds Try.pinned (OpenSpec.ofChange fnExactJobMinutesWrong)

/-- 'laws.FnExactPaperFor': WHATEVER THE INPUT: true; the input reads as it did. -/
def fnExactPaperForSpec : ChangeSpec := { name := "fnExactPaperFor", fn := fun _ => fun
  | [d1, d2] => { results := [.lit (.bool true)], args := [d1, d2] }
  | _ => none }
def fnExactPaperForRow : OpenClaim := { program := "ytfgnjokiadlieaa", sum := "ad31e6cf94dfd32c16c73a97bc4c5d8959e60db695b3ff9c079c54b544647b66", func := "loop.example/g01054/laws.FnExactPaperFor", spec := "fnExactPaperFor", apart := false }
def FnExactPaperForSaid : Prop := fnExactPaperForRow.holds Try.pinned (OpenSpec.ofChange fnExactPaperForSpec)

/-- ITS FALSE NEIGHBOUR: 'it returns false'. Refute it at one input. -/
def fnExactPaperForWrong : ChangeSpec := { name := "fnExactPaperFor", fn := fun _ => fun
  | [d1, d2] => { results := [.lit (.bool false)], args := [d1, d2] }
  | _ => none }
def FnExactPaperForWrongFalsely : Prop := fnExactPaperForRow.holds Try.pinned (OpenSpec.ofChange fnExactPaperForWrong)

/-- 'laws.FnExactWashingIn': WHATEVER THE INPUT: true; the input reads as it did. -/
def fnExactWashingInSpec : ChangeSpec := { name := "fnExactWashingIn", fn := fun _ => fun
  | [d1, d2, d3, d4] => { results := [.lit (.bool true)], args := [d1, d2, d3, d4] }
  | _ => none }
def fnExactWashingInRow : OpenClaim := { program := "ytfgnjokiadlieaa", sum := "ad31e6cf94dfd32c16c73a97bc4c5d8959e60db695b3ff9c079c54b544647b66", func := "loop.example/g01054/laws.FnExactWashingIn", spec := "fnExactWashingIn", apart := false }
def FnExactWashingInSaid : Prop := fnExactWashingInRow.holds Try.pinned (OpenSpec.ofChange fnExactWashingInSpec)

/-- ITS FALSE NEIGHBOUR: 'it returns false'. Refute it at one input. -/
def fnExactWashingInWrong : ChangeSpec := { name := "fnExactWashingIn", fn := fun _ => fun
  | [d1, d2, d3, d4] => { results := [.lit (.bool false)], args := [d1, d2, d3, d4] }
  | _ => none }
def FnExactWashingInWrongFalsely : Prop := fnExactWashingInRow.holds Try.pinned (OpenSpec.ofChange fnExactWashingInWrong)

/-- 'laws.FnExactGreatestDelay': WHATEVER THE INPUT: true; the input reads as it did. -/
def fnExactGreatestDelaySpec : ChangeSpec := { name := "fnExactGreatestDelay", fn := fun _ => fun
  | [d1, d2, d3, d4] => { results := [.lit (.bool true)], args := [d1, d2, d3, d4] }
  | _ => none }
def fnExactGreatestDelayRow : OpenClaim := { program := "ytfgnjokiadlieaa", sum := "ad31e6cf94dfd32c16c73a97bc4c5d8959e60db695b3ff9c079c54b544647b66", func := "loop.example/g01054/laws.FnExactGreatestDelay", spec := "fnExactGreatestDelay", apart := false }
def FnExactGreatestDelaySaid : Prop := fnExactGreatestDelayRow.holds Try.pinned (OpenSpec.ofChange fnExactGreatestDelaySpec)

/-- ITS FALSE NEIGHBOUR: 'it returns false'. Refute it at one input. -/
def fnExactGreatestDelayWrong : ChangeSpec := { name := "fnExactGreatestDelay", fn := fun _ => fun
  | [d1, d2, d3, d4] => { results := [.lit (.bool false)], args := [d1, d2, d3, d4] }
  | _ => none }
def FnExactGreatestDelayWrongFalsely : Prop := fnExactGreatestDelayRow.holds Try.pinned (OpenSpec.ofChange fnExactGreatestDelayWrong)

/-- 'laws.FnExactPressEnds': WHATEVER THE INPUT: true; the input reads as it did. -/
def fnExactPressEndsSpec : ChangeSpec := { name := "fnExactPressEnds", fn := fun _ => fun
  | [d1, d2, d3, d4] => { results := [.lit (.bool true)], args := [d1, d2, d3, d4] }
  | _ => none }
def fnExactPressEndsRow : OpenClaim := { program := "ytfgnjokiadlieaa", sum := "ad31e6cf94dfd32c16c73a97bc4c5d8959e60db695b3ff9c079c54b544647b66", func := "loop.example/g01054/laws.FnExactPressEnds", spec := "fnExactPressEnds", apart := false }
def FnExactPressEndsSaid : Prop := fnExactPressEndsRow.holds Try.pinned (OpenSpec.ofChange fnExactPressEndsSpec)

/-- ITS FALSE NEIGHBOUR: 'it returns false'. Refute it at one input. -/
def fnExactPressEndsWrong : ChangeSpec := { name := "fnExactPressEnds", fn := fun _ => fun
  | [d1, d2, d3, d4] => { results := [.lit (.bool false)], args := [d1, d2, d3, d4] }
  | _ => none }
def FnExactPressEndsWrongFalsely : Prop := fnExactPressEndsRow.holds Try.pinned (OpenSpec.ofChange fnExactPressEndsWrong)

/-- 'laws.FnExactLeastWashing': WHATEVER THE INPUT: true; the input reads as it did. -/
def fnExactLeastWashingSpec : ChangeSpec := { name := "fnExactLeastWashing", fn := fun _ => fun
  | [d1, d2, d3] => { results := [.lit (.bool true)], args := [d1, d2, d3] }
  | _ => none }
def fnExactLeastWashingRow : OpenClaim := { program := "ytfgnjokiadlieaa", sum := "ad31e6cf94dfd32c16c73a97bc4c5d8959e60db695b3ff9c079c54b544647b66", func := "loop.example/g01054/laws.FnExactLeastWashing", spec := "fnExactLeastWashing", unfollowed := true, recurses := true, apart := false }
def FnExactLeastWashingSaid : Prop := fnExactLeastWashingRow.holds Try.pinned (OpenSpec.ofChange fnExactLeastWashingSpec)

/-- ITS FALSE NEIGHBOUR: 'it returns false'. Refute it at one input. -/
def fnExactLeastWashingWrong : ChangeSpec := { name := "fnExactLeastWashing", fn := fun _ => fun
  | [d1, d2, d3] => { results := [.lit (.bool false)], args := [d1, d2, d3] }
  | _ => none }
def FnExactLeastWashingWrongFalsely : Prop := fnExactLeastWashingRow.holds Try.pinned (OpenSpec.ofChange fnExactLeastWashingWrong)

/-- 'laws.FnExactLeastDelay': WHATEVER THE INPUT: true; the input reads as it did. -/
def fnExactLeastDelaySpec : ChangeSpec := { name := "fnExactLeastDelay", fn := fun _ => fun
  | [d1, d2, d3] => { results := [.lit (.bool true)], args := [d1, d2, d3] }
  | _ => none }
def fnExactLeastDelayRow : OpenClaim := { program := "ytfgnjokiadlieaa", sum := "ad31e6cf94dfd32c16c73a97bc4c5d8959e60db695b3ff9c079c54b544647b66", func := "loop.example/g01054/laws.FnExactLeastDelay", spec := "fnExactLeastDelay", unfollowed := true, recurses := true, apart := false }
def FnExactLeastDelaySaid : Prop := fnExactLeastDelayRow.holds Try.pinned (OpenSpec.ofChange fnExactLeastDelaySpec)

/-- ITS FALSE NEIGHBOUR: 'it returns false'. Refute it at one input. -/
def fnExactLeastDelayWrong : ChangeSpec := { name := "fnExactLeastDelay", fn := fun _ => fun
  | [d1, d2, d3] => { results := [.lit (.bool false)], args := [d1, d2, d3] }
  | _ => none }
def FnExactLeastDelayWrongFalsely : Prop := fnExactLeastDelayRow.holds Try.pinned (OpenSpec.ofChange fnExactLeastDelayWrong)

/- THE SECOND FORM. 'bulk': how many values and letters a reading holds, each counted each time it is reached (what is shared counts as often as it is met; a slice's spare places count too). A statement '..UptoSaid' is the law's where the arguments, and the package variables that the reading takes, are together of bulk at most 1048576: NARROWER than '..Said'. Prove '..Said' where nothing that the law and all that it calls make is longer than what came in: it says more and counts as full. Else prove '..UptoSaid'. A law counts once. -/
mutual
def uptoBulk {H : Type} : DataW H → Nat
  | .lit (.string bytes) => bytes.length + 1
  | .lit _ => 1
  | .nil => 1
  | .ptr d => uptoBulk d + 1
  | .slice elems spare => uptoBulkAll elems + uptoBulkAll spare + 1
  | .agg parts => uptoBulkAll parts + 1
  | .iface _ d => uptoBulk d + 1
  | .map entries => uptoBulkEntries entries + 1
  | .held _ => 1
def uptoBulkAll {H : Type} : List (DataW H) → Nat
  | [] => 0
  | d :: r => uptoBulk d + uptoBulkAll r
def uptoBulkEntries {H : Type} : List (Lit × DataW H) → Nat
  | [] => 0
  | x :: r => uptoBulkEntry x + uptoBulkEntries r
def uptoBulkEntry {H : Type} : Lit × DataW H → Nat
  | (.string bytes, d) => bytes.length + uptoBulk d + 1
  | (_, d) => uptoBulk d + 1
 end
def uptoSmall : (H : Type) → List (DataW H) → Bool := fun _ ds => decide (uptoBulkAll ds ≤ 1048576)
def OpenSpec.upto (s : _root_.Go.ChangeSpec) : _root_.Go.OpenSpec := { _root_.Go.OpenSpec.ofChange s with cond := some uptoSmall }

/-- 'laws.FnExactArePressJobs', WHERE WHAT IT READS IS OF BULK AT MOST 1048576: true; the input reads as it did. -/
def fnExactArePressJobsUptoRow : OpenClaim := { program := "ytfgnjokiadlieaa", sum := "ad31e6cf94dfd32c16c73a97bc4c5d8959e60db695b3ff9c079c54b544647b66", func := "loop.example/g01054/laws.FnExactArePressJobs", spec := "fnExactArePressJobs", apart := false, narrowed := true }
def FnExactArePressJobsUptoSaid : Prop := fnExactArePressJobsUptoRow.holds Try.pinned (OpenSpec.upto fnExactArePressJobsSpec)

/-- 'laws.FnExactIsPress', WHERE WHAT IT READS IS OF BULK AT MOST 1048576: true; the input reads as it did. -/
def fnExactIsPressUptoRow : OpenClaim := { program := "ytfgnjokiadlieaa", sum := "ad31e6cf94dfd32c16c73a97bc4c5d8959e60db695b3ff9c079c54b544647b66", func := "loop.example/g01054/laws.FnExactIsPress", spec := "fnExactIsPress", apart := false, narrowed := true }
def FnExactIsPressUptoSaid : Prop := fnExactIsPressUptoRow.holds Try.pinned (OpenSpec.upto fnExactIsPressSpec)

/-- 'laws.FnExactLateJobs', WHERE WHAT IT READS IS OF BULK AT MOST 1048576: true; the input reads as it did. -/
def fnExactLateJobsUptoRow : OpenClaim := { program := "ytfgnjokiadlieaa", sum := "ad31e6cf94dfd32c16c73a97bc4c5d8959e60db695b3ff9c079c54b544647b66", func := "loop.example/g01054/laws.FnExactLateJobs", spec := "fnExactLateJobs", recurses := true, apart := false, narrowed := true }
def FnExactLateJobsUptoSaid : Prop := fnExactLateJobsUptoRow.holds Try.pinned (OpenSpec.upto fnExactLateJobsSpec)

/-- 'laws.FnExactWashBetween', WHERE WHAT IT READS IS OF BULK AT MOST 1048576: true; the input reads as it did. -/
def fnExactWashBetweenUptoRow : OpenClaim := { program := "ytfgnjokiadlieaa", sum := "ad31e6cf94dfd32c16c73a97bc4c5d8959e60db695b3ff9c079c54b544647b66", func := "loop.example/g01054/laws.FnExactWashBetween", spec := "fnExactWashBetween", apart := false, narrowed := true }
def FnExactWashBetweenUptoSaid : Prop := fnExactWashBetweenUptoRow.holds Try.pinned (OpenSpec.upto fnExactWashBetweenSpec)

/-- 'laws.FnExactSheetsNeeded', WHERE WHAT IT READS IS OF BULK AT MOST 1048576: true; the input reads as it did. -/
def fnExactSheetsNeededUptoRow : OpenClaim := { program := "ytfgnjokiadlieaa", sum := "ad31e6cf94dfd32c16c73a97bc4c5d8959e60db695b3ff9c079c54b544647b66", func := "loop.example/g01054/laws.FnExactSheetsNeeded", spec := "fnExactSheetsNeeded", apart := false, narrowed := true }
def FnExactSheetsNeededUptoSaid : Prop := fnExactSheetsNeededUptoRow.holds Try.pinned (OpenSpec.upto fnExactSheetsNeededSpec)

/-- 'laws.FnExactJobMinutes', WHERE WHAT IT READS IS OF BULK AT MOST 1048576: true; the input reads as it did. -/
def fnExactJobMinutesUptoRow : OpenClaim := { program := "ytfgnjokiadlieaa", sum := "ad31e6cf94dfd32c16c73a97bc4c5d8959e60db695b3ff9c079c54b544647b66", func := "loop.example/g01054/laws.FnExactJobMinutes", spec := "fnExactJobMinutes", apart := false, narrowed := true }
def FnExactJobMinutesUptoSaid : Prop := fnExactJobMinutesUptoRow.holds Try.pinned (OpenSpec.upto fnExactJobMinutesSpec)

/-- 'laws.FnExactPaperFor', WHERE WHAT IT READS IS OF BULK AT MOST 1048576: true; the input reads as it did. -/
def fnExactPaperForUptoRow : OpenClaim := { program := "ytfgnjokiadlieaa", sum := "ad31e6cf94dfd32c16c73a97bc4c5d8959e60db695b3ff9c079c54b544647b66", func := "loop.example/g01054/laws.FnExactPaperFor", spec := "fnExactPaperFor", apart := false, narrowed := true }
def FnExactPaperForUptoSaid : Prop := fnExactPaperForUptoRow.holds Try.pinned (OpenSpec.upto fnExactPaperForSpec)

/-- 'laws.FnExactWashingIn', WHERE WHAT IT READS IS OF BULK AT MOST 1048576: true; the input reads as it did. -/
def fnExactWashingInUptoRow : OpenClaim := { program := "ytfgnjokiadlieaa", sum := "ad31e6cf94dfd32c16c73a97bc4c5d8959e60db695b3ff9c079c54b544647b66", func := "loop.example/g01054/laws.FnExactWashingIn", spec := "fnExactWashingIn", apart := false, narrowed := true }
def FnExactWashingInUptoSaid : Prop := fnExactWashingInUptoRow.holds Try.pinned (OpenSpec.upto fnExactWashingInSpec)

/-- 'laws.FnExactGreatestDelay', WHERE WHAT IT READS IS OF BULK AT MOST 1048576: true; the input reads as it did. -/
def fnExactGreatestDelayUptoRow : OpenClaim := { program := "ytfgnjokiadlieaa", sum := "ad31e6cf94dfd32c16c73a97bc4c5d8959e60db695b3ff9c079c54b544647b66", func := "loop.example/g01054/laws.FnExactGreatestDelay", spec := "fnExactGreatestDelay", apart := false, narrowed := true }
def FnExactGreatestDelayUptoSaid : Prop := fnExactGreatestDelayUptoRow.holds Try.pinned (OpenSpec.upto fnExactGreatestDelaySpec)

/-- 'laws.FnExactPressEnds', WHERE WHAT IT READS IS OF BULK AT MOST 1048576: true; the input reads as it did. -/
def fnExactPressEndsUptoRow : OpenClaim := { program := "ytfgnjokiadlieaa", sum := "ad31e6cf94dfd32c16c73a97bc4c5d8959e60db695b3ff9c079c54b544647b66", func := "loop.example/g01054/laws.FnExactPressEnds", spec := "fnExactPressEnds", apart := false, narrowed := true }
def FnExactPressEndsUptoSaid : Prop := fnExactPressEndsUptoRow.holds Try.pinned (OpenSpec.upto fnExactPressEndsSpec)

/-- 'laws.FnExactLeastWashing', WHERE WHAT IT READS IS OF BULK AT MOST 1048576: true; the input reads as it did. -/
def fnExactLeastWashingUptoRow : OpenClaim := { program := "ytfgnjokiadlieaa", sum := "ad31e6cf94dfd32c16c73a97bc4c5d8959e60db695b3ff9c079c54b544647b66", func := "loop.example/g01054/laws.FnExactLeastWashing", spec := "fnExactLeastWashing", unfollowed := true, recurses := true, apart := false, narrowed := true }
def FnExactLeastWashingUptoSaid : Prop := fnExactLeastWashingUptoRow.holds Try.pinned (OpenSpec.upto fnExactLeastWashingSpec)

/-- 'laws.FnExactLeastDelay', WHERE WHAT IT READS IS OF BULK AT MOST 1048576: true; the input reads as it did. -/
def fnExactLeastDelayUptoRow : OpenClaim := { program := "ytfgnjokiadlieaa", sum := "ad31e6cf94dfd32c16c73a97bc4c5d8959e60db695b3ff9c079c54b544647b66", func := "loop.example/g01054/laws.FnExactLeastDelay", spec := "fnExactLeastDelay", unfollowed := true, recurses := true, apart := false, narrowed := true }
def FnExactLeastDelayUptoSaid : Prop := fnExactLeastDelayUptoRow.holds Try.pinned (OpenSpec.upto fnExactLeastDelaySpec)

end Rows
end Go.Proofs.Ytfgnjokiadlieaa
