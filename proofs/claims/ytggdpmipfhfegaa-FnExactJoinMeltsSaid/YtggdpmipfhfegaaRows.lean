/-
  No cell of these rows narrows 'for every input' (looked for: loops, veiled, ifaces, maps, wideKeys, modest, calm, conditions, laid).
  DERIVED. THE GIVEN ROWS OF THIS SEAT. 10 by the template 'for every input the law returns true; each argument reads behind the call as it read before'; 0 by the template 'total and deterministic' (their statements: YtggdpmipfhfegaaTotals.lean).
  GIVEN WITH THE SEED: the statements are not yours to turn. If you find one false, say at which input.
  Laid BY PROGRAM, IN A SANDBOX (cutbox-rows.mjs): the forced cells as the released guide's own fill.sh prints them over the translation 55e9109631dace08… (all of the seat's roots in one cut). By AI agents, Wed Nov 11 2026. No macro, syntax, notation, axiom, sorry.
-/
import Derived.Test.YtggdpmipfhfegaaChecked
import GoSem.Claim
import GoSem.ClaimJoined
import GoSem.ClaimMapViews
import Derived.JoinedTies
import Derived.KernelRfl
namespace Go.Proofs.Ytggdpmipfhfegaa
/- THE CELL 'sum', in the pinned program and in every row, IS THE sha256 OF THE DUMP (.gsa) THAT YtggdpmipfhfegaaProg.lean LOADS. Nothing in Lean hashes anything: it is a label: what it is worth is what the hold of that sum in a sandbox is worth. -/
noncomputable def Try.pinned : Pinned := { name := "ytggdpmipfhfegaa", sum := "55e9109631dace08bcbfafb0f8005ff04a528127041f2f35f619c447d2d05f8c", checked := Try.checked }
namespace Rows
def none {H : Type} : Left H := { results := [], args := [] }

/-- 'laws.FnExactPagesForLines': WHATEVER THE INPUT: true; the input reads as it did. -/
def fnExactPagesForLinesSpec : ChangeSpec := { name := "fnExactPagesForLines", fn := fun _ => fun
  | [d1, d2, d3, d4] => { results := [.lit (.bool true)], args := [d1, d2, d3, d4] }
  | _ => none }
def fnExactPagesForLinesRow : OpenClaim := { program := "ytggdpmipfhfegaa", sum := "55e9109631dace08bcbfafb0f8005ff04a528127041f2f35f619c447d2d05f8c", func := "loop.example/g01054/laws.FnExactPagesForLines", spec := "fnExactPagesForLines", apart := false }
def FnExactPagesForLinesSaid : Prop := fnExactPagesForLinesRow.holds Try.pinned (OpenSpec.ofChange fnExactPagesForLinesSpec)

/-- ITS FALSE NEIGHBOUR: 'it returns false'. Refute it at one input. -/
def fnExactPagesForLinesWrong : ChangeSpec := { name := "fnExactPagesForLines", fn := fun _ => fun
  | [d1, d2, d3, d4] => { results := [.lit (.bool false)], args := [d1, d2, d3, d4] }
  | _ => none }
def FnExactPagesForLinesWrongFalsely : Prop := fnExactPagesForLinesRow.holds Try.pinned (OpenSpec.ofChange fnExactPagesForLinesWrong)

/-- 'laws.FnExactLinesForEns': WHATEVER THE INPUT: true; the input reads as it did. -/
def fnExactLinesForEnsSpec : ChangeSpec := { name := "fnExactLinesForEns", fn := fun _ => fun
  | [d1, d2] => { results := [.lit (.bool true)], args := [d1, d2] }
  | _ => none }
def fnExactLinesForEnsRow : OpenClaim := { program := "ytggdpmipfhfegaa", sum := "55e9109631dace08bcbfafb0f8005ff04a528127041f2f35f619c447d2d05f8c", func := "loop.example/g01054/laws.FnExactLinesForEns", spec := "fnExactLinesForEns", apart := false }
def FnExactLinesForEnsSaid : Prop := fnExactLinesForEnsRow.holds Try.pinned (OpenSpec.ofChange fnExactLinesForEnsSpec)

/-- ITS FALSE NEIGHBOUR: 'it returns false'. Refute it at one input. -/
def fnExactLinesForEnsWrong : ChangeSpec := { name := "fnExactLinesForEns", fn := fun _ => fun
  | [d1, d2] => { results := [.lit (.bool false)], args := [d1, d2] }
  | _ => none }
def FnExactLinesForEnsWrongFalsely : Prop := fnExactLinesForEnsRow.holds Try.pinned (OpenSpec.ofChange fnExactLinesForEnsWrong)

/-- 'laws.FnExactEnsOf': WHATEVER THE INPUT: true; the input reads as it did. -/
def fnExactEnsOfSpec : ChangeSpec := { name := "fnExactEnsOf", fn := fun _ => fun
  | [d1, d2, d3] => { results := [.lit (.bool true)], args := [d1, d2, d3] }
  | _ => none }
def fnExactEnsOfRow : OpenClaim := { program := "ytggdpmipfhfegaa", sum := "55e9109631dace08bcbfafb0f8005ff04a528127041f2f35f619c447d2d05f8c", func := "loop.example/g01054/laws.FnExactEnsOf", spec := "fnExactEnsOf", apart := false }
def FnExactEnsOfSaid : Prop := fnExactEnsOfRow.holds Try.pinned (OpenSpec.ofChange fnExactEnsOfSpec)

/-- ITS FALSE NEIGHBOUR: 'it returns false'. Refute it at one input. -/
def fnExactEnsOfWrong : ChangeSpec := { name := "fnExactEnsOf", fn := fun _ => fun
  | [d1, d2, d3] => { results := [.lit (.bool false)], args := [d1, d2, d3] }
  | _ => none }
def FnExactEnsOfWrongFalsely : Prop := fnExactEnsOfRow.holds Try.pinned (OpenSpec.ofChange fnExactEnsOfWrong)

/-- 'laws.FnExactIsTariff': WHATEVER THE INPUT: true; the input reads as it did. -/
def fnExactIsTariffSpec : ChangeSpec := { name := "fnExactIsTariff", fn := fun _ => fun
  | [d] => { results := [.lit (.bool true)], args := [d] }
  | _ => none }
def fnExactIsTariffRow : OpenClaim := { program := "ytggdpmipfhfegaa", sum := "55e9109631dace08bcbfafb0f8005ff04a528127041f2f35f619c447d2d05f8c", func := "loop.example/g01054/laws.FnExactIsTariff", spec := "fnExactIsTariff", apart := false }
def FnExactIsTariffSaid : Prop := fnExactIsTariffRow.holds Try.pinned (OpenSpec.ofChange fnExactIsTariffSpec)

/-- ITS FALSE NEIGHBOUR: 'it returns false'. Refute it at one input. -/
def fnExactIsTariffWrong : ChangeSpec := { name := "fnExactIsTariff", fn := fun _ => fun
  | [d] => { results := [.lit (.bool false)], args := [d] }
  | _ => none }
def FnExactIsTariffWrongFalsely : Prop := fnExactIsTariffRow.holds Try.pinned (OpenSpec.ofChange fnExactIsTariffWrong)

/-- 'laws.FnExactPriceOfSetting': WHATEVER THE INPUT: true; the input reads as it did. -/
def fnExactPriceOfSettingSpec : ChangeSpec := { name := "fnExactPriceOfSetting", fn := fun _ => fun
  | [d1, d2] => { results := [.lit (.bool true)], args := [d1, d2] }
  | _ => none }
def fnExactPriceOfSettingRow : OpenClaim := { program := "ytggdpmipfhfegaa", sum := "55e9109631dace08bcbfafb0f8005ff04a528127041f2f35f619c447d2d05f8c", func := "loop.example/g01054/laws.FnExactPriceOfSetting", spec := "fnExactPriceOfSetting", apart := false }
def FnExactPriceOfSettingSaid : Prop := fnExactPriceOfSettingRow.holds Try.pinned (OpenSpec.ofChange fnExactPriceOfSettingSpec)

/-- ITS FALSE NEIGHBOUR: 'it returns false'. Refute it at one input. -/
def fnExactPriceOfSettingWrong : ChangeSpec := { name := "fnExactPriceOfSetting", fn := fun _ => fun
  | [d1, d2] => { results := [.lit (.bool false)], args := [d1, d2] }
  | _ => none }
def FnExactPriceOfSettingWrongFalsely : Prop := fnExactPriceOfSettingRow.holds Try.pinned (OpenSpec.ofChange fnExactPriceOfSettingWrong)

/-- 'laws.FnExactEnsForPrice': WHATEVER THE INPUT: true; the input reads as it did. -/
def fnExactEnsForPriceSpec : ChangeSpec := { name := "fnExactEnsForPrice", fn := fun _ => fun
  | [d1, d2] => { results := [.lit (.bool true)], args := [d1, d2] }
  | _ => none }
def fnExactEnsForPriceRow : OpenClaim := { program := "ytggdpmipfhfegaa", sum := "55e9109631dace08bcbfafb0f8005ff04a528127041f2f35f619c447d2d05f8c", func := "loop.example/g01054/laws.FnExactEnsForPrice", spec := "fnExactEnsForPrice", apart := false }
def FnExactEnsForPriceSaid : Prop := fnExactEnsForPriceRow.holds Try.pinned (OpenSpec.ofChange fnExactEnsForPriceSpec)

/-- ITS FALSE NEIGHBOUR: 'it returns false'. Refute it at one input. -/
def fnExactEnsForPriceWrong : ChangeSpec := { name := "fnExactEnsForPrice", fn := fun _ => fun
  | [d1, d2] => { results := [.lit (.bool false)], args := [d1, d2] }
  | _ => none }
def FnExactEnsForPriceWrongFalsely : Prop := fnExactEnsForPriceRow.holds Try.pinned (OpenSpec.ofChange fnExactEnsForPriceWrong)

/-- 'laws.FnExactPriceOfJob': WHATEVER THE INPUT: true; the input reads as it did. -/
def fnExactPriceOfJobSpec : ChangeSpec := { name := "fnExactPriceOfJob", fn := fun _ => fun
  | [d1, d2, d3, d4] => { results := [.lit (.bool true)], args := [d1, d2, d3, d4] }
  | _ => none }
def fnExactPriceOfJobRow : OpenClaim := { program := "ytggdpmipfhfegaa", sum := "55e9109631dace08bcbfafb0f8005ff04a528127041f2f35f619c447d2d05f8c", func := "loop.example/g01054/laws.FnExactPriceOfJob", spec := "fnExactPriceOfJob", apart := false }
def FnExactPriceOfJobSaid : Prop := fnExactPriceOfJobRow.holds Try.pinned (OpenSpec.ofChange fnExactPriceOfJobSpec)

/-- ITS FALSE NEIGHBOUR: 'it returns false'. Refute it at one input. -/
def fnExactPriceOfJobWrong : ChangeSpec := { name := "fnExactPriceOfJob", fn := fun _ => fun
  | [d1, d2, d3, d4] => { results := [.lit (.bool false)], args := [d1, d2, d3, d4] }
  | _ => none }
def FnExactPriceOfJobWrongFalsely : Prop := fnExactPriceOfJobRow.holds Try.pinned (OpenSpec.ofChange fnExactPriceOfJobWrong)

/-- 'laws.FnExactPriceOfCorrections': WHATEVER THE INPUT: true; the input reads as it did. -/
def fnExactPriceOfCorrectionsSpec : ChangeSpec := { name := "fnExactPriceOfCorrections", fn := fun _ => fun
  | [d1, d2] => { results := [.lit (.bool true)], args := [d1, d2] }
  | _ => none }
def fnExactPriceOfCorrectionsRow : OpenClaim := { program := "ytggdpmipfhfegaa", sum := "55e9109631dace08bcbfafb0f8005ff04a528127041f2f35f619c447d2d05f8c", func := "loop.example/g01054/laws.FnExactPriceOfCorrections", spec := "fnExactPriceOfCorrections", apart := false }
def FnExactPriceOfCorrectionsSaid : Prop := fnExactPriceOfCorrectionsRow.holds Try.pinned (OpenSpec.ofChange fnExactPriceOfCorrectionsSpec)

/-- ITS FALSE NEIGHBOUR: 'it returns false'. Refute it at one input. -/
def fnExactPriceOfCorrectionsWrong : ChangeSpec := { name := "fnExactPriceOfCorrections", fn := fun _ => fun
  | [d1, d2] => { results := [.lit (.bool false)], args := [d1, d2] }
  | _ => none }
def FnExactPriceOfCorrectionsWrongFalsely : Prop := fnExactPriceOfCorrectionsRow.holds Try.pinned (OpenSpec.ofChange fnExactPriceOfCorrectionsWrong)

/-- 'laws.FnExactLeastOfOther': WHATEVER THE INPUT: true; the input reads as it did. -/
def fnExactLeastOfOtherSpec : ChangeSpec := { name := "fnExactLeastOfOther", fn := fun _ => fun
  | [d1, d2, d3] => { results := [.lit (.bool true)], args := [d1, d2, d3] }
  | _ => none }
def fnExactLeastOfOtherRow : OpenClaim := { program := "ytggdpmipfhfegaa", sum := "55e9109631dace08bcbfafb0f8005ff04a528127041f2f35f619c447d2d05f8c", func := "loop.example/g01054/laws.FnExactLeastOfOther", spec := "fnExactLeastOfOther", apart := false }
def FnExactLeastOfOtherSaid : Prop := fnExactLeastOfOtherRow.holds Try.pinned (OpenSpec.ofChange fnExactLeastOfOtherSpec)

/-- ITS FALSE NEIGHBOUR: 'it returns false'. Refute it at one input. -/
def fnExactLeastOfOtherWrong : ChangeSpec := { name := "fnExactLeastOfOther", fn := fun _ => fun
  | [d1, d2, d3] => { results := [.lit (.bool false)], args := [d1, d2, d3] }
  | _ => none }
def FnExactLeastOfOtherWrongFalsely : Prop := fnExactLeastOfOtherRow.holds Try.pinned (OpenSpec.ofChange fnExactLeastOfOtherWrong)

/-- 'laws.FnExactJoinMelts': WHATEVER THE INPUT: true; the input reads as it did. -/
def fnExactJoinMeltsSpec : ChangeSpec := { name := "fnExactJoinMelts", fn := fun _ => fun
  | [d] => { results := [.lit (.bool true)], args := [d] }
  | _ => none }
def fnExactJoinMeltsRow : OpenClaim := { program := "ytggdpmipfhfegaa", sum := "55e9109631dace08bcbfafb0f8005ff04a528127041f2f35f619c447d2d05f8c", func := "loop.example/g01054/laws.FnExactJoinMelts", spec := "fnExactJoinMelts", apart := false }
def FnExactJoinMeltsSaid : Prop := fnExactJoinMeltsRow.holds Try.pinned (OpenSpec.ofChange fnExactJoinMeltsSpec)

/-- ITS FALSE NEIGHBOUR: 'it returns false'. Refute it at one input. -/
def fnExactJoinMeltsWrong : ChangeSpec := { name := "fnExactJoinMelts", fn := fun _ => fun
  | [d] => { results := [.lit (.bool false)], args := [d] }
  | _ => none }
def FnExactJoinMeltsWrongFalsely : Prop := fnExactJoinMeltsRow.holds Try.pinned (OpenSpec.ofChange fnExactJoinMeltsWrong)

/- THE SECOND FORM. 'bulk': how many values and letters a reading holds, each counted each time it is reached (what is shared counts as often as it is met; a slice's spare places count too). A statement '..UptoSaid' is the law's where the arguments, and the package variables that the reading takes, are together of bulk at most 1048576: NARROWER than '..Said'. Prove '..Said' where nothing that the law and all that it calls make is longer than what came in: it says more and counts as full. Else prove '..UptoSaid'. A law counts once. -/
mutual
def uptoBulk {H : Type} : DataW H → Nat
  | .lit (.string bytes) => bytes.length + 1
  | .lit _ => 1
  | .nil => 1
  | .ptr d => uptoBulk d + 1
  | .slice elems spare => uptoBulkAll elems + uptoBulkAll spare + 1
  | .agg parts => uptoBulkAll parts + 1
  | .iface _ d => uptoBulk d + 1
  | .map entries => uptoBulkEntries entries + 1
  | .held _ => 1
def uptoBulkAll {H : Type} : List (DataW H) → Nat
  | [] => 0
  | d :: r => uptoBulk d + uptoBulkAll r
def uptoBulkEntries {H : Type} : List (Lit × DataW H) → Nat
  | [] => 0
  | x :: r => uptoBulkEntry x + uptoBulkEntries r
def uptoBulkEntry {H : Type} : Lit × DataW H → Nat
  | (.string bytes, d) => bytes.length + uptoBulk d + 1
  | (_, d) => uptoBulk d + 1
 end
def uptoSmall : (H : Type) → List (DataW H) → Bool := fun _ ds => decide (uptoBulkAll ds ≤ 1048576)
def OpenSpec.upto (s : _root_.Go.ChangeSpec) : _root_.Go.OpenSpec := { _root_.Go.OpenSpec.ofChange s with cond := some uptoSmall }

/-- 'laws.FnExactPagesForLines', WHERE WHAT IT READS IS OF BULK AT MOST 1048576: true; the input reads as it did. -/
def fnExactPagesForLinesUptoRow : OpenClaim := { program := "ytggdpmipfhfegaa", sum := "55e9109631dace08bcbfafb0f8005ff04a528127041f2f35f619c447d2d05f8c", func := "loop.example/g01054/laws.FnExactPagesForLines", spec := "fnExactPagesForLines", apart := false, narrowed := true }
def FnExactPagesForLinesUptoSaid : Prop := fnExactPagesForLinesUptoRow.holds Try.pinned (OpenSpec.upto fnExactPagesForLinesSpec)

/-- 'laws.FnExactLinesForEns', WHERE WHAT IT READS IS OF BULK AT MOST 1048576: true; the input reads as it did. -/
def fnExactLinesForEnsUptoRow : OpenClaim := { program := "ytggdpmipfhfegaa", sum := "55e9109631dace08bcbfafb0f8005ff04a528127041f2f35f619c447d2d05f8c", func := "loop.example/g01054/laws.FnExactLinesForEns", spec := "fnExactLinesForEns", apart := false, narrowed := true }
def FnExactLinesForEnsUptoSaid : Prop := fnExactLinesForEnsUptoRow.holds Try.pinned (OpenSpec.upto fnExactLinesForEnsSpec)

/-- 'laws.FnExactEnsOf', WHERE WHAT IT READS IS OF BULK AT MOST 1048576: true; the input reads as it did. -/
def fnExactEnsOfUptoRow : OpenClaim := { program := "ytggdpmipfhfegaa", sum := "55e9109631dace08bcbfafb0f8005ff04a528127041f2f35f619c447d2d05f8c", func := "loop.example/g01054/laws.FnExactEnsOf", spec := "fnExactEnsOf", apart := false, narrowed := true }
def FnExactEnsOfUptoSaid : Prop := fnExactEnsOfUptoRow.holds Try.pinned (OpenSpec.upto fnExactEnsOfSpec)

/-- 'laws.FnExactIsTariff', WHERE WHAT IT READS IS OF BULK AT MOST 1048576: true; the input reads as it did. -/
def fnExactIsTariffUptoRow : OpenClaim := { program := "ytggdpmipfhfegaa", sum := "55e9109631dace08bcbfafb0f8005ff04a528127041f2f35f619c447d2d05f8c", func := "loop.example/g01054/laws.FnExactIsTariff", spec := "fnExactIsTariff", apart := false, narrowed := true }
def FnExactIsTariffUptoSaid : Prop := fnExactIsTariffUptoRow.holds Try.pinned (OpenSpec.upto fnExactIsTariffSpec)

/-- 'laws.FnExactPriceOfSetting', WHERE WHAT IT READS IS OF BULK AT MOST 1048576: true; the input reads as it did. -/
def fnExactPriceOfSettingUptoRow : OpenClaim := { program := "ytggdpmipfhfegaa", sum := "55e9109631dace08bcbfafb0f8005ff04a528127041f2f35f619c447d2d05f8c", func := "loop.example/g01054/laws.FnExactPriceOfSetting", spec := "fnExactPriceOfSetting", apart := false, narrowed := true }
def FnExactPriceOfSettingUptoSaid : Prop := fnExactPriceOfSettingUptoRow.holds Try.pinned (OpenSpec.upto fnExactPriceOfSettingSpec)

/-- 'laws.FnExactEnsForPrice', WHERE WHAT IT READS IS OF BULK AT MOST 1048576: true; the input reads as it did. -/
def fnExactEnsForPriceUptoRow : OpenClaim := { program := "ytggdpmipfhfegaa", sum := "55e9109631dace08bcbfafb0f8005ff04a528127041f2f35f619c447d2d05f8c", func := "loop.example/g01054/laws.FnExactEnsForPrice", spec := "fnExactEnsForPrice", apart := false, narrowed := true }
def FnExactEnsForPriceUptoSaid : Prop := fnExactEnsForPriceUptoRow.holds Try.pinned (OpenSpec.upto fnExactEnsForPriceSpec)

/-- 'laws.FnExactPriceOfJob', WHERE WHAT IT READS IS OF BULK AT MOST 1048576: true; the input reads as it did. -/
def fnExactPriceOfJobUptoRow : OpenClaim := { program := "ytggdpmipfhfegaa", sum := "55e9109631dace08bcbfafb0f8005ff04a528127041f2f35f619c447d2d05f8c", func := "loop.example/g01054/laws.FnExactPriceOfJob", spec := "fnExactPriceOfJob", apart := false, narrowed := true }
def FnExactPriceOfJobUptoSaid : Prop := fnExactPriceOfJobUptoRow.holds Try.pinned (OpenSpec.upto fnExactPriceOfJobSpec)

/-- 'laws.FnExactPriceOfCorrections', WHERE WHAT IT READS IS OF BULK AT MOST 1048576: true; the input reads as it did. -/
def fnExactPriceOfCorrectionsUptoRow : OpenClaim := { program := "ytggdpmipfhfegaa", sum := "55e9109631dace08bcbfafb0f8005ff04a528127041f2f35f619c447d2d05f8c", func := "loop.example/g01054/laws.FnExactPriceOfCorrections", spec := "fnExactPriceOfCorrections", apart := false, narrowed := true }
def FnExactPriceOfCorrectionsUptoSaid : Prop := fnExactPriceOfCorrectionsUptoRow.holds Try.pinned (OpenSpec.upto fnExactPriceOfCorrectionsSpec)

/-- 'laws.FnExactLeastOfOther', WHERE WHAT IT READS IS OF BULK AT MOST 1048576: true; the input reads as it did. -/
def fnExactLeastOfOtherUptoRow : OpenClaim := { program := "ytggdpmipfhfegaa", sum := "55e9109631dace08bcbfafb0f8005ff04a528127041f2f35f619c447d2d05f8c", func := "loop.example/g01054/laws.FnExactLeastOfOther", spec := "fnExactLeastOfOther", apart := false, narrowed := true }
def FnExactLeastOfOtherUptoSaid : Prop := fnExactLeastOfOtherUptoRow.holds Try.pinned (OpenSpec.upto fnExactLeastOfOtherSpec)

/-- 'laws.FnExactJoinMelts', WHERE WHAT IT READS IS OF BULK AT MOST 1048576: true; the input reads as it did. -/
def fnExactJoinMeltsUptoRow : OpenClaim := { program := "ytggdpmipfhfegaa", sum := "55e9109631dace08bcbfafb0f8005ff04a528127041f2f35f619c447d2d05f8c", func := "loop.example/g01054/laws.FnExactJoinMelts", spec := "fnExactJoinMelts", apart := false, narrowed := true }
def FnExactJoinMeltsUptoSaid : Prop := fnExactJoinMeltsUptoRow.holds Try.pinned (OpenSpec.upto fnExactJoinMeltsSpec)

end Rows
end Go.Proofs.Ytggdpmipfhfegaa
