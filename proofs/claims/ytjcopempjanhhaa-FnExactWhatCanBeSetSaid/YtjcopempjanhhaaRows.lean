/-
  No cell of these rows narrows 'for every input' (looked for: loops, veiled, ifaces, maps, wideKeys, modest, calm, conditions, laid).
  DERIVED. THE GIVEN ROWS OF THIS SEAT. 11 by the template 'for every input the law returns true; each argument reads behind the call as it read before'; 0 by the template 'total and deterministic' (their statements: YtjcopempjanhhaaTotals.lean).
  GIVEN WITH THE SEED: the statements are not yours to turn. If you find one false, say at which input.
  Laid BY PROGRAM, IN A SANDBOX (cutbox-rows.mjs): the forced cells as the released guide's own fill.sh prints them over the translation 6d2615bb53f27c2d… (all of the seat's roots in one cut). By AI agents, Wed Nov 11 2026. No macro, syntax, notation, axiom, sorry.
-/
import Derived.Test.YtjcopempjanhhaaChecked
import GoSem.Claim
import GoSem.ClaimJoined
import GoSem.ClaimMapViews
import Derived.JoinedTies
import Derived.KernelRfl
namespace Go.Proofs.Ytjcopempjanhhaa
/- THE CELL 'sum', in the pinned program and in every row, IS THE sha256 OF THE DUMP (.gsa) THAT YtjcopempjanhhaaProg.lean LOADS. Nothing in Lean hashes anything: it is a label: what it is worth is what the hold of that sum in a sandbox is worth. -/
noncomputable def Try.pinned : Pinned := { name := "ytjcopempjanhhaa", sum := "6d2615bb53f27c2d291e1c2c5abb23358b5d9ab0e26a9cf151b29064790eeced", checked := Try.checked }
namespace Rows
def none {H : Type} : Left H := { results := [], args := [] }

/-- 'laws.FnExactSetWord': WHATEVER THE INPUT: true; the input reads as it did. -/
def fnExactSetWordSpec : ChangeSpec := { name := "fnExactSetWord", fn := fun _ => fun
  | [d1, d2, d3] => { results := [.lit (.bool true)], args := [d1, d2, d3] }
  | _ => none }
def fnExactSetWordRow : OpenClaim := { program := "ytjcopempjanhhaa", sum := "6d2615bb53f27c2d291e1c2c5abb23358b5d9ab0e26a9cf151b29064790eeced", func := "loop.example/g01054/laws.FnExactSetWord", spec := "fnExactSetWord", apart := false }
def FnExactSetWordSaid : Prop := fnExactSetWordRow.holds Try.pinned (OpenSpec.ofChange fnExactSetWordSpec)

/-- ITS FALSE NEIGHBOUR: 'it returns false'. Refute it at one input. -/
def fnExactSetWordWrong : ChangeSpec := { name := "fnExactSetWord", fn := fun _ => fun
  | [d1, d2, d3] => { results := [.lit (.bool false)], args := [d1, d2, d3] }
  | _ => none }
def FnExactSetWordWrongFalsely : Prop := fnExactSetWordRow.holds Try.pinned (OpenSpec.ofChange fnExactSetWordWrong)

/-- 'laws.FnExactIsSetting': WHATEVER THE INPUT: true; the input reads as it did. -/
def fnExactIsSettingSpec : ChangeSpec := { name := "fnExactIsSetting", fn := fun _ => fun
  | [d] => { results := [.lit (.bool true)], args := [d] }
  | _ => none }
def fnExactIsSettingRow : OpenClaim := { program := "ytjcopempjanhhaa", sum := "6d2615bb53f27c2d291e1c2c5abb23358b5d9ab0e26a9cf151b29064790eeced", func := "loop.example/g01054/laws.FnExactIsSetting", spec := "fnExactIsSetting", apart := false }
def FnExactIsSettingSaid : Prop := fnExactIsSettingRow.holds Try.pinned (OpenSpec.ofChange fnExactIsSettingSpec)

/-- ITS FALSE NEIGHBOUR: 'it returns false'. Refute it at one input. -/
def fnExactIsSettingWrong : ChangeSpec := { name := "fnExactIsSetting", fn := fun _ => fun
  | [d] => { results := [.lit (.bool false)], args := [d] }
  | _ => none }
def FnExactIsSettingWrongFalsely : Prop := fnExactIsSettingRow.holds Try.pinned (OpenSpec.ofChange fnExactIsSettingWrong)

/-- 'laws.FnExactCaseDifference': WHATEVER THE INPUT: true; the input reads as it did. -/
def fnExactCaseDifferenceSpec : ChangeSpec := { name := "fnExactCaseDifference", fn := fun _ => fun
  | [d1, d2] => { results := [.lit (.bool true)], args := [d1, d2] }
  | _ => none }
def fnExactCaseDifferenceRow : OpenClaim := { program := "ytjcopempjanhhaa", sum := "6d2615bb53f27c2d291e1c2c5abb23358b5d9ab0e26a9cf151b29064790eeced", func := "loop.example/g01054/laws.FnExactCaseDifference", spec := "fnExactCaseDifference", apart := false }
def FnExactCaseDifferenceSaid : Prop := fnExactCaseDifferenceRow.holds Try.pinned (OpenSpec.ofChange fnExactCaseDifferenceSpec)

/-- ITS FALSE NEIGHBOUR: 'it returns false'. Refute it at one input. -/
def fnExactCaseDifferenceWrong : ChangeSpec := { name := "fnExactCaseDifference", fn := fun _ => fun
  | [d1, d2] => { results := [.lit (.bool false)], args := [d1, d2] }
  | _ => none }
def FnExactCaseDifferenceWrongFalsely : Prop := fnExactCaseDifferenceRow.holds Try.pinned (OpenSpec.ofChange fnExactCaseDifferenceWrong)

/-- 'laws.FnExactTypesOfSetting': WHATEVER THE INPUT: true; the input reads as it did. -/
def fnExactTypesOfSettingSpec : ChangeSpec := { name := "fnExactTypesOfSetting", fn := fun _ => fun
  | [d] => { results := [.lit (.bool true)], args := [d] }
  | _ => none }
def fnExactTypesOfSettingRow : OpenClaim := { program := "ytjcopempjanhhaa", sum := "6d2615bb53f27c2d291e1c2c5abb23358b5d9ab0e26a9cf151b29064790eeced", func := "loop.example/g01054/laws.FnExactTypesOfSetting", spec := "fnExactTypesOfSetting", apart := false }
def FnExactTypesOfSettingSaid : Prop := fnExactTypesOfSettingRow.holds Try.pinned (OpenSpec.ofChange fnExactTypesOfSettingSpec)

/-- ITS FALSE NEIGHBOUR: 'it returns false'. Refute it at one input. -/
def fnExactTypesOfSettingWrong : ChangeSpec := { name := "fnExactTypesOfSetting", fn := fun _ => fun
  | [d] => { results := [.lit (.bool false)], args := [d] }
  | _ => none }
def FnExactTypesOfSettingWrongFalsely : Prop := fnExactTypesOfSettingRow.holds Try.pinned (OpenSpec.ofChange fnExactTypesOfSettingWrong)

/-- 'laws.FnExactFindSlips': WHATEVER THE INPUT: true; the input reads as it did. -/
def fnExactFindSlipsSpec : ChangeSpec := { name := "fnExactFindSlips", fn := fun _ => fun
  | [d1, d2] => { results := [.lit (.bool true)], args := [d1, d2] }
  | _ => none }
def fnExactFindSlipsRow : OpenClaim := { program := "ytjcopempjanhhaa", sum := "6d2615bb53f27c2d291e1c2c5abb23358b5d9ab0e26a9cf151b29064790eeced", func := "loop.example/g01054/laws.FnExactFindSlips", spec := "fnExactFindSlips", apart := false }
def FnExactFindSlipsSaid : Prop := fnExactFindSlipsRow.holds Try.pinned (OpenSpec.ofChange fnExactFindSlipsSpec)

/-- ITS FALSE NEIGHBOUR: 'it returns false'. Refute it at one input. -/
def fnExactFindSlipsWrong : ChangeSpec := { name := "fnExactFindSlips", fn := fun _ => fun
  | [d1, d2] => { results := [.lit (.bool false)], args := [d1, d2] }
  | _ => none }
def FnExactFindSlipsWrongFalsely : Prop := fnExactFindSlipsRow.holds Try.pinned (OpenSpec.ofChange fnExactFindSlipsWrong)

/-- 'laws.FnExactMendSlips': WHATEVER THE INPUT: true; the input reads as it did. -/
def fnExactMendSlipsSpec : ChangeSpec := { name := "fnExactMendSlips", fn := fun _ => fun
  | [d1, d2] => { results := [.lit (.bool true)], args := [d1, d2] }
  | _ => none }
def fnExactMendSlipsRow : OpenClaim := { program := "ytjcopempjanhhaa", sum := "6d2615bb53f27c2d291e1c2c5abb23358b5d9ab0e26a9cf151b29064790eeced", func := "loop.example/g01054/laws.FnExactMendSlips", spec := "fnExactMendSlips", apart := false }
def FnExactMendSlipsSaid : Prop := fnExactMendSlipsRow.holds Try.pinned (OpenSpec.ofChange fnExactMendSlipsSpec)

/-- ITS FALSE NEIGHBOUR: 'it returns false'. Refute it at one input. -/
def fnExactMendSlipsWrong : ChangeSpec := { name := "fnExactMendSlips", fn := fun _ => fun
  | [d1, d2] => { results := [.lit (.bool false)], args := [d1, d2] }
  | _ => none }
def FnExactMendSlipsWrongFalsely : Prop := fnExactMendSlipsRow.holds Try.pinned (OpenSpec.ofChange fnExactMendSlipsWrong)

/-- 'laws.FnExactDistributeAll': WHATEVER THE INPUT: true; the input reads as it did. -/
def fnExactDistributeAllSpec : ChangeSpec := { name := "fnExactDistributeAll", fn := fun _ => fun
  | [d] => { results := [.lit (.bool true)], args := [d] }
  | _ => none }
def fnExactDistributeAllRow : OpenClaim := { program := "ytjcopempjanhhaa", sum := "6d2615bb53f27c2d291e1c2c5abb23358b5d9ab0e26a9cf151b29064790eeced", func := "loop.example/g01054/laws.FnExactDistributeAll", spec := "fnExactDistributeAll", apart := false }
def FnExactDistributeAllSaid : Prop := fnExactDistributeAllRow.holds Try.pinned (OpenSpec.ofChange fnExactDistributeAllSpec)

/-- ITS FALSE NEIGHBOUR: 'it returns false'. Refute it at one input. -/
def fnExactDistributeAllWrong : ChangeSpec := { name := "fnExactDistributeAll", fn := fun _ => fun
  | [d] => { results := [.lit (.bool false)], args := [d] }
  | _ => none }
def FnExactDistributeAllWrongFalsely : Prop := fnExactDistributeAllRow.holds Try.pinned (OpenSpec.ofChange fnExactDistributeAllWrong)

/-- 'laws.FnExactDistributeType': WHATEVER THE INPUT: true; the input reads as it did. -/
def fnExactDistributeTypeSpec : ChangeSpec := { name := "fnExactDistributeType", fn := fun _ => fun
  | [d1, d2, d3] => { results := [.lit (.bool true)], args := [d1, d2, d3] }
  | _ => none }
def fnExactDistributeTypeRow : OpenClaim := { program := "ytjcopempjanhhaa", sum := "6d2615bb53f27c2d291e1c2c5abb23358b5d9ab0e26a9cf151b29064790eeced", func := "loop.example/g01054/laws.FnExactDistributeType", spec := "fnExactDistributeType", apart := false }
def FnExactDistributeTypeSaid : Prop := fnExactDistributeTypeRow.holds Try.pinned (OpenSpec.ofChange fnExactDistributeTypeSpec)

/-- ITS FALSE NEIGHBOUR: 'it returns false'. Refute it at one input. -/
def fnExactDistributeTypeWrong : ChangeSpec := { name := "fnExactDistributeType", fn := fun _ => fun
  | [d1, d2, d3] => { results := [.lit (.bool false)], args := [d1, d2, d3] }
  | _ => none }
def FnExactDistributeTypeWrongFalsely : Prop := fnExactDistributeTypeRow.holds Try.pinned (OpenSpec.ofChange fnExactDistributeTypeWrong)

/-- 'laws.FnExactLostTypes': WHATEVER THE INPUT: true; the input reads as it did. -/
def fnExactLostTypesSpec : ChangeSpec := { name := "fnExactLostTypes", fn := fun _ => fun
  | [d1, d2] => { results := [.lit (.bool true)], args := [d1, d2] }
  | _ => none }
def fnExactLostTypesRow : OpenClaim := { program := "ytjcopempjanhhaa", sum := "6d2615bb53f27c2d291e1c2c5abb23358b5d9ab0e26a9cf151b29064790eeced", func := "loop.example/g01054/laws.FnExactLostTypes", spec := "fnExactLostTypes", apart := false }
def FnExactLostTypesSaid : Prop := fnExactLostTypesRow.holds Try.pinned (OpenSpec.ofChange fnExactLostTypesSpec)

/-- ITS FALSE NEIGHBOUR: 'it returns false'. Refute it at one input. -/
def fnExactLostTypesWrong : ChangeSpec := { name := "fnExactLostTypes", fn := fun _ => fun
  | [d1, d2] => { results := [.lit (.bool false)], args := [d1, d2] }
  | _ => none }
def FnExactLostTypesWrongFalsely : Prop := fnExactLostTypesRow.holds Try.pinned (OpenSpec.ofChange fnExactLostTypesWrong)

/-- 'laws.FnExactWhatCanBeSet': WHATEVER THE INPUT: true; the input reads as it did. -/
def fnExactWhatCanBeSetSpec : ChangeSpec := { name := "fnExactWhatCanBeSet", fn := fun _ => fun
  | [d1, d2, d3] => { results := [.lit (.bool true)], args := [d1, d2, d3] }
  | _ => none }
def fnExactWhatCanBeSetRow : OpenClaim := { program := "ytjcopempjanhhaa", sum := "6d2615bb53f27c2d291e1c2c5abb23358b5d9ab0e26a9cf151b29064790eeced", func := "loop.example/g01054/laws.FnExactWhatCanBeSet", spec := "fnExactWhatCanBeSet", apart := false }
def FnExactWhatCanBeSetSaid : Prop := fnExactWhatCanBeSetRow.holds Try.pinned (OpenSpec.ofChange fnExactWhatCanBeSetSpec)

/-- ITS FALSE NEIGHBOUR: 'it returns false'. Refute it at one input. -/
def fnExactWhatCanBeSetWrong : ChangeSpec := { name := "fnExactWhatCanBeSet", fn := fun _ => fun
  | [d1, d2, d3] => { results := [.lit (.bool false)], args := [d1, d2, d3] }
  | _ => none }
def FnExactWhatCanBeSetWrongFalsely : Prop := fnExactWhatCanBeSetRow.holds Try.pinned (OpenSpec.ofChange fnExactWhatCanBeSetWrong)

/-- 'laws.FnExactBlankUnits': WHATEVER THE INPUT: true; the input reads as it did. -/
def fnExactBlankUnitsSpec : ChangeSpec := { name := "fnExactBlankUnits", fn := fun _ => fun
  | [d1, d2, d3] => { results := [.lit (.bool true)], args := [d1, d2, d3] }
  | _ => none }
def fnExactBlankUnitsRow : OpenClaim := { program := "ytjcopempjanhhaa", sum := "6d2615bb53f27c2d291e1c2c5abb23358b5d9ab0e26a9cf151b29064790eeced", func := "loop.example/g01054/laws.FnExactBlankUnits", spec := "fnExactBlankUnits", apart := false }
def FnExactBlankUnitsSaid : Prop := fnExactBlankUnitsRow.holds Try.pinned (OpenSpec.ofChange fnExactBlankUnitsSpec)

/-- ITS FALSE NEIGHBOUR: 'it returns false'. Refute it at one input. -/
def fnExactBlankUnitsWrong : ChangeSpec := { name := "fnExactBlankUnits", fn := fun _ => fun
  | [d1, d2, d3] => { results := [.lit (.bool false)], args := [d1, d2, d3] }
  | _ => none }
def FnExactBlankUnitsWrongFalsely : Prop := fnExactBlankUnitsRow.holds Try.pinned (OpenSpec.ofChange fnExactBlankUnitsWrong)

/- THE SECOND FORM. 'bulk': how many values and letters a reading holds, each counted each time it is reached (what is shared counts as often as it is met; a slice's spare places count too). A statement '..UptoSaid' is the law's where the arguments, and the package variables that the reading takes, are together of bulk at most 1048576: NARROWER than '..Said'. Prove '..Said' where nothing that the law and all that it calls make is longer than what came in: it says more and counts as full. Else prove '..UptoSaid'. A law counts once. -/
mutual
def uptoBulk {H : Type} : DataW H → Nat
  | .lit (.string bytes) => bytes.length + 1
  | .lit _ => 1
  | .nil => 1
  | .ptr d => uptoBulk d + 1
  | .slice elems spare => uptoBulkAll elems + uptoBulkAll spare + 1
  | .agg parts => uptoBulkAll parts + 1
  | .iface _ d => uptoBulk d + 1
  | .map entries => uptoBulkEntries entries + 1
  | .held _ => 1
def uptoBulkAll {H : Type} : List (DataW H) → Nat
  | [] => 0
  | d :: r => uptoBulk d + uptoBulkAll r
def uptoBulkEntries {H : Type} : List (Lit × DataW H) → Nat
  | [] => 0
  | x :: r => uptoBulkEntry x + uptoBulkEntries r
def uptoBulkEntry {H : Type} : Lit × DataW H → Nat
  | (.string bytes, d) => bytes.length + uptoBulk d + 1
  | (_, d) => uptoBulk d + 1
 end
def uptoSmall : (H : Type) → List (DataW H) → Bool := fun _ ds => decide (uptoBulkAll ds ≤ 1048576)
def OpenSpec.upto (s : _root_.Go.ChangeSpec) : _root_.Go.OpenSpec := { _root_.Go.OpenSpec.ofChange s with cond := some uptoSmall }

/-- 'laws.FnExactSetWord', WHERE WHAT IT READS IS OF BULK AT MOST 1048576: true; the input reads as it did. -/
def fnExactSetWordUptoRow : OpenClaim := { program := "ytjcopempjanhhaa", sum := "6d2615bb53f27c2d291e1c2c5abb23358b5d9ab0e26a9cf151b29064790eeced", func := "loop.example/g01054/laws.FnExactSetWord", spec := "fnExactSetWord", apart := false, narrowed := true }
def FnExactSetWordUptoSaid : Prop := fnExactSetWordUptoRow.holds Try.pinned (OpenSpec.upto fnExactSetWordSpec)

/-- 'laws.FnExactIsSetting', WHERE WHAT IT READS IS OF BULK AT MOST 1048576: true; the input reads as it did. -/
def fnExactIsSettingUptoRow : OpenClaim := { program := "ytjcopempjanhhaa", sum := "6d2615bb53f27c2d291e1c2c5abb23358b5d9ab0e26a9cf151b29064790eeced", func := "loop.example/g01054/laws.FnExactIsSetting", spec := "fnExactIsSetting", apart := false, narrowed := true }
def FnExactIsSettingUptoSaid : Prop := fnExactIsSettingUptoRow.holds Try.pinned (OpenSpec.upto fnExactIsSettingSpec)

/-- 'laws.FnExactCaseDifference', WHERE WHAT IT READS IS OF BULK AT MOST 1048576: true; the input reads as it did. -/
def fnExactCaseDifferenceUptoRow : OpenClaim := { program := "ytjcopempjanhhaa", sum := "6d2615bb53f27c2d291e1c2c5abb23358b5d9ab0e26a9cf151b29064790eeced", func := "loop.example/g01054/laws.FnExactCaseDifference", spec := "fnExactCaseDifference", apart := false, narrowed := true }
def FnExactCaseDifferenceUptoSaid : Prop := fnExactCaseDifferenceUptoRow.holds Try.pinned (OpenSpec.upto fnExactCaseDifferenceSpec)

/-- 'laws.FnExactTypesOfSetting', WHERE WHAT IT READS IS OF BULK AT MOST 1048576: true; the input reads as it did. -/
def fnExactTypesOfSettingUptoRow : OpenClaim := { program := "ytjcopempjanhhaa", sum := "6d2615bb53f27c2d291e1c2c5abb23358b5d9ab0e26a9cf151b29064790eeced", func := "loop.example/g01054/laws.FnExactTypesOfSetting", spec := "fnExactTypesOfSetting", apart := false, narrowed := true }
def FnExactTypesOfSettingUptoSaid : Prop := fnExactTypesOfSettingUptoRow.holds Try.pinned (OpenSpec.upto fnExactTypesOfSettingSpec)

/-- 'laws.FnExactFindSlips', WHERE WHAT IT READS IS OF BULK AT MOST 1048576: true; the input reads as it did. -/
def fnExactFindSlipsUptoRow : OpenClaim := { program := "ytjcopempjanhhaa", sum := "6d2615bb53f27c2d291e1c2c5abb23358b5d9ab0e26a9cf151b29064790eeced", func := "loop.example/g01054/laws.FnExactFindSlips", spec := "fnExactFindSlips", apart := false, narrowed := true }
def FnExactFindSlipsUptoSaid : Prop := fnExactFindSlipsUptoRow.holds Try.pinned (OpenSpec.upto fnExactFindSlipsSpec)

/-- 'laws.FnExactMendSlips', WHERE WHAT IT READS IS OF BULK AT MOST 1048576: true; the input reads as it did. -/
def fnExactMendSlipsUptoRow : OpenClaim := { program := "ytjcopempjanhhaa", sum := "6d2615bb53f27c2d291e1c2c5abb23358b5d9ab0e26a9cf151b29064790eeced", func := "loop.example/g01054/laws.FnExactMendSlips", spec := "fnExactMendSlips", apart := false, narrowed := true }
def FnExactMendSlipsUptoSaid : Prop := fnExactMendSlipsUptoRow.holds Try.pinned (OpenSpec.upto fnExactMendSlipsSpec)

/-- 'laws.FnExactDistributeAll', WHERE WHAT IT READS IS OF BULK AT MOST 1048576: true; the input reads as it did. -/
def fnExactDistributeAllUptoRow : OpenClaim := { program := "ytjcopempjanhhaa", sum := "6d2615bb53f27c2d291e1c2c5abb23358b5d9ab0e26a9cf151b29064790eeced", func := "loop.example/g01054/laws.FnExactDistributeAll", spec := "fnExactDistributeAll", apart := false, narrowed := true }
def FnExactDistributeAllUptoSaid : Prop := fnExactDistributeAllUptoRow.holds Try.pinned (OpenSpec.upto fnExactDistributeAllSpec)

/-- 'laws.FnExactDistributeType', WHERE WHAT IT READS IS OF BULK AT MOST 1048576: true; the input reads as it did. -/
def fnExactDistributeTypeUptoRow : OpenClaim := { program := "ytjcopempjanhhaa", sum := "6d2615bb53f27c2d291e1c2c5abb23358b5d9ab0e26a9cf151b29064790eeced", func := "loop.example/g01054/laws.FnExactDistributeType", spec := "fnExactDistributeType", apart := false, narrowed := true }
def FnExactDistributeTypeUptoSaid : Prop := fnExactDistributeTypeUptoRow.holds Try.pinned (OpenSpec.upto fnExactDistributeTypeSpec)

/-- 'laws.FnExactLostTypes', WHERE WHAT IT READS IS OF BULK AT MOST 1048576: true; the input reads as it did. -/
def fnExactLostTypesUptoRow : OpenClaim := { program := "ytjcopempjanhhaa", sum := "6d2615bb53f27c2d291e1c2c5abb23358b5d9ab0e26a9cf151b29064790eeced", func := "loop.example/g01054/laws.FnExactLostTypes", spec := "fnExactLostTypes", apart := false, narrowed := true }
def FnExactLostTypesUptoSaid : Prop := fnExactLostTypesUptoRow.holds Try.pinned (OpenSpec.upto fnExactLostTypesSpec)

/-- 'laws.FnExactWhatCanBeSet', WHERE WHAT IT READS IS OF BULK AT MOST 1048576: true; the input reads as it did. -/
def fnExactWhatCanBeSetUptoRow : OpenClaim := { program := "ytjcopempjanhhaa", sum := "6d2615bb53f27c2d291e1c2c5abb23358b5d9ab0e26a9cf151b29064790eeced", func := "loop.example/g01054/laws.FnExactWhatCanBeSet", spec := "fnExactWhatCanBeSet", apart := false, narrowed := true }
def FnExactWhatCanBeSetUptoSaid : Prop := fnExactWhatCanBeSetUptoRow.holds Try.pinned (OpenSpec.upto fnExactWhatCanBeSetSpec)

/-- 'laws.FnExactBlankUnits', WHERE WHAT IT READS IS OF BULK AT MOST 1048576: true; the input reads as it did. -/
def fnExactBlankUnitsUptoRow : OpenClaim := { program := "ytjcopempjanhhaa", sum := "6d2615bb53f27c2d291e1c2c5abb23358b5d9ab0e26a9cf151b29064790eeced", func := "loop.example/g01054/laws.FnExactBlankUnits", spec := "fnExactBlankUnits", apart := false, narrowed := true }
def FnExactBlankUnitsUptoSaid : Prop := fnExactBlankUnitsUptoRow.holds Try.pinned (OpenSpec.upto fnExactBlankUnitsSpec)

end Rows
end Go.Proofs.Ytjcopempjanhhaa
