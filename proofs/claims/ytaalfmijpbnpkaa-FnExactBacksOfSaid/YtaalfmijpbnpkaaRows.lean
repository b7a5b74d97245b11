/-
  No cell of these rows narrows 'for every input' (looked for: loops, veiled, ifaces, maps, wideKeys, modest, calm, conditions, laid).
  DERIVED. THE GIVEN ROWS OF THIS SEAT. 4 by the template 'for every input the law returns true; each argument reads behind the call as it read before'; 0 by the template 'total and deterministic' (their statements: YtaalfmijpbnpkaaTotals.lean).
  GIVEN WITH THE SEED: the statements are not yours to turn. If you find one false, say at which input.
  Laid BY PROGRAM, IN A SANDBOX (cutbox-rows.mjs): the forced cells as the released guide's own fill.sh prints them over the translation 245a72bf6ac2c91c… (all of the seat's roots in one cut). By AI agents, Wed Nov 11 2026. No macro, syntax, notation, axiom, sorry.
-/
import Derived.Test.YtaalfmijpbnpkaaChecked
import GoSem.Claim
import GoSem.ClaimJoined
import GoSem.ClaimMapViews
import Derived.JoinedTies
import Derived.KernelRfl
namespace Go.Proofs.Ytaalfmijpbnpkaa
/- THE CELL 'sum', in the pinned program and in every row, IS THE sha256 OF THE DUMP (.gsa) THAT YtaalfmijpbnpkaaProg.lean LOADS. Nothing in Lean hashes anything: it is a label: what it is worth is what the hold of that sum in a sandbox is worth. -/
noncomputable def Try.pinned : Pinned := { name := "ytaalfmijpbnpkaa", sum := "245a72bf6ac2c91c465c2386c9dc463d6a35b91f79e0b200a555e2d91ba8cf17", checked := Try.checked }
namespace Rows
def none {H : Type} : Left H := { results := [], args := [] }

/-- 'laws.FnExactCreepOf': WHATEVER THE INPUT: true; the input reads as it did. -/
def fnExactCreepOfSpec : ChangeSpec := { name := "fnExactCreepOf", fn := fun _ => fun
  | [d1, d2, d3] => { results := [.lit (.bool true)], args := [d1, d2, d3] }
  | _ => none }
def fnExactCreepOfRow : OpenClaim := { program := "ytaalfmijpbnpkaa", sum := "245a72bf6ac2c91c465c2386c9dc463d6a35b91f79e0b200a555e2d91ba8cf17", func := "loop.example/g01054/laws.FnExactCreepOf", spec := "fnExactCreepOf", apart := false }
def FnExactCreepOfSaid : Prop := fnExactCreepOfRow.holds Try.pinned (OpenSpec.ofChange fnExactCreepOfSpec)

/-- ITS FALSE NEIGHBOUR: 'it returns false'. Refute it at one input. -/
def fnExactCreepOfWrong : ChangeSpec := { name := "fnExactCreepOf", fn := fun _ => fun
  | [d1, d2, d3] => { results := [.lit (.bool false)], args := [d1, d2, d3] }
  | _ => none }
def FnExactCreepOfWrongFalsely : Prop := fnExactCreepOfRow.holds Try.pinned (OpenSpec.ofChange fnExactCreepOfWrong)

/-- 'laws.FnExactGreatestCreep': WHATEVER THE INPUT: true; the input reads as it did. -/
def fnExactGreatestCreepSpec : ChangeSpec := { name := "fnExactGreatestCreep", fn := fun _ => fun
  | [d1, d2] => { results := [.lit (.bool true)], args := [d1, d2] }
  | _ => none }
def fnExactGreatestCreepRow : OpenClaim := { program := "ytaalfmijpbnpkaa", sum := "245a72bf6ac2c91c465c2386c9dc463d6a35b91f79e0b200a555e2d91ba8cf17", func := "loop.example/g01054/laws.FnExactGreatestCreep", spec := "fnExactGreatestCreep", apart := false }
def FnExactGreatestCreepSaid : Prop := fnExactGreatestCreepRow.holds Try.pinned (OpenSpec.ofChange fnExactGreatestCreepSpec)

/-- ITS FALSE NEIGHBOUR: 'it returns false'. Refute it at one input. -/
def fnExactGreatestCreepWrong : ChangeSpec := { name := "fnExactGreatestCreep", fn := fun _ => fun
  | [d1, d2] => { results := [.lit (.bool false)], args := [d1, d2] }
  | _ => none }
def FnExactGreatestCreepWrongFalsely : Prop := fnExactGreatestCreepRow.holds Try.pinned (OpenSpec.ofChange fnExactGreatestCreepWrong)

/-- 'laws.FnExactNarrowestFore': WHATEVER THE INPUT: true; the input reads as it did. -/
def fnExactNarrowestForeSpec : ChangeSpec := { name := "fnExactNarrowestFore", fn := fun _ => fun
  | [d1, d2, d3] => { results := [.lit (.bool true)], args := [d1, d2, d3] }
  | _ => none }
def fnExactNarrowestForeRow : OpenClaim := { program := "ytaalfmijpbnpkaa", sum := "245a72bf6ac2c91c465c2386c9dc463d6a35b91f79e0b200a555e2d91ba8cf17", func := "loop.example/g01054/laws.FnExactNarrowestFore", spec := "fnExactNarrowestFore", apart := false }
def FnExactNarrowestForeSaid : Prop := fnExactNarrowestForeRow.holds Try.pinned (OpenSpec.ofChange fnExactNarrowestForeSpec)

/-- ITS FALSE NEIGHBOUR: 'it returns false'. Refute it at one input. -/
def fnExactNarrowestForeWrong : ChangeSpec := { name := "fnExactNarrowestFore", fn := fun _ => fun
  | [d1, d2, d3] => { results := [.lit (.bool false)], args := [d1, d2, d3] }
  | _ => none }
def FnExactNarrowestForeWrongFalsely : Prop := fnExactNarrowestForeRow.holds Try.pinned (OpenSpec.ofChange fnExactNarrowestForeWrong)

/-- 'laws.FnExactBacksOf': WHATEVER THE INPUT: true; the input reads as it did. -/
def fnExactBacksOfSpec : ChangeSpec := { name := "fnExactBacksOf", fn := fun _ => fun
  | [d1, d2, d3] => { results := [.lit (.bool true)], args := [d1, d2, d3] }
  | _ => none }
def fnExactBacksOfRow : OpenClaim := { program := "ytaalfmijpbnpkaa", sum := "245a72bf6ac2c91c465c2386c9dc463d6a35b91f79e0b200a555e2d91ba8cf17", func := "loop.example/g01054/laws.FnExactBacksOf", spec := "fnExactBacksOf", apart := false }
def FnExactBacksOfSaid : Prop := fnExactBacksOfRow.holds Try.pinned (OpenSpec.ofChange fnExactBacksOfSpec)

/-- ITS FALSE NEIGHBOUR: 'it returns false'. Refute it at one input. -/
def fnExactBacksOfWrong : ChangeSpec := { name := "fnExactBacksOf", fn := fun _ => fun
  | [d1, d2, d3] => { results := [.lit (.bool false)], args := [d1, d2, d3] }
  | _ => none }
def FnExactBacksOfWrongFalsely : Prop := fnExactBacksOfRow.holds Try.pinned (OpenSpec.ofChange fnExactBacksOfWrong)

/- THE SECOND FORM. 'bulk': how many values and letters a reading holds, each counted each time it is reached (what is shared counts as often as it is met; a slice's spare places count too). A statement '..UptoSaid' is the law's where the arguments, and the package variables that the reading takes, are together of bulk at most 1048576: NARROWER than '..Said'. Prove '..Said' where nothing that the law and all that it calls make is longer than what came in: it says more and counts as full. Else prove '..UptoSaid'. A law counts once. -/
mutual
def uptoBulk {H : Type} : DataW H → Nat
  | .lit (.string bytes) => bytes.length + 1
  | .lit _ => 1
  | .nil => 1
  | .ptr d => uptoBulk d + 1
  | .slice elems spare => uptoBulkAll elems + uptoBulkAll spare + 1
  | .agg parts => uptoBulkAll parts + 1
  | .iface _ d => uptoBulk d + 1
  | .map entries => uptoBulkEntries entries + 1
  | .held _ => 1
def uptoBulkAll {H : Type} : List (DataW H) → Nat
  | [] => 0
  | d :: r => uptoBulk d + uptoBulkAll r
def uptoBulkEntries {H : Type} : List (Lit × DataW H) → Nat
  | [] => 0
  | x :: r => uptoBulkEntry x + uptoBulkEntries r
def uptoBulkEntry {H : Type} : Lit × DataW H → Nat
  | (.string bytes, d) => bytes.length + uptoBulk d + 1
  | (_, d) => uptoBulk d + 1
 end
def uptoSmall : (H : Type) → List (DataW H) → Bool := fun _ ds => decide (uptoBulkAll ds ≤ 1048576)
def OpenSpec.upto (s : _root_.Go.ChangeSpec) : _root_.Go.OpenSpec := { _root_.Go.OpenSpec.ofChange s with cond := some uptoSmall }

/-- 'laws.FnExactCreepOf', WHERE WHAT IT READS IS OF BULK AT MOST 1048576: true; the input reads as it did. -/
def fnExactCreepOfUptoRow : OpenClaim := { program := "ytaalfmijpbnpkaa", sum := "245a72bf6ac2c91c465c2386c9dc463d6a35b91f79e0b200a555e2d91ba8cf17", func := "loop.example/g01054/laws.FnExactCreepOf", spec := "fnExactCreepOf", apart := false, narrowed := true }
def FnExactCreepOfUptoSaid : Prop := fnExactCreepOfUptoRow.holds Try.pinned (OpenSpec.upto fnExactCreepOfSpec)

/-- 'laws.FnExactGreatestCreep', WHERE WHAT IT READS IS OF BULK AT MOST 1048576: true; the input reads as it did. -/
def fnExactGreatestCreepUptoRow : OpenClaim := { program := "ytaalfmijpbnpkaa", sum := "245a72bf6ac2c91c465c2386c9dc463d6a35b91f79e0b200a555e2d91ba8cf17", func := "loop.example/g01054/laws.FnExactGreatestCreep", spec := "fnExactGreatestCreep", apart := false, narrowed := true }
def FnExactGreatestCreepUptoSaid : Prop := fnExactGreatestCreepUptoRow.holds Try.pinned (OpenSpec.upto fnExactGreatestCreepSpec)

/-- 'laws.FnExactNarrowestFore', WHERE WHAT IT READS IS OF BULK AT MOST 1048576: true; the input reads as it did. -/
def fnExactNarrowestForeUptoRow : OpenClaim := { program := "ytaalfmijpbnpkaa", sum := "245a72bf6ac2c91c465c2386c9dc463d6a35b91f79e0b200a555e2d91ba8cf17", func := "loop.example/g01054/laws.FnExactNarrowestFore", spec := "fnExactNarrowestFore", apart := false, narrowed := true }
def FnExactNarrowestForeUptoSaid : Prop := fnExactNarrowestForeUptoRow.holds Try.pinned (OpenSpec.upto fnExactNarrowestForeSpec)

/-- 'laws.FnExactBacksOf', WHERE WHAT IT READS IS OF BULK AT MOST 1048576: true; the input reads as it did. -/
def fnExactBacksOfUptoRow : OpenClaim := { program := "ytaalfmijpbnpkaa", sum := "245a72bf6ac2c91c465c2386c9dc463d6a35b91f79e0b200a555e2d91ba8cf17", func := "loop.example/g01054/laws.FnExactBacksOf", spec := "fnExactBacksOf", apart := false, narrowed := true }
def FnExactBacksOfUptoSaid : Prop := fnExactBacksOfUptoRow.holds Try.pinned (OpenSpec.upto fnExactBacksOfSpec)

end Rows
end Go.Proofs.Ytaalfmijpbnpkaa
