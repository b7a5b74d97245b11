/-
  No cell of these rows narrows 'for every input' (looked for: loops, veiled, ifaces, maps, wideKeys, modest, calm, conditions, laid).
  DERIVED. THE GIVEN ROWS OF THIS SEAT. 10 by the template 'for every input the law returns true; each argument reads behind the call as it read before'; 0 by the template 'total and deterministic' (their statements: YtanpiipmoedfnaaTotals.lean).
  GIVEN WITH THE SEED: the statements are not yours to turn. If you find one false, say at which input.
  Laid BY PROGRAM, IN A SANDBOX (cutbox-rows.mjs): the forced cells as the released guide's own fill.sh prints them over the translation a5579f48ef05e3fb… (all of the seat's roots in one cut). By AI agents, Wed Nov 11 2026. No macro, syntax, notation, axiom, sorry.
-/
import Derived.Test.YtanpiipmoedfnaaChecked
import GoSem.Claim
import GoSem.ClaimJoined
import GoSem.ClaimMapViews
import Derived.JoinedTies
import Derived.KernelRfl
namespace Go.Proofs.Ytanpiipmoedfnaa
/- THE CELL 'sum', in the pinned program and in every row, IS THE sha256 OF THE DUMP (.gsa) THAT YtanpiipmoedfnaaProg.lean LOADS. Nothing in Lean hashes anything: it is a label: what it is worth is what the hold of that sum in a sandbox is worth. -/
noncomputable def Try.pinned : Pinned := { name := "ytanpiipmoedfnaa", sum := "a5579f48ef05e3fb767fcc9f96ce64825fa9cd433cf9632e33fffc2bc6bbbed2", checked := Try.checked }
namespace Rows
def none {H : Type} : Left H := { results := [], args := [] }

/-- 'laws.FnExactIsInked': WHATEVER THE INPUT: true; the input reads as it did. -/
def fnExactIsInkedSpec : ChangeSpec := { name := "fnExactIsInked", fn := fun _ => fun
  | [d] => { results := [.lit (.bool true)], args := [d] }
  | _ => none }
def fnExactIsInkedRow : OpenClaim := { program := "ytanpiipmoedfnaa", sum := "a5579f48ef05e3fb767fcc9f96ce64825fa9cd433cf9632e33fffc2bc6bbbed2", func := "loop.example/g01054/laws.FnExactIsInked", spec := "fnExactIsInked", apart := false }
def FnExactIsInkedSaid : Prop := fnExactIsInkedRow.holds Try.pinned (OpenSpec.ofChange fnExactIsInkedSpec)

/-- ITS FALSE NEIGHBOUR: 'it returns false'. Refute it at one input. -/
def fnExactIsInkedWrong : ChangeSpec := { name := "fnExactIsInked", fn := fun _ => fun
  | [d] => { results := [.lit (.bool false)], args := [d] }
  | _ => none }
def FnExactIsInkedWrongFalsely : Prop := fnExactIsInkedRow.holds Try.pinned (OpenSpec.ofChange fnExactIsInkedWrong)

/-- 'laws.FnExactLayFormes': WHATEVER THE INPUT: true; the input reads as it did. -/
def fnExactLayFormesSpec : ChangeSpec := { name := "fnExactLayFormes", fn := fun _ => fun
  | [d1, d2] => { results := [.lit (.bool true)], args := [d1, d2] }
  | _ => none }
def fnExactLayFormesRow : OpenClaim := { program := "ytanpiipmoedfnaa", sum := "a5579f48ef05e3fb767fcc9f96ce64825fa9cd433cf9632e33fffc2bc6bbbed2", func := "loop.example/g01054/laws.FnExactLayFormes", spec := "fnExactLayFormes", apart := false }
def FnExactLayFormesSaid : Prop := fnExactLayFormesRow.holds Try.pinned (OpenSpec.ofChange fnExactLayFormesSpec)

/-- ITS FALSE NEIGHBOUR: 'it returns false'. Refute it at one input. -/
def fnExactLayFormesWrong : ChangeSpec := { name := "fnExactLayFormes", fn := fun _ => fun
  | [d1, d2] => { results := [.lit (.bool false)], args := [d1, d2] }
  | _ => none }
def FnExactLayFormesWrongFalsely : Prop := fnExactLayFormesRow.holds Try.pinned (OpenSpec.ofChange fnExactLayFormesWrong)

/-- 'laws.FnExactParseInked': WHATEVER THE INPUT: true; the input reads as it did. -/
def fnExactParseInkedSpec : ChangeSpec := { name := "fnExactParseInked", fn := fun _ => fun
  | [d] => { results := [.lit (.bool true)], args := [d] }
  | _ => none }
def fnExactParseInkedRow : OpenClaim := { program := "ytanpiipmoedfnaa", sum := "a5579f48ef05e3fb767fcc9f96ce64825fa9cd433cf9632e33fffc2bc6bbbed2", func := "loop.example/g01054/laws.FnExactParseInked", spec := "fnExactParseInked", apart := false }
def FnExactParseInkedSaid : Prop := fnExactParseInkedRow.holds Try.pinned (OpenSpec.ofChange fnExactParseInkedSpec)

/-- ITS FALSE NEIGHBOUR: 'it returns false'. Refute it at one input. -/
def fnExactParseInkedWrong : ChangeSpec := { name := "fnExactParseInked", fn := fun _ => fun
  | [d] => { results := [.lit (.bool false)], args := [d] }
  | _ => none }
def FnExactParseInkedWrongFalsely : Prop := fnExactParseInkedRow.holds Try.pinned (OpenSpec.ofChange fnExactParseInkedWrong)

/-- 'laws.FnExactRegisterShift': WHATEVER THE INPUT: true; the input reads as it did. -/
def fnExactRegisterShiftSpec : ChangeSpec := { name := "fnExactRegisterShift", fn := fun _ => fun
  | [d1, d2, d3] => { results := [.lit (.bool true)], args := [d1, d2, d3] }
  | _ => none }
def fnExactRegisterShiftRow : OpenClaim := { program := "ytanpiipmoedfnaa", sum := "a5579f48ef05e3fb767fcc9f96ce64825fa9cd433cf9632e33fffc2bc6bbbed2", func := "loop.example/g01054/laws.FnExactRegisterShift", spec := "fnExactRegisterShift", apart := false }
def FnExactRegisterShiftSaid : Prop := fnExactRegisterShiftRow.holds Try.pinned (OpenSpec.ofChange fnExactRegisterShiftSpec)

/-- ITS FALSE NEIGHBOUR: 'it returns false'. Refute it at one input. -/
def fnExactRegisterShiftWrong : ChangeSpec := { name := "fnExactRegisterShift", fn := fun _ => fun
  | [d1, d2, d3] => { results := [.lit (.bool false)], args := [d1, d2, d3] }
  | _ => none }
def FnExactRegisterShiftWrongFalsely : Prop := fnExactRegisterShiftRow.holds Try.pinned (OpenSpec.ofChange fnExactRegisterShiftWrong)

/-- 'laws.FnExactFormeOf': WHATEVER THE INPUT: true; the input reads as it did. -/
def fnExactFormeOfSpec : ChangeSpec := { name := "fnExactFormeOf", fn := fun _ => fun
  | [d1, d2] => { results := [.lit (.bool true)], args := [d1, d2] }
  | _ => none }
def fnExactFormeOfRow : OpenClaim := { program := "ytanpiipmoedfnaa", sum := "a5579f48ef05e3fb767fcc9f96ce64825fa9cd433cf9632e33fffc2bc6bbbed2", func := "loop.example/g01054/laws.FnExactFormeOf", spec := "fnExactFormeOf", apart := false }
def FnExactFormeOfSaid : Prop := fnExactFormeOfRow.holds Try.pinned (OpenSpec.ofChange fnExactFormeOfSpec)

/-- ITS FALSE NEIGHBOUR: 'it returns false'. Refute it at one input. -/
def fnExactFormeOfWrong : ChangeSpec := { name := "fnExactFormeOf", fn := fun _ => fun
  | [d1, d2] => { results := [.lit (.bool false)], args := [d1, d2] }
  | _ => none }
def FnExactFormeOfWrongFalsely : Prop := fnExactFormeOfRow.holds Try.pinned (OpenSpec.ofChange fnExactFormeOfWrong)

/-- 'laws.FnExactInkedText': WHATEVER THE INPUT: true; the input reads as it did. -/
def fnExactInkedTextSpec : ChangeSpec := { name := "fnExactInkedText", fn := fun _ => fun
  | [d] => { results := [.lit (.bool true)], args := [d] }
  | _ => none }
def fnExactInkedTextRow : OpenClaim := { program := "ytanpiipmoedfnaa", sum := "a5579f48ef05e3fb767fcc9f96ce64825fa9cd433cf9632e33fffc2bc6bbbed2", func := "loop.example/g01054/laws.FnExactInkedText", spec := "fnExactInkedText", apart := false }
def FnExactInkedTextSaid : Prop := fnExactInkedTextRow.holds Try.pinned (OpenSpec.ofChange fnExactInkedTextSpec)

/-- ITS FALSE NEIGHBOUR: 'it returns false'. Refute it at one input. -/
def fnExactInkedTextWrong : ChangeSpec := { name := "fnExactInkedText", fn := fun _ => fun
  | [d] => { results := [.lit (.bool false)], args := [d] }
  | _ => none }
def FnExactInkedTextWrongFalsely : Prop := fnExactInkedTextRow.holds Try.pinned (OpenSpec.ofChange fnExactInkedTextWrong)

/-- 'laws.FnExactSwapInks': WHATEVER THE INPUT: true; the input reads as it did. -/
def fnExactSwapInksSpec : ChangeSpec := { name := "fnExactSwapInks", fn := fun _ => fun
  | [d] => { results := [.lit (.bool true)], args := [d] }
  | _ => none }
def fnExactSwapInksRow : OpenClaim := { program := "ytanpiipmoedfnaa", sum := "a5579f48ef05e3fb767fcc9f96ce64825fa9cd433cf9632e33fffc2bc6bbbed2", func := "loop.example/g01054/laws.FnExactSwapInks", spec := "fnExactSwapInks", apart := false }
def FnExactSwapInksSaid : Prop := fnExactSwapInksRow.holds Try.pinned (OpenSpec.ofChange fnExactSwapInksSpec)

/-- ITS FALSE NEIGHBOUR: 'it returns false'. Refute it at one input. -/
def fnExactSwapInksWrong : ChangeSpec := { name := "fnExactSwapInks", fn := fun _ => fun
  | [d] => { results := [.lit (.bool false)], args := [d] }
  | _ => none }
def FnExactSwapInksWrongFalsely : Prop := fnExactSwapInksRow.holds Try.pinned (OpenSpec.ofChange fnExactSwapInksWrong)

/-- 'laws.FnExactInkRuns': WHATEVER THE INPUT: true; the input reads as it did. -/
def fnExactInkRunsSpec : ChangeSpec := { name := "fnExactInkRuns", fn := fun _ => fun
  | [d] => { results := [.lit (.bool true)], args := [d] }
  | _ => none }
def fnExactInkRunsRow : OpenClaim := { program := "ytanpiipmoedfnaa", sum := "a5579f48ef05e3fb767fcc9f96ce64825fa9cd433cf9632e33fffc2bc6bbbed2", func := "loop.example/g01054/laws.FnExactInkRuns", spec := "fnExactInkRuns", apart := false }
def FnExactInkRunsSaid : Prop := fnExactInkRunsRow.holds Try.pinned (OpenSpec.ofChange fnExactInkRunsSpec)

/-- ITS FALSE NEIGHBOUR: 'it returns false'. Refute it at one input. -/
def fnExactInkRunsWrong : ChangeSpec := { name := "fnExactInkRuns", fn := fun _ => fun
  | [d] => { results := [.lit (.bool false)], args := [d] }
  | _ => none }
def FnExactInkRunsWrongFalsely : Prop := fnExactInkRunsRow.holds Try.pinned (OpenSpec.ofChange fnExactInkRunsWrong)

/-- 'laws.FnExactBlankUnits': WHATEVER THE INPUT: true; the input reads as it did. -/
def fnExactBlankUnitsSpec : ChangeSpec := { name := "fnExactBlankUnits", fn := fun _ => fun
  | [d1, d2, d3] => { results := [.lit (.bool true)], args := [d1, d2, d3] }
  | _ => none }
def fnExactBlankUnitsRow : OpenClaim := { program := "ytanpiipmoedfnaa", sum := "a5579f48ef05e3fb767fcc9f96ce64825fa9cd433cf9632e33fffc2bc6bbbed2", func := "loop.example/g01054/laws.FnExactBlankUnits", spec := "fnExactBlankUnits", apart := false }
def FnExactBlankUnitsSaid : Prop := fnExactBlankUnitsRow.holds Try.pinned (OpenSpec.ofChange fnExactBlankUnitsSpec)

/-- ITS FALSE NEIGHBOUR: 'it returns false'. Refute it at one input. -/
def fnExactBlankUnitsWrong : ChangeSpec := { name := "fnExactBlankUnits", fn := fun _ => fun
  | [d1, d2, d3] => { results := [.lit (.bool false)], args := [d1, d2, d3] }
  | _ => none }
def FnExactBlankUnitsWrongFalsely : Prop := fnExactBlankUnitsRow.holds Try.pinned (OpenSpec.ofChange fnExactBlankUnitsWrong)

/-- 'laws.FnExactCountInk': WHATEVER THE INPUT: true; the input reads as it did. -/
def fnExactCountInkSpec : ChangeSpec := { name := "fnExactCountInk", fn := fun _ => fun
  | [d1, d2] => { results := [.lit (.bool true)], args := [d1, d2] }
  | _ => none }
def fnExactCountInkRow : OpenClaim := { program := "ytanpiipmoedfnaa", sum := "a5579f48ef05e3fb767fcc9f96ce64825fa9cd433cf9632e33fffc2bc6bbbed2", func := "loop.example/g01054/laws.FnExactCountInk", spec := "fnExactCountInk", inPlace := ["internal/bytealg.CountString", "internal/bytealg.IndexByteString", "internal/bytealg.IndexString"], named := ["internal/bytealg.MaxLen"], apart := false }
def FnExactCountInkSaid : Prop := fnExactCountInkRow.holds Try.pinned (OpenSpec.ofChange fnExactCountInkSpec)

/-- ITS FALSE NEIGHBOUR: 'it returns false'. Refute it at one input. -/
def fnExactCountInkWrong : ChangeSpec := { name := "fnExactCountInk", fn := fun _ => fun
  | [d1, d2] => { results := [.lit (.bool false)], args := [d1, d2] }
  | _ => none }
def FnExactCountInkWrongFalsely : Prop := fnExactCountInkRow.holds Try.pinned (OpenSpec.ofChange fnExactCountInkWrong)

/- THE SECOND FORM. 'bulk': how many values and letters a reading holds, each counted each time it is reached (what is shared counts as often as it is met; a slice's spare places count too). A statement '..UptoSaid' is the law's where the arguments, and the package variables that the reading takes, are together of bulk at most 1048576: NARROWER than '..Said'. Prove '..Said' where nothing that the law and all that it calls make is longer than what came in: it says more and counts as full. Else prove '..UptoSaid'. A law counts once. -/
mutual
def uptoBulk {H : Type} : DataW H → Nat
  | .lit (.string bytes) => bytes.length + 1
  | .lit _ => 1
  | .nil => 1
  | .ptr d => uptoBulk d + 1
  | .slice elems spare => uptoBulkAll elems + uptoBulkAll spare + 1
  | .agg parts => uptoBulkAll parts + 1
  | .iface _ d => uptoBulk d + 1
  | .map entries => uptoBulkEntries entries + 1
  | .held _ => 1
def uptoBulkAll {H : Type} : List (DataW H) → Nat
  | [] => 0
  | d :: r => uptoBulk d + uptoBulkAll r
def uptoBulkEntries {H : Type} : List (Lit × DataW H) → Nat
  | [] => 0
  | x :: r => uptoBulkEntry x + uptoBulkEntries r
def uptoBulkEntry {H : Type} : Lit × DataW H → Nat
  | (.string bytes, d) => bytes.length + uptoBulk d + 1
  | (_, d) => uptoBulk d + 1
 end
def uptoSmall : (H : Type) → List (DataW H) → Bool := fun _ ds => decide (uptoBulkAll ds ≤ 1048576)
def OpenSpec.upto (s : _root_.Go.ChangeSpec) : _root_.Go.OpenSpec := { _root_.Go.OpenSpec.ofChange s with cond := some uptoSmall }

/-- 'laws.FnExactIsInked', WHERE WHAT IT READS IS OF BULK AT MOST 1048576: true; the input reads as it did. -/
def fnExactIsInkedUptoRow : OpenClaim := { program := "ytanpiipmoedfnaa", sum := "a5579f48ef05e3fb767fcc9f96ce64825fa9cd433cf9632e33fffc2bc6bbbed2", func := "loop.example/g01054/laws.FnExactIsInked", spec := "fnExactIsInked", apart := false, narrowed := true }
def FnExactIsInkedUptoSaid : Prop := fnExactIsInkedUptoRow.holds Try.pinned (OpenSpec.upto fnExactIsInkedSpec)

/-- 'laws.FnExactLayFormes', WHERE WHAT IT READS IS OF BULK AT MOST 1048576: true; the input reads as it did. -/
def fnExactLayFormesUptoRow : OpenClaim := { program := "ytanpiipmoedfnaa", sum := "a5579f48ef05e3fb767fcc9f96ce64825fa9cd433cf9632e33fffc2bc6bbbed2", func := "loop.example/g01054/laws.FnExactLayFormes", spec := "fnExactLayFormes", apart := false, narrowed := true }
def FnExactLayFormesUptoSaid : Prop := fnExactLayFormesUptoRow.holds Try.pinned (OpenSpec.upto fnExactLayFormesSpec)

/-- 'laws.FnExactParseInked', WHERE WHAT IT READS IS OF BULK AT MOST 1048576: true; the input reads as it did. -/
def fnExactParseInkedUptoRow : OpenClaim := { program := "ytanpiipmoedfnaa", sum := "a5579f48ef05e3fb767fcc9f96ce64825fa9cd433cf9632e33fffc2bc6bbbed2", func := "loop.example/g01054/laws.FnExactParseInked", spec := "fnExactParseInked", apart := false, narrowed := true }
def FnExactParseInkedUptoSaid : Prop := fnExactParseInkedUptoRow.holds Try.pinned (OpenSpec.upto fnExactParseInkedSpec)

/-- 'laws.FnExactRegisterShift', WHERE WHAT IT READS IS OF BULK AT MOST 1048576: true; the input reads as it did. -/
def fnExactRegisterShiftUptoRow : OpenClaim := { program := "ytanpiipmoedfnaa", sum := "a5579f48ef05e3fb767fcc9f96ce64825fa9cd433cf9632e33fffc2bc6bbbed2", func := "loop.example/g01054/laws.FnExactRegisterShift", spec := "fnExactRegisterShift", apart := false, narrowed := true }
def FnExactRegisterShiftUptoSaid : Prop := fnExactRegisterShiftUptoRow.holds Try.pinned (OpenSpec.upto fnExactRegisterShiftSpec)

/-- 'laws.FnExactFormeOf', WHERE WHAT IT READS IS OF BULK AT MOST 1048576: true; the input reads as it did. -/
def fnExactFormeOfUptoRow : OpenClaim := { program := "ytanpiipmoedfnaa", sum := "a5579f48ef05e3fb767fcc9f96ce64825fa9cd433cf9632e33fffc2bc6bbbed2", func := "loop.example/g01054/laws.FnExactFormeOf", spec := "fnExactFormeOf", apart := false, narrowed := true }
def FnExactFormeOfUptoSaid : Prop := fnExactFormeOfUptoRow.holds Try.pinned (OpenSpec.upto fnExactFormeOfSpec)

/-- 'laws.FnExactInkedText', WHERE WHAT IT READS IS OF BULK AT MOST 1048576: true; the input reads as it did. -/
def fnExactInkedTextUptoRow : OpenClaim := { program := "ytanpiipmoedfnaa", sum := "a5579f48ef05e3fb767fcc9f96ce64825fa9cd433cf9632e33fffc2bc6bbbed2", func := "loop.example/g01054/laws.FnExactInkedText", spec := "fnExactInkedText", apart := false, narrowed := true }
def FnExactInkedTextUptoSaid : Prop := fnExactInkedTextUptoRow.holds Try.pinned (OpenSpec.upto fnExactInkedTextSpec)

/-- 'laws.FnExactSwapInks', WHERE WHAT IT READS IS OF BULK AT MOST 1048576: true; the input reads as it did. -/
def fnExactSwapInksUptoRow : OpenClaim := { program := "ytanpiipmoedfnaa", sum := "a5579f48ef05e3fb767fcc9f96ce64825fa9cd433cf9632e33fffc2bc6bbbed2", func := "loop.example/g01054/laws.FnExactSwapInks", spec := "fnExactSwapInks", apart := false, narrowed := true }
def FnExactSwapInksUptoSaid : Prop := fnExactSwapInksUptoRow.holds Try.pinned (OpenSpec.upto fnExactSwapInksSpec)

/-- 'laws.FnExactInkRuns', WHERE WHAT IT READS IS OF BULK AT MOST 1048576: true; the input reads as it did. -/
def fnExactInkRunsUptoRow : OpenClaim := { program := "ytanpiipmoedfnaa", sum := "a5579f48ef05e3fb767fcc9f96ce64825fa9cd433cf9632e33fffc2bc6bbbed2", func := "loop.example/g01054/laws.FnExactInkRuns", spec := "fnExactInkRuns", apart := false, narrowed := true }
def FnExactInkRunsUptoSaid : Prop := fnExactInkRunsUptoRow.holds Try.pinned (OpenSpec.upto fnExactInkRunsSpec)

/-- 'laws.FnExactBlankUnits', WHERE WHAT IT READS IS OF BULK AT MOST 1048576: true; the input reads as it did. -/
def fnExactBlankUnitsUptoRow : OpenClaim := { program := "ytanpiipmoedfnaa", sum := "a5579f48ef05e3fb767fcc9f96ce64825fa9cd433cf9632e33fffc2bc6bbbed2", func := "loop.example/g01054/laws.FnExactBlankUnits", spec := "fnExactBlankUnits", apart := false, narrowed := true }
def FnExactBlankUnitsUptoSaid : Prop := fnExactBlankUnitsUptoRow.holds Try.pinned (OpenSpec.upto fnExactBlankUnitsSpec)

/-- 'laws.FnExactCountInk', WHERE WHAT IT READS IS OF BULK AT MOST 1048576: true; the input reads as it did. -/
def fnExactCountInkUptoRow : OpenClaim := { program := "ytanpiipmoedfnaa", sum := "a5579f48ef05e3fb767fcc9f96ce64825fa9cd433cf9632e33fffc2bc6bbbed2", func := "loop.example/g01054/laws.FnExactCountInk", spec := "fnExactCountInk", inPlace := ["internal/bytealg.CountString", "internal/bytealg.IndexByteString", "internal/bytealg.IndexString"], named := ["internal/bytealg.MaxLen"], apart := false, narrowed := true }
def FnExactCountInkUptoSaid : Prop := fnExactCountInkUptoRow.holds Try.pinned (OpenSpec.upto fnExactCountInkSpec)

end Rows
end Go.Proofs.Ytanpiipmoedfnaa
