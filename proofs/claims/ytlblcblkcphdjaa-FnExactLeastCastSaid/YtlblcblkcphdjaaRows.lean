/-
  No cell of these rows narrows 'for every input' (looked for: loops, veiled, ifaces, maps, wideKeys, modest, calm, conditions, laid).
  DERIVED. THE GIVEN ROWS OF THIS SEAT. 11 by the template 'for every input the law returns true; each argument reads behind the call as it read before'; 0 by the template 'total and deterministic' (their statements: YtlblcblkcphdjaaTotals.lean).
  GIVEN WITH THE SEED: the statements are not yours to turn. If you find one false, say at which input.
  Laid BY PROGRAM, IN A SANDBOX (cutbox-rows.mjs): the forced cells as the released guide's own fill.sh prints them over the translation d01d94e296ac2f81… (all of the seat's roots in one cut). By AI agents, Wed Nov 11 2026. No macro, syntax, notation, axiom, sorry.
-/
import Derived.Test.YtlblcblkcphdjaaChecked
import GoSem.Claim
import GoSem.ClaimJoined
import GoSem.ClaimMapViews
import Derived.JoinedTies
import Derived.KernelRfl
namespace Go.Proofs.Ytlblcblkcphdjaa
/- THE CELL 'sum', in the pinned program and in every row, IS THE sha256 OF THE DUMP (.gsa) THAT YtlblcblkcphdjaaProg.lean LOADS. Nothing in Lean hashes anything: it is a label: what it is worth is what the hold of that sum in a sandbox is worth. -/
noncomputable def Try.pinned : Pinned := { name := "ytlblcblkcphdjaa", sum := "d01d94e296ac2f81aa1888d1df934c6adfc0ac1bb0dbe8807ba3e17069ceebb4", checked := Try.checked }
namespace Rows
def none {H : Type} : Left H := { results := [], args := [] }

/-- 'laws.FnExactAreForms': WHATEVER THE INPUT: true; the input reads as it did. -/
def fnExactAreFormsSpec : ChangeSpec := { name := "fnExactAreForms", fn := fun _ => fun
  | [d1, d2] => { results := [.lit (.bool true)], args := [d1, d2] }
  | _ => none }
def fnExactAreFormsRow : OpenClaim := { program := "ytlblcblkcphdjaa", sum := "d01d94e296ac2f81aa1888d1df934c6adfc0ac1bb0dbe8807ba3e17069ceebb4", func := "loop.example/g01054/laws.FnExactAreForms", spec := "fnExactAreForms", apart := false }
def FnExactAreFormsSaid : Prop := fnExactAreFormsRow.holds Try.pinned (OpenSpec.ofChange fnExactAreFormsSpec)

/-- ITS FALSE NEIGHBOUR: 'it returns false'. Refute it at one input. -/
def fnExactAreFormsWrong : ChangeSpec := { name := "fnExactAreForms", fn := fun _ => fun
  | [d1, d2] => { results := [.lit (.bool false)], args := [d1, d2] }
  | _ => none }
def FnExactAreFormsWrongFalsely : Prop := fnExactAreFormsRow.holds Try.pinned (OpenSpec.ofChange fnExactAreFormsWrong)

/-- 'laws.FnExactAllOfSort': WHATEVER THE INPUT: true; the input reads as it did. -/
def fnExactAllOfSortSpec : ChangeSpec := { name := "fnExactAllOfSort", fn := fun _ => fun
  | [d1, d2, d3] => { results := [.lit (.bool true)], args := [d1, d2, d3] }
  | _ => none }
def fnExactAllOfSortRow : OpenClaim := { program := "ytlblcblkcphdjaa", sum := "d01d94e296ac2f81aa1888d1df934c6adfc0ac1bb0dbe8807ba3e17069ceebb4", func := "loop.example/g01054/laws.FnExactAllOfSort", spec := "fnExactAllOfSort", apart := false }
def FnExactAllOfSortSaid : Prop := fnExactAllOfSortRow.holds Try.pinned (OpenSpec.ofChange fnExactAllOfSortSpec)

/-- ITS FALSE NEIGHBOUR: 'it returns false'. Refute it at one input. -/
def fnExactAllOfSortWrong : ChangeSpec := { name := "fnExactAllOfSort", fn := fun _ => fun
  | [d1, d2, d3] => { results := [.lit (.bool false)], args := [d1, d2, d3] }
  | _ => none }
def FnExactAllOfSortWrongFalsely : Prop := fnExactAllOfSortRow.holds Try.pinned (OpenSpec.ofChange fnExactAllOfSortWrong)

/-- 'laws.FnExactCanFinish': WHATEVER THE INPUT: true; the input reads as it did. -/
def fnExactCanFinishSpec : ChangeSpec := { name := "fnExactCanFinish", fn := fun _ => fun
  | [d1, d2, d3] => { results := [.lit (.bool true)], args := [d1, d2, d3] }
  | _ => none }
def fnExactCanFinishRow : OpenClaim := { program := "ytlblcblkcphdjaa", sum := "d01d94e296ac2f81aa1888d1df934c6adfc0ac1bb0dbe8807ba3e17069ceebb4", func := "loop.example/g01054/laws.FnExactCanFinish", spec := "fnExactCanFinish", apart := false }
def FnExactCanFinishSaid : Prop := fnExactCanFinishRow.holds Try.pinned (OpenSpec.ofChange fnExactCanFinishSpec)

/-- ITS FALSE NEIGHBOUR: 'it returns false'. Refute it at one input. -/
def fnExactCanFinishWrong : ChangeSpec := { name := "fnExactCanFinish", fn := fun _ => fun
  | [d1, d2, d3] => { results := [.lit (.bool false)], args := [d1, d2, d3] }
  | _ => none }
def FnExactCanFinishWrongFalsely : Prop := fnExactCanFinishRow.holds Try.pinned (OpenSpec.ofChange fnExactCanFinishWrong)

/-- 'laws.FnExactWaitsFor': WHATEVER THE INPUT: true; the input reads as it did. -/
def fnExactWaitsForSpec : ChangeSpec := { name := "fnExactWaitsFor", fn := fun _ => fun
  | [d1, d2, d3, d4] => { results := [.lit (.bool true)], args := [d1, d2, d3, d4] }
  | _ => none }
def fnExactWaitsForRow : OpenClaim := { program := "ytlblcblkcphdjaa", sum := "d01d94e296ac2f81aa1888d1df934c6adfc0ac1bb0dbe8807ba3e17069ceebb4", func := "loop.example/g01054/laws.FnExactWaitsFor", spec := "fnExactWaitsFor", apart := false }
def FnExactWaitsForSaid : Prop := fnExactWaitsForRow.holds Try.pinned (OpenSpec.ofChange fnExactWaitsForSpec)

/-- ITS FALSE NEIGHBOUR: 'it returns false'. Refute it at one input. -/
def fnExactWaitsForWrong : ChangeSpec := { name := "fnExactWaitsFor", fn := fun _ => fun
  | [d1, d2, d3, d4] => { results := [.lit (.bool false)], args := [d1, d2, d3, d4] }
  | _ => none }
def FnExactWaitsForWrongFalsely : Prop := fnExactWaitsForRow.holds Try.pinned (OpenSpec.ofChange fnExactWaitsForWrong)

/-- 'laws.FnExactLackingFor': WHATEVER THE INPUT: true; the input reads as it did. -/
def fnExactLackingForSpec : ChangeSpec := { name := "fnExactLackingFor", fn := fun _ => fun
  | [d1, d2, d3] => { results := [.lit (.bool true)], args := [d1, d2, d3] }
  | _ => none }
def fnExactLackingForRow : OpenClaim := { program := "ytlblcblkcphdjaa", sum := "d01d94e296ac2f81aa1888d1df934c6adfc0ac1bb0dbe8807ba3e17069ceebb4", func := "loop.example/g01054/laws.FnExactLackingFor", spec := "fnExactLackingFor", apart := false }
def FnExactLackingForSaid : Prop := fnExactLackingForRow.holds Try.pinned (OpenSpec.ofChange fnExactLackingForSpec)

/-- ITS FALSE NEIGHBOUR: 'it returns false'. Refute it at one input. -/
def fnExactLackingForWrong : ChangeSpec := { name := "fnExactLackingFor", fn := fun _ => fun
  | [d1, d2, d3] => { results := [.lit (.bool false)], args := [d1, d2, d3] }
  | _ => none }
def FnExactLackingForWrongFalsely : Prop := fnExactLackingForRow.holds Try.pinned (OpenSpec.ofChange fnExactLackingForWrong)

/-- 'laws.FnExactFinishForm': WHATEVER THE INPUT: true; the input reads as it did. -/
def fnExactFinishFormSpec : ChangeSpec := { name := "fnExactFinishForm", fn := fun _ => fun
  | [d1, d2, d3] => { results := [.lit (.bool true)], args := [d1, d2, d3] }
  | _ => none }
def fnExactFinishFormRow : OpenClaim := { program := "ytlblcblkcphdjaa", sum := "d01d94e296ac2f81aa1888d1df934c6adfc0ac1bb0dbe8807ba3e17069ceebb4", func := "loop.example/g01054/laws.FnExactFinishForm", spec := "fnExactFinishForm", apart := false }
def FnExactFinishFormSaid : Prop := fnExactFinishFormRow.holds Try.pinned (OpenSpec.ofChange fnExactFinishFormSpec)

/-- ITS FALSE NEIGHBOUR: 'it returns false'. Refute it at one input. -/
def fnExactFinishFormWrong : ChangeSpec := { name := "fnExactFinishForm", fn := fun _ => fun
  | [d1, d2, d3] => { results := [.lit (.bool false)], args := [d1, d2, d3] }
  | _ => none }
def FnExactFinishFormWrongFalsely : Prop := fnExactFinishFormRow.holds Try.pinned (OpenSpec.ofChange fnExactFinishFormWrong)

/-- 'laws.FnExactLeastCast': WHATEVER THE INPUT: true; the input reads as it did. -/
def fnExactLeastCastSpec : ChangeSpec := { name := "fnExactLeastCast", fn := fun _ => fun
  | [d1, d2, d3] => { results := [.lit (.bool true)], args := [d1, d2, d3] }
  | _ => none }
def fnExactLeastCastRow : OpenClaim := { program := "ytlblcblkcphdjaa", sum := "d01d94e296ac2f81aa1888d1df934c6adfc0ac1bb0dbe8807ba3e17069ceebb4", func := "loop.example/g01054/laws.FnExactLeastCast", spec := "fnExactLeastCast", apart := false }
def FnExactLeastCastSaid : Prop := fnExactLeastCastRow.holds Try.pinned (OpenSpec.ofChange fnExactLeastCastSpec)

/-- ITS FALSE NEIGHBOUR: 'it returns false'. Refute it at one input. -/
def fnExactLeastCastWrong : ChangeSpec := { name := "fnExactLeastCast", fn := fun _ => fun
  | [d1, d2, d3] => { results := [.lit (.bool false)], args := [d1, d2, d3] }
  | _ => none }
def FnExactLeastCastWrongFalsely : Prop := fnExactLeastCastRow.holds Try.pinned (OpenSpec.ofChange fnExactLeastCastWrong)

/-- 'laws.FnExactGiveSorts': WHATEVER THE INPUT: true; the input reads as it did. -/
def fnExactGiveSortsSpec : ChangeSpec := { name := "fnExactGiveSorts", fn := fun _ => fun
  | [d1, d2, d3, d4] => { results := [.lit (.bool true)], args := [d1, d2, d3, d4] }
  | _ => none }
def fnExactGiveSortsRow : OpenClaim := { program := "ytlblcblkcphdjaa", sum := "d01d94e296ac2f81aa1888d1df934c6adfc0ac1bb0dbe8807ba3e17069ceebb4", func := "loop.example/g01054/laws.FnExactGiveSorts", spec := "fnExactGiveSorts", apart := false }
def FnExactGiveSortsSaid : Prop := fnExactGiveSortsRow.holds Try.pinned (OpenSpec.ofChange fnExactGiveSortsSpec)

/-- ITS FALSE NEIGHBOUR: 'it returns false'. Refute it at one input. -/
def fnExactGiveSortsWrong : ChangeSpec := { name := "fnExactGiveSorts", fn := fun _ => fun
  | [d1, d2, d3, d4] => { results := [.lit (.bool false)], args := [d1, d2, d3, d4] }
  | _ => none }
def FnExactGiveSortsWrongFalsely : Prop := fnExactGiveSortsRow.holds Try.pinned (OpenSpec.ofChange fnExactGiveSortsWrong)

/-- 'laws.FnExactSafeOrder': WHATEVER THE INPUT: true; the input reads as it did. -/
def fnExactSafeOrderSpec : ChangeSpec := { name := "fnExactSafeOrder", fn := fun _ => fun
  | [d1, d2] => { results := [.lit (.bool true)], args := [d1, d2] }
  | _ => none }
def fnExactSafeOrderRow : OpenClaim := { program := "ytlblcblkcphdjaa", sum := "d01d94e296ac2f81aa1888d1df934c6adfc0ac1bb0dbe8807ba3e17069ceebb4", func := "loop.example/g01054/laws.FnExactSafeOrder", spec := "fnExactSafeOrder", apart := false }
def FnExactSafeOrderSaid : Prop := fnExactSafeOrderRow.holds Try.pinned (OpenSpec.ofChange fnExactSafeOrderSpec)

/-- ITS FALSE NEIGHBOUR: 'it returns false'. Refute it at one input. -/
def fnExactSafeOrderWrong : ChangeSpec := { name := "fnExactSafeOrder", fn := fun _ => fun
  | [d1, d2] => { results := [.lit (.bool false)], args := [d1, d2] }
  | _ => none }
def FnExactSafeOrderWrongFalsely : Prop := fnExactSafeOrderRow.holds Try.pinned (OpenSpec.ofChange fnExactSafeOrderWrong)

/-- 'laws.FnExactStuckForms': WHATEVER THE INPUT: true; the input reads as it did. -/
def fnExactStuckFormsSpec : ChangeSpec := { name := "fnExactStuckForms", fn := fun _ => fun
  | [d1, d2] => { results := [.lit (.bool true)], args := [d1, d2] }
  | _ => none }
def fnExactStuckFormsRow : OpenClaim := { program := "ytlblcblkcphdjaa", sum := "d01d94e296ac2f81aa1888d1df934c6adfc0ac1bb0dbe8807ba3e17069ceebb4", func := "loop.example/g01054/laws.FnExactStuckForms", spec := "fnExactStuckForms", apart := false }
def FnExactStuckFormsSaid : Prop := fnExactStuckFormsRow.holds Try.pinned (OpenSpec.ofChange fnExactStuckFormsSpec)

/-- ITS FALSE NEIGHBOUR: 'it returns false'. Refute it at one input. -/
def fnExactStuckFormsWrong : ChangeSpec := { name := "fnExactStuckForms", fn := fun _ => fun
  | [d1, d2] => { results := [.lit (.bool false)], args := [d1, d2] }
  | _ => none }
def FnExactStuckFormsWrongFalsely : Prop := fnExactStuckFormsRow.holds Try.pinned (OpenSpec.ofChange fnExactStuckFormsWrong)

/-- 'laws.FnExactIsSafeGift': WHATEVER THE INPUT: true; the input reads as it did. -/
def fnExactIsSafeGiftSpec : ChangeSpec := { name := "fnExactIsSafeGift", fn := fun _ => fun
  | [d1, d2, d3, d4] => { results := [.lit (.bool true)], args := [d1, d2, d3, d4] }
  | _ => none }
def fnExactIsSafeGiftRow : OpenClaim := { program := "ytlblcblkcphdjaa", sum := "d01d94e296ac2f81aa1888d1df934c6adfc0ac1bb0dbe8807ba3e17069ceebb4", func := "loop.example/g01054/laws.FnExactIsSafeGift", spec := "fnExactIsSafeGift", apart := false }
def FnExactIsSafeGiftSaid : Prop := fnExactIsSafeGiftRow.holds Try.pinned (OpenSpec.ofChange fnExactIsSafeGiftSpec)

/-- ITS FALSE NEIGHBOUR: 'it returns false'. Refute it at one input. -/
def fnExactIsSafeGiftWrong : ChangeSpec := { name := "fnExactIsSafeGift", fn := fun _ => fun
  | [d1, d2, d3, d4] => { results := [.lit (.bool false)], args := [d1, d2, d3, d4] }
  | _ => none }
def FnExactIsSafeGiftWrongFalsely : Prop := fnExactIsSafeGiftRow.holds Try.pinned (OpenSpec.ofChange fnExactIsSafeGiftWrong)

/- THE SECOND FORM. 'bulk': how many values and letters a reading holds, each counted each time it is reached (what is shared counts as often as it is met; a slice's spare places count too). A statement '..UptoSaid' is the law's where the arguments, and the package variables that the reading takes, are together of bulk at most 1048576: NARROWER than '..Said'. Prove '..Said' where nothing that the law and all that it calls make is longer than what came in: it says more and counts as full. Else prove '..UptoSaid'. A law counts once. -/
mutual
def uptoBulk {H : Type} : DataW H → Nat
  | .lit (.string bytes) => bytes.length + 1
  | .lit _ => 1
  | .nil => 1
  | .ptr d => uptoBulk d + 1
  | .slice elems spare => uptoBulkAll elems + uptoBulkAll spare + 1
  | .agg parts => uptoBulkAll parts + 1
  | .iface _ d => uptoBulk d + 1
  | .map entries => uptoBulkEntries entries + 1
  | .held _ => 1
def uptoBulkAll {H : Type} : List (DataW H) → Nat
  | [] => 0
  | d :: r => uptoBulk d + uptoBulkAll r
def uptoBulkEntries {H : Type} : List (Lit × DataW H) → Nat
  | [] => 0
  | x :: r => uptoBulkEntry x + uptoBulkEntries r
def uptoBulkEntry {H : Type} : Lit × DataW H → Nat
  | (.string bytes, d) => bytes.length + uptoBulk d + 1
  | (_, d) => uptoBulk d + 1
 end
def uptoSmall : (H : Type) → List (DataW H) → Bool := fun _ ds => decide (uptoBulkAll ds ≤ 1048576)
def OpenSpec.upto (s : _root_.Go.ChangeSpec) : _root_.Go.OpenSpec := { _root_.Go.OpenSpec.ofChange s with cond := some uptoSmall }

/-- 'laws.FnExactAreForms', WHERE WHAT IT READS IS OF BULK AT MOST 1048576: true; the input reads as it did. -/
def fnExactAreFormsUptoRow : OpenClaim := { program := "ytlblcblkcphdjaa", sum := "d01d94e296ac2f81aa1888d1df934c6adfc0ac1bb0dbe8807ba3e17069ceebb4", func := "loop.example/g01054/laws.FnExactAreForms", spec := "fnExactAreForms", apart := false, narrowed := true }
def FnExactAreFormsUptoSaid : Prop := fnExactAreFormsUptoRow.holds Try.pinned (OpenSpec.upto fnExactAreFormsSpec)

/-- 'laws.FnExactAllOfSort', WHERE WHAT IT READS IS OF BULK AT MOST 1048576: true; the input reads as it did. -/
def fnExactAllOfSortUptoRow : OpenClaim := { program := "ytlblcblkcphdjaa", sum := "d01d94e296ac2f81aa1888d1df934c6adfc0ac1bb0dbe8807ba3e17069ceebb4", func := "loop.example/g01054/laws.FnExactAllOfSort", spec := "fnExactAllOfSort", apart := false, narrowed := true }
def FnExactAllOfSortUptoSaid : Prop := fnExactAllOfSortUptoRow.holds Try.pinned (OpenSpec.upto fnExactAllOfSortSpec)

/-- 'laws.FnExactCanFinish', WHERE WHAT IT READS IS OF BULK AT MOST 1048576: true; the input reads as it did. -/
def fnExactCanFinishUptoRow : OpenClaim := { program := "ytlblcblkcphdjaa", sum := "d01d94e296ac2f81aa1888d1df934c6adfc0ac1bb0dbe8807ba3e17069ceebb4", func := "loop.example/g01054/laws.FnExactCanFinish", spec := "fnExactCanFinish", apart := false, narrowed := true }
def FnExactCanFinishUptoSaid : Prop := fnExactCanFinishUptoRow.holds Try.pinned (OpenSpec.upto fnExactCanFinishSpec)

/-- 'laws.FnExactWaitsFor', WHERE WHAT IT READS IS OF BULK AT MOST 1048576: true; the input reads as it did. -/
def fnExactWaitsForUptoRow : OpenClaim := { program := "ytlblcblkcphdjaa", sum := "d01d94e296ac2f81aa1888d1df934c6adfc0ac1bb0dbe8807ba3e17069ceebb4", func := "loop.example/g01054/laws.FnExactWaitsFor", spec := "fnExactWaitsFor", apart := false, narrowed := true }
def FnExactWaitsForUptoSaid : Prop := fnExactWaitsForUptoRow.holds Try.pinned (OpenSpec.upto fnExactWaitsForSpec)

/-- 'laws.FnExactLackingFor', WHERE WHAT IT READS IS OF BULK AT MOST 1048576: true; the input reads as it did. -/
def fnExactLackingForUptoRow : OpenClaim := { program := "ytlblcblkcphdjaa", sum := "d01d94e296ac2f81aa1888d1df934c6adfc0ac1bb0dbe8807ba3e17069ceebb4", func := "loop.example/g01054/laws.FnExactLackingFor", spec := "fnExactLackingFor", apart := false, narrowed := true }
def FnExactLackingForUptoSaid : Prop := fnExactLackingForUptoRow.holds Try.pinned (OpenSpec.upto fnExactLackingForSpec)

/-- 'laws.FnExactFinishForm', WHERE WHAT IT READS IS OF BULK AT MOST 1048576: true; the input reads as it did. -/
def fnExactFinishFormUptoRow : OpenClaim := { program := "ytlblcblkcphdjaa", sum := "d01d94e296ac2f81aa1888d1df934c6adfc0ac1bb0dbe8807ba3e17069ceebb4", func := "loop.example/g01054/laws.FnExactFinishForm", spec := "fnExactFinishForm", apart := false, narrowed := true }
def FnExactFinishFormUptoSaid : Prop := fnExactFinishFormUptoRow.holds Try.pinned (OpenSpec.upto fnExactFinishFormSpec)

/-- 'laws.FnExactLeastCast', WHERE WHAT IT READS IS OF BULK AT MOST 1048576: true; the input reads as it did. -/
def fnExactLeastCastUptoRow : OpenClaim := { program := "ytlblcblkcphdjaa", sum := "d01d94e296ac2f81aa1888d1df934c6adfc0ac1bb0dbe8807ba3e17069ceebb4", func := "loop.example/g01054/laws.FnExactLeastCast", spec := "fnExactLeastCast", apart := false, narrowed := true }
def FnExactLeastCastUptoSaid : Prop := fnExactLeastCastUptoRow.holds Try.pinned (OpenSpec.upto fnExactLeastCastSpec)

/-- 'laws.FnExactGiveSorts', WHERE WHAT IT READS IS OF BULK AT MOST 1048576: true; the input reads as it did. -/
def fnExactGiveSortsUptoRow : OpenClaim := { program := "ytlblcblkcphdjaa", sum := "d01d94e296ac2f81aa1888d1df934c6adfc0ac1bb0dbe8807ba3e17069ceebb4", func := "loop.example/g01054/laws.FnExactGiveSorts", spec := "fnExactGiveSorts", apart := false, narrowed := true }
def FnExactGiveSortsUptoSaid : Prop := fnExactGiveSortsUptoRow.holds Try.pinned (OpenSpec.upto fnExactGiveSortsSpec)

/-- 'laws.FnExactSafeOrder', WHERE WHAT IT READS IS OF BULK AT MOST 1048576: true; the input reads as it did. -/
def fnExactSafeOrderUptoRow : OpenClaim := { program := "ytlblcblkcphdjaa", sum := "d01d94e296ac2f81aa1888d1df934c6adfc0ac1bb0dbe8807ba3e17069ceebb4", func := "loop.example/g01054/laws.FnExactSafeOrder", spec := "fnExactSafeOrder", apart := false, narrowed := true }
def FnExactSafeOrderUptoSaid : Prop := fnExactSafeOrderUptoRow.holds Try.pinned (OpenSpec.upto fnExactSafeOrderSpec)

/-- 'laws.FnExactStuckForms', WHERE WHAT IT READS IS OF BULK AT MOST 1048576: true; the input reads as it did. -/
def fnExactStuckFormsUptoRow : OpenClaim := { program := "ytlblcblkcphdjaa", sum := "d01d94e296ac2f81aa1888d1df934c6adfc0ac1bb0dbe8807ba3e17069ceebb4", func := "loop.example/g01054/laws.FnExactStuckForms", spec := "fnExactStuckForms", apart := false, narrowed := true }
def FnExactStuckFormsUptoSaid : Prop := fnExactStuckFormsUptoRow.holds Try.pinned (OpenSpec.upto fnExactStuckFormsSpec)

/-- 'laws.FnExactIsSafeGift', WHERE WHAT IT READS IS OF BULK AT MOST 1048576: true; the input reads as it did. -/
def fnExactIsSafeGiftUptoRow : OpenClaim := { program := "ytlblcblkcphdjaa", sum := "d01d94e296ac2f81aa1888d1df934c6adfc0ac1bb0dbe8807ba3e17069ceebb4", func := "loop.example/g01054/laws.FnExactIsSafeGift", spec := "fnExactIsSafeGift", apart := false, narrowed := true }
def FnExactIsSafeGiftUptoSaid : Prop := fnExactIsSafeGiftUptoRow.holds Try.pinned (OpenSpec.upto fnExactIsSafeGiftSpec)

end Rows
end Go.Proofs.Ytlblcblkcphdjaa
