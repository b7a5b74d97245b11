/-
  DERIVED. GIVEN WITH THE SEED: THE CARDS: each row of YtoclndbenpagnaaDoorRows.lean that lists a variable, with what it lists TIED to the program's text (the seventh form; the later family's looks); each row that meets fmt, with fmt's text TOLD by the authors' own Lean function (tested against real Go, not proved from fmt's source: count such statements apart). THE CARD IS WHAT COUNTS. Prove the row's statement (the work); the ties are given (YtoclndbenpagnaaDoorTie.lean); close each card by the builder's one call (the guide's Derived/Test/ToyasCard.lean, 'card_holds'). Laid BY PROGRAM, IN A SANDBOX (cutbox-door.mjs). By AI agents, Wed Nov 11 2026. No macro, syntax, notation, axiom, sorry.
-/
import Derived.Test.YtoclndbenpagnaaDoorRows
import GoSem.ClaimSeven
namespace Go.Proofs.YtoclndbenpagnaaDoor
namespace Rows

/-- THE TIED CARD OF 'laws.FnExactParseMargins'. -/
def fnExactParseMarginsCard : Claim7 := { stood := { row := fnExactParseMarginsRow, standIns := [], harness := (true, "d258cf8694588ac33a9fa60d32091a8c24f403d51a3b9d8b2b84f0d5986d0862"), looks := true }, kinds := [], alts := [], laidByText := true, laidKinds := [.data, .data, .data, .sentinel, .sentinel], laidTests := true, laidLooks := .later }
def FnExactParseMarginsCardSaid : Prop := Claim7.holds Tryd.pinned (.plain (OpenSpec.ofChange fnExactParseMarginsSpec)) fnExactParseMarginsCard

/-- THE TIED CARD OF 'laws.FnExactMarginsText'. -/
def fnExactMarginsTextCard : Claim7 := { stood := { row := fnExactMarginsTextRow, standIns := [], harness := (true, "d258cf8694588ac33a9fa60d32091a8c24f403d51a3b9d8b2b84f0d5986d0862"), looks := true }, kinds := [], alts := [], laidByText := true, laidKinds := [.data, .data, .data], laidTests := true, laidLooks := .later }
def FnExactMarginsTextCardSaid : Prop := Claim7.holds Tryd.pinned (.plain (OpenSpec.ofChange fnExactMarginsTextSpec)) fnExactMarginsTextCard

/-- THE SECOND FORM's CARD OF 'laws.FnExactParseMargins'. -/
def fnExactParseMarginsUptoCard : Claim7 := { stood := { row := fnExactParseMarginsUptoRow, standIns := [], harness := (true, "d258cf8694588ac33a9fa60d32091a8c24f403d51a3b9d8b2b84f0d5986d0862"), looks := true }, kinds := [], alts := [], laidByText := true, laidKinds := [.data, .data, .data, .sentinel, .sentinel], laidTests := true, laidLooks := .later }
def FnExactParseMarginsUptoCardSaid : Prop := Claim7.holds Tryd.pinned (.plain (OpenSpec.upto fnExactParseMarginsSpec)) fnExactParseMarginsUptoCard

/-- THE SECOND FORM's CARD OF 'laws.FnExactMarginsText'. -/
def fnExactMarginsTextUptoCard : Claim7 := { stood := { row := fnExactMarginsTextUptoRow, standIns := [], harness := (true, "d258cf8694588ac33a9fa60d32091a8c24f403d51a3b9d8b2b84f0d5986d0862"), looks := true }, kinds := [], alts := [], laidByText := true, laidKinds := [.data, .data, .data], laidTests := true, laidLooks := .later }
def FnExactMarginsTextUptoCardSaid : Prop := Claim7.holds Tryd.pinned (.plain (OpenSpec.upto fnExactMarginsTextSpec)) fnExactMarginsTextUptoCard
end Rows
end Go.Proofs.YtoclndbenpagnaaDoor
