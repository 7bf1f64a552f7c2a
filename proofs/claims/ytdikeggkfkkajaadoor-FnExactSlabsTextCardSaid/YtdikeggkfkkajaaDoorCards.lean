/-
  DERIVED. GIVEN WITH THE SEED: THE CARDS: each row of YtdikeggkfkkajaaDoorRows.lean that lists a variable, with what it lists TIED to the program's text (the seventh form; the later family's looks); each row that meets fmt, with fmt's text TOLD by the authors' own Lean function (tested against real Go, not proved from fmt's source: count such statements apart). THE CARD IS WHAT COUNTS. Prove the row's statement (the work); the ties are given (YtdikeggkfkkajaaDoorTie.lean); close each card by the builder's one call (the guide's Derived/Test/ToyasCard.lean, 'card_holds'). Laid BY PROGRAM, IN A SANDBOX (cutbox-door.mjs). By AI agents, Wed Nov 11 2026. No macro, syntax, notation, axiom, sorry.
-/
import Derived.Test.YtdikeggkfkkajaaDoorRows
import GoSem.ClaimSeven
namespace Go.Proofs.YtdikeggkfkkajaaDoor
namespace Rows

/-- THE TIED CARD OF 'laws.FnExactSolutions'. -/
def fnExactSolutionsCard : Claim7 := { stood := { row := fnExactSolutionsRow, standIns := [], harness := (true, "cb1ac046e803b12b5d19690f9d6993e0baa53d657a44d689c77ea50e5ecdefbd"), looks := true }, kinds := [], alts := [], laidByText := true, laidKinds := [.data, .data, .data], laidTests := true, laidLooks := .later }
def FnExactSolutionsCardSaid : Prop := Claim7.holds Tryd.pinned (.plain (OpenSpec.ofChange fnExactSolutionsSpec)) fnExactSolutionsCard

/-- THE TIED CARD OF 'laws.FnExactMakePuzzle'. -/
def fnExactMakePuzzleCard : Claim7 := { stood := { row := fnExactMakePuzzleRow, standIns := [], harness := (true, "cb1ac046e803b12b5d19690f9d6993e0baa53d657a44d689c77ea50e5ecdefbd"), looks := true }, kinds := [], alts := [], laidByText := true, laidKinds := [.data, .data, .data], laidTests := true, laidLooks := .later }
def FnExactMakePuzzleCardSaid : Prop := Claim7.holds Tryd.pinned (.plain (OpenSpec.ofChange fnExactMakePuzzleSpec)) fnExactMakePuzzleCard

/-- THE TIED CARD OF 'laws.FnExactSlabsText'. -/
def fnExactSlabsTextCard : Claim7 := { stood := { row := fnExactSlabsTextRow, standIns := [], harness := (true, "cb1ac046e803b12b5d19690f9d6993e0baa53d657a44d689c77ea50e5ecdefbd"), looks := true }, kinds := [], alts := [], laidByText := true, laidKinds := [.data, .data, .data], laidTests := true, laidLooks := .later }
def FnExactSlabsTextCardSaid : Prop := Claim7.holds Tryd.pinned (.plain (OpenSpec.ofChange fnExactSlabsTextSpec)) fnExactSlabsTextCard

/-- THE TIED CARD OF 'laws.FnExactParseSlabs'. -/
def fnExactParseSlabsCard : Claim7 := { stood := { row := fnExactParseSlabsRow, standIns := [], harness := (true, "cb1ac046e803b12b5d19690f9d6993e0baa53d657a44d689c77ea50e5ecdefbd"), looks := true }, kinds := [], alts := [], laidByText := true, laidKinds := [.data, .data, .data, .sentinel, .sentinel], laidTests := true, laidLooks := .later }
def FnExactParseSlabsCardSaid : Prop := Claim7.holds Tryd.pinned (.plain (OpenSpec.ofChange fnExactParseSlabsSpec)) fnExactParseSlabsCard

/-- THE TIED CARD OF 'laws.FnExactParsePuzzle'. -/
def fnExactParsePuzzleCard : Claim7 := { stood := { row := fnExactParsePuzzleRow, standIns := [], harness := (true, "cb1ac046e803b12b5d19690f9d6993e0baa53d657a44d689c77ea50e5ecdefbd"), looks := true }, kinds := [], alts := [], laidByText := true, laidKinds := [.data, .data, .data, .sentinel, .sentinel], laidTests := true, laidLooks := .later }
def FnExactParsePuzzleCardSaid : Prop := Claim7.holds Tryd.pinned (.plain (OpenSpec.ofChange fnExactParsePuzzleSpec)) fnExactParsePuzzleCard

/-- THE SECOND FORM's CARD OF 'laws.FnExactSolutions'. -/
def fnExactSolutionsUptoCard : Claim7 := { stood := { row := fnExactSolutionsUptoRow, standIns := [], harness := (true, "cb1ac046e803b12b5d19690f9d6993e0baa53d657a44d689c77ea50e5ecdefbd"), looks := true }, kinds := [], alts := [], laidByText := true, laidKinds := [.data, .data, .data], laidTests := true, laidLooks := .later }
def FnExactSolutionsUptoCardSaid : Prop := Claim7.holds Tryd.pinned (.plain (OpenSpec.upto fnExactSolutionsSpec)) fnExactSolutionsUptoCard

/-- THE SECOND FORM's CARD OF 'laws.FnExactMakePuzzle'. -/
def fnExactMakePuzzleUptoCard : Claim7 := { stood := { row := fnExactMakePuzzleUptoRow, standIns := [], harness := (true, "cb1ac046e803b12b5d19690f9d6993e0baa53d657a44d689c77ea50e5ecdefbd"), looks := true }, kinds := [], alts := [], laidByText := true, laidKinds := [.data, .data, .data], laidTests := true, laidLooks := .later }
def FnExactMakePuzzleUptoCardSaid : Prop := Claim7.holds Tryd.pinned (.plain (OpenSpec.upto fnExactMakePuzzleSpec)) fnExactMakePuzzleUptoCard

/-- THE SECOND FORM's CARD OF 'laws.FnExactSlabsText'. -/
def fnExactSlabsTextUptoCard : Claim7 := { stood := { row := fnExactSlabsTextUptoRow, standIns := [], harness := (true, "cb1ac046e803b12b5d19690f9d6993e0baa53d657a44d689c77ea50e5ecdefbd"), looks := true }, kinds := [], alts := [], laidByText := true, laidKinds := [.data, .data, .data], laidTests := true, laidLooks := .later }
def FnExactSlabsTextUptoCardSaid : Prop := Claim7.holds Tryd.pinned (.plain (OpenSpec.upto fnExactSlabsTextSpec)) fnExactSlabsTextUptoCard

/-- THE SECOND FORM's CARD OF 'laws.FnExactParseSlabs'. -/
def fnExactParseSlabsUptoCard : Claim7 := { stood := { row := fnExactParseSlabsUptoRow, standIns := [], harness := (true, "cb1ac046e803b12b5d19690f9d6993e0baa53d657a44d689c77ea50e5ecdefbd"), looks := true }, kinds := [], alts := [], laidByText := true, laidKinds := [.data, .data, .data, .sentinel, .sentinel], laidTests := true, laidLooks := .later }
def FnExactParseSlabsUptoCardSaid : Prop := Claim7.holds Tryd.pinned (.plain (OpenSpec.upto fnExactParseSlabsSpec)) fnExactParseSlabsUptoCard

/-- THE SECOND FORM's CARD OF 'laws.FnExactParsePuzzle'. -/
def fnExactParsePuzzleUptoCard : Claim7 := { stood := { row := fnExactParsePuzzleUptoRow, standIns := [], harness := (true, "cb1ac046e803b12b5d19690f9d6993e0baa53d657a44d689c77ea50e5ecdefbd"), looks := true }, kinds := [], alts := [], laidByText := true, laidKinds := [.data, .data, .data, .sentinel, .sentinel], laidTests := true, laidLooks := .later }
def FnExactParsePuzzleUptoCardSaid : Prop := Claim7.holds Tryd.pinned (.plain (OpenSpec.upto fnExactParsePuzzleSpec)) fnExactParsePuzzleUptoCard
end Rows
end Go.Proofs.YtdikeggkfkkajaaDoor
