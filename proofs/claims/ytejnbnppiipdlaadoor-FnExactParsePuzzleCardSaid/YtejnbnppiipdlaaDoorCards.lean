/-
  DERIVED. GIVEN WITH THE SEED: THE CARDS: each row of YtejnbnppiipdlaaDoorRows.lean that lists a variable, with what it lists TIED to the program's text (the seventh form; the later family's looks); each row that meets fmt, with fmt's text TOLD by the authors' own Lean function (tested against real Go, not proved from fmt's source: count such statements apart). THE CARD IS WHAT COUNTS. Prove the row's statement (the work); the ties are given (YtejnbnppiipdlaaDoorTie.lean); close each card by the builder's one call (the guide's Derived/Test/ToyasCard.lean, 'card_holds'). Laid BY PROGRAM, IN A SANDBOX (cutbox-door.mjs). By AI agents, Wed Nov 11 2026. No macro, syntax, notation, axiom, sorry.
-/
import Derived.Test.YtejnbnppiipdlaaDoorRows
import GoSem.ClaimSeven
namespace Go.Proofs.YtejnbnppiipdlaaDoor
namespace Rows

/-- THE TIED CARD OF 'laws.FnExactParseSlabs'. -/
def fnExactParseSlabsCard : Claim7 := { stood := { row := fnExactParseSlabsRow, standIns := [], harness := (true, "374f21a3aeee0cc46cfe542d17647d56900fa13349f9abba88b75f9eb2a6f65c"), looks := true }, kinds := [], alts := [], laidByText := true, laidKinds := [.data, .data, .data, .sentinel, .sentinel], laidTests := true, laidLooks := .later }
def FnExactParseSlabsCardSaid : Prop := Claim7.holds Tryd.pinned (.plain (OpenSpec.ofChange fnExactParseSlabsSpec)) fnExactParseSlabsCard

/-- THE TIED CARD OF 'laws.FnExactParsePuzzle'. -/
def fnExactParsePuzzleCard : Claim7 := { stood := { row := fnExactParsePuzzleRow, standIns := [], harness := (true, "374f21a3aeee0cc46cfe542d17647d56900fa13349f9abba88b75f9eb2a6f65c"), looks := true }, kinds := [], alts := [], laidByText := true, laidKinds := [.data, .data, .data, .sentinel, .sentinel], laidTests := true, laidLooks := .later }
def FnExactParsePuzzleCardSaid : Prop := Claim7.holds Tryd.pinned (.plain (OpenSpec.ofChange fnExactParsePuzzleSpec)) fnExactParsePuzzleCard

/-- THE SECOND FORM's CARD OF 'laws.FnExactParseSlabs'. -/
def fnExactParseSlabsUptoCard : Claim7 := { stood := { row := fnExactParseSlabsUptoRow, standIns := [], harness := (true, "374f21a3aeee0cc46cfe542d17647d56900fa13349f9abba88b75f9eb2a6f65c"), looks := true }, kinds := [], alts := [], laidByText := true, laidKinds := [.data, .data, .data, .sentinel, .sentinel], laidTests := true, laidLooks := .later }
def FnExactParseSlabsUptoCardSaid : Prop := Claim7.holds Tryd.pinned (.plain (OpenSpec.upto fnExactParseSlabsSpec)) fnExactParseSlabsUptoCard

/-- THE SECOND FORM's CARD OF 'laws.FnExactParsePuzzle'. -/
def fnExactParsePuzzleUptoCard : Claim7 := { stood := { row := fnExactParsePuzzleUptoRow, standIns := [], harness := (true, "374f21a3aeee0cc46cfe542d17647d56900fa13349f9abba88b75f9eb2a6f65c"), looks := true }, kinds := [], alts := [], laidByText := true, laidKinds := [.data, .data, .data, .sentinel, .sentinel], laidTests := true, laidLooks := .later }
def FnExactParsePuzzleUptoCardSaid : Prop := Claim7.holds Tryd.pinned (.plain (OpenSpec.upto fnExactParsePuzzleSpec)) fnExactParsePuzzleUptoCard
end Rows
end Go.Proofs.YtejnbnppiipdlaaDoor
