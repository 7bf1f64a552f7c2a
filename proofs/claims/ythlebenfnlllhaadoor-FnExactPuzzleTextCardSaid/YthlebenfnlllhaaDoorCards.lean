/-
  DERIVED. GIVEN WITH THE SEED: THE CARDS: each row of YthlebenfnlllhaaDoorRows.lean that lists a variable, with what it lists TIED to the program's text (the seventh form; the later family's looks); each row that meets fmt, with fmt's text TOLD by the authors' own Lean function (tested against real Go, not proved from fmt's source: count such statements apart). THE CARD IS WHAT COUNTS. Prove the row's statement (the work); the ties are given (YthlebenfnlllhaaDoorTie.lean); close each card by the builder's one call (the guide's Derived/Test/ToyasCard.lean, 'card_holds'). Laid BY PROGRAM, IN A SANDBOX (cutbox-door.mjs). By AI agents, Wed Nov 11 2026. No macro, syntax, notation, axiom, sorry.
-/
import Derived.Test.YthlebenfnlllhaaDoorRows
import GoSem.ClaimSeven
namespace Go.Proofs.YthlebenfnlllhaaDoor
namespace Rows

/-- THE TIED CARD OF 'laws.FnExactSlabsText'. -/
def fnExactSlabsTextCard : Claim7 := { stood := { row := fnExactSlabsTextRow, standIns := [], harness := (true, "41a2bf3b6391075257cbd1a8901e8120fafa7392a721e355bfbf1bb62395297c"), looks := false }, kinds := [], alts := [], laidByText := true, laidKinds := [.data, .data, .data], laidTests := true, laidLooks := .later }
def FnExactSlabsTextCardSaid : Prop := Claim7.holds Tryd.pinned (.plain (OpenSpec.ofChange fnExactSlabsTextSpec)) fnExactSlabsTextCard

/-- THE TIED CARD OF 'laws.FnExactPuzzleText'. -/
def fnExactPuzzleTextCard : Claim7 := { stood := { row := fnExactPuzzleTextRow, standIns := [], harness := (true, "41a2bf3b6391075257cbd1a8901e8120fafa7392a721e355bfbf1bb62395297c"), looks := false }, kinds := [], alts := [], laidByText := true, laidKinds := [.data, .data, .data], laidTests := true, laidLooks := .later }
def FnExactPuzzleTextCardSaid : Prop := Claim7.holds Tryd.pinned (.plain (OpenSpec.ofChange fnExactPuzzleTextSpec)) fnExactPuzzleTextCard

/-- THE SECOND FORM's CARD OF 'laws.FnExactSlabsText'. -/
def fnExactSlabsTextUptoCard : Claim7 := { stood := { row := fnExactSlabsTextUptoRow, standIns := [], harness := (true, "41a2bf3b6391075257cbd1a8901e8120fafa7392a721e355bfbf1bb62395297c"), looks := false }, kinds := [], alts := [], laidByText := true, laidKinds := [.data, .data, .data], laidTests := true, laidLooks := .later }
def FnExactSlabsTextUptoCardSaid : Prop := Claim7.holds Tryd.pinned (.plain (OpenSpec.upto fnExactSlabsTextSpec)) fnExactSlabsTextUptoCard

/-- THE SECOND FORM's CARD OF 'laws.FnExactPuzzleText'. -/
def fnExactPuzzleTextUptoCard : Claim7 := { stood := { row := fnExactPuzzleTextUptoRow, standIns := [], harness := (true, "41a2bf3b6391075257cbd1a8901e8120fafa7392a721e355bfbf1bb62395297c"), looks := false }, kinds := [], alts := [], laidByText := true, laidKinds := [.data, .data, .data], laidTests := true, laidLooks := .later }
def FnExactPuzzleTextUptoCardSaid : Prop := Claim7.holds Tryd.pinned (.plain (OpenSpec.upto fnExactPuzzleTextSpec)) fnExactPuzzleTextUptoCard
end Rows
end Go.Proofs.YthlebenfnlllhaaDoor
