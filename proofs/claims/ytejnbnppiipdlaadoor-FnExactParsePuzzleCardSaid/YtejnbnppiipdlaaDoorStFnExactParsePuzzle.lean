/- The statement of FnExactParsePuzzle without Go in it. Conditions: none. Made by a program of this session (wip/xprint.py). -/
import Derived.Test.YtejnbnppiipdlaaDoorPFnExactParsePuzzlex8
import Derived.Test.YtejnbnppiipdlaaDoorDown
namespace Go.Proofs.YtejnbnppiipdlaaDoor.PFnExactParsePuzzle
open Go.RowKit Go.Proofs.YtejnbnppiipdlaaDoorW.PrintWords Go.Proofs.YtejnbnppiipdlaaDoorW.PrintLast Go.Proofs.YtejnbnppiipdlaaDoorW.PrintMore
open Go.Proofs.YtejnbnppiipdlaaDoor
set_option linter.unusedVariables false
def laws_FnExactParsePuzzle.Pure2 : Prop := ∀ (a0 : ByteArray), a0.size ≤ maxLen → ∃ k, laws_FnExactParsePuzzle.f k a0 = some true
end Go.Proofs.YtejnbnppiipdlaaDoor.PFnExactParsePuzzle
