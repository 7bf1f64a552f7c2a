/- The statement of FnExactParseSlabs without Go in it. Conditions: none. Made by a program of this session (wip/xprint.py). -/
import Derived.Test.YtejnbnppiipdlaaDoorPFnExactParseSlabsx5
import Derived.Test.YtejnbnppiipdlaaDoorDown
namespace Go.Proofs.YtejnbnppiipdlaaDoor.PFnExactParseSlabs
open Go.RowKit Go.Proofs.YtejnbnppiipdlaaDoorW.PrintWords Go.Proofs.YtejnbnppiipdlaaDoorW.PrintLast Go.Proofs.YtejnbnppiipdlaaDoorW.PrintMore
open Go.Proofs.YtejnbnppiipdlaaDoor
set_option linter.unusedVariables false
def laws_FnExactParseSlabs.Pure2 : Prop := ∀ (a0 : ByteArray), a0.size ≤ maxLen → ∃ k, laws_FnExactParseSlabs.f k a0 = some true
end Go.Proofs.YtejnbnppiipdlaaDoor.PFnExactParseSlabs
