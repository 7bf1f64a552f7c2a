/- The statement of FnBreaksStrips without Go in it. Conditions: none. Made by a program of this session (wip/xprint.py). -/
import Derived.Test.YtejnbnppiipdlaaPFnBreaksStripsx11
import Derived.Test.YtejnbnppiipdlaaDown
namespace Go.Proofs.Ytejnbnppiipdlaa.PFnBreaksStrips
open Go.RowKit Go.Proofs.YtejnbnppiipdlaaW.PrintWords Go.Proofs.YtejnbnppiipdlaaW.PrintLast Go.Proofs.YtejnbnppiipdlaaW.PrintMore
open Go.Proofs.Ytejnbnppiipdlaa
set_option linter.unusedVariables false
def laws_FnBreaksStrips.Pure2 : Prop := ∀ (l0 : List Int) (l1 : List Int), (l0.length ≤ maxLen ∧ ∀ x_ ∈ l0, (Lit.int .u8 x_).wf = true) → (l1.length ≤ maxLen ∧ ∀ x_ ∈ l1, (Lit.int .u8 x_).wf = true) → ∃ k, laws_FnBreaksStrips.f k l0 l1 = some true
end Go.Proofs.Ytejnbnppiipdlaa.PFnBreaksStrips
