/- The statement of FnExactMakePuzzle without Go in it. Conditions: none. Made by a program of this session (wip/xprint.py). -/
import Derived.Test.YtdikeggkfkkajaaDoorPFnExactMakePuzzlex12
import Derived.Test.YtdikeggkfkkajaaDoorDown
namespace Go.Proofs.YtdikeggkfkkajaaDoor.PFnExactMakePuzzle
open Go.RowKit Go.Proofs.YtdikeggkfkkajaaDoorW.PrintWords Go.Proofs.YtdikeggkfkkajaaDoorW.PrintLast Go.Proofs.YtdikeggkfkkajaaDoorW.PrintMore
open Go.Proofs.YtdikeggkfkkajaaDoor
set_option linter.unusedVariables false
def laws_FnExactMakePuzzle.Pure2 : Prop := ∀ (l0 : List Int) (a1 : Int) (a2 : Int), (l0.length ≤ maxLen ∧ ∀ x_ ∈ l0, (Lit.int .i64 x_).wf = true) → (Lit.int .i64 a1).wf = true → (Lit.int .i64 a2).wf = true → ∃ k, laws_FnExactMakePuzzle.f k l0 a1 a2 = some true
end Go.Proofs.YtdikeggkfkkajaaDoor.PFnExactMakePuzzle
