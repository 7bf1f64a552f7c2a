/- The statement of FnExactSumsReached without Go in it. Conditions: none. Made by a program of this session (wip/xprint.py). -/
import Derived.Test.YtdikeggkfkkajaaPFnExactSumsReachedx3
import Derived.Test.YtdikeggkfkkajaaDown
namespace Go.Proofs.Ytdikeggkfkkajaa.PFnExactSumsReached
open Go.RowKit Go.Proofs.YtdikeggkfkkajaaW.PrintWords Go.Proofs.YtdikeggkfkkajaaW.PrintLast Go.Proofs.YtdikeggkfkkajaaW.PrintMore
open Go.Proofs.Ytdikeggkfkkajaa
set_option linter.unusedVariables false
def laws_FnExactSumsReached.Pure2 : Prop := ∀ (l0 : List Int), (l0.length ≤ maxLen ∧ ∀ x_ ∈ l0, (Lit.int .i64 x_).wf = true) → ∃ k, laws_FnExactSumsReached.f k l0 = some true
end Go.Proofs.Ytdikeggkfkkajaa.PFnExactSumsReached
