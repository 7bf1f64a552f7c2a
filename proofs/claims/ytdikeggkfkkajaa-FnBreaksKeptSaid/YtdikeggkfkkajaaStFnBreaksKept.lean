/- The statement of FnBreaksKept without Go in it. Conditions: none. Made by a program of this session (wip/xprint.py). -/
import Derived.Test.YtdikeggkfkkajaaPFnBreaksKeptx11
import Derived.Test.YtdikeggkfkkajaaDown
namespace Go.Proofs.Ytdikeggkfkkajaa.PFnBreaksKept
open Go.RowKit Go.Proofs.YtdikeggkfkkajaaW.PrintWords Go.Proofs.YtdikeggkfkkajaaW.PrintLast Go.Proofs.YtdikeggkfkkajaaW.PrintMore
open Go.Proofs.Ytdikeggkfkkajaa
set_option linter.unusedVariables false
def laws_FnBreaksKept.Pure2 : Prop := ∀ (l0 : List Int) (l1 : List Int), (l0.length ≤ maxLen ∧ ∀ x_ ∈ l0, (Lit.int .u8 x_).wf = true) → (l1.length ≤ maxLen ∧ ∀ x_ ∈ l1, (Lit.int .u8 x_).wf = true) → ∃ k, laws_FnBreaksKept.f k l0 l1 = some true
end Go.Proofs.Ytdikeggkfkkajaa.PFnBreaksKept
