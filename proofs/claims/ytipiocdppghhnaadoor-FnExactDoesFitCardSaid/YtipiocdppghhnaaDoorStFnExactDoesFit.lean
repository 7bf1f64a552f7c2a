/- The statement of FnExactDoesFit without Go in it. Conditions: none. Made by a program of this session (wip/xprint.py). -/
import Derived.Test.YtipiocdppghhnaaDoorPFnExactDoesFitx10
import Derived.Test.YtipiocdppghhnaaDoorDown
namespace Go.Proofs.YtipiocdppghhnaaDoor.PFnExactDoesFit
open Go.RowKit Go.Proofs.YtipiocdppghhnaaDoorW.PrintWords Go.Proofs.YtipiocdppghhnaaDoorW.PrintLast Go.Proofs.YtipiocdppghhnaaDoorW.PrintMore
open Go.Proofs.YtipiocdppghhnaaDoor
set_option linter.unusedVariables false
def laws_FnExactDoesFit.Pure : Prop := ∀ (a0_0 : Int) (a0_1 : Int) (a0_2 : Int) (l1 : List Int), (Lit.int .i64 a0_0).wf = true → (Lit.int .i64 a0_1).wf = true → (Lit.int .i64 a0_2).wf = true → (l1.length ≤ maxLen ∧ ∀ x_ ∈ l1, (Lit.int .i64 x_).wf = true) → ∃ k, laws_FnExactDoesFit.f k a0_0 a0_1 a0_2 l1 = some true
end Go.Proofs.YtipiocdppghhnaaDoor.PFnExactDoesFit
