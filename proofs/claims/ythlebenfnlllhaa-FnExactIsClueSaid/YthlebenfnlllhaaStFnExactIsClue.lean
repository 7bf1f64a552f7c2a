/- The statement of FnExactIsClue without Go in it. Conditions: none. Made by a program of this session (wip/xprint.py). -/
import Derived.Test.YthlebenfnlllhaaPFnExactIsCluex1
import Derived.Test.YthlebenfnlllhaaDown
namespace Go.Proofs.Ythlebenfnlllhaa.PFnExactIsClue
open Go.RowKit Go.Proofs.YthlebenfnlllhaaW.PrintWords Go.Proofs.YthlebenfnlllhaaW.PrintLast Go.Proofs.YthlebenfnlllhaaW.PrintMore
open Go.Proofs.Ythlebenfnlllhaa
set_option linter.unusedVariables false
def laws_FnExactIsClue.Pure : Prop := ∀ (a0_0 : Int) (a0_1 : Int) (a0_2 : Int), (Lit.int .i64 a0_0).wf = true → (Lit.int .i64 a0_1).wf = true → (Lit.int .i64 a0_2).wf = true → ∃ k, laws_FnExactIsClue.f k a0_0 a0_1 a0_2 = some true
end Go.Proofs.Ythlebenfnlllhaa.PFnExactIsClue
