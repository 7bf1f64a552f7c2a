/- The statement of FnExactFitsInto without Go in it. Conditions: none. Made by a program of this session (wip/xprint.py). -/
import Derived.Test.YthlebenfnlllhaaPFnExactFitsIntox2
import Derived.Test.YthlebenfnlllhaaDown
namespace Go.Proofs.Ythlebenfnlllhaa.PFnExactFitsInto
open Go.RowKit Go.Proofs.YthlebenfnlllhaaW.PrintWords Go.Proofs.YthlebenfnlllhaaW.PrintLast Go.Proofs.YthlebenfnlllhaaW.PrintMore
open Go.Proofs.Ythlebenfnlllhaa
set_option linter.unusedVariables false
def laws_FnExactFitsInto.Pure : Prop := ∀ (a0_0 : Int) (a0_1 : Int) (a0_2 : Int) (a1_0 : Int) (a1_1 : Int) (a1_2 : Int), (Lit.int .i64 a0_0).wf = true → (Lit.int .i64 a0_1).wf = true → (Lit.int .i64 a0_2).wf = true → (Lit.int .i64 a1_0).wf = true → (Lit.int .i64 a1_1).wf = true → (Lit.int .i64 a1_2).wf = true → laws_FnExactFitsInto.f a0_0 a0_1 a0_2 a1_0 a1_1 a1_2 = some true
end Go.Proofs.Ythlebenfnlllhaa.PFnExactFitsInto
