/- FirstDesk hands back the desk that the reference hands back, in new memory each time. Conditions: none (it has no argument). -/
import Derived.Test.YthlebenfnlllhaaPFnExactFirstDeskx3
import Derived.Test.YthlebenfnlllhaaPK
namespace Go.Proofs.Ythlebenfnlllhaa.Pure
open Go.RowKit Go.Proofs.Ythlebenfnlllhaa.PFnExactFirstDesk Go.Proofs.YthlebenfnlllhaaW.PrintWords Go.Proofs.YthlebenfnlllhaaW.PrintLast Go.Proofs.YthlebenfnlllhaaW.PrintMore
set_option linter.unusedVariables false
set_option linter.unusedSimpArgs false

theorem FnExactFirstDesk : laws_FnExactFirstDesk.Pure := ⟨60, by kernel_rfl⟩
end Go.Proofs.Ythlebenfnlllhaa.Pure
