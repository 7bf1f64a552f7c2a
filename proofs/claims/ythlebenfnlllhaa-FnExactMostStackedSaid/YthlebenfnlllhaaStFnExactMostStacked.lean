/- The statement of FnExactMostStacked without Go in it. Conditions: none. Made by a program of this session (wip/xprint.py). -/
import Derived.Test.YthlebenfnlllhaaPFnExactMostStackedx5
import Derived.Test.YthlebenfnlllhaaDown
namespace Go.Proofs.Ythlebenfnlllhaa.PFnExactMostStacked
open Go.RowKit Go.Proofs.YthlebenfnlllhaaW.PrintWords Go.Proofs.YthlebenfnlllhaaW.PrintLast Go.Proofs.YthlebenfnlllhaaW.PrintMore
open Go.Proofs.Ythlebenfnlllhaa
set_option linter.unusedVariables false
instance : Inhabited S108 := ⟨z108⟩
def wf108 (x : S108) : Prop := (Lit.int .i64 x.f0).wf = true ∧ (Lit.int .i64 x.f1).wf = true
theorem dn108 : Down.Dn Try.prog 108 k108 wf108 :=
  Down.dn_struct (g := fun a => ⟨a.1, a.2⟩) Try.underlying108 (by kernel_rfl) (fun _ => rfl) (Down.dnF_cons rfl (by kernel_rfl) rfl (Down.dn_int Try.underlying3) (Down.dnF_last rfl (by kernel_rfl) (Down.dn_int Try.underlying3)))
def laws_FnExactMostStacked.Pure : Prop := ∀ (l0 : List (S108)), (l0.length ≤ maxLen ∧ ∀ x_ ∈ l0, wf108 x_) → ∃ k, laws_FnExactMostStacked.f k l0 = some true
end Go.Proofs.Ythlebenfnlllhaa.PFnExactMostStacked
