/- The statement of FnExactDropClue without Go in it. Conditions: none. Made by a program of this session (wip/xprint.py). -/
import Derived.Test.YthlebenfnlllhaaPFnExactDropCluex5
import Derived.Test.YthlebenfnlllhaaDown
namespace Go.Proofs.Ythlebenfnlllhaa.PFnExactDropClue
open Go.RowKit Go.Proofs.YthlebenfnlllhaaW.PrintWords Go.Proofs.YthlebenfnlllhaaW.PrintLast Go.Proofs.YthlebenfnlllhaaW.PrintMore
open Go.Proofs.Ythlebenfnlllhaa
set_option linter.unusedVariables false
instance : Inhabited S30 := ⟨z30⟩
def wf30 (x : S30) : Prop := (Lit.int .i64 x.f0).wf = true ∧ (Lit.int .i64 x.f1).wf = true ∧ (Lit.int .i64 x.f2).wf = true
theorem dn30 : Down.Dn Try.prog 30 k30 wf30 :=
  Down.dn_struct (g := fun a => ⟨a.1, a.2.1, a.2.2⟩) Try.underlying30 (by kernel_rfl) (fun _ => rfl) (Down.dnF_cons rfl (by kernel_rfl) rfl (Down.dn_int Try.underlying3) (Down.dnF_cons rfl (by kernel_rfl) rfl (Down.dn_int Try.underlying3) (Down.dnF_last rfl (by kernel_rfl) (Down.dn_int Try.underlying3))))
def laws_FnExactDropClue.Pure : Prop := ∀ (l0_0 : List (S30)) (a1 : Int), (l0_0.length ≤ maxLen ∧ ∀ x_ ∈ l0_0, wf30 x_) → (Lit.int .i64 a1).wf = true → ∃ k, laws_FnExactDropClue.f k l0_0 a1 = some true
end Go.Proofs.Ythlebenfnlllhaa.PFnExactDropClue
