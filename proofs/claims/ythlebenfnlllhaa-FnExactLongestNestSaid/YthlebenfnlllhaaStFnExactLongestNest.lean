/- The statement of FnExactLongestNest without Go in it. Conditions: none. Made by a program of this session (wip/xprint.py). -/
import Derived.Test.YthlebenfnlllhaaPFnExactLongestNestx6
import Derived.Test.YthlebenfnlllhaaDown
namespace Go.Proofs.Ythlebenfnlllhaa.PFnExactLongestNest
open Go.RowKit Go.Proofs.YthlebenfnlllhaaW.PrintWords Go.Proofs.YthlebenfnlllhaaW.PrintLast Go.Proofs.YthlebenfnlllhaaW.PrintMore
open Go.Proofs.Ythlebenfnlllhaa
set_option linter.unusedVariables false
instance : Inhabited S23 := ⟨z23⟩
def wf23 (x : S23) : Prop := (Lit.int .i64 x.f0).wf = true ∧ (Lit.int .i64 x.f1).wf = true ∧ (Lit.int .i64 x.f2).wf = true
theorem dn23 : Down.Dn Try.prog 23 k23 wf23 :=
  Down.dn_struct (g := fun a => ⟨a.1, a.2.1, a.2.2⟩) Try.underlying23 (by kernel_rfl) (fun _ => rfl) (Down.dnF_cons rfl (by kernel_rfl) rfl (Down.dn_int Try.underlying3) (Down.dnF_cons rfl (by kernel_rfl) rfl (Down.dn_int Try.underlying3) (Down.dnF_last rfl (by kernel_rfl) (Down.dn_int Try.underlying3))))
def laws_FnExactLongestNest.Pure : Prop := ∀ (l0 : List (S23)), (l0.length ≤ maxLen ∧ ∀ x_ ∈ l0, wf23 x_) → ∃ k, laws_FnExactLongestNest.f k l0 = some true
end Go.Proofs.Ythlebenfnlllhaa.PFnExactLongestNest
