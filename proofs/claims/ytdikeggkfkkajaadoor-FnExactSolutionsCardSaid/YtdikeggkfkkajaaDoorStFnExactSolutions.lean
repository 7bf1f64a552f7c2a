/- The statement of FnExactSolutions without Go in it. Conditions: none. Made by a program of this session (wip/xprint.py). -/
import Derived.Test.YtdikeggkfkkajaaDoorPFnExactSolutionsx12
import Derived.Test.YtdikeggkfkkajaaDoorDown
namespace Go.Proofs.YtdikeggkfkkajaaDoor.PFnExactSolutions
open Go.RowKit Go.Proofs.YtdikeggkfkkajaaDoorW.PrintWords Go.Proofs.YtdikeggkfkkajaaDoorW.PrintLast Go.Proofs.YtdikeggkfkkajaaDoorW.PrintMore
open Go.Proofs.YtdikeggkfkkajaaDoor
set_option linter.unusedVariables false
instance : Inhabited S92 := ⟨z92⟩
def wf92 (x : S92) : Prop := (Lit.int .i64 x.f0).wf = true ∧ (Lit.int .i64 x.f1).wf = true ∧ (Lit.int .i64 x.f2).wf = true
theorem dn92 : Down.Dn Tryd.prog 92 k92 wf92 :=
  Down.dn_struct (g := fun a => ⟨a.1, a.2.1, a.2.2⟩) Tryd.underlying92 (by kernel_rfl) (fun _ => rfl) (Down.dnF_cons rfl (by kernel_rfl) rfl (Down.dn_int Tryd.underlying3) (Down.dnF_cons rfl (by kernel_rfl) rfl (Down.dn_int Tryd.underlying3) (Down.dnF_last rfl (by kernel_rfl) (Down.dn_int Tryd.underlying3))))
def laws_FnExactSolutions.Pure : Prop := ∀ (l0_0 : List (S92)), (l0_0.length ≤ maxLen ∧ ∀ x_ ∈ l0_0, wf92 x_) → ∃ k, laws_FnExactSolutions.f k l0_0 = some true
end Go.Proofs.YtdikeggkfkkajaaDoor.PFnExactSolutions
