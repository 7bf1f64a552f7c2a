/- The statement of FnExactHarderPuzzle without Go in it. Conditions: none. Made by a program of this session (wip/xprint.py). -/
import Derived.Test.YtipiocdppghhnaaDoorPFnExactHarderPuzzlex13
import Derived.Test.YtipiocdppghhnaaDoorDown
namespace Go.Proofs.YtipiocdppghhnaaDoor.PFnExactHarderPuzzle
open Go.RowKit Go.Proofs.YtipiocdppghhnaaDoorW.PrintWords Go.Proofs.YtipiocdppghhnaaDoorW.PrintLast Go.Proofs.YtipiocdppghhnaaDoorW.PrintMore
open Go.Proofs.YtipiocdppghhnaaDoor
set_option linter.unusedVariables false
instance : Inhabited S39 := ⟨z39⟩
def wf39 (x : S39) : Prop := (Lit.int .i64 x.f0).wf = true ∧ (Lit.int .i64 x.f1).wf = true ∧ (Lit.int .i64 x.f2).wf = true
theorem dn39 : Down.Dn Tryd.prog 39 k39 wf39 :=
  Down.dn_struct (g := fun a => ⟨a.1, a.2.1, a.2.2⟩) Tryd.underlying39 (by kernel_rfl) (fun _ => rfl) (Down.dnF_cons rfl (by kernel_rfl) rfl (Down.dn_int Tryd.underlying3) (Down.dnF_cons rfl (by kernel_rfl) rfl (Down.dn_int Tryd.underlying3) (Down.dnF_last rfl (by kernel_rfl) (Down.dn_int Tryd.underlying3))))
def laws_FnExactHarderPuzzle.Pure : Prop := ∀ (l0_0 : List (S39)), (l0_0.length ≤ maxLen ∧ ∀ x_ ∈ l0_0, wf39 x_) → ∃ k, laws_FnExactHarderPuzzle.f k l0_0 = some true
end Go.Proofs.YtipiocdppghhnaaDoor.PFnExactHarderPuzzle
