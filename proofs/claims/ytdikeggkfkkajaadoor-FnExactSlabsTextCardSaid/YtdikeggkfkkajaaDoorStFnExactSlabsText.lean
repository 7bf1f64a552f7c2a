/- The statement of FnExactSlabsText without Go in it. Conditions: none. Made by a program of this session (wip/xprint.py). -/
import Derived.Test.YtdikeggkfkkajaaDoorPFnExactSlabsTextx4
import Derived.Test.YtdikeggkfkkajaaDoorDown
namespace Go.Proofs.YtdikeggkfkkajaaDoor.PFnExactSlabsText
open Go.RowKit Go.Proofs.YtdikeggkfkkajaaDoorW.PrintWords Go.Proofs.YtdikeggkfkkajaaDoorW.PrintLast Go.Proofs.YtdikeggkfkkajaaDoorW.PrintMore
open Go.Proofs.YtdikeggkfkkajaaDoor
set_option linter.unusedVariables false
instance : Inhabited S80 := ⟨z80⟩
def wf80 (x : S80) : Prop := (Lit.int .i64 x.f0).wf = true ∧ (Lit.int .i64 x.f1).wf = true
theorem dn80 : Down.Dn Tryd.prog 80 k80 wf80 :=
  Down.dn_struct (g := fun a => ⟨a.1, a.2⟩) Tryd.underlying80 (by kernel_rfl) (fun _ => rfl) (Down.dnF_cons rfl (by kernel_rfl) rfl (Down.dn_int Tryd.underlying3) (Down.dnF_last rfl (by kernel_rfl) (Down.dn_int Tryd.underlying3)))
def laws_FnExactSlabsText.Pure : Prop := ∀ (l0 : List (S80)), (l0.length ≤ maxLen ∧ ∀ x_ ∈ l0, wf80 x_) → ∃ k, laws_FnExactSlabsText.f k l0 = some true
end Go.Proofs.YtdikeggkfkkajaaDoor.PFnExactSlabsText
