/- The statement of FnExactPuzzleText without Go in it. Conditions: none. Made by a program of this session (wip/xprint.py). -/
import Derived.Test.YthlebenfnlllhaaDoorPFnExactPuzzleTextx4
import Derived.Test.YthlebenfnlllhaaDoorDown
namespace Go.Proofs.YthlebenfnlllhaaDoor.PFnExactPuzzleText
open Go.RowKit Go.Proofs.YthlebenfnlllhaaDoorW.PrintWords Go.Proofs.YthlebenfnlllhaaDoorW.PrintLast Go.Proofs.YthlebenfnlllhaaDoorW.PrintMore
open Go.Proofs.YthlebenfnlllhaaDoor
set_option linter.unusedVariables false
instance : Inhabited S65 := ⟨z65⟩
def wf65 (x : S65) : Prop := (Lit.int .i64 x.f0).wf = true ∧ (Lit.int .i64 x.f1).wf = true ∧ (Lit.int .i64 x.f2).wf = true
theorem dn65 : Down.Dn Tryd.prog 65 k65 wf65 :=
  Down.dn_struct (g := fun a => ⟨a.1, a.2.1, a.2.2⟩) Tryd.underlying65 (by kernel_rfl) (fun _ => rfl) (Down.dnF_cons rfl (by kernel_rfl) rfl (Down.dn_int Tryd.underlying3) (Down.dnF_cons rfl (by kernel_rfl) rfl (Down.dn_int Tryd.underlying3) (Down.dnF_last rfl (by kernel_rfl) (Down.dn_int Tryd.underlying3))))
def laws_FnExactPuzzleText.Pure : Prop := ∀ (l0_0 : List (S65)), (l0_0.length ≤ maxLen ∧ ∀ x_ ∈ l0_0, wf65 x_) → ∃ k, laws_FnExactPuzzleText.f k l0_0 = some true
end Go.Proofs.YthlebenfnlllhaaDoor.PFnExactPuzzleText
