/- The statement of FnExactIsDesk without Go in it. Conditions: none. Made by a program of this session (wip/xprint.py). -/
import Derived.Test.YtipiocdppghhnaaDoorPFnExactIsDeskx5
import Derived.Test.YtipiocdppghhnaaDoorDown
namespace Go.Proofs.YtipiocdppghhnaaDoor.PFnExactIsDesk
open Go.RowKit Go.Proofs.YtipiocdppghhnaaDoorW.PrintWords Go.Proofs.YtipiocdppghhnaaDoorW.PrintLast Go.Proofs.YtipiocdppghhnaaDoorW.PrintMore
open Go.Proofs.YtipiocdppghhnaaDoor
set_option linter.unusedVariables false
instance : Inhabited S110 := ⟨z110⟩
def wf110 (x : S110) : Prop := (Lit.int .i64 x.f0).wf = true ∧ (Lit.int .i64 x.f1).wf = true
theorem dn110 : Down.Dn Tryd.prog 110 k110 wf110 :=
  Down.dn_struct (g := fun a => ⟨a.1, a.2⟩) Tryd.underlying110 (by kernel_rfl) (fun _ => rfl) (Down.dnF_cons rfl (by kernel_rfl) rfl (Down.dn_int Tryd.underlying3) (Down.dnF_last rfl (by kernel_rfl) (Down.dn_int Tryd.underlying3)))
def laws_FnExactIsDesk.Pure : Prop := ∀ (a0_0 : Int) (a0_1 : Int) (l0_2 : List ByteArray) (l0_3 : List Int) (l0_4 : List Int) (l0_5 : List (S110)), (Lit.int .i64 a0_0).wf = true → (Lit.int .i64 a0_1).wf = true → (l0_2.length ≤ maxLen ∧ ∀ x_ ∈ l0_2, x_.size ≤ maxLen) → (l0_3.length ≤ maxLen ∧ ∀ x_ ∈ l0_3, (Lit.int .i64 x_).wf = true) → (l0_4.length ≤ maxLen ∧ ∀ x_ ∈ l0_4, (Lit.int .i64 x_).wf = true) → (l0_5.length ≤ maxLen ∧ ∀ x_ ∈ l0_5, wf110 x_) → ∃ k, laws_FnExactIsDesk.f k a0_0 a0_1 l0_2 l0_3 l0_4 l0_5 = some true
end Go.Proofs.YtipiocdppghhnaaDoor.PFnExactIsDesk
