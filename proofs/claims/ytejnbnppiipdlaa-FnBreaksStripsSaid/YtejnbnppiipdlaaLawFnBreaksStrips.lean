/- The law FnBreaksStrips: it returns true for every input, each argument reads behind the call as it read before. Conditions: none. Made by a program of this session (wip/xprint.py). -/
import Derived.Test.YtejnbnppiipdlaaRows
import Derived.Test.YtejnbnppiipdlaaPureFnBreaksStrips
import Derived.WalkKit
import Derived.ProofKit
import Derived.OpenShut
import Derived.ShutString
import Derived.ChangeOld
import Derived.Below
import Derived.SizedLaws
import Derived.Carry
namespace Go.Proofs.Ytejnbnppiipdlaa.fnBreaksStrips
open Go.ChangeShapes Go.WideShapes Go.ChangeAt Go.RowKit Go.Proofs.YtejnbnppiipdlaaW.PrintWords Go.Proofs.YtejnbnppiipdlaaW.PrintLast
open Go.ChangeMaps (open_string shut_string)

set_option linter.unusedVariables false
theorem own : ownKnob Try.prog.godebug = none := by kernel_rfl
theorem laidOut : laidOutB Try.prog = true := by kernel_rfl
set_option maxRecDepth 100000 in
theorem lifted (os : Os) (started : os.Started) (H : Type) (enc : TypeId × Value → H) :
    ReturnsInHanded {} Try.checked os 3 .any (Rows.fnBreaksStripsSpec.pre6 enc Try.prog Try.f3 Rows.fnBreaksStripsRow.domain false) (Rows.fnBreaksStripsSpec.post enc Try.prog Try.f3 false true false false) := by
  refine returnsInHanded_of_change_sized (C := Try.checked) own started (by kernel_rfl) Try.func3
    (ChangeSpec.witness6 (enc := enc) (C := Try.checked) false ⟨#[], #[.slice none 0 0, .slice none 0 0], []⟩ 8 (by kernel_rfl) (by kernel_rfl) (by kernel_rfl) (by kernel_rfl)) ?_
  intro W base args ds gs before hval0 hW hcnd hsz0 _
  have hval : ∀ (j : Nat) t v, Try.f3.params[j]? = some t → args[j]? = some v → Value.okWide Try.prog W .any base t v := hval0
  have hW' := hW
  obtain ⟨p, q, hA0, hV, rfl, hfz, hnd⟩ := hW
  have hA : DataW.TrodAll enc Try.prog W 0 (fun _ => true) true Try.f3.params.toList args.toList ds p := hA0
  rw [Try.params3] at hA hval
  obtain ⟨v0, vs0, d0, ds0, p0, q0, hargs, rfl, rfl, h0, r0⟩ := trodAll_cons hA
  obtain ⟨v1, vs1, d1, ds1, p1, q1, rfl, rfl, rfl, h1, r1⟩ := trodAll_cons r0
  obtain ⟨rfl, rfl, rfl⟩ := trodAll_nil r1
  obtain rfl : args = #[v0, v1] := by cases args; simp_all
  obtain ⟨rfl, rfl⟩ := trodVars_none hV
  have lt0 := Down.trod_blocks h0
  have kk0 := h0
  obtain ⟨l0, A0, c0, rfl, hc0, hr0, w0⟩ := Down.dn_slice_value Try.underlying22 (Down.dn_slice Try.underlying22 (by kernel_rfl) (Down.dn_int Try.underlying5)) (hval 0 22 v0 rfl rfl) h0
  have lt1 := Down.trod_blocks h1
  have kk1 := h1
  obtain ⟨l1, A1, c1, rfl, hc1, hr1, w1⟩ := Down.dn_slice_value Try.underlying22 (Down.dn_slice Try.underlying22 (by kernel_rfl) (Down.dn_int Try.underlying5)) (hval 1 22 v1 rfl rfl) h1
  clear hA0 hval0 hsz0
  obtain ⟨k, h⟩ := Pure.FnBreaksStrips l0 l1 w0 w1
  refine (PFnBreaksStrips.laws_FnBreaksStrips.calls k _ _ l0 _ _ l1 true W hr0 hc0 hr1 hc1 h).mono fun e W' ⟨he, bel0⟩ => ?_
  have bel := bel0
  subst he
  exact ⟨_, rfl, _, _, _, [], _, [], hW', trodAll_mk1 (shut_bool Try.underlying4 _), (trodAll_cons_mk (Below.trod laidOut (by kernel_rfl) (of_decide_eq_true (by kernel_rfl)) kk0 bel lt0) (trodAll_cons_mk (Below.trod laidOut (by kernel_rfl) (of_decide_eq_true (by kernel_rfl)) kk1 bel lt1) trodAll_mk0)), rfl, bel.frame _, fun h => by cases h⟩
theorem over : Rows.fnBreaksStripsRow.holds Try.pinned (OpenSpec.ofChange Rows.fnBreaksStripsSpec) :=
  OpenClaim.holds_of_wide 3 Try.f3 rfl rfl rfl rfl rfl rfl rfl ⟨rfl, rfl, rfl, rfl, rfl⟩ rfl rfl rfl rfl rfl (by kernel_rfl) Try.func3 (by kernel_rfl)
    (of_decide_eq_true (by kernel_rfl)) (by unfold Func.isWrapper; first | (rw [if_pos (by decide +kernel)]; kernel_rfl) | (rw [if_neg (by decide +kernel)]; exact ⟨rfl, rfl⟩))
    (fun os started H enc _ => lifted os started H enc)
theorem proved : Rows.FnBreaksStripsSaid := over
#print axioms proved
end Go.Proofs.Ytejnbnppiipdlaa.fnBreaksStrips
namespace Go.Proofs.Ytejnbnppiipdlaa
theorem fnBreaksStrips_holds : Rows.FnBreaksStripsSaid := fnBreaksStrips.proved
end Go.Proofs.Ytejnbnppiipdlaa
