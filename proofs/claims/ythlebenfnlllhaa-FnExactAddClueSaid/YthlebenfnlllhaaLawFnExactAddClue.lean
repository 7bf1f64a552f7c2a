/- The law FnExactAddClue: it returns true for every input, each argument reads behind the call as it read before. Conditions: none. Made by a program of this session (wip/xprint.py). -/
import Derived.Test.YthlebenfnlllhaaRows
import Derived.Test.YthlebenfnlllhaaPureFnExactAddClue
import Derived.WalkKit
import Derived.ProofKit
import Derived.OpenShut
import Derived.ShutString
import Derived.ChangeOld
import Derived.Below
import Derived.SizedLaws
import Derived.Carry
namespace Go.Proofs.Ythlebenfnlllhaa.fnExactAddClue
open Go.ChangeShapes Go.WideShapes Go.ChangeAt Go.RowKit Go.Proofs.YthlebenfnlllhaaW.PrintWords Go.Proofs.YthlebenfnlllhaaW.PrintLast
open Go.ChangeMaps (open_string shut_string)
open Go.Proofs.Ythlebenfnlllhaa.PFnExactAddClue (wf30 dn30)
set_option linter.unusedVariables false
theorem own : ownKnob Try.prog.godebug = none := by kernel_rfl
theorem laidOut : laidOutB Try.prog = true := by kernel_rfl
set_option maxRecDepth 100000 in
theorem lifted (os : Os) (started : os.Started) (H : Type) (enc : TypeId × Value → H) :
    ReturnsInHanded {} Try.checked os 8 .any (Rows.fnExactAddClueSpec.pre6 enc Try.prog Try.f8 Rows.fnExactAddClueRow.domain false) (Rows.fnExactAddClueSpec.post enc Try.prog Try.f8 false true false false) := by
  refine returnsInHanded_of_change_sized (C := Try.checked) own started (by kernel_rfl) Try.func8
    (ChangeSpec.witness6 (enc := enc) (C := Try.checked) false ⟨#[], #[.agg #[.slice none 0 0], .agg #[.int .i64 0, .int .i64 0, .int .i64 0]], []⟩ 8 (by kernel_rfl) (by kernel_rfl) (by kernel_rfl) (by kernel_rfl)) ?_
  intro W base args ds gs before hval0 hW hcnd hsz0 _
  have hval : ∀ (j : Nat) t v, Try.f8.params[j]? = some t → args[j]? = some v → Value.okWide Try.prog W .any base t v := hval0
  have hW' := hW
  obtain ⟨p, q, hA0, hV, rfl, hfz, hnd⟩ := hW
  have hA : DataW.TrodAll enc Try.prog W 0 (fun _ => true) true Try.f8.params.toList args.toList ds p := hA0
  rw [Try.params8] at hA hval
  obtain ⟨v0, vs0, d0, ds0, p0, q0, hargs, rfl, rfl, h0, r0⟩ := trodAll_cons hA
  obtain ⟨v1, vs1, d1, ds1, p1, q1, rfl, rfl, rfl, h1, r1⟩ := trodAll_cons r0
  obtain ⟨rfl, rfl, rfl⟩ := trodAll_nil r1
  obtain rfl : args = #[v0, v1] := by cases args; simp_all
  obtain ⟨rfl, rfl⟩ := trodVars_none hV
  have lt0 := Down.trod_blocks h0
  have kk0 := h0
  obtain ⟨l0_0, cs0, rfl, ⟨A0_0, c0_0, e0, hc0_0, hr0_0⟩, w0_0⟩ := Down.dn_struct_value Try.underlying37 (Down.dn_structP (P := Try.prog) (t := 37) Try.underlying37 (by kernel_rfl) (Down.dnF_last rfl (by kernel_rfl) (Down.dn_slice Try.underlying35 (by kernel_rfl) dn30))) (hval 0 37 v0 rfl rfl) h0
  obtain rfl := Array.toList_inj.1 (e0.trans (List.toList_toArray).symm)
  have lt1 := Down.trod_blocks h1
  have kk1 := h1
  obtain ⟨⟨a1_0, ⟨a1_1, a1_2⟩⟩, cs1, rfl, ⟨_, _, e1, rfl, ⟨_, _, rfl, rfl, rfl⟩⟩, ⟨w1_0, ⟨w1_1, w1_2⟩⟩⟩ := Down.dn_struct_value Try.underlying30 (Down.dn_structP (P := Try.prog) (t := 30) Try.underlying30 (by kernel_rfl) (Down.dnF_cons rfl (by kernel_rfl) rfl (Down.dn_int Try.underlying3) (Down.dnF_cons rfl (by kernel_rfl) rfl (Down.dn_int Try.underlying3) (Down.dnF_last rfl (by kernel_rfl) (Down.dn_int Try.underlying3))))) (hval 1 30 v1 rfl rfl) h1
  obtain rfl := Array.toList_inj.1 (e1.trans (List.toList_toArray).symm)
  clear hA0 hval0 hsz0
  obtain ⟨k, h⟩ := Pure.FnExactAddClue l0_0 a1_0 a1_1 a1_2 w0_0 w1_0 w1_1 w1_2
  refine (PFnExactAddClue.laws_FnExactAddClue.calls k _ _ l0_0 a1_0 a1_1 a1_2 true W hr0_0 hc0_0 h).mono fun e W' ⟨he, bel0⟩ => ?_
  have bel := bel0
  subst he
  exact ⟨_, rfl, _, _, _, [], _, [], hW', trodAll_mk1 (shut_bool Try.underlying4 _), (trodAll_cons_mk (Below.trod laidOut (by kernel_rfl) (of_decide_eq_true (by kernel_rfl)) kk0 bel lt0) (trodAll_cons_mk (Below.trod laidOut (by kernel_rfl) (of_decide_eq_true (by kernel_rfl)) kk1 bel lt1) trodAll_mk0)), rfl, bel.frame _, fun h => by cases h⟩
theorem over : Rows.fnExactAddClueRow.holds Try.pinned (OpenSpec.ofChange Rows.fnExactAddClueSpec) :=
  OpenClaim.holds_of_wide 8 Try.f8 rfl rfl rfl rfl rfl rfl rfl ⟨rfl, rfl, rfl, rfl, rfl⟩ rfl rfl rfl rfl rfl (by kernel_rfl) Try.func8 (by kernel_rfl)
    (of_decide_eq_true (by kernel_rfl)) (by unfold Func.isWrapper; first | (rw [if_pos (by decide +kernel)]; kernel_rfl) | (rw [if_neg (by decide +kernel)]; exact ⟨rfl, rfl⟩))
    (fun os started H enc _ => lifted os started H enc)
theorem proved : Rows.FnExactAddClueSaid := over
#print axioms proved
end Go.Proofs.Ythlebenfnlllhaa.fnExactAddClue
namespace Go.Proofs.Ythlebenfnlllhaa
theorem fnExactAddClue_holds : Rows.FnExactAddClueSaid := fnExactAddClue.proved
end Go.Proofs.Ythlebenfnlllhaa
