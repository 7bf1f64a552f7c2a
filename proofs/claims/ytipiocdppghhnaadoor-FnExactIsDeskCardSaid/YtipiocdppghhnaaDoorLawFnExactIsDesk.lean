/- The law FnExactIsDesk: it returns true for every input, each argument reads behind the call as it read before. Conditions: none. Made by a program of this session (wip/xprint.py). -/
import Derived.Test.YtipiocdppghhnaaDoorRows
import Derived.Test.YtipiocdppghhnaaDoorPureFnExactIsDesk
import Derived.Lay
import Derived.Test.YtipiocdppghhnaaDoorCards
import Derived.Test.YtipiocdppghhnaaDoorTie
import Derived.LaidMore
import Derived.Stop.Joined
import Derived.SevenTiedAt
import Derived.WalkKit
import Derived.ProofKit
import Derived.OpenShut
import Derived.ShutString
import Derived.ChangeOld
import Derived.Below
import Derived.SizedLaws
import Derived.Carry
namespace Go.Proofs.YtipiocdppghhnaaDoor.fnExactIsDesk
open Go.ChangeShapes Go.WideShapes Go.ChangeAt Go.RowKit Go.Proofs.YtipiocdppghhnaaDoorW.PrintWords Go.Proofs.YtipiocdppghhnaaDoorW.PrintLast
open Go.ChangeMaps (open_string shut_string)
open Go.Proofs.YtipiocdppghhnaaDoor.PFnExactIsDesk (wf110 dn110)
set_option linter.unusedVariables false
theorem own : ownKnob Tryd.prog.godebug = none := by kernel_rfl
theorem laidOut : laidOutB Tryd.prog = true := by kernel_rfl
noncomputable abbrev laid1 : List (String × DataW Unit) := [("unicode/utf8.acceptRanges", Rows.laid_unicode_utf8_acceptRanges), ("unicode/utf8.first", Rows.laid_unicode_utf8_first)]
set_option maxRecDepth 100000 in
theorem lifted (os : Os) (started : os.Started) (H : Type) (enc : TypeId × Value → H) :
    ReturnsInHanded {} Tryd.checked os 3 .any (fun w args => (Rows.fnExactIsDeskSpec.pre enc Tryd.prog Tryd.f3 [] false w args ∧ laidMetH Tryd.prog laid1 w) ∧ sizedMet enc Tryd.prog Tryd.f3 (OpenSpec.ofChange Rows.fnExactIsDeskSpec) false w args) (Rows.fnExactIsDeskSpec.post enc Tryd.prog Tryd.f3 false true false false) := by
  refine returnsInHanded_of_change_and (C := Tryd.checked) (X := fun w _ => laidMetH Tryd.prog laid1 w) (fun _ _ _ hh h => h.of_heap hh) own started (by kernel_rfl) Tryd.func3
    (ChangeSpec.witness_shaped (enc := enc) (C := Tryd.checked) (os := os) (X := fun w _ => laidMetH Tryd.prog laid1 w) false (World.laidAll Tryd.prog os laid1) #[.agg #[.int .i64 0, .int .i64 0, .slice none 0 0, .slice none 0 0, .slice none 0 0, .slice none 0 0]] 8 (World.laidAll_os _ _ _) (World.shaped_of_ZipB (by kernel_rfl) (by kernel_rfl)) (by kernel_rfl) (by kernel_rfl) (by kernel_rfl) (by rw [MakeChecks.laidMetH_plain _ _ _ (by kernel_rfl)]; exact laidMet_laidAll _ (by kernel_rfl) (by kernel_rfl))) ?_
  intro W base args ds gs before hval0 hW _ hsz0 _ _
  have hval : ∀ (j : Nat) t v, Tryd.f3.params[j]? = some t → args[j]? = some v → Value.okWide Tryd.prog W .any base t v := hval0
  have hW' := hW
  obtain ⟨p, q, hA0, hV, rfl, hfz, hnd⟩ := hW
  have hA : DataW.TrodAll enc Tryd.prog W 0 (fun _ => true) true Tryd.f3.params.toList args.toList ds p := hA0
  rw [Tryd.params3] at hA hval
  obtain ⟨v0, vs0, d0, ds0, p0, q0, hargs, rfl, rfl, h0, r0⟩ := trodAll_cons hA
  obtain ⟨rfl, rfl, rfl⟩ := trodAll_nil r0
  obtain rfl : args = #[v0] := by cases args; simp_all
  obtain ⟨rfl, rfl⟩ := trodVars_none hV
  have lt0 := Down.trod_blocks h0
  have kk0 := h0
  obtain ⟨⟨⟨a0_0, a0_1⟩, ⟨l0_2, ⟨l0_3, ⟨l0_4, l0_5⟩⟩⟩⟩, cs0, rfl, ⟨_, _, e0, ⟨_, _, rfl, rfl, rfl⟩, ⟨_, _, rfl, ⟨A0_2, c0_2, rfl, hc0_2, hr0_2⟩, ⟨_, _, rfl, ⟨A0_3, c0_3, rfl, hc0_3, hr0_3⟩, ⟨_, _, rfl, ⟨A0_4, c0_4, rfl, hc0_4, hr0_4⟩, ⟨A0_5, c0_5, rfl, hc0_5, hr0_5⟩⟩⟩⟩⟩, ⟨⟨w0_0, w0_1⟩, ⟨w0_2, ⟨w0_3, ⟨w0_4, w0_5⟩⟩⟩⟩⟩ := Down.dn_struct_value Tryd.underlying28 (Down.dn_structP (P := Tryd.prog) (t := 28) Tryd.underlying28 (by kernel_rfl) (Down.dnF_cons rfl (by kernel_rfl) rfl (Down.dn_structP Tryd.underlying23 (by kernel_rfl) (Down.dnF_cons rfl (by kernel_rfl) rfl (Down.dn_int Tryd.underlying3) (Down.dnF_last rfl (by kernel_rfl) (Down.dn_int Tryd.underlying3)))) (Down.dnF_cons rfl (by kernel_rfl) rfl (Down.dn_slice Tryd.underlying24 (by kernel_rfl) (Down.dn_string Tryd.underlying9)) (Down.dnF_cons rfl (by kernel_rfl) rfl (Down.dn_slice Tryd.underlying25 (by kernel_rfl) (Down.dn_int Tryd.underlying3)) (Down.dnF_cons rfl (by kernel_rfl) rfl (Down.dn_slice Tryd.underlying25 (by kernel_rfl) (Down.dn_int Tryd.underlying3)) (Down.dnF_last rfl (by kernel_rfl) (Down.dn_slice Tryd.underlying26 (by kernel_rfl) dn110))))))) (hval 0 28 v0 rfl rfl) h0
  obtain rfl := Array.toList_inj.1 (e0.trans (List.toList_toArray).symm)
  clear hA0 hval0 hsz0
  obtain ⟨k, h⟩ := Pure.FnExactIsDesk a0_0 a0_1 l0_2 l0_3 l0_4 l0_5 w0_0 w0_1 w0_2 w0_3 w0_4 w0_5
  refine (PFnExactIsDesk.laws_FnExactIsDesk.calls k a0_0 a0_1 _ _ l0_2 _ _ l0_3 _ _ l0_4 _ _ l0_5 true W hr0_2 hc0_2 hr0_3 hc0_3 hr0_4 hc0_4 hr0_5 hc0_5 h).mono fun e W' ⟨he, bel0⟩ => ?_
  have bel := bel0
  subst he
  exact ⟨_, rfl, _, _, _, [], _, [], hW', trodAll_mk1 (shut_bool Tryd.underlying4 _), (trodAll_cons_mk (Below.trod laidOut (by kernel_rfl) (of_decide_eq_true (by kernel_rfl)) kk0 bel lt0) trodAll_mk0), rfl, bel.frame _, fun h => by cases h⟩
theorem over : Rows.fnExactIsDeskRow.holds Tryd.pinned (OpenSpec.ofChange Rows.fnExactIsDeskSpec) :=
  OpenClaim.holds_of_wide 3 Tryd.f3 rfl rfl rfl rfl rfl rfl rfl ⟨rfl, rfl, rfl, rfl, rfl⟩ rfl rfl rfl rfl rfl (by kernel_rfl) Tryd.func3 (by kernel_rfl)
    (of_decide_eq_true (by kernel_rfl)) (by unfold Func.isWrapper; first | (rw [if_pos (by decide +kernel)]; kernel_rfl) | (rw [if_neg (by decide +kernel)]; exact ⟨rfl, rfl⟩))
    (fun os started H enc _ => lifted os started H enc)
theorem proved : Rows.FnExactIsDeskCardSaid :=
  Claim7.holds_tied_plain_at .later [] [.data, .pinned] true (true, "83fef279b77c4afd27d9488a552abac527c918d765b160ee7b2cdb1db7f584d8") false
    over (fun _ h => by cases h) (by kernel_rfl) (fun _ h => by cases h) fnExactIsDesk_row_tie rfl ⟨rfl, rfl⟩ (by kernel_rfl) rfl
    (fun f fn hf hfn => by
      obtain rfl : f = 3 := Option.some.inj ((show Tryd.prog.funcNamed "loop.example/g01377/laws.FnExactIsDesk" = some 3 by kernel_rfl).symm.trans hf) |>.symm
      obtain rfl : fn = Tryd.f3 := (Option.some.inj (Tryd.func3.symm.trans hfn)).symm
      refine ⟨by kernel_rfl, fun j t ht => ?_⟩
      rw [Tryd.params3] at ht
      have hm := Array.mem_of_getElem? ht
      simp at hm
      rcases hm with rfl
      exact (show Tryd.prog.wantsStandIn 28 = false by kernel_rfl)
    ) (by kernel_rfl)
#print axioms proved
end Go.Proofs.YtipiocdppghhnaaDoor.fnExactIsDesk
namespace Go.Proofs.YtipiocdppghhnaaDoor
theorem fnExactIsDesk_holds : Rows.FnExactIsDeskCardSaid := fnExactIsDesk.proved
end Go.Proofs.YtipiocdppghhnaaDoor
