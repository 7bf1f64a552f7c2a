import Derived.Test.YtdikeggkfkkajaaPFnExactSumsReachedx3
namespace Go.Proofs.Ytdikeggkfkkajaa.Pure
open Go.RowKit Go.Proofs.Ytdikeggkfkkajaa.PFnExactSumsReached Go.Proofs.YtdikeggkfkkajaaW.PrintWords Go.Proofs.YtdikeggkfkkajaaW.PrintLast

/-- YOURS: ∀ (l0 : List Int), l0.length ≤ maxLen → l0.length * 8 ≤ 140737488351232 → (∀ x ∈ l0, (Lit.int .i64 x).wf = true) → ∃ k, laws_FnExactSumsReached.f k l0 = some true
What it reaches (each with k first where it has rounds; `.mono`: more rounds tell the same; `.l0`, ..: its loops, with `.mono_l`): spec_l1In.f, spec_l1All.f, spec_skGood.f, spec_skSum.f, spec_SumsReached.f, laws_toIntS.f, impl_within.f, slices_IndexFunc_int_int.f, slices_ContainsFunc_int_int.f, impl_areWithin.f, impl_AreWeights.f, slices_Sort_int_int.f, slices_Compact_int_int.f, impl_SumsReached.f, laws_eqIntS.f, laws_markIntS.f, laws_heldIntS.f, laws_FnExactSumsReached.f -/
theorem FnExactSumsReached : laws_FnExactSumsReached.Pure := by
  sorry

end Go.Proofs.Ytdikeggkfkkajaa.Pure
