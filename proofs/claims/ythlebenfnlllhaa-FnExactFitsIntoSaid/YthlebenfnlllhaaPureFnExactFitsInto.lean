/- FitsInto answers as the reference does: both ask for two boxes (each side at least 1, none longer than the one before, at most 60) and compare them side by side. Conditions: none. -/
import Derived.Test.YthlebenfnlllhaaStFnExactFitsInto
namespace Go.Proofs.Ythlebenfnlllhaa.Pure
open Go.RowKit Go.Proofs.Ythlebenfnlllhaa.PFnExactFitsInto Go.Proofs.YthlebenfnlllhaaW.PrintWords Go.Proofs.YthlebenfnlllhaaW.PrintLast

theorem good_eq (a b c : Int) : spec_wrGood.f a b c = some (decide (1 ≤ c ∧ c ≤ b ∧ b ≤ a ∧ a ≤ 60)) := by
  unfold spec_wrGood.f spec_l1In.f
  repeat' (first | split | (simp only [Option.bind_some]))
  all_goals first | (congr 1; simp; omega) | (simp_all; done) | (simp_all; omega)
theorem box_eq (a b c : Int) : impl_IsBox.f a b c = some (decide (1 ≤ c ∧ c ≤ b ∧ b ≤ a ∧ a ≤ 60)) := by
  unfold impl_IsBox.f impl_within.f
  repeat' (first | split | (simp only [Option.bind_some]))
  all_goals first | (congr 1; simp; omega) | (simp_all; done) | (simp_all; omega)
theorem FnExactFitsInto : laws_FnExactFitsInto.Pure := by
  intro a b c d e f _ _ _ _ _ _
  unfold laws_FnExactFitsInto.f laws_toBox.f spec_FitsInto.f impl_FitsInto.f spec_wrInto.f impl_fits.f
  simp only [Option.bind_some, good_eq, box_eq]
  by_cases h1 : (1 ≤ c ∧ c ≤ b ∧ b ≤ a ∧ a ≤ 60) <;> by_cases h2 : (1 ≤ f ∧ f ≤ e ∧ e ≤ d ∧ d ≤ 60) <;> by_cases h3 : a < d <;> by_cases h4 : b < e <;> simp [h1, h2, h3, h4]

end Go.Proofs.Ythlebenfnlllhaa.Pure
