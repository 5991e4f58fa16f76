/- The plain law of FnExactFewestGuards: what the printed functions compute answers true at every input within the bounds that the print tells. -/
import Derived.Test.YtbchfajbobploaaPFnExactFewestGuardsx1
import Derived.Test.YtbchfajbobploaaLib
namespace Go.Proofs.Ytbchfajbobploaa.Pure
open Go.RowKit Go.Proofs.Ytbchfajbobploaa.PFnExactFewestGuards Go.Proofs.YtbchfajbobploaaW.PrintWords Go.Proofs.YtbchfajbobploaaW.PrintLast Go.Proofs.YtbchfajbobploaaW.PrintMore Go.Proofs.Ytbchfajbobploaa.Lib
set_option linter.unusedVariables false
set_option linter.unusedSimpArgs false

theorem spec_in (a b c : Int) : spec_l1In.f a b c = some (decide (b ≤ a ∧ a ≤ c)) := by
  unfold spec_l1In.f
  by_cases h : a ≥ b
  · rw [if_pos h]; simp [show b ≤ a from h]
  · rw [if_neg h]; simp [show ¬ b ≤ a from h]
theorem impl_in (a b c : Int) : impl_within.f a b c = some (decide (b ≤ a ∧ a ≤ c)) := by
  unfold impl_within.f
  by_cases h : a ≥ b
  · rw [if_pos h]; simp [show b ≤ a from h]
  · rw [if_neg h]; simp [show ¬ b ≤ a from h]

theorem FnExactFewestGuards : laws_FnExactFewestGuards.Pure := by
  intro n ring hn
  unfold laws_FnExactFewestGuards.f spec_FewestGuards.f impl_FewestGuards.f spec_rwHouses.f impl_isRowLength.f
  simp only [spec_in, impl_in, Option.bind_some]
  by_cases h : 1 ≤ n ∧ n ≤ 20
  · simp [h]
  · simp [h]

end Go.Proofs.Ytbchfajbobploaa.Pure
