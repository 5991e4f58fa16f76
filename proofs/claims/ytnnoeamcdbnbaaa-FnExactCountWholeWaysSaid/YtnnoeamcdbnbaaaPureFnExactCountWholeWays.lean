/- The plain law of FnExactCountWholeWays: what the printed functions compute answers true at every input within the bounds that the print tells. -/
import Derived.Test.YtnnoeamcdbnbaaaMAx1
import Derived.Test.YtnnoeamcdbnbaaaLib
namespace Go.Proofs.Ytnnoeamcdbnbaaa.Pure
open Go.RowKit Go.Proofs.Ytnnoeamcdbnbaaa.MA Go.Proofs.YtnnoeamcdbnbaaaW.PrintWords Go.Proofs.YtnnoeamcdbnbaaaW.PrintLast Go.Proofs.YtnnoeamcdbnbaaaW.PrintMore Go.Proofs.Ytnnoeamcdbnbaaa.Lib
set_option linter.unusedVariables false
set_option linter.unusedSimpArgs false

theorem spec_in (a b c : Int) : spec_l1In.f a b c = some (decide (b ≤ a ∧ a ≤ c)) := by
  unfold spec_l1In.f
  by_cases h : a ≥ b
  · rw [if_pos h]; simp [show b ≤ a from h]
  · rw [if_neg h]; simp [show ¬ b ≤ a from h]
theorem impl_in (a b c : Int) : impl_within.f a b c = some (decide (b ≤ a ∧ a ≤ c)) := by
  unfold impl_within.f
  by_cases h : a ≥ b
  · rw [if_pos h]; simp [show b ≤ a from h]
  · rw [if_neg h]; simp [show ¬ b ≤ a from h]

theorem FnExactCountWholeWays : laws_FnExactCountWholeWays.Pure := by
  intro s a hs ha
  unfold laws_FnExactCountWholeWays.f spec_CountWholeWays.f impl_CountWholeWays.f
  simp only [spec_in, impl_in, Option.bind_some]
  by_cases h1 : 2 ≤ s ∧ s ≤ 8
  · by_cases h2 : 2 ≤ a ∧ a ≤ 8
    · have e1 : wrap64 (wrap64 (s + a) - 4) = s + a - 4 := by unfold wrap64; omega
      have e2 : wrap64 (wrap64 (wrap64 (s - 2) + a) - 2) = s + a - 4 := by unfold wrap64; omega
      rw [e1, e2]
      simp [h1, h2, show (4 : Int) ≤ s + a by omega]
    · simp [h1, h2]
  · simp [h1]

end Go.Proofs.Ytnnoeamcdbnbaaa.Pure
