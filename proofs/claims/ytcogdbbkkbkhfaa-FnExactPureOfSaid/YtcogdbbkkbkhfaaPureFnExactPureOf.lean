/- The law FnExactPureOf returns true for all triples of whole numbers of 64 bits. -/
import Derived.Test.YtcogdbbkkbkhfaaPFnExactPureOfx1
import Derived.Test.YtcogdbbkkbkhfaaM0
namespace Go.Proofs.Ytcogdbbkkbkhfaa.PureFnExactPureOf
open Go Go.RowKit Go.Proofs.Ytcogdbbkkbkhfaa.PFnExactPureOf Go.Proofs.Ytcogdbbkkbkhfaa.My Go.Proofs.YtcogdbbkkbkhfaaW.PrintWords Go.Proofs.YtcogdbbkkbkhfaaW.PrintLast Go.Proofs.YtcogdbbkkbkhfaaW.PrintMore
set_option linter.unusedVariables false
set_option linter.unusedSimpArgs false
theorem within_eq (a b c : Int) : impl_within.f a b c = some (decide (b ≤ a ∧ a ≤ c)) := by
  unfold impl_within.f
  by_cases h : b ≤ a <;> simp [h]
theorem l01In_eq (a b c : Int) : spec_l01In.f a b c = some (decide (b ≤ a ∧ a ≤ c)) := by
  unfold spec_l01In.f
  by_cases h : b ≤ a <;> simp [h]
theorem iok_eq (a b c r : Int) : impl_IntervalOk.f a b c r = some (decide (Ok a b c r)) := by
  simp only [impl_IntervalOk.f, within_eq, Option.bind_some, Ok]
  by_cases h1 : 1 ≤ r ∧ r ≤ 12 <;> by_cases h2 : -400 ≤ a ∧ a ≤ 400 <;> by_cases h3 : -400 ≤ b ∧ b ≤ 400 <;> simp [h1, h2, h3]
theorem sok_eq (a b c r : Int) : spec_IntervalOk.f a b c r = some (decide (Ok a b c r)) := by
  simp only [spec_IntervalOk.f, l01In_eq, Option.bind_some, Ok]
  by_cases h1 : 1 ≤ r ∧ r ≤ 12 <;> by_cases h2 : -400 ≤ a ∧ a ≤ 400 <;> by_cases h3 : -400 ≤ b ∧ b ≤ 400 <;> simp [h1, h2, h3]
theorem main : laws_FnExactPureOf.Pure := by
  intro a b c _ _ _
  simp only [laws_FnExactPureOf.f, spec_PureOf.f, impl_PureOf.f, iok_eq, sok_eq, Option.bind_some]
  by_cases h : Ok a b c 1 <;> simp [h, laws_eqInterval.f]

end Go.Proofs.Ytcogdbbkkbkhfaa.PureFnExactPureOf
namespace Go.Proofs.Ytcogdbbkkbkhfaa.Pure
theorem FnExactPureOf : Go.Proofs.Ytcogdbbkkbkhfaa.PFnExactPureOf.laws_FnExactPureOf.Pure := Go.Proofs.Ytcogdbbkkbkhfaa.PureFnExactPureOf.main
end Go.Proofs.Ytcogdbbkkbkhfaa.Pure
