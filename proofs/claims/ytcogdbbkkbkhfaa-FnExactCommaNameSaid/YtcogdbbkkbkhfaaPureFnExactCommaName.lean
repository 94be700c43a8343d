/- The law FnExactCommaName returns true for all whole numbers of 64 bits. -/
import Derived.Test.YtcogdbbkkbkhfaaPFnExactCommaNamex1
import Derived.Test.YtcogdbbkkbkhfaaM0
namespace Go.Proofs.Ytcogdbbkkbkhfaa.PureFnExactCommaName
open Go Go.RowKit Go.Proofs.Ytcogdbbkkbkhfaa.PFnExactCommaName Go.Proofs.Ytcogdbbkkbkhfaa.My Go.Proofs.YtcogdbbkkbkhfaaW.PrintWords Go.Proofs.YtcogdbbkkbkhfaaW.PrintLast Go.Proofs.YtcogdbbkkbkhfaaW.PrintMore
set_option linter.unusedVariables false
set_option linter.unusedSimpArgs false
theorem within_eq (a b c : Int) : impl_within.f a b c = some (decide (b ≤ a ∧ a ≤ c)) := by
  unfold impl_within.f
  by_cases h : b ≤ a <;> simp [h]
theorem l01In_eq (a b c : Int) : spec_l01In.f a b c = some (decide (b ≤ a ∧ a ≤ c)) := by
  unfold spec_l01In.f
  by_cases h : b ≤ a <;> simp [h]
theorem small : ∀ n : Fin 6, laws_FnExactCommaName.f ((n.val : Int) + 1) = some true := by decide +kernel
theorem main : laws_FnExactCommaName.Pure := by
  intro a _
  by_cases h : 1 ≤ a ∧ a ≤ 6
  · have := small ⟨(a - 1).toNat, by omega⟩
    rwa [show ((((a - 1).toNat : Nat) : Int) + 1) = a from by omega] at this
  · simp only [laws_FnExactCommaName.f, spec_CommaName.f, impl_CommaName.f, within_eq, l01In_eq, Option.bind_some]
    simp [h]

end Go.Proofs.Ytcogdbbkkbkhfaa.PureFnExactCommaName
namespace Go.Proofs.Ytcogdbbkkbkhfaa.Pure
theorem FnExactCommaName : Go.Proofs.Ytcogdbbkkbkhfaa.PFnExactCommaName.laws_FnExactCommaName.Pure := Go.Proofs.Ytcogdbbkkbkhfaa.PureFnExactCommaName.main
end Go.Proofs.Ytcogdbbkkbkhfaa.Pure
