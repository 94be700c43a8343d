/- The law FnExactStepsUp returns true for all pairs of whole numbers of 64 bits. -/
import Derived.Test.YtcogdbbkkbkhfaaPFnExactStepsUpx1
import Derived.Test.YtcogdbbkkbkhfaaM0
namespace Go.Proofs.Ytcogdbbkkbkhfaa.PureFnExactStepsUp
open Go Go.RowKit Go.Proofs.Ytcogdbbkkbkhfaa.PFnExactStepsUp Go.Proofs.Ytcogdbbkkbkhfaa.My Go.Proofs.YtcogdbbkkbkhfaaW.PrintWords Go.Proofs.YtcogdbbkkbkhfaaW.PrintLast Go.Proofs.YtcogdbbkkbkhfaaW.PrintMore
set_option linter.unusedVariables false
set_option linter.unusedSimpArgs false
theorem within_eq (a b c : Int) : impl_within.f a b c = some (decide (b ≤ a ∧ a ≤ c)) := by
  unfold impl_within.f
  by_cases h : b ≤ a <;> simp [h]
theorem l01In_eq (a b c : Int) : spec_l01In.f a b c = some (decide (b ≤ a ∧ a ≤ c)) := by
  unfold spec_l01In.f
  by_cases h : b ≤ a <;> simp [h]
theorem hasName_eq (a : Int) : impl_hasName.f a = some (decide (-15 ≤ a ∧ a ≤ 19)) := by
  simp only [impl_hasName.f, within_eq, Option.bind_some]
theorem l07Has_eq (a : Int) : spec_l07Has.f a = some (decide (-15 ≤ a ∧ a ≤ 19)) := by
  simp only [spec_l07Has.f, l01In_eq, Option.bind_some]
theorem named (a : Int) (h : -15 ≤ a ∧ a ≤ 19) : ∃ n : Fin 35, a = (n.val : Int) - 15 :=
  ⟨⟨(a + 15).toNat, by omega⟩, by simp only []; omega⟩
theorem small : ∀ n m : Fin 35, laws_FnExactStepsUp.f 1 ((n.val : Int) - 15) ((m.val : Int) - 15) = some true := by decide +kernel
theorem main : laws_FnExactStepsUp.Pure := by
  intro a b _ _
  refine ⟨1, ?_⟩
  by_cases h : -15 ≤ a ∧ a ≤ 19
  · by_cases g : -15 ≤ b ∧ b ≤ 19
    · obtain ⟨n, rfl⟩ := named a h
      obtain ⟨m, rfl⟩ := named b g
      exact small n m
    · simp only [laws_FnExactStepsUp.f, spec_StepsUp.f, impl_StepsUp.f, spec_StepsUp.j0, impl_StepsUp.j0, hasName_eq, l07Has_eq, Option.bind_some]
      simp [h, g]
  · simp only [laws_FnExactStepsUp.f, spec_StepsUp.f, impl_StepsUp.f, spec_StepsUp.j0, impl_StepsUp.j0, hasName_eq, l07Has_eq, Option.bind_some]
    simp [h]

end Go.Proofs.Ytcogdbbkkbkhfaa.PureFnExactStepsUp
namespace Go.Proofs.Ytcogdbbkkbkhfaa.Pure
theorem FnExactStepsUp : Go.Proofs.Ytcogdbbkkbkhfaa.PFnExactStepsUp.laws_FnExactStepsUp.Pure := Go.Proofs.Ytcogdbbkkbkhfaa.PureFnExactStepsUp.main
end Go.Proofs.Ytcogdbbkkbkhfaa.Pure
