/- The law FnExactLetterOf returns true for all whole numbers of 64 bits. -/
import Derived.Test.YtcogdbbkkbkhfaaPFnExactLetterOfx1
import Derived.Test.YtcogdbbkkbkhfaaM0
namespace Go.Proofs.Ytcogdbbkkbkhfaa.PureFnExactLetterOf
open Go Go.RowKit Go.Proofs.Ytcogdbbkkbkhfaa.PFnExactLetterOf Go.Proofs.Ytcogdbbkkbkhfaa.My Go.Proofs.YtcogdbbkkbkhfaaW.PrintWords Go.Proofs.YtcogdbbkkbkhfaaW.PrintLast Go.Proofs.YtcogdbbkkbkhfaaW.PrintMore
set_option linter.unusedVariables false
set_option linter.unusedSimpArgs false
theorem within_eq (a b c : Int) : impl_within.f a b c = some (decide (b ≤ a ∧ a ≤ c)) := by
  unfold impl_within.f
  by_cases h : b ≤ a <;> simp [h]
theorem l01In_eq (a b c : Int) : spec_l01In.f a b c = some (decide (b ≤ a ∧ a ≤ c)) := by
  unfold spec_l01In.f
  by_cases h : b ≤ a <;> simp [h]
theorem hasName_eq (a : Int) : impl_hasName.f a = some (decide (-15 ≤ a ∧ a ≤ 19)) := by
  simp only [impl_hasName.f, within_eq, Option.bind_some]
theorem l07Has_eq (a : Int) : spec_l07Has.f a = some (decide (-15 ≤ a ∧ a ≤ 19)) := by
  simp only [spec_l07Has.f, l01In_eq, Option.bind_some]
theorem named (a : Int) (h : -15 ≤ a ∧ a ≤ 19) : ∃ n : Fin 35, a = (n.val : Int) - 15 :=
  ⟨⟨(a + 15).toNat, by omega⟩, by simp only []; omega⟩
theorem small : ∀ n : Fin 35, laws_FnExactLetterOf.f ((n.val : Int) - 15) = some true := by decide +kernel
theorem main : laws_FnExactLetterOf.Pure := by
  intro a _
  by_cases h : -15 ≤ a ∧ a ≤ 19
  · obtain ⟨n, rfl⟩ := named a h
    exact small n
  · simp only [laws_FnExactLetterOf.f, spec_LetterOf.f, impl_LetterOf.f, hasName_eq, l07Has_eq, Option.bind_some]
    simp [h]

end Go.Proofs.Ytcogdbbkkbkhfaa.PureFnExactLetterOf
namespace Go.Proofs.Ytcogdbbkkbkhfaa.Pure
theorem FnExactLetterOf : Go.Proofs.Ytcogdbbkkbkhfaa.PFnExactLetterOf.laws_FnExactLetterOf.Pure := Go.Proofs.Ytcogdbbkkbkhfaa.PureFnExactLetterOf.main
end Go.Proofs.Ytcogdbbkkbkhfaa.Pure
