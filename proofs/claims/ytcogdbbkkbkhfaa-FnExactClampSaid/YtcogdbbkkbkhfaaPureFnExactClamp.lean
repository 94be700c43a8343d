/- The law FnExactClamp returns true for all whole numbers of 64 bits. -/
import Derived.Test.YtcogdbbkkbkhfaaPFnExactClampx1
import Derived.Test.YtcogdbbkkbkhfaaM0
namespace Go.Proofs.Ytcogdbbkkbkhfaa.PureFnExactClamp
open Go Go.RowKit Go.Proofs.Ytcogdbbkkbkhfaa.PFnExactClamp Go.Proofs.Ytcogdbbkkbkhfaa.My Go.Proofs.YtcogdbbkkbkhfaaW.PrintWords Go.Proofs.YtcogdbbkkbkhfaaW.PrintLast Go.Proofs.YtcogdbbkkbkhfaaW.PrintMore
set_option linter.unusedVariables false
set_option linter.unusedSimpArgs false
theorem main : laws_FnExactClamp.Pure := by
  intro a b c _ _ _
  refine ⟨1, ?_⟩
  simp only [laws_FnExactClamp.f, spec_Clamp.f, spec_Clamp.j0, impl_Clamp.f]
  by_cases h1 : c < b <;> by_cases h2 : a < b <;> by_cases h3 : a > c <;> simp [h1, h2, h3] <;> omega

end Go.Proofs.Ytcogdbbkkbkhfaa.PureFnExactClamp
namespace Go.Proofs.Ytcogdbbkkbkhfaa.Pure
theorem FnExactClamp : Go.Proofs.Ytcogdbbkkbkhfaa.PFnExactClamp.laws_FnExactClamp.Pure := Go.Proofs.Ytcogdbbkkbkhfaa.PureFnExactClamp.main
end Go.Proofs.Ytcogdbbkkbkhfaa.Pure
