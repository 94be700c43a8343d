/- The law FnExactConstants returns true: every exported constant has the value given in the specification. For all inputs (there are none). -/
import Derived.Test.YtcogdbbkkbkhfaaPFnExactConstantsx1
import Derived.Test.YtcogdbbkkbkhfaaM0
namespace Go.Proofs.Ytcogdbbkkbkhfaa.PureFnExactConstants
open Go Go.RowKit Go.Proofs.Ytcogdbbkkbkhfaa.PFnExactConstants Go.Proofs.Ytcogdbbkkbkhfaa.My Go.Proofs.YtcogdbbkkbkhfaaW.PrintWords Go.Proofs.YtcogdbbkkbkhfaaW.PrintLast Go.Proofs.YtcogdbbkkbkhfaaW.PrintMore
set_option linter.unusedVariables false
set_option linter.unusedSimpArgs false
theorem main : laws_FnExactConstants.Pure := by
  unfold laws_FnExactConstants.Pure; rfl

end Go.Proofs.Ytcogdbbkkbkhfaa.PureFnExactConstants
namespace Go.Proofs.Ytcogdbbkkbkhfaa.Pure
theorem FnExactConstants : Go.Proofs.Ytcogdbbkkbkhfaa.PFnExactConstants.laws_FnExactConstants.Pure := Go.Proofs.Ytcogdbbkkbkhfaa.PureFnExactConstants.main
end Go.Proofs.Ytcogdbbkkbkhfaa.Pure
