/- The program's constants are the reference's.
   Conditions: none beyond those of the given row (each number is of its kind). -/
import Derived.Test.YtnbofplfchajgaaPFnExactConstantsx1
namespace Go.Proofs.Ytnbofplfchajgaa.Pure
open Go.RowKit Go.Proofs.Ytnbofplfchajgaa.PFnExactConstants Go.Proofs.YtnbofplfchajgaaW.PrintWords Go.Proofs.YtnbofplfchajgaaW.PrintLast Go.Proofs.YtnbofplfchajgaaW.PrintMore
set_option linter.unusedVariables false
set_option linter.unusedSimpArgs false
theorem FnExactConstants : laws_FnExactConstants.Pure := by
  unfold laws_FnExactConstants.Pure laws_FnExactConstants.f
  rfl
end Go.Proofs.Ytnbofplfchajgaa.Pure
