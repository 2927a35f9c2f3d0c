/- BitGap of the program and of the reference agree for all two whole numbers.
   Conditions: none beyond those of the given row (each number is of its kind). -/
import Derived.Test.YtnbofplfchajgaaPFnExactBitGapx1
namespace Go.Proofs.Ytnbofplfchajgaa.Pure
open Go.RowKit Go.Proofs.Ytnbofplfchajgaa.PFnExactBitGap Go.Proofs.YtnbofplfchajgaaW.PrintWords Go.Proofs.YtnbofplfchajgaaW.PrintLast Go.Proofs.YtnbofplfchajgaaW.PrintMore
set_option linter.unusedVariables false
set_option linter.unusedSimpArgs false
theorem FnExactBitGap : laws_FnExactBitGap.Pure := by
  intro a0 a1 _ _
  unfold laws_FnExactBitGap.f spec_BitGap.f impl_BitGap.f
  split <;> simp
end Go.Proofs.Ytnbofplfchajgaa.Pure
