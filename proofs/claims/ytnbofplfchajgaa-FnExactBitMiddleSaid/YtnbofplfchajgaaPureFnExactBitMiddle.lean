/- BitMiddle of the program and of the reference agree for all two whole numbers.
   Conditions: none beyond those of the given row (each number is of its kind). -/
import Derived.Test.YtnbofplfchajgaaPFnExactBitMiddlex1
import Derived.Test.YtnbofplfchajgaaMB
namespace Go.Proofs.Ytnbofplfchajgaa.Pure
open Go.RowKit Go.Proofs.Ytnbofplfchajgaa.PFnExactBitMiddle Go.Proofs.YtnbofplfchajgaaW.PrintWords Go.Proofs.YtnbofplfchajgaaW.PrintLast Go.Proofs.YtnbofplfchajgaaW.PrintMore Go.Proofs.Ytnbofplfchajgaa.M
set_option linter.unusedVariables false
set_option linter.unusedSimpArgs false
theorem FnExactBitMiddle : laws_FnExactBitMiddle.Pure := by
  intro a0 a1 h0 h1
  have h0 := wf64 h0
  have h1 := wf64 h1
  unfold laws_FnExactBitMiddle.f spec_BitMiddle.f impl_BitMiddle.f spec_BitGap.f impl_BitGap.f
  split
  · simp only [Option.bind_some]; rw [if_pos (mid_core a0 a1 h0 h1 0 (by omega))]
  · simp only [Option.bind_some]; rw [if_pos (mid_core a0 a1 h0 h1 _ (by rw [u64w]; omega))]
end Go.Proofs.Ytnbofplfchajgaa.Pure
