/- PairIs of the program and of the reference agree for all two pairs.
   Conditions: none beyond those of the given row (each number is of its kind). -/
import Derived.Test.YtnbofplfchajgaaQFnExactPairIsx1
namespace Go.Proofs.Ytnbofplfchajgaa.Pure
open Go.RowKit Go.Proofs.Ytnbofplfchajgaa.QFnExactPairIs Go.Proofs.YtnbofplfchajgaaW.PrintWords Go.Proofs.YtnbofplfchajgaaW.PrintLast Go.Proofs.YtnbofplfchajgaaW.PrintMore
set_option linter.unusedVariables false
set_option linter.unusedSimpArgs false
theorem FnExactPairIs : laws_FnExactPairIs.Pure := by
  intro a b c d _ _ _ _
  unfold laws_FnExactPairIs.f laws_toPair.f
  simp only [spec_PairIs.f, impl_PairIs.f, Option.bind_some]
  by_cases h : c ≤ a <;> simp [h]
end Go.Proofs.Ytnbofplfchajgaa.Pure
