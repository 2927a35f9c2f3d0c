/- BitTop of the program and of the reference agree for every width.
   Conditions: none beyond those of the given row (each number is of its kind). -/
import Derived.Test.YtnbofplfchajgaaPFnExactBitTopx1
import Derived.Test.YtnbofplfchajgaaMB
namespace Go.Proofs.Ytnbofplfchajgaa.Pure
open Go.RowKit Go.Proofs.Ytnbofplfchajgaa.PFnExactBitTop Go.Proofs.YtnbofplfchajgaaW.PrintWords Go.Proofs.YtnbofplfchajgaaW.PrintLast Go.Proofs.YtnbofplfchajgaaW.PrintMore Go.Proofs.Ytnbofplfchajgaa.M
set_option linter.unusedVariables false
set_option linter.unusedSimpArgs false
theorem e_sBitTop (w : Int) : spec_BitTop.f w = some (top w) := by
  unfold spec_BitTop.f top; split
  · rfl
  · split <;> rfl
theorem e_formatOf (w : Int) : impl_formatOf.f w = some (if w = 32 then (23, -149, 127, top w, true) else if w = 64 then (52, -1074, 1023, top w, true) else (0, 0, 0, top w, false)) := by
  unfold impl_formatOf.f top
  by_cases h : w = 32
  · simp [h]
  · by_cases h' : w = 64
    · simp [h']
    · simp [h, h']
theorem e_iBitTop (w : Int) : impl_BitTop.f w = some (top w) := by
  unfold impl_BitTop.f; rw [e_formatOf]
  by_cases h : w = 32
  · simp [h]
  · by_cases h' : w = 64
    · simp [h']
    · simp [h, h']
theorem FnExactBitTop : laws_FnExactBitTop.Pure := by
  intro a0 h0
  unfold laws_FnExactBitTop.f
  simp [e_sBitTop, e_iBitTop]
end Go.Proofs.Ytnbofplfchajgaa.Pure
