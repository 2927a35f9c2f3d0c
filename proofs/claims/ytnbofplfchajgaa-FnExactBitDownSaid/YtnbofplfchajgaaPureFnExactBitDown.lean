/- BitDown of the program and of the reference agree for every width and number.
   Conditions: none beyond those of the given row (each number is of its kind). -/
import Derived.Test.YtnbofplfchajgaaQFnExactBitDownx1
import Derived.Test.YtnbofplfchajgaaMB
namespace Go.Proofs.Ytnbofplfchajgaa.Pure
open Go.RowKit Go.Proofs.Ytnbofplfchajgaa.QFnExactBitDown Go.Proofs.YtnbofplfchajgaaW.PrintWords Go.Proofs.YtnbofplfchajgaaW.PrintLast Go.Proofs.YtnbofplfchajgaaW.PrintMore Go.Proofs.Ytnbofplfchajgaa.M
set_option linter.unusedVariables false
set_option linter.unusedSimpArgs false
theorem e_sBitTop (w : Int) : spec_BitTop.f w = some (top w) := by
  unfold spec_BitTop.f top; split
  · rfl
  · split <;> rfl
theorem e_formatOf (w : Int) : impl_formatOf.f w = some (if w = 32 then (23, -149, 127, top w, true) else if w = 64 then (52, -1074, 1023, top w, true) else (0, 0, 0, top w, false)) := by
  unfold impl_formatOf.f top
  by_cases h : w = 32
  · simp [h]
  · by_cases h' : w = 64
    · simp [h']
    · simp [h, h']
theorem e_iBitTop (w : Int) : impl_BitTop.f w = some (top w) := by
  unfold impl_BitTop.f; rw [e_formatOf]
  by_cases h : w = 32
  · simp [h]
  · by_cases h' : w = 64
    · simp [h']
    · simp [h, h']
theorem e_sBitOk (w n : Int) : spec_BitOk.f w n = some (bitOk w n) := by
  unfold spec_BitOk.f spec_l1Width.f
  simp only [e_sBitTop, Option.bind_some, top_neg, bitOk]
  by_cases h : w = 32
  · subst h; simp; split <;> simp_all; omega
  · by_cases h' : w = 64
    · subst h'; simp; split <;> simp_all; omega
    · simp [h, h']
theorem e_in (n a b : Int) : impl_in.f n a b = some (decide (a ≤ n ∧ n ≤ b)) := by
  unfold impl_in.f; split
  · simp_all
  · simp; omega
theorem e_iBitOk (w n : Int) : impl_BitOk.f w n = some (bitOk w n) := by
  unfold impl_BitOk.f
  simp only [e_formatOf, Option.bind_some, e_in]
  by_cases h : w = 32
  · subst h; simp [bitOk, top_neg]
  · by_cases h' : w = 64
    · subst h'; simp [bitOk, top_neg]
    · simp [h, h', bitOk]
theorem FnExactBitDown : laws_FnExactBitDown.Pure := by
  intro a0 a1 h0 h1
  have h0 := wf64 h0
  have h1 := wf64 h1
  unfold laws_FnExactBitDown.f spec_BitDown.f spec_BitUp.f impl_BitDown.f
  simp only [e_sBitTop, e_iBitTop, e_sBitOk, e_iBitOk, Option.bind_some]
  have e : bitOk a0 (wrap64 (-a1)) = bitOk a0 a1 := by
    rw [Bool.eq_iff_iff, bitOk_iff, bitOk_iff]; have := top_range a0; unfold wrap64; omega
  rw [e]
  by_cases h : bitOk a0 a1 = true
  · have r := bitOk_iff.mp h
    have t := top_range a0
    simp only [h, if_true, Option.bind_some, top_neg]
    have e1 : wrap64 (-a1) = -a1 := by unfold wrap64; omega
    have e2 : wrap64 (a1 - 1) = a1 - 1 := by unfold wrap64; omega
    rw [e1, e2]
    by_cases hh : -a1 = top a0
    · rw [if_pos hh, hh]; simp only [Option.bind_some]; rw [if_pos (by unfold mx wrap64; omega)]
    · rw [if_neg hh]; simp only [Option.bind_some]; rw [if_pos (by unfold mx wrap64; omega)]
  · simp [h, wrap64]
end Go.Proofs.Ytnbofplfchajgaa.Pure
