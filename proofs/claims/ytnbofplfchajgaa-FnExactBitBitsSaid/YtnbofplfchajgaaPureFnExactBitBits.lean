/- BitBits of the program and of the reference agree for every width and number.
   Conditions: none beyond those of the given row (each number is of its kind). -/
import Derived.Test.YtnbofplfchajgaaQFnExactBitBitsx1
import Derived.Test.YtnbofplfchajgaaMB
namespace Go.Proofs.Ytnbofplfchajgaa.Pure
open Go.RowKit Go.Proofs.Ytnbofplfchajgaa.QFnExactBitBits Go.Proofs.YtnbofplfchajgaaW.PrintWords Go.Proofs.YtnbofplfchajgaaW.PrintLast Go.Proofs.YtnbofplfchajgaaW.PrintMore Go.Proofs.Ytnbofplfchajgaa.M
set_option linter.unusedVariables false
set_option linter.unusedSimpArgs false
theorem e_sBitTop (w : Int) : spec_BitTop.f w = some (top w) := by
  unfold spec_BitTop.f top; split
  · rfl
  · split <;> rfl
theorem e_formatOf (w : Int) : impl_formatOf.f w = some (if w = 32 then (23, -149, 127, top w, true) else if w = 64 then (52, -1074, 1023, top w, true) else (0, 0, 0, top w, false)) := by
  unfold impl_formatOf.f top
  by_cases h : w = 32
  · simp [h]
  · by_cases h' : w = 64
    · simp [h']
    · simp [h, h']
theorem e_sBitOk (w n : Int) : spec_BitOk.f w n = some (bitOk w n) := by
  unfold spec_BitOk.f spec_l1Width.f
  simp only [e_sBitTop, Option.bind_some, top_neg, bitOk]
  by_cases h : w = 32
  · subst h; simp; split <;> simp_all; omega
  · by_cases h' : w = 64
    · subst h'; simp; split <;> simp_all; omega
    · simp [h, h']
theorem e_in (n a b : Int) : impl_in.f n a b = some (decide (a ≤ n ∧ n ≤ b)) := by
  unfold impl_in.f; split
  · simp_all
  · simp; omega
theorem e_iBitOk (w n : Int) : impl_BitOk.f w n = some (bitOk w n) := by
  unfold impl_BitOk.f
  simp only [e_formatOf, Option.bind_some, e_in]
  by_cases h : w = 32
  · subst h; simp [bitOk, top_neg]
  · by_cases h' : w = 64
    · subst h'; simp [bitOk, top_neg]
    · simp [h, h', bitOk]
theorem FnExactBitBits : laws_FnExactBitBits.Pure := by
  intro a0 a1 h0 h1
  unfold laws_FnExactBitBits.f spec_BitBits.f impl_BitBits.f
  simp only [e_sBitOk, e_iBitOk, Option.bind_some]
  by_cases h : bitOk a0 a1 = true
  · have r := bitOk_iff.mp h
    simp only [h, if_true]
    by_cases n : a1 < 0
    · simp only [n, if_true]
      rcases r.1 with rfl | rfl
      · rw [top_32] at r
        have q0 : wrap64 (32 - 1) = 31 := by decide +kernel
        have q1 : shl .u64 1 (IntKind.u64.wrap 31) = 2147483648 := by decide +kernel
        have q2 : shl .u64 1 31 = 2147483648 := by decide +kernel
        have q3 : 0 ≤ IntKind.u64.wrap 31 := by decide +kernel
        have q5 : IntKind.u64.wrap (wrap64 (-a1)) = -a1 := by rw [u64w]; unfold wrap64; omega
        simp only [q0, q1, q2, q3, q5, if_true, show (0 : Int) ≤ 31 by decide, Option.bind_some]
        rw [u64_or _ _ (by omega) (by omega) (by decide) (by decide), Nat.or_comm, nat_join 31 _ _ (by decide) (by omega), if_pos]
        rw [u64w]; omega
      · rw [top_64] at r
        have q0 : wrap64 (64 - 1) = 63 := by decide +kernel
        have q1 : shl .u64 1 (IntKind.u64.wrap 63) = 9223372036854775808 := by decide +kernel
        have q2 : shl .u64 1 63 = 9223372036854775808 := by decide +kernel
        have q3 : 0 ≤ IntKind.u64.wrap 63 := by decide +kernel
        have q5 : IntKind.u64.wrap (wrap64 (-a1)) = -a1 := by rw [u64w]; unfold wrap64; omega
        simp only [q0, q1, q2, q3, q5, if_true, show (0 : Int) ≤ 63 by decide, Option.bind_some]
        rw [u64_or _ _ (by omega) (by omega) (by decide) (by decide), Nat.or_comm, nat_join 63 _ _ (by decide) (by omega), if_pos]
        rw [u64w]; omega
    · simp [n]
  · simp [h]
end Go.Proofs.Ytnbofplfchajgaa.Pure
