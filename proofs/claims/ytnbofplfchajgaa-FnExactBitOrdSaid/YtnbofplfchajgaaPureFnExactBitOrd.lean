/- BitOrd of the program and of the reference agree for every width and pattern.
   Conditions: none beyond those of the given row (each number is of its kind). -/
import Derived.Test.YtnbofplfchajgaaPFnExactBitOrdx1
import Derived.Test.YtnbofplfchajgaaMB
namespace Go.Proofs.Ytnbofplfchajgaa.Pure
open Go.RowKit Go.Proofs.Ytnbofplfchajgaa.PFnExactBitOrd Go.Proofs.YtnbofplfchajgaaW.PrintWords Go.Proofs.YtnbofplfchajgaaW.PrintLast Go.Proofs.YtnbofplfchajgaaW.PrintMore Go.Proofs.Ytnbofplfchajgaa.M
set_option linter.unusedVariables false
set_option linter.unusedSimpArgs false
theorem e_sBitTop (w : Int) : spec_BitTop.f w = some (top w) := by
  unfold spec_BitTop.f top; split
  · rfl
  · split <;> rfl
theorem e_formatOf (w : Int) : impl_formatOf.f w = some (if w = 32 then (23, -149, 127, top w, true) else if w = 64 then (52, -1074, 1023, top w, true) else (0, 0, 0, top w, false)) := by
  unfold impl_formatOf.f top
  by_cases h : w = 32
  · simp [h]
  · by_cases h' : w = 64
    · simp [h']
    · simp [h, h']
theorem FnExactBitOrd : laws_FnExactBitOrd.Pure := by
  intro a0 a1 h0 h1
  have h1 := wfu64 h1
  refine ⟨1, ?_⟩
  unfold laws_FnExactBitOrd.f spec_BitOrd.f impl_BitOrd.f
  simp only [e_formatOf, Option.bind_some, spec_l1Width.f]
  by_cases h : a0 = 32
  · subst h
    have q0 : wrap64 (32 - 1) = 31 := by decide +kernel
    have q1 : shl .u64 1 (IntKind.u64.wrap 31) = 2147483648 := by decide +kernel
    have q2 : shl .u64 1 31 = 2147483648 := by decide +kernel
    have q3 : 0 ≤ IntKind.u64.wrap 31 := by decide +kernel
    have q4 : IntKind.u64.wrap 2139095040 = 2139095040 := by decide +kernel
    simp only [if_true, spec_BitOrd.j0, impl_BitOrd.j0, q0, q1, q2, q3, q4, e_sBitTop, top_32, Option.bind_some]
    by_cases c : a1 < 4294967296
    · rw [and_31 a1 h1.1 c, clear_31 a1 h1.1 c, Int.tmod_eq_emod_of_nonneg h1.1]
      have c1 : ¬ (a1 / 4294967296 > 0) := by omega
      have c2 : ¬ (a1 ≥ 4294967296) := by omega
      simp only [c1, c2, decide_false, Bool.false_eq_true, if_false, show ¬ ((2147483648 : Int) = 0) by decide, show (0 : Int) ≤ 31 by decide, if_true]
      by_cases d : a1 % 2147483648 > 2139095040
      · simp [d]
      · simp only [d, if_false]
        by_cases g : a1 ≥ 2147483648
        · rw [if_pos g, if_neg (by omega)]; simp
        · rw [if_neg g, if_pos (by omega)]; simp
    · have c1 : a1 / 4294967296 > 0 := by omega
      have c2 : a1 ≥ 4294967296 := by omega
      simp [c1, c2]
  · by_cases h' : a0 = 64
    · subst h'
      have q0 : wrap64 (64 - 1) = 63 := by decide +kernel
      have q1 : shl .u64 1 (IntKind.u64.wrap 63) = 9223372036854775808 := by decide +kernel
      have q2 : shl .u64 1 63 = 9223372036854775808 := by decide +kernel
      have q3 : 0 ≤ IntKind.u64.wrap 63 := by decide +kernel
      have q4 : IntKind.u64.wrap 9218868437227405312 = 9218868437227405312 := by decide +kernel
      simp only [if_true, spec_BitOrd.j0, impl_BitOrd.j0, q0, q1, q2, q3, q4, e_sBitTop, top_64, Option.bind_some, show ¬ (64 : Int) = 32 by decide, if_false, BEq.rfl]
      rw [and_top a1 h1.1 (by omega), clear_top a1 h1.1 (by omega), Int.tmod_eq_emod_of_nonneg h1.1]
      simp only [Bool.false_eq_true, if_false, show ¬ ((9223372036854775808 : Int) = 0) by decide, show (0 : Int) ≤ 63 by decide, if_true]
      by_cases d : a1 % 9223372036854775808 > 9218868437227405312
      · simp [d]
      · simp only [d, if_false]
        by_cases g : a1 ≥ 9223372036854775808
        · rw [if_pos g, if_neg (by omega)]; simp
        · rw [if_neg g, if_pos (by omega)]; simp
    · simp [h, h', spec_BitOrd.j0, impl_BitOrd.j0]
end Go.Proofs.Ytnbofplfchajgaa.Pure
