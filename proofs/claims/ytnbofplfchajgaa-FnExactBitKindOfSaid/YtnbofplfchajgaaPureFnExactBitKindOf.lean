/- BitKindOf of the program and of the reference agree for every width and number.
   Conditions: none beyond those of the given row (each number is of its kind). -/
import Derived.Test.YtnbofplfchajgaaQFnExactBitKindOfx2
import Derived.Test.YtnbofplfchajgaaMB
namespace Go.Proofs.Ytnbofplfchajgaa.Pure
open Go.RowKit Go.Proofs.Ytnbofplfchajgaa.QFnExactBitKindOf Go.Proofs.YtnbofplfchajgaaW.PrintWords Go.Proofs.YtnbofplfchajgaaW.PrintLast Go.Proofs.YtnbofplfchajgaaW.PrintMore Go.Proofs.Ytnbofplfchajgaa.M
set_option linter.unusedVariables false
set_option linter.unusedSimpArgs false
theorem e_sBitTop (w : Int) : spec_BitTop.f w = some (top w) := by
  unfold spec_BitTop.f top; split
  · rfl
  · split <;> rfl
theorem e_formatOf (w : Int) : impl_formatOf.f w = some (if w = 32 then (23, -149, 127, top w, true) else if w = 64 then (52, -1074, 1023, top w, true) else (0, 0, 0, top w, false)) := by
  unfold impl_formatOf.f top
  by_cases h : w = 32
  · simp [h]
  · by_cases h' : w = 64
    · simp [h']
    · simp [h, h']
theorem e_sBitOk (w n : Int) : spec_BitOk.f w n = some (bitOk w n) := by
  unfold spec_BitOk.f spec_l1Width.f
  simp only [e_sBitTop, Option.bind_some, top_neg, bitOk]
  by_cases h : w = 32
  · subst h; simp; split <;> simp_all; omega
  · by_cases h' : w = 64
    · subst h'; simp; split <;> simp_all; omega
    · simp [h, h']
theorem e_in (n a b : Int) : impl_in.f n a b = some (decide (a ≤ n ∧ n ≤ b)) := by
  unfold impl_in.f; split
  · simp_all
  · simp; omega
theorem e_iBitOk (w n : Int) : impl_BitOk.f w n = some (bitOk w n) := by
  unfold impl_BitOk.f
  simp only [e_formatOf, Option.bind_some, e_in]
  by_cases h : w = 32
  · subst h; simp [bitOk, top_neg]
  · by_cases h' : w = 64
    · subst h'; simp [bitOk, top_neg]
    · simp [h, h', bitOk]
theorem FnExactBitKindOf : laws_FnExactBitKindOf.Pure := by
  intro a0 a1 h0 h1
  refine ⟨1, ?_⟩
  unfold laws_FnExactBitKindOf.f spec_BitKindOf.f impl_BitKindOf.f
  simp only [e_formatOf, e_sBitOk, e_iBitOk, Option.bind_some]
  by_cases h : bitOk a0 a1 = true
  · have r := bitOk_iff.mp h
    have t := top_range a0
    simp only [h, if_true]
    have es : impl_size.f a1 = some (if a1 < 0 then -a1 else a1) := by unfold impl_size.f mx wrap64; congr 1; split <;> omega
    have eM : (if a1 < 0 then spec_BitKindOf.j0 1 a0 (wrap64 (-a1)) else spec_BitKindOf.j0 1 a0 a1) = spec_BitKindOf.j0 1 a0 (if a1 < 0 then -a1 else a1) := by
      split
      · rw [show wrap64 (-a1) = -a1 from by unfold wrap64; omega]
      · rfl
    rw [eM, es]
    generalize hs : (if a1 < 0 then -a1 else a1) = s
    have hs0 : 0 ≤ s ∧ s ≤ top a0 := by rw [← hs]; split <;> omega
    have hz : a1 = 0 ↔ s = 0 := by rw [← hs]; split <;> omega
    simp only [spec_BitKindOf.j0, spec_l1Frac.f, e_sBitTop, Option.bind_some]
    by_cases h00 : s = 0
    · have := hz.mpr h00; simp [h00, this]
    · have h00' : ¬ a1 = 0 := fun q => h00 (hz.mp q)
      simp only [h00, h00', if_false]
      rcases r.1 with rfl | rfl
      · simp only [top_32] at *
        have q1 : shl .i64 1 (IntKind.u64.wrap 23) = 8388608 := by rw [u64w]; decide
        have q2 : shr .i64 s 23 = s / 8388608 := by simp [shr, IntKind.bits]
        simp only [if_true, Option.bind_some, q1, q2]
        simp only [u64w]
        by_cases c : s = 2139095040
        · subst c; decide
        · simp only [c, if_false]
          by_cases d : s < 8388608
          · rw [if_pos (by decide), if_pos d, if_pos (by decide), if_pos (by omega)]; simp
          · rw [if_pos (by decide), if_neg d, if_pos (by decide), if_neg (by omega)]; simp
      · simp only [top_64] at *
        have q1 : shl .i64 1 (IntKind.u64.wrap 52) = 4503599627370496 := by rw [u64w]; decide
        have q2 : shr .i64 s 52 = s / 4503599627370496 := by simp [shr, IntKind.bits]
        simp only [if_true, Option.bind_some, q1, q2, show ¬ (64 : Int) = 32 by decide, if_false]
        simp only [u64w]
        by_cases c : s = 9218868437227405312
        · subst c; decide
        · simp only [c, if_false]
          by_cases d : s < 4503599627370496
          · rw [if_pos (by decide), if_pos d, if_pos (by decide), if_pos (by omega)]; simp
          · rw [if_pos (by decide), if_neg d, if_pos (by decide), if_neg (by omega)]; simp
  · simp [h]
end Go.Proofs.Ytnbofplfchajgaa.Pure
