/- BitPartOf of the program and of the reference agree for every width and number.
   Conditions: none beyond those of the given row (each number is of its kind). -/
import Derived.Test.YtkpholdkijlogaaQFnExactBitPartOfx3
import Derived.Test.YtkpholdkijlogaaMB
namespace Go.Proofs.Ytkpholdkijlogaa.Pure
open Go.RowKit Go.Proofs.Ytkpholdkijlogaa.QFnExactBitPartOf Go.Proofs.YtkpholdkijlogaaW.PrintWords Go.Proofs.YtkpholdkijlogaaW.PrintLast Go.Proofs.YtkpholdkijlogaaW.PrintMore Go.Proofs.Ytkpholdkijlogaa.M
set_option linter.unusedVariables false
set_option linter.unusedSimpArgs false
theorem e_sBitTop (w : Int) : spec_BitTop.f w = some (top w) := by
  unfold spec_BitTop.f top; split
  · rfl
  · split <;> rfl
theorem e_formatOf (w : Int) : impl_formatOf.f w = some (if w = 32 then (23, -149, 127, top w, true) else if w = 64 then (52, -1074, 1023, top w, true) else (0, 0, 0, top w, false)) := by
  unfold impl_formatOf.f top
  by_cases h : w = 32
  · simp [h]
  · by_cases h' : w = 64
    · simp [h']
    · simp [h, h']
theorem e_sBitOk (w n : Int) : spec_BitOk.f w n = some (bitOk w n) := by
  unfold spec_BitOk.f spec_l1Width.f
  simp only [e_sBitTop, Option.bind_some, top_neg, bitOk]
  by_cases h : w = 32
  · subst h; simp; split <;> simp_all; omega
  · by_cases h' : w = 64
    · subst h'; simp; split <;> simp_all; omega
    · simp [h, h']
theorem e_in (n a b : Int) : impl_in.f n a b = some (decide (a ≤ n ∧ n ≤ b)) := by
  unfold impl_in.f; split
  · simp_all
  · simp; omega
theorem e_iBitOk (w n : Int) : impl_BitOk.f w n = some (bitOk w n) := by
  unfold impl_BitOk.f
  simp only [e_formatOf, Option.bind_some, e_in]
  by_cases h : w = 32
  · subst h; simp [bitOk, top_neg]
  · by_cases h' : w = 64
    · subst h'; simp [bitOk, top_neg]
    · simp [h, h', bitOk]
theorem e_sPartOf (k : Nat) (w n : Int) : spec_BitPartOf.f (k + 1) w n = some (partOf w n) := by
  unfold spec_BitPartOf.f
  simp only [e_sBitOk, e_sBitTop, Option.bind_some, top_neg, spec_BitPartOf.j0, spec_l1Least.f, spec_l1Frac.f]
  by_cases h : bitOk w n = true
  · have r := bitOk_iff.mp h
    have t := top_range w
    rw [if_pos h]
    by_cases c1 : n = top w
    · rw [if_pos c1]; simp [partOf, c1]
    · rw [if_neg c1]
      by_cases c2 : n = -top w
      · rw [if_pos (beq_iff_eq.mpr c2)]; simp [partOf, c2]
      · rw [if_neg (fun q => c2 (beq_iff_eq.mp q))]
        simp only [partOf, h, c1, c2, ne_eq, not_false_eq_true, and_self, if_true]
        have hs0 : 0 ≤ (if n < 0 then -n else n) ∧ (if n < 0 then -n else n) ≤ top w := by split <;> omega
        have hE : (if n < 0 then wrap64 (-n) else n) = (if n < 0 then -n else n) := by split <;> (try unfold wrap64) <;> omega
        rcases r.1 with rfl | rfl
        · rw [top_32] at hs0
          have q1 : shl .i64 1 (IntKind.u64.wrap 23) = 8388608 := by decide +kernel
          have q2 : (0 : Int) ≤ IntKind.u64.wrap 23 := by decide +kernel
          by_cases c : n < 0
          · simp only [c, if_true, Option.bind_some, q1, q2] at hs0 ⊢
            rw [if_neg (by decide), show wrap64 (-n) = -n from by unfold wrap64; omega, Int.tdiv_eq_ediv_of_nonneg hs0.1, Int.tmod_eq_emod_of_nonneg hs0.1]
            simp only [u64w]
            by_cases z : -n / 8388608 = 0
            · rw [if_neg (by unfold wrap64; omega), if_pos z, show -n % 8388608 % 18446744073709551616 = -n % 8388608 from by omega]
            · rw [if_pos (by unfold wrap64; omega), if_neg z]; congr 3
              · omega
              · congr 1; unfold wrap64; omega
          · simp only [c, if_true, if_false, Option.bind_some, q1, q2] at hs0 ⊢
            rw [if_neg (by decide), Int.tdiv_eq_ediv_of_nonneg hs0.1, Int.tmod_eq_emod_of_nonneg hs0.1]
            simp only [u64w]
            by_cases z : n / 8388608 = 0
            · rw [if_neg (by unfold wrap64; omega), if_pos z, show n % 8388608 % 18446744073709551616 = n % 8388608 from by omega]
            · rw [if_pos (by unfold wrap64; omega), if_neg z]; congr 3
              · omega
              · congr 1; unfold wrap64; omega
        · rw [top_64] at hs0
          have q1 : shl .i64 1 (IntKind.u64.wrap 52) = 4503599627370496 := by decide +kernel
          have q2 : (0 : Int) ≤ IntKind.u64.wrap 52 := by decide +kernel
          simp only [show ¬ (64 : Int) = 32 by decide, if_false]
          by_cases c : n < 0
          · simp only [c, if_true, Option.bind_some, q1, q2] at hs0 ⊢
            rw [if_neg (by decide), show wrap64 (-n) = -n from by unfold wrap64; omega, Int.tdiv_eq_ediv_of_nonneg hs0.1, Int.tmod_eq_emod_of_nonneg hs0.1]
            simp only [u64w]
            by_cases z : -n / 4503599627370496 = 0
            · rw [if_neg (by unfold wrap64; omega), if_pos z, show -n % 4503599627370496 % 18446744073709551616 = -n % 4503599627370496 from by omega]
            · rw [if_pos (by unfold wrap64; omega), if_neg z]; congr 3
              · omega
              · congr 1; unfold wrap64; omega
          · simp only [c, if_true, if_false, Option.bind_some, q1, q2] at hs0 ⊢
            rw [if_neg (by decide), Int.tdiv_eq_ediv_of_nonneg hs0.1, Int.tmod_eq_emod_of_nonneg hs0.1]
            simp only [u64w]
            by_cases z : n / 4503599627370496 = 0
            · rw [if_neg (by unfold wrap64; omega), if_pos z, show n % 4503599627370496 % 18446744073709551616 = n % 4503599627370496 from by omega]
            · rw [if_pos (by unfold wrap64; omega), if_neg z]; congr 3
              · omega
              · congr 1; unfold wrap64; omega
  · simp [h, partOf]
theorem e_iPartOf (k : Nat) (w n : Int) : impl_BitPartOf.f (k + 1) w n = some (partOf w n) := by
  unfold impl_BitPartOf.f
  simp only [e_iBitOk, e_formatOf, Option.bind_some, impl_BitPartOf.j0]
  by_cases h : bitOk w n = true
  · have r := bitOk_iff.mp h
    have t := top_range w
    have es : impl_size.f n = some (if n < 0 then -n else n) := by unfold impl_size.f mx wrap64; congr 1; split <;> omega
    rw [if_pos h, es]
    simp only [Option.bind_some, es]
    have hs0 : 0 ≤ (if n < 0 then -n else n) ∧ (if n < 0 then -n else n) ≤ top w := by split <;> omega
    have ht : ((if n < 0 then -n else n) == top w) = true ↔ (n = top w ∨ n = -top w) := by rw [beq_iff_eq]; split <;> omega
    by_cases c : n = top w ∨ n = -top w
    · have hg : ¬ (bitOk w n = true ∧ n ≠ top w ∧ n ≠ -top w) := by omega
      simp only [partOf]; rw [if_neg hg]
      rcases r.1 with rfl | rfl
      · simp only [if_true]; rw [if_pos (ht.mpr c)]
      · simp only [show ¬ (64 : Int) = 32 by decide, if_false, if_true]; rw [if_pos (ht.mpr c)]
    · have hg : bitOk w n = true ∧ n ≠ top w ∧ n ≠ -top w := ⟨h, by omega, by omega⟩
      simp only [partOf]; rw [if_pos hg]
      generalize (if n < 0 then -n else n) = s at hs0 ht ⊢
      rcases r.1 with rfl | rfl
      · rw [top_32] at hs0
        have q1 : shl .i64 1 23 = 8388608 := by decide +kernel
        have q2 : shr .i64 s 23 = s / 8388608 := by simp [shr, IntKind.bits]
        simp only [if_true, q1, q2]
        rw [if_neg (fun q => c (ht.mp q)), if_pos (by decide), show wrap64 (8388608 - 1) = 8388607 from by decide +kernel, i64_mask23 s hs0.1 (by omega)]
        by_cases z : s / 8388608 = 0
        · rw [if_pos z, if_pos z, u64w, show s % 8388608 % 18446744073709551616 = s % 8388608 from by omega]
        · rw [if_neg z, if_neg z, i64_or23 _ (by omega) (by omega), u64w]; congr 3
          · omega
          · congr 1; unfold wrap64; omega
      · rw [top_64] at hs0
        have q1 : shl .i64 1 52 = 4503599627370496 := by decide +kernel
        have q2 : shr .i64 s 52 = s / 4503599627370496 := by simp [shr, IntKind.bits]
        simp only [show ¬ (64 : Int) = 32 by decide, if_false, if_true, q1, q2]
        rw [if_neg (fun q => c (ht.mp q)), if_pos (by decide), show wrap64 (4503599627370496 - 1) = 4503599627370495 from by decide +kernel, i64_mask52 s hs0.1 (by omega)]
        by_cases z : s / 4503599627370496 = 0
        · rw [if_pos z, if_pos z, u64w, show s % 4503599627370496 % 18446744073709551616 = s % 4503599627370496 from by omega]
        · rw [if_neg z, if_neg z, i64_or52 _ (by omega) (by omega), u64w]; congr 3
          · omega
          · congr 1; unfold wrap64; omega
  · simp [h, partOf]
theorem FnExactBitPartOf : laws_FnExactBitPartOf.Pure := by
  intro w n _ _
  refine ⟨1, ?_⟩
  unfold laws_FnExactBitPartOf.f
  simp only [e_sPartOf 0, e_iPartOf 0, Option.bind_some, laws_eqBitPart.f]
  simp
end Go.Proofs.Ytkpholdkijlogaa.Pure
