/- PairMeet of the program and of the reference agree for every width and all two pairs.
   Conditions: none beyond those of the given row (each number is of its kind). -/
import Derived.Test.YtkpholdkijlogaaQFnExactPairMeetx4
import Derived.Test.YtkpholdkijlogaaMB
namespace Go.Proofs.Ytkpholdkijlogaa.Pure
open Go.RowKit Go.Proofs.Ytkpholdkijlogaa.QFnExactPairMeet Go.Proofs.YtkpholdkijlogaaW.PrintWords Go.Proofs.YtkpholdkijlogaaW.PrintLast Go.Proofs.YtkpholdkijlogaaW.PrintMore Go.Proofs.Ytkpholdkijlogaa.M
set_option linter.unusedVariables false
set_option linter.unusedSimpArgs false
theorem e_sBitTop (w : Int) : spec_BitTop.f w = some (top w) := by
  unfold spec_BitTop.f top; split
  · rfl
  · split <;> rfl
theorem e_formatOf (w : Int) : impl_formatOf.f w = some (if w = 32 then (23, -149, 127, top w, true) else if w = 64 then (52, -1074, 1023, top w, true) else (0, 0, 0, top w, false)) := by
  unfold impl_formatOf.f top
  by_cases h : w = 32
  · simp [h]
  · by_cases h' : w = 64
    · simp [h']
    · simp [h, h']
theorem e_iBitTop (w : Int) : impl_BitTop.f w = some (top w) := by
  unfold impl_BitTop.f; rw [e_formatOf]
  by_cases h : w = 32
  · simp [h]
  · by_cases h' : w = 64
    · simp [h']
    · simp [h, h']
theorem e_sBitOk (w n : Int) : spec_BitOk.f w n = some (bitOk w n) := by
  unfold spec_BitOk.f spec_l1Width.f
  simp only [e_sBitTop, Option.bind_some, top_neg, bitOk]
  by_cases h : w = 32
  · subst h; simp; split <;> simp_all; omega
  · by_cases h' : w = 64
    · subst h'; simp; split <;> simp_all; omega
    · simp [h, h']
theorem e_in (n a b : Int) : impl_in.f n a b = some (decide (a ≤ n ∧ n ≤ b)) := by
  unfold impl_in.f; split
  · simp_all
  · simp; omega
theorem e_iBitOk (w n : Int) : impl_BitOk.f w n = some (bitOk w n) := by
  unfold impl_BitOk.f
  simp only [e_formatOf, Option.bind_some, e_in]
  by_cases h : w = 32
  · subst h; simp [bitOk, top_neg]
  · by_cases h' : w = 64
    · subst h'; simp [bitOk, top_neg]
    · simp [h, h', bitOk]
theorem e_sPairOk (w a b : Int) : spec_PairOk.f w a b = some (pairOk w a b) := by
  unfold spec_PairOk.f
  simp only [e_sBitTop, e_sBitOk, Option.bind_some, top_neg]
  have no : ∀ h : ¬ ((w = 32 ∨ w = 64) ∧ -top w ≤ a ∧ a ≤ b ∧ b ≤ top w ∧ a ≠ top w ∧ b ≠ -top w), some false = some (pairOk w a b) := fun h => by rw [pairOk, decide_eq_false h]
  by_cases h1 : bitOk w a = true
  · by_cases h2 : bitOk w b = true
    · have q1 := bitOk_iff.mp h1
      have q2 := bitOk_iff.mp h2
      rw [if_pos h1, if_pos h2]
      by_cases c1 : a ≤ b
      · rw [if_pos c1]
        by_cases c2 : a < top w
        · rw [if_pos c2, pairOk]; congr 1; rw [decide_eq_decide]; omega
        · rw [if_neg c2]; exact no (by omega)
      · rw [if_neg c1]; exact no (by omega)
    · rw [if_pos h1, if_neg h2]; exact no (fun q => h2 (bitOk_iff.mpr (by omega)))
  · rw [if_neg h1]; exact no (fun q => h1 (bitOk_iff.mpr (by omega)))
theorem e_iPairOk (w a b : Int) : impl_PairOk.f w a b = some (pairOk w a b) := by
  unfold impl_PairOk.f
  simp only [e_iBitTop, e_iBitOk, Option.bind_some, top_neg]
  have no : ∀ h : ¬ ((w = 32 ∨ w = 64) ∧ -top w ≤ a ∧ a ≤ b ∧ b ≤ top w ∧ a ≠ top w ∧ b ≠ -top w), some false = some (pairOk w a b) := fun h => by rw [pairOk, decide_eq_false h]
  by_cases h1 : bitOk w a = true
  · by_cases h2 : bitOk w b = true
    · have q1 := bitOk_iff.mp h1
      have q2 := bitOk_iff.mp h2
      rw [if_pos h1, if_pos h2]
      by_cases c1 : a ≤ b
      · rw [if_pos c1]
        by_cases c2 : a = top w
        · rw [if_pos c2]; exact no (by omega)
        · rw [if_neg c2]; congr 1; rw [Bool.eq_iff_iff, bne_iff_ne, pairOk_iff]; omega
      · rw [if_neg c1]; exact no (by omega)
    · rw [if_pos h1, if_neg h2]; exact no (fun q => h2 (bitOk_iff.mpr (by omega)))
  · rw [if_neg h1]; exact no (fun q => h1 (bitOk_iff.mpr (by omega)))
theorem e_sMax (a b : Int) : spec_l3Max.f a b = some (mx a b) := by
  unfold spec_l3Max.f mx; by_cases h : a > b
  · rw [if_pos h, if_neg (by omega)]
  · rw [if_neg h]; by_cases h2 : a < b
    · rw [if_pos h2]
    · rw [if_neg h2]; congr 1; omega
theorem e_sMin (a b : Int) : spec_l3Min.f a b = some (mn a b) := by
  unfold spec_l3Min.f mn; by_cases h : a < b
  · rw [if_pos h, if_neg (by omega)]
  · rw [if_neg h]; by_cases h2 : b < a
    · rw [if_pos h2]
    · rw [if_neg h2]; congr 1; omega
theorem e_sPairMeet (w a b c d : Int) : spec_PairMeet.f w a b c d = some (if pairOk w a b = true ∧ pairOk w c d = true ∧ mx a c ≤ mn b d then (mx a c, mn b d, true) else (0, 0, false)) := by
  unfold spec_PairMeet.f
  simp only [e_sMax, e_sMin, e_sPairOk, Option.bind_some]
  by_cases h : pairOk w a b = true
  · by_cases h' : pairOk w c d = true
    · simp only [h, h', if_true, true_and]
      by_cases q : mx a c ≤ mn b d
      · rw [if_pos q, if_neg (by omega)]
      · rw [if_neg q, if_pos (by omega)]
    · simp [h, h']
  · simp [h]
theorem FnExactPairMeet : laws_FnExactPairMeet.Pure := by
  intro w a b c d _ _ _ _ _
  unfold laws_FnExactPairMeet.f laws_toPair.f impl_PairMeet.f
  simp only [Option.bind_some, e_sPairMeet, e_iPairOk, laws_eqPair.f]
  by_cases h : pairOk w a b = true <;> by_cases h' : pairOk w c d = true <;> simp [h, h']
  by_cases q : mx a c ≤ mn b d <;> simp [q, pairOk_meet h h']
end Go.Proofs.Ytkpholdkijlogaa.Pure
