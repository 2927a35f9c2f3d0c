/- SpanHull of the program and of the reference agree for every width and all two spans.
   Conditions: none beyond those of the given row (each number is of its kind). -/
import Derived.Test.YtjiaanjbgibciaaQFnExactSpanHullx4
import Derived.Test.YtjiaanjbgibciaaMB
namespace Go.Proofs.Ytjiaanjbgibciaa.Pure
open Go.RowKit Go.Proofs.Ytjiaanjbgibciaa.QFnExactSpanHull Go.Proofs.YtjiaanjbgibciaaW.PrintWords Go.Proofs.YtjiaanjbgibciaaW.PrintLast Go.Proofs.YtjiaanjbgibciaaW.PrintMore Go.Proofs.Ytjiaanjbgibciaa.M
set_option linter.unusedVariables false
set_option linter.unusedSimpArgs false
theorem e_sBitTop (w : Int) : spec_BitTop.f w = some (top w) := by
  unfold spec_BitTop.f top; split
  · rfl
  · split <;> rfl
theorem e_formatOf (w : Int) : impl_formatOf.f w = some (if w = 32 then (23, -149, 127, top w, true) else if w = 64 then (52, -1074, 1023, top w, true) else (0, 0, 0, top w, false)) := by
  unfold impl_formatOf.f top
  by_cases h : w = 32
  · simp [h]
  · by_cases h' : w = 64
    · simp [h']
    · simp [h, h']
theorem e_iBitTop (w : Int) : impl_BitTop.f w = some (top w) := by
  unfold impl_BitTop.f; rw [e_formatOf]
  by_cases h : w = 32
  · simp [h]
  · by_cases h' : w = 64
    · simp [h']
    · simp [h, h']
theorem e_sBitOk (w n : Int) : spec_BitOk.f w n = some (bitOk w n) := by
  unfold spec_BitOk.f spec_l1Width.f
  simp only [e_sBitTop, Option.bind_some, top_neg, bitOk]
  by_cases h : w = 32
  · subst h; simp; split <;> simp_all; omega
  · by_cases h' : w = 64
    · subst h'; simp; split <;> simp_all; omega
    · simp [h, h']
theorem e_in (n a b : Int) : impl_in.f n a b = some (decide (a ≤ n ∧ n ≤ b)) := by
  unfold impl_in.f; split
  · simp_all
  · simp; omega
theorem e_iBitOk (w n : Int) : impl_BitOk.f w n = some (bitOk w n) := by
  unfold impl_BitOk.f
  simp only [e_formatOf, Option.bind_some, e_in]
  by_cases h : w = 32
  · subst h; simp [bitOk, top_neg]
  · by_cases h' : w = 64
    · subst h'; simp [bitOk, top_neg]
    · simp [h, h', bitOk]
theorem e_sPairOk (w a b : Int) : spec_PairOk.f w a b = some (pairOk w a b) := by
  unfold spec_PairOk.f
  simp only [e_sBitTop, e_sBitOk, Option.bind_some, top_neg]
  have no : ∀ h : ¬ ((w = 32 ∨ w = 64) ∧ -top w ≤ a ∧ a ≤ b ∧ b ≤ top w ∧ a ≠ top w ∧ b ≠ -top w), some false = some (pairOk w a b) := fun h => by rw [pairOk, decide_eq_false h]
  by_cases h1 : bitOk w a = true
  · by_cases h2 : bitOk w b = true
    · have q1 := bitOk_iff.mp h1
      have q2 := bitOk_iff.mp h2
      rw [if_pos h1, if_pos h2]
      by_cases c1 : a ≤ b
      · rw [if_pos c1]
        by_cases c2 : a < top w
        · rw [if_pos c2, pairOk]; congr 1; rw [decide_eq_decide]; omega
        · rw [if_neg c2]; exact no (by omega)
      · rw [if_neg c1]; exact no (by omega)
    · rw [if_pos h1, if_neg h2]; exact no (fun q => h2 (bitOk_iff.mpr (by omega)))
  · rw [if_neg h1]; exact no (fun q => h1 (bitOk_iff.mpr (by omega)))
theorem e_iPairOk (w a b : Int) : impl_PairOk.f w a b = some (pairOk w a b) := by
  unfold impl_PairOk.f
  simp only [e_iBitTop, e_iBitOk, Option.bind_some, top_neg]
  have no : ∀ h : ¬ ((w = 32 ∨ w = 64) ∧ -top w ≤ a ∧ a ≤ b ∧ b ≤ top w ∧ a ≠ top w ∧ b ≠ -top w), some false = some (pairOk w a b) := fun h => by rw [pairOk, decide_eq_false h]
  by_cases h1 : bitOk w a = true
  · by_cases h2 : bitOk w b = true
    · have q1 := bitOk_iff.mp h1
      have q2 := bitOk_iff.mp h2
      rw [if_pos h1, if_pos h2]
      by_cases c1 : a ≤ b
      · rw [if_pos c1]
        by_cases c2 : a = top w
        · rw [if_pos c2]; exact no (by omega)
        · rw [if_neg c2]; congr 1; rw [Bool.eq_iff_iff, bne_iff_ne, pairOk_iff]; omega
      · rw [if_neg c1]; exact no (by omega)
    · rw [if_pos h1, if_neg h2]; exact no (fun q => h2 (bitOk_iff.mpr (by omega)))
  · rw [if_neg h1]; exact no (fun q => h1 (bitOk_iff.mpr (by omega)))
theorem e_sMax (a b : Int) : spec_l3Max.f a b = some (mx a b) := by
  unfold spec_l3Max.f mx; by_cases h : a > b
  · rw [if_pos h, if_neg (by omega)]
  · rw [if_neg h]; by_cases h2 : a < b
    · rw [if_pos h2]
    · rw [if_neg h2]; congr 1; omega
theorem e_sMin (a b : Int) : spec_l3Min.f a b = some (mn a b) := by
  unfold spec_l3Min.f mn; by_cases h : a < b
  · rw [if_pos h, if_neg (by omega)]
  · rw [if_neg h]; by_cases h2 : b < a
    · rw [if_pos h2]
    · rw [if_neg h2]; congr 1; omega
theorem e_sSpanOk (w : Int) (s : Bool) (a b : Int) : spec_SpanOk.f w s a b = some (spanOk w s a b) := by
  unfold spec_SpanOk.f spec_l9Pair.f spec_l1Width.f
  cases s
  · simp only [Bool.false_eq_true, if_false, spanOk]
    by_cases h : w = 32
    · simp only [h, if_true, Option.bind_some]; by_cases h2 : a = 0 <;> by_cases h3 : b = 0 <;> simp [h2, h3]
    · by_cases h' : w = 64
      · simp only [h', if_true, if_false, Option.bind_some]; by_cases h2 : a = 0 <;> by_cases h3 : b = 0 <;> simp [h2, h3]
      · simp [h, h']
  · simp [e_sPairOk, spanOk]
theorem e_iSpanOk (w : Int) (s : Bool) (a b : Int) : impl_SpanOk.f w s a b = some (spanOk w s a b) := by
  unfold impl_SpanOk.f
  simp only [e_formatOf, e_iPairOk, Option.bind_some]
  have hb : ∀ h : ¬ (w = 32 ∨ w = 64), spanOk w s a b = false := fun h => by
    cases s
    · simp only [spanOk, Bool.false_eq_true, if_false]; exact decide_eq_false (fun q => h q.1)
    · simp only [spanOk, if_true, pairOk]; exact decide_eq_false (fun q => h q.1)
  by_cases h : w = 32
  · subst h
    cases s
    · simp only [if_true, Bool.false_eq_true, if_false, spanOk]
      by_cases h2 : a = 0 <;> by_cases h3 : b = 0 <;> simp [h2, h3]
    · simp only [if_true, spanOk]; by_cases q : pairOk 32 a b = true <;> simp [q]
  · by_cases h' : w = 64
    · subst h'
      cases s
      · simp only [if_true, Bool.false_eq_true, if_false, spanOk, show ¬ (64 : Int) = 32 by decide]
        by_cases h2 : a = 0 <;> by_cases h3 : b = 0 <;> simp [h2, h3]
      · simp only [if_true, spanOk, show ¬ (64 : Int) = 32 by decide, if_false]; by_cases q : pairOk 64 a b = true <;> simp [q]
    · rw [hb (by omega)]; simp [h, h']
def hull (w : Int) (s : Bool) (a b : Int) (s' : Bool) (c d : Int) : Bool × Int × Int := if spanOk w s a b = true ∧ spanOk w s' c d = true then (if s = true then (if s' = true then (true, mn a c, mx b d) else (s, a, b)) else (s', c, d)) else (false, 0, 0)
theorem e_sSpanHull (k : Nat) (w : Int) (s : Bool) (a b : Int) (s' : Bool) (c d : Int) : spec_SpanHull.f (k + 1) w s a b s' c d = some (hull w s a b s' c d) := by
  unfold spec_SpanHull.f spec_SpanHull.j0 spec_l9Of.f hull
  simp only [e_sSpanOk, e_sMax, e_sMin, Option.bind_some]
  by_cases h : spanOk w s a b = true <;> by_cases h' : spanOk w s' c d = true <;> cases s <;> cases s' <;> simp [h, h']
theorem e_iSpanHull (k : Nat) (w : Int) (s : Bool) (a b : Int) (s' : Bool) (c d : Int) : impl_SpanHull.f (k + 1) w s a b s' c d = some (hull w s a b s' c d) := by
  unfold impl_SpanHull.f impl_SpanHull.j0 impl_some.f hull
  simp only [e_iSpanOk, Option.bind_some]
  by_cases h : spanOk w s a b = true <;> by_cases h' : spanOk w s' c d = true <;> cases s <;> cases s' <;> simp [h, h']
/-- All numbers with the other sign. -/
theorem e_eqSpan (x : Bool × Int × Int) : laws_eqSpan.f x.1 x.2.1 x.2.2 x.1 x.2.1 x.2.2 = some true := by
  unfold laws_eqSpan.f; simp
theorem FnExactSpanHull : laws_FnExactSpanHull.Pure := by
  intro a0 s a b s' c d _ _ _ _ _
  refine ⟨1, ?_⟩
  unfold laws_FnExactSpanHull.f laws_toSpan.f
  simp only [Option.bind_some, e_sSpanHull 0, e_iSpanHull 0, e_eqSpan, if_true]
end Go.Proofs.Ytjiaanjbgibciaa.Pure
