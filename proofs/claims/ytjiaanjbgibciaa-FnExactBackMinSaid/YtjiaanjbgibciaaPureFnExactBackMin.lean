/- BackMin of the program and of the reference agree for every width and all three spans.
   Conditions: none beyond those of the given row (each number is of its kind). -/
import Derived.Test.YtjiaanjbgibciaaQFnExactBackMinx7
import Derived.Test.YtjiaanjbgibciaaMB
namespace Go.Proofs.Ytjiaanjbgibciaa.Pure
open Go.RowKit Go.Proofs.Ytjiaanjbgibciaa.QFnExactBackMin Go.Proofs.YtjiaanjbgibciaaW.PrintWords Go.Proofs.YtjiaanjbgibciaaW.PrintLast Go.Proofs.YtjiaanjbgibciaaW.PrintMore Go.Proofs.Ytjiaanjbgibciaa.M
set_option linter.unusedVariables false
set_option linter.unusedSimpArgs false
theorem e_sBitTop (w : Int) : spec_BitTop.f w = some (top w) := by
  unfold spec_BitTop.f top; split
  · rfl
  · split <;> rfl
theorem e_formatOf (w : Int) : impl_formatOf.f w = some (if w = 32 then (23, -149, 127, top w, true) else if w = 64 then (52, -1074, 1023, top w, true) else (0, 0, 0, top w, false)) := by
  unfold impl_formatOf.f top
  by_cases h : w = 32
  · simp [h]
  · by_cases h' : w = 64
    · simp [h']
    · simp [h, h']
theorem e_iBitTop (w : Int) : impl_BitTop.f w = some (top w) := by
  unfold impl_BitTop.f; rw [e_formatOf]
  by_cases h : w = 32
  · simp [h]
  · by_cases h' : w = 64
    · simp [h']
    · simp [h, h']
theorem e_sBitOk (w n : Int) : spec_BitOk.f w n = some (bitOk w n) := by
  unfold spec_BitOk.f spec_l1Width.f
  simp only [e_sBitTop, Option.bind_some, top_neg, bitOk]
  by_cases h : w = 32
  · subst h; simp; split <;> simp_all; omega
  · by_cases h' : w = 64
    · subst h'; simp; split <;> simp_all; omega
    · simp [h, h']
theorem e_in (n a b : Int) : impl_in.f n a b = some (decide (a ≤ n ∧ n ≤ b)) := by
  unfold impl_in.f; split
  · simp_all
  · simp; omega
theorem e_iBitOk (w n : Int) : impl_BitOk.f w n = some (bitOk w n) := by
  unfold impl_BitOk.f
  simp only [e_formatOf, Option.bind_some, e_in]
  by_cases h : w = 32
  · subst h; simp [bitOk, top_neg]
  · by_cases h' : w = 64
    · subst h'; simp [bitOk, top_neg]
    · simp [h, h', bitOk]
theorem e_sPairOk (w a b : Int) : spec_PairOk.f w a b = some (pairOk w a b) := by
  unfold spec_PairOk.f
  simp only [e_sBitTop, e_sBitOk, Option.bind_some, top_neg]
  have no : ∀ h : ¬ ((w = 32 ∨ w = 64) ∧ -top w ≤ a ∧ a ≤ b ∧ b ≤ top w ∧ a ≠ top w ∧ b ≠ -top w), some false = some (pairOk w a b) := fun h => by rw [pairOk, decide_eq_false h]
  by_cases h1 : bitOk w a = true
  · by_cases h2 : bitOk w b = true
    · have q1 := bitOk_iff.mp h1
      have q2 := bitOk_iff.mp h2
      rw [if_pos h1, if_pos h2]
      by_cases c1 : a ≤ b
      · rw [if_pos c1]
        by_cases c2 : a < top w
        · rw [if_pos c2, pairOk]; congr 1; rw [decide_eq_decide]; omega
        · rw [if_neg c2]; exact no (by omega)
      · rw [if_neg c1]; exact no (by omega)
    · rw [if_pos h1, if_neg h2]; exact no (fun q => h2 (bitOk_iff.mpr (by omega)))
  · rw [if_neg h1]; exact no (fun q => h1 (bitOk_iff.mpr (by omega)))
theorem e_iPairOk (w a b : Int) : impl_PairOk.f w a b = some (pairOk w a b) := by
  unfold impl_PairOk.f
  simp only [e_iBitTop, e_iBitOk, Option.bind_some, top_neg]
  have no : ∀ h : ¬ ((w = 32 ∨ w = 64) ∧ -top w ≤ a ∧ a ≤ b ∧ b ≤ top w ∧ a ≠ top w ∧ b ≠ -top w), some false = some (pairOk w a b) := fun h => by rw [pairOk, decide_eq_false h]
  by_cases h1 : bitOk w a = true
  · by_cases h2 : bitOk w b = true
    · have q1 := bitOk_iff.mp h1
      have q2 := bitOk_iff.mp h2
      rw [if_pos h1, if_pos h2]
      by_cases c1 : a ≤ b
      · rw [if_pos c1]
        by_cases c2 : a = top w
        · rw [if_pos c2]; exact no (by omega)
        · rw [if_neg c2]; congr 1; rw [Bool.eq_iff_iff, bne_iff_ne, pairOk_iff]; omega
      · rw [if_neg c1]; exact no (by omega)
    · rw [if_pos h1, if_neg h2]; exact no (fun q => h2 (bitOk_iff.mpr (by omega)))
  · rw [if_neg h1]; exact no (fun q => h1 (bitOk_iff.mpr (by omega)))
theorem e_sMax (a b : Int) : spec_l3Max.f a b = some (mx a b) := by
  unfold spec_l3Max.f mx; by_cases h : a > b
  · rw [if_pos h, if_neg (by omega)]
  · rw [if_neg h]; by_cases h2 : a < b
    · rw [if_pos h2]
    · rw [if_neg h2]; congr 1; omega
theorem e_sMin (a b : Int) : spec_l3Min.f a b = some (mn a b) := by
  unfold spec_l3Min.f mn; by_cases h : a < b
  · rw [if_pos h, if_neg (by omega)]
  · rw [if_neg h]; by_cases h2 : b < a
    · rw [if_pos h2]
    · rw [if_neg h2]; congr 1; omega
theorem e_sSpanOk (w : Int) (s : Bool) (a b : Int) : spec_SpanOk.f w s a b = some (spanOk w s a b) := by
  unfold spec_SpanOk.f spec_l9Pair.f spec_l1Width.f
  cases s
  · simp only [Bool.false_eq_true, if_false, spanOk]
    by_cases h : w = 32
    · simp only [h, if_true, Option.bind_some]; by_cases h2 : a = 0 <;> by_cases h3 : b = 0 <;> simp [h2, h3]
    · by_cases h' : w = 64
      · simp only [h', if_true, if_false, Option.bind_some]; by_cases h2 : a = 0 <;> by_cases h3 : b = 0 <;> simp [h2, h3]
      · simp [h, h']
  · simp [e_sPairOk, spanOk]
theorem e_iSpanOk (w : Int) (s : Bool) (a b : Int) : impl_SpanOk.f w s a b = some (spanOk w s a b) := by
  unfold impl_SpanOk.f
  simp only [e_formatOf, e_iPairOk, Option.bind_some]
  have hb : ∀ h : ¬ (w = 32 ∨ w = 64), spanOk w s a b = false := fun h => by
    cases s
    · simp only [spanOk, Bool.false_eq_true, if_false]; exact decide_eq_false (fun q => h q.1)
    · simp only [spanOk, if_true, pairOk]; exact decide_eq_false (fun q => h q.1)
  by_cases h : w = 32
  · subst h
    cases s
    · simp only [if_true, Bool.false_eq_true, if_false, spanOk]
      by_cases h2 : a = 0 <;> by_cases h3 : b = 0 <;> simp [h2, h3]
    · simp only [if_true, spanOk]; by_cases q : pairOk 32 a b = true <;> simp [q]
  · by_cases h' : w = 64
    · subst h'
      cases s
      · simp only [if_true, Bool.false_eq_true, if_false, spanOk, show ¬ (64 : Int) = 32 by decide]
        by_cases h2 : a = 0 <;> by_cases h3 : b = 0 <;> simp [h2, h3]
      · simp only [if_true, spanOk, show ¬ (64 : Int) = 32 by decide, if_false]; by_cases q : pairOk 64 a b = true <;> simp [q]
    · rw [hb (by omega)]; simp [h, h']
theorem e_sBoth (w : Int) (s : Bool) (a b : Int) (s' : Bool) (c d : Int) : spec_l9Both.f w s a b s' c d = some ((s && pairOk w a b) && (s' && pairOk w c d)) := by
  unfold spec_l9Both.f
  simp only [e_sSpanOk, Option.bind_some]
  cases s <;> cases s' <;> simp [spanOk]
  by_cases h : pairOk w a b = true <;> by_cases h' : pairOk w c d = true <;> simp [h, h']
theorem e_full_l0 (w : Int) (xs : List S23) (hx : xs.length ≤ 1000) (d : Nat) : ∀ (i : Nat) (k : Nat), i + d = xs.length → d < k → impl_full.l0 k w xs (xs.length : Int) (i : Int) = some ((xs.drop i).all fun s => s.f0 && pairOk w s.f1 s.f2) := by
  induction d with
  | zero =>
    intro i k hi hk
    obtain ⟨k, rfl⟩ : ∃ m, k = m + 1 := ⟨k - 1, by omega⟩
    simp only [impl_full.l0]; rw [if_neg (by omega), List.drop_of_length_le (by omega)]; rfl
  | succ d ih =>
    intro i k hi hk
    obtain ⟨k, rfl⟩ : ∃ m, k = m + 1 := ⟨k - 1, by omega⟩
    have hlt : i < xs.length := by omega
    have hrd : rd_T23 xs (i : Int) = xs[i] := by simp [rd_T23, List.getD_eq_getElem?_getD, List.getElem?_eq_getElem hlt]
    simp only [impl_full.l0]
    rw [if_pos (by omega), if_pos (by omega), if_pos (by omega), hrd, e_iSpanOk, List.drop_eq_getElem_cons hlt, List.all_cons]
    cases hs : xs[i].f0
    · simp
    · simp only [if_true, Option.bind_some, spanOk, Bool.true_and]
      by_cases q : pairOk w xs[i].f1 xs[i].f2 = true
      · rw [if_pos q, q, Bool.true_and, show wrap64 ((i : Int) + 1) = ((i + 1 : Nat) : Int) from by unfold wrap64; omega]
        exact ih (i + 1) k (by omega) (by omega)
      · simp [q]
theorem e_full2 (k : Nat) (w : Int) (s : Bool) (a b : Int) (s' : Bool) (c d : Int) : impl_full.f (k + 4) w [⟨s, a, b⟩, ⟨s', c, d⟩] = some ((s && pairOk w a b) && (s' && pairOk w c d)) := by
  have := e_full_l0 w [⟨s, a, b⟩, ⟨s', c, d⟩] (by simp) 2 0 (k + 4) (by simp) (by omega)
  unfold impl_full.f; simpa using this
theorem e_full3 (k : Nat) (w : Int) (s : Bool) (a b : Int) (s' : Bool) (c d : Int) (s2 : Bool) (e f : Int) : impl_full.f (k + 4) w [⟨s, a, b⟩, ⟨s', c, d⟩, ⟨s2, e, f⟩] = some ((s && pairOk w a b) && ((s' && pairOk w c d) && (s2 && pairOk w e f))) := by
  have := e_full_l0 w [⟨s, a, b⟩, ⟨s', c, d⟩, ⟨s2, e, f⟩] (by simp) 3 0 (k + 4) (by simp) (by omega)
  unfold impl_full.f; simpa using this
theorem e_sPairMeet (w a b c d : Int) : spec_PairMeet.f w a b c d = some (if pairOk w a b = true ∧ pairOk w c d = true ∧ mx a c ≤ mn b d then (mx a c, mn b d, true) else (0, 0, false)) := by
  unfold spec_PairMeet.f
  simp only [e_sMax, e_sMin, e_sPairOk, Option.bind_some]
  by_cases h : pairOk w a b = true
  · by_cases h' : pairOk w c d = true
    · simp only [h, h', if_true, true_and]
      by_cases q : mx a c ≤ mn b d
      · rw [if_pos q, if_neg (by omega)]
      · rw [if_neg q, if_pos (by omega)]
    · simp [h, h']
  · simp [h]
def meet (w : Int) (s : Bool) (a b : Int) (s' : Bool) (c d : Int) : Bool × Int × Int := if (s && pairOk w a b) = true ∧ (s' && pairOk w c d) = true ∧ mx a c ≤ mn b d then (true, mx a c, mn b d) else (false, 0, 0)
theorem e_sSpanMeet (w : Int) (s : Bool) (a b : Int) (s' : Bool) (c d : Int) : spec_SpanMeet.f w s a b s' c d = some (meet w s a b s' c d) := by
  unfold spec_SpanMeet.f spec_l9Pair.f spec_l9Of.f meet
  simp only [e_sBoth, e_sPairMeet, Option.bind_some]
  cases s <;> cases s' <;> simp
  by_cases h : pairOk w a b = true <;> by_cases h' : pairOk w c d = true <;> by_cases q : mx a c ≤ mn b d <;> simp [h, h', q]
theorem e_iSpanMeet (k : Nat) (w : Int) (s : Bool) (a b : Int) (s' : Bool) (c d : Int) : impl_SpanMeet.f (k + 4) w s a b s' c d = some (meet w s a b s' c d) := by
  unfold impl_SpanMeet.f impl_some.f meet
  simp only [e_full2, e_iSpanOk, Option.bind_some, spanOk_true]
  cases s <;> cases s' <;> simp
  by_cases h : pairOk w a b = true <;> by_cases h' : pairOk w c d = true <;> simp [h, h']
  by_cases q : mx a c ≤ mn b d <;> simp [q, pairOk_meet h h', spanOk_true]
theorem e_eqSpan (x : Bool × Int × Int) : laws_eqSpan.f x.1 x.2.1 x.2.2 x.1 x.2.1 x.2.2 = some true := by
  unfold laws_eqSpan.f; simp
def backMin (w : Int) (s1 : Bool) (a b : Int) (s2 : Bool) (c d : Int) (s3 : Bool) (e f : Int) : Bool × Int × Int := if ((s1 && pairOk w a b) && ((s2 && pairOk w c d) && (s3 && pairOk w e f))) = true ∧ ¬ d < a then (if c > b then meet w s3 e f s1 a b else meet w s3 e f true a (top w)) else (false, 0, 0)
theorem e_sThree (w : Int) (s1 : Bool) (a b : Int) (s2 : Bool) (c d : Int) (s3 : Bool) (e f : Int) : spec_l10Three.f w s1 a b s2 c d s3 e f = some ((s1 && pairOk w a b) && ((s2 && pairOk w c d) && (s3 && pairOk w e f))) := by
  unfold spec_l10Three.f
  simp only [e_sBoth, e_sSpanOk, Option.bind_some]
  cases s3 <;> cases (s1 && pairOk w a b) <;> cases (s2 && pairOk w c d) <;> simp [spanOk]
  cases pairOk w e f <;> rfl
theorem e_sBackMin (k : Nat) (w : Int) (s1 : Bool) (a b : Int) (s2 : Bool) (c d : Int) (s3 : Bool) (e f : Int) : spec_BackMin.f (k + 1) w s1 a b s2 c d s3 e f = some (backMin w s1 a b s2 c d s3 e f) := by
  unfold spec_BackMin.f backMin
  simp only [e_sThree, Option.bind_some, spec_BackMin.j0, e_sSpanMeet, e_sBitTop, spec_l9Of.f]
  by_cases h : ((s1 && pairOk w a b) && ((s2 && pairOk w c d) && (s3 && pairOk w e f))) = true
  · rw [if_pos h]
    by_cases q : d < a
    · rw [if_pos (decide_eq_true q), if_neg (fun x => x.2 q)]
    · rw [if_neg (by simpa using q), if_pos (And.intro h q)]; split <;> rfl
  · rw [if_neg h]; (first | rw [if_pos rfl] | rw [if_pos trivial]); rw [if_neg (fun x => h x.1)]
theorem e_iBackMin (k : Nat) (w : Int) (s1 : Bool) (a b : Int) (s2 : Bool) (c d : Int) (s3 : Bool) (e f : Int) : impl_BackMin.f (k + 5) w s1 a b s2 c d s3 e f = some (backMin w s1 a b s2 c d s3 e f) := by
  unfold impl_BackMin.f backMin
  rw [show k + 5 = (k + 1) + 4 from rfl, e_full3 (k + 1)]
  simp only [Option.bind_some]
  rw [show (k + 1) + 4 = (k + 4) + 1 from rfl]
  simp only [impl_BackMin.j0, e_iSpanMeet k, e_iBitTop, impl_from.f, impl_some.f, Option.bind_some]
  by_cases h : ((s1 && pairOk w a b) && ((s2 && pairOk w c d) && (s3 && pairOk w e f))) = true
  · rw [if_pos h]
    by_cases q : d < a
    · rw [if_pos (decide_eq_true q), if_neg (fun x => x.2 q)]
    · rw [if_neg (by simpa using q), if_pos (And.intro h q)]; split <;> rfl
  · rw [if_neg h]; (first | rw [if_pos rfl] | rw [if_pos trivial]); rw [if_neg (fun x => h x.1)]
theorem FnExactBackMin : laws_FnExactBackMin.Pure := by
  intro w s1 a b s2 c d s3 e f _ _ _ _ _ _ _
  refine ⟨5, ?_⟩
  unfold laws_FnExactBackMin.f laws_toSpan.f
  simp only [Option.bind_some, e_sBackMin 4, e_iBackMin 0, e_eqSpan, if_true]
end Go.Proofs.Ytjiaanjbgibciaa.Pure
