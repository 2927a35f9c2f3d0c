/- RelMeet of the program and of the reference agree for every width, relation and two spans.
   Conditions: none beyond those of the given row (each number is of its kind). -/
import Derived.Test.YtlnihglcneaonaaQFnExactRelMeetx9
import Derived.Test.YtlnihglcneaonaaMB
namespace Go.Proofs.Ytlnihglcneaonaa.Pure
open Go.RowKit Go.Proofs.Ytlnihglcneaonaa.QFnExactRelMeet Go.Proofs.YtlnihglcneaonaaW.PrintWords Go.Proofs.YtlnihglcneaonaaW.PrintLast Go.Proofs.YtlnihglcneaonaaW.PrintMore Go.Proofs.Ytlnihglcneaonaa.M
set_option linter.unusedVariables false
set_option linter.unusedSimpArgs false
theorem e_sBitTop (w : Int) : spec_BitTop.f w = some (top w) := by
  unfold spec_BitTop.f top; split
  · rfl
  · split <;> rfl
theorem e_formatOf (w : Int) : impl_formatOf.f w = some (if w = 32 then (23, -149, 127, top w, true) else if w = 64 then (52, -1074, 1023, top w, true) else (0, 0, 0, top w, false)) := by
  unfold impl_formatOf.f top
  by_cases h : w = 32
  · simp [h]
  · by_cases h' : w = 64
    · simp [h']
    · simp [h, h']
theorem e_iBitTop (w : Int) : impl_BitTop.f w = some (top w) := by
  unfold impl_BitTop.f; rw [e_formatOf]
  by_cases h : w = 32
  · simp [h]
  · by_cases h' : w = 64
    · simp [h']
    · simp [h, h']
theorem e_sBitOk (w n : Int) : spec_BitOk.f w n = some (bitOk w n) := by
  unfold spec_BitOk.f spec_l1Width.f
  simp only [e_sBitTop, Option.bind_some, top_neg, bitOk]
  by_cases h : w = 32
  · subst h; simp; split <;> simp_all; omega
  · by_cases h' : w = 64
    · subst h'; simp; split <;> simp_all; omega
    · simp [h, h']
theorem e_in (n a b : Int) : impl_in.f n a b = some (decide (a ≤ n ∧ n ≤ b)) := by
  unfold impl_in.f; split
  · simp_all
  · simp; omega
theorem e_iBitOk (w n : Int) : impl_BitOk.f w n = some (bitOk w n) := by
  unfold impl_BitOk.f
  simp only [e_formatOf, Option.bind_some, e_in]
  by_cases h : w = 32
  · subst h; simp [bitOk, top_neg]
  · by_cases h' : w = 64
    · subst h'; simp [bitOk, top_neg]
    · simp [h, h', bitOk]
theorem e_sPairOk (w a b : Int) : spec_PairOk.f w a b = some (pairOk w a b) := by
  unfold spec_PairOk.f
  simp only [e_sBitTop, e_sBitOk, Option.bind_some, top_neg]
  have no : ∀ h : ¬ ((w = 32 ∨ w = 64) ∧ -top w ≤ a ∧ a ≤ b ∧ b ≤ top w ∧ a ≠ top w ∧ b ≠ -top w), some false = some (pairOk w a b) := fun h => by rw [pairOk, decide_eq_false h]
  by_cases h1 : bitOk w a = true
  · by_cases h2 : bitOk w b = true
    · have q1 := bitOk_iff.mp h1
      have q2 := bitOk_iff.mp h2
      rw [if_pos h1, if_pos h2]
      by_cases c1 : a ≤ b
      · rw [if_pos c1]
        by_cases c2 : a < top w
        · rw [if_pos c2, pairOk]; congr 1; rw [decide_eq_decide]; omega
        · rw [if_neg c2]; exact no (by omega)
      · rw [if_neg c1]; exact no (by omega)
    · rw [if_pos h1, if_neg h2]; exact no (fun q => h2 (bitOk_iff.mpr (by omega)))
  · rw [if_neg h1]; exact no (fun q => h1 (bitOk_iff.mpr (by omega)))
theorem e_iPairOk (w a b : Int) : impl_PairOk.f w a b = some (pairOk w a b) := by
  unfold impl_PairOk.f
  simp only [e_iBitTop, e_iBitOk, Option.bind_some, top_neg]
  have no : ∀ h : ¬ ((w = 32 ∨ w = 64) ∧ -top w ≤ a ∧ a ≤ b ∧ b ≤ top w ∧ a ≠ top w ∧ b ≠ -top w), some false = some (pairOk w a b) := fun h => by rw [pairOk, decide_eq_false h]
  by_cases h1 : bitOk w a = true
  · by_cases h2 : bitOk w b = true
    · have q1 := bitOk_iff.mp h1
      have q2 := bitOk_iff.mp h2
      rw [if_pos h1, if_pos h2]
      by_cases c1 : a ≤ b
      · rw [if_pos c1]
        by_cases c2 : a = top w
        · rw [if_pos c2]; exact no (by omega)
        · rw [if_neg c2]; congr 1; rw [Bool.eq_iff_iff, bne_iff_ne, pairOk_iff]; omega
      · rw [if_neg c1]; exact no (by omega)
    · rw [if_pos h1, if_neg h2]; exact no (fun q => h2 (bitOk_iff.mpr (by omega)))
  · rw [if_neg h1]; exact no (fun q => h1 (bitOk_iff.mpr (by omega)))
theorem e_sMax (a b : Int) : spec_l3Max.f a b = some (mx a b) := by
  unfold spec_l3Max.f mx; by_cases h : a > b
  · rw [if_pos h, if_neg (by omega)]
  · rw [if_neg h]; by_cases h2 : a < b
    · rw [if_pos h2]
    · rw [if_neg h2]; congr 1; omega
theorem e_sMin (a b : Int) : spec_l3Min.f a b = some (mn a b) := by
  unfold spec_l3Min.f mn; by_cases h : a < b
  · rw [if_pos h, if_neg (by omega)]
  · rw [if_neg h]; by_cases h2 : b < a
    · rw [if_pos h2]
    · rw [if_neg h2]; congr 1; omega
theorem e_sSpanOk (w : Int) (s : Bool) (a b : Int) : spec_SpanOk.f w s a b = some (spanOk w s a b) := by
  unfold spec_SpanOk.f spec_l9Pair.f spec_l1Width.f
  cases s
  · simp only [Bool.false_eq_true, if_false, spanOk]
    by_cases h : w = 32
    · simp only [h, if_true, Option.bind_some]; by_cases h2 : a = 0 <;> by_cases h3 : b = 0 <;> simp [h2, h3]
    · by_cases h' : w = 64
      · simp only [h', if_true, if_false, Option.bind_some]; by_cases h2 : a = 0 <;> by_cases h3 : b = 0 <;> simp [h2, h3]
      · simp [h, h']
  · simp [e_sPairOk, spanOk]
theorem e_iSpanOk (w : Int) (s : Bool) (a b : Int) : impl_SpanOk.f w s a b = some (spanOk w s a b) := by
  unfold impl_SpanOk.f
  simp only [e_formatOf, e_iPairOk, Option.bind_some]
  have hb : ∀ h : ¬ (w = 32 ∨ w = 64), spanOk w s a b = false := fun h => by
    cases s
    · simp only [spanOk, Bool.false_eq_true, if_false]; exact decide_eq_false (fun q => h q.1)
    · simp only [spanOk, if_true, pairOk]; exact decide_eq_false (fun q => h q.1)
  by_cases h : w = 32
  · subst h
    cases s
    · simp only [if_true, Bool.false_eq_true, if_false, spanOk]
      by_cases h2 : a = 0 <;> by_cases h3 : b = 0 <;> simp [h2, h3]
    · simp only [if_true, spanOk]; by_cases q : pairOk 32 a b = true <;> simp [q]
  · by_cases h' : w = 64
    · subst h'
      cases s
      · simp only [if_true, Bool.false_eq_true, if_false, spanOk, show ¬ (64 : Int) = 32 by decide]
        by_cases h2 : a = 0 <;> by_cases h3 : b = 0 <;> simp [h2, h3]
      · simp only [if_true, spanOk, show ¬ (64 : Int) = 32 by decide, if_false]; by_cases q : pairOk 64 a b = true <;> simp [q]
    · rw [hb (by omega)]; simp [h, h']
theorem e_sBoth (w : Int) (s : Bool) (a b : Int) (s' : Bool) (c d : Int) : spec_l9Both.f w s a b s' c d = some ((s && pairOk w a b) && (s' && pairOk w c d)) := by
  unfold spec_l9Both.f
  simp only [e_sSpanOk, Option.bind_some]
  cases s <;> cases s' <;> simp [spanOk]
  by_cases h : pairOk w a b = true <;> by_cases h' : pairOk w c d = true <;> simp [h, h']
theorem e_full_l0 (w : Int) (xs : List S24) (hx : xs.length ≤ 1000) (d : Nat) : ∀ (i : Nat) (k : Nat), i + d = xs.length → d < k → impl_full.l0 k w xs (xs.length : Int) (i : Int) = some ((xs.drop i).all fun s => s.f0 && pairOk w s.f1 s.f2) := by
  induction d with
  | zero =>
    intro i k hi hk
    obtain ⟨k, rfl⟩ : ∃ m, k = m + 1 := ⟨k - 1, by omega⟩
    simp only [impl_full.l0]; rw [if_neg (by omega), List.drop_of_length_le (by omega)]; rfl
  | succ d ih =>
    intro i k hi hk
    obtain ⟨k, rfl⟩ : ∃ m, k = m + 1 := ⟨k - 1, by omega⟩
    have hlt : i < xs.length := by omega
    have hrd : rd_T24 xs (i : Int) = xs[i] := by simp [rd_T24, List.getD_eq_getElem?_getD, List.getElem?_eq_getElem hlt]
    simp only [impl_full.l0]
    rw [if_pos (by omega), if_pos (by omega), if_pos (by omega), hrd, e_iSpanOk, List.drop_eq_getElem_cons hlt, List.all_cons]
    cases hs : xs[i].f0
    · simp
    · simp only [if_true, Option.bind_some, spanOk, Bool.true_and]
      by_cases q : pairOk w xs[i].f1 xs[i].f2 = true
      · rw [if_pos q, q, Bool.true_and, show wrap64 ((i : Int) + 1) = ((i + 1 : Nat) : Int) from by unfold wrap64; omega]
        exact ih (i + 1) k (by omega) (by omega)
      · simp [q]
theorem e_full2 (k : Nat) (w : Int) (s : Bool) (a b : Int) (s' : Bool) (c d : Int) : impl_full.f (k + 4) w [⟨s, a, b⟩, ⟨s', c, d⟩] = some ((s && pairOk w a b) && (s' && pairOk w c d)) := by
  have := e_full_l0 w [⟨s, a, b⟩, ⟨s', c, d⟩] (by simp) 2 0 (k + 4) (by simp) (by omega)
  unfold impl_full.f; simpa using this
theorem e_sPairMeet (w a b c d : Int) : spec_PairMeet.f w a b c d = some (if pairOk w a b = true ∧ pairOk w c d = true ∧ mx a c ≤ mn b d then (mx a c, mn b d, true) else (0, 0, false)) := by
  unfold spec_PairMeet.f
  simp only [e_sMax, e_sMin, e_sPairOk, Option.bind_some]
  by_cases h : pairOk w a b = true
  · by_cases h' : pairOk w c d = true
    · simp only [h, h', if_true, true_and]
      by_cases q : mx a c ≤ mn b d
      · rw [if_pos q, if_neg (by omega)]
      · rw [if_neg q, if_pos (by omega)]
    · simp [h, h']
  · simp [h]
def meet (w : Int) (s : Bool) (a b : Int) (s' : Bool) (c d : Int) : Bool × Int × Int := if (s && pairOk w a b) = true ∧ (s' && pairOk w c d) = true ∧ mx a c ≤ mn b d then (true, mx a c, mn b d) else (false, 0, 0)
theorem e_sSpanMeet (w : Int) (s : Bool) (a b : Int) (s' : Bool) (c d : Int) : spec_SpanMeet.f w s a b s' c d = some (meet w s a b s' c d) := by
  unfold spec_SpanMeet.f spec_l9Pair.f spec_l9Of.f meet
  simp only [e_sBoth, e_sPairMeet, Option.bind_some]
  cases s <;> cases s' <;> simp
  by_cases h : pairOk w a b = true <;> by_cases h' : pairOk w c d = true <;> by_cases q : mx a c ≤ mn b d <;> simp [h, h', q]
theorem e_iSpanMeet (k : Nat) (w : Int) (s : Bool) (a b : Int) (s' : Bool) (c d : Int) : impl_SpanMeet.f (k + 4) w s a b s' c d = some (meet w s a b s' c d) := by
  unfold impl_SpanMeet.f impl_some.f meet
  simp only [e_full2, e_iSpanOk, Option.bind_some, spanOk_true]
  cases s <;> cases s' <;> simp
  by_cases h : pairOk w a b = true <;> by_cases h' : pairOk w c d = true <;> simp [h, h']
  by_cases q : mx a c ≤ mn b d <;> simp [q, pairOk_meet h h', spanOk_true]
theorem e_eqSpan (x : Bool × Int × Int) : laws_eqSpan.f x.1 x.2.1 x.2.2 x.1 x.2.1 x.2.2 = some true := by
  unfold laws_eqSpan.f; simp
theorem rmr_s (r : Int) : spec_l10Rel.f r = some (decide (1 ≤ r ∧ r ≤ 3)) := by
  unfold spec_l10Rel.f
  by_cases h : r = 1
  · simp [h]
  · by_cases h2 : r = 2
    · simp [h2]
    · simp only [h, h2, if_false]; congr 1; rw [Bool.eq_iff_iff, beq_iff_eq, decide_eq_true_iff]; omega
def bad6 : Bool × Int × Int × Bool × Int × Int := (false, 0, 0, false, 0, 0)
def fin6 (x y : Bool × Int × Int) : Bool × Int × Int × Bool × Int × Int := if x.1 = true then (if y.1 = true then (x.1, x.2.1, x.2.2, y.1, y.2.1, y.2.2) else bad6) else bad6
def both (w : Int) (s : Bool) (a b : Int) (s' : Bool) (c d : Int) : Bool := (s && pairOk w a b) && (s' && pairOk w c d)
def rmL (w : Int) (s : Bool) (a b : Int) (s' : Bool) (c d : Int) : Bool × Int × Int × Bool × Int × Int := fin6 (meet w s a b true (wrap64 (-(top w))) d) (meet w s' c d true a (top w))
def rmE (w : Int) (s : Bool) (a b : Int) (s' : Bool) (c d : Int) : Bool × Int × Int × Bool × Int × Int := fin6 (meet w s a b s' c d) (meet w s a b s' c d)
def swap6 (p : Bool × Int × Int × Bool × Int × Int) : Bool × Int × Int × Bool × Int × Int := (p.2.2.2.1, p.2.2.2.2.1, p.2.2.2.2.2, p.1, p.2.1, p.2.2.1)
def rmO (w rel : Int) (s : Bool) (a b : Int) (s' : Bool) (c d : Int) : Bool × Int × Int × Bool × Int × Int := if rel = 1 then rmL w s a b s' c d else rmE w s a b s' c d
def rmA (w rel : Int) (s : Bool) (a b : Int) (s' : Bool) (c d : Int) : Bool × Int × Int × Bool × Int × Int := if both w s a b s' c d = true then (if 1 ≤ rel ∧ rel ≤ 3 then (if rel = 2 then swap6 (rmL w s' c d s a b) else rmO w rel s a b s' c d) else bad6) else bad6
theorem both_comm (w : Int) (s : Bool) (a b : Int) (s' : Bool) (c d : Int) : both w s a b s' c d = both w s' c d s a b := Bool.and_comm _ _
theorem fin6_s (x y : Bool × Int × Int) : (if x.1 = true then (if y.1 = true then some (x.1, x.2.1, x.2.2, y.1, y.2.1, y.2.2) else some (false, 0, 0, false, 0, 0)) else some (false, 0, 0, false, 0, 0)) = some (fin6 x y) := by
  unfold fin6 bad6
  by_cases h : x.1 = true
  · by_cases h' : y.1 = true
    · rw [if_pos h, if_pos h', if_pos h, if_pos h']
    · rw [if_pos h, if_neg h', if_pos h, if_neg h']
  · rw [if_neg h, if_neg h]
theorem fin6_e (x : Bool × Int × Int) : (if x.1 = true then some (x.1, x.2.1, x.2.2, x.1, x.2.1, x.2.2) else some (false, 0, 0, false, 0, 0)) = some (fin6 x x) := by
  unfold fin6 bad6
  by_cases h : x.1 = true
  · rw [if_pos h, if_pos h, if_pos h]
  · rw [if_neg h, if_neg h]
theorem rm_sj (k : Nat) (w rel : Int) (s : Bool) (a b : Int) (s' : Bool) (c d : Int) (h2 : rel ≠ 2) : spec_RelMeet.j0 (k + 1) w rel false s a b s' c d = some (rmO w rel s a b s' c d) := by
  rw [spec_RelMeet.j0, if_neg (show ¬ (false = true) by decide), if_neg h2, e_sSpanMeet, Option.bind_some]
  unfold rmO
  by_cases h1 : rel = 1
  · rw [if_pos h1, if_pos h1]
    simp only [e_sBitTop, spec_l9Of.f, e_sSpanMeet, Option.bind_some]
    exact fin6_s _ _
  · rw [if_neg h1, if_neg h1]
    exact fin6_e _
theorem rm_s1 (k : Nat) (w rel : Int) (s : Bool) (a b : Int) (s' : Bool) (c d : Int) (h2 : rel ≠ 2) : spec_RelMeet.f (k + 2) w rel s a b s' c d = some (rmA w rel s a b s' c d) := by
  rw [spec_RelMeet.f, e_sBoth, Option.bind_some]
  unfold rmA
  by_cases hb : both w s a b s' c d = true
  · rw [if_pos hb, if_pos (show ((s && pairOk w a b) && (s' && pairOk w c d)) = true from hb), rmr_s, Option.bind_some]
    by_cases hr : 1 ≤ rel ∧ rel ≤ 3
    · rw [if_pos hr, decide_eq_true hr, if_neg h2, Bool.not_true, rm_sj k _ _ _ _ _ _ _ _ h2]
    · rw [if_neg hr, decide_eq_false hr, Bool.not_false, spec_RelMeet.j0, if_pos rfl]; rfl
  · rw [if_neg hb, if_neg (show ¬ ((s && pairOk w a b) && (s' && pairOk w c d)) = true from hb), spec_RelMeet.j0, if_pos rfl]; rfl
theorem rm_s (k : Nat) (w rel : Int) (s : Bool) (a b : Int) (s' : Bool) (c d : Int) : spec_RelMeet.f (k + 4) w rel s a b s' c d = some (rmA w rel s a b s' c d) := by
  by_cases h2 : rel = 2
  · subst h2
    rw [show k + 4 = (k + 3) + 1 from rfl, spec_RelMeet.f, e_sBoth, Option.bind_some]
    unfold rmA
    by_cases hb : both w s a b s' c d = true
    · rw [if_pos hb, if_pos (show ((s && pairOk w a b) && (s' && pairOk w c d)) = true from hb), rmr_s, Option.bind_some, if_pos (show (1 : Int) ≤ 2 ∧ (2 : Int) ≤ 3 by decide), if_pos rfl, decide_eq_true (show (1 : Int) ≤ 2 ∧ (2 : Int) ≤ 3 by decide), Bool.not_true, show k + 3 = (k + 2) + 1 from rfl, spec_RelMeet.j0, if_neg (show ¬ (false = true) by decide), if_pos rfl, rm_s1 k w 1 s' c d s a b (by decide), Option.bind_some]
      have hb' : both w s' c d s a b = true := by rw [← both_comm]; exact hb
      unfold rmA rmO
      rw [if_pos hb', if_pos (show (1 : Int) ≤ 1 ∧ (1 : Int) ≤ 3 by decide), if_neg (show ¬ (1 : Int) = 2 by decide), if_pos rfl]
      rfl
    · rw [if_neg hb, if_neg (show ¬ ((s && pairOk w a b) && (s' && pairOk w c d)) = true from hb), show k + 3 = (k + 2) + 1 from rfl, spec_RelMeet.j0, if_pos rfl]; rfl
  · exact rm_s1 (k + 2) w rel s a b s' c d h2
theorem rm_ij (k : Nat) (w rel : Int) (s : Bool) (a b : Int) (s' : Bool) (c d : Int) (h2 : rel ≠ 2) : impl_RelMeet.j0 (k + 5) w rel false s a b s' c d = some (rmO w rel s a b s' c d) := by
  rw [show k + 5 = (k + 4) + 1 from rfl, impl_RelMeet.j0, if_neg (show ¬ (false = true) by decide), if_neg h2, e_iSpanMeet, Option.bind_some, Option.bind_some]
  unfold rmO
  by_cases h1 : rel = 1
  · rw [if_pos h1, if_pos h1]
    simp only [e_iBitTop, impl_from.f, impl_some.f, e_iSpanMeet, Option.bind_some]
    exact fin6_s _ _
  · rw [if_neg h1, if_neg h1]
    exact fin6_s _ _
theorem rm_i1 (k : Nat) (w rel : Int) (s : Bool) (a b : Int) (s' : Bool) (c d : Int) (h2 : rel ≠ 2) : impl_RelMeet.f (k + 6) w rel s a b s' c d = some (rmA w rel s a b s' c d) := by
  rw [show k + 6 = (k + 5) + 1 from rfl, impl_RelMeet.f, show k + 5 = (k + 1) + 4 from rfl, e_full2, Option.bind_some]
  unfold rmA
  by_cases hb : both w s a b s' c d = true
  · rw [if_pos hb, if_pos (show ((s && pairOk w a b) && (s' && pairOk w c d)) = true from hb), e_in, Option.bind_some]
    by_cases hr : 1 ≤ rel ∧ rel ≤ 3
    · rw [if_pos hr, decide_eq_true hr, if_neg h2, Bool.not_true]
      exact rm_ij k _ _ _ _ _ _ _ _ h2
    · rw [if_neg hr, decide_eq_false hr, Bool.not_false, show k + 1 + 4 = (k + 4) + 1 from by omega, impl_RelMeet.j0, if_pos rfl]; rfl
  · rw [if_neg hb, if_neg (show ¬ ((s && pairOk w a b) && (s' && pairOk w c d)) = true from hb), show k + 1 + 4 = (k + 4) + 1 from by omega, impl_RelMeet.j0, if_pos rfl]; rfl
theorem rm_i (k : Nat) (w rel : Int) (s : Bool) (a b : Int) (s' : Bool) (c d : Int) : impl_RelMeet.f (k + 8) w rel s a b s' c d = some (rmA w rel s a b s' c d) := by
  by_cases h2 : rel = 2
  · subst h2
    rw [show k + 8 = (k + 7) + 1 from rfl, impl_RelMeet.f, show k + 7 = (k + 3) + 4 from rfl, e_full2, Option.bind_some]
    unfold rmA
    by_cases hb : both w s a b s' c d = true
    · rw [if_pos hb, if_pos (show ((s && pairOk w a b) && (s' && pairOk w c d)) = true from hb), e_in, Option.bind_some, if_pos (show (1 : Int) ≤ 2 ∧ (2 : Int) ≤ 3 by decide), if_pos rfl, decide_eq_true (show (1 : Int) ≤ 2 ∧ (2 : Int) ≤ 3 by decide), Bool.not_true, show k + 3 + 4 = (k + 6) + 1 from by omega, impl_RelMeet.j0, if_neg (show ¬ (false = true) by decide), if_pos rfl, rm_i1 k w 1 s' c d s a b (by decide), Option.bind_some]
      have hb' : both w s' c d s a b = true := by rw [← both_comm]; exact hb
      unfold rmA rmO
      rw [if_pos hb', if_pos (show (1 : Int) ≤ 1 ∧ (1 : Int) ≤ 3 by decide), if_neg (show ¬ (1 : Int) = 2 by decide), if_pos rfl]
      rfl
    · rw [if_neg hb, if_neg (show ¬ ((s && pairOk w a b) && (s' && pairOk w c d)) = true from hb), show k + 3 + 4 = (k + 6) + 1 from by omega, impl_RelMeet.j0, if_pos rfl]; rfl
  · exact rm_i1 (k + 2) w rel s a b s' c d h2
theorem FnExactRelMeet : laws_FnExactRelMeet.Pure := by
  intro w rel s a b s' c d _ _ _ _ _ _
  refine ⟨12, ?_⟩
  unfold laws_FnExactRelMeet.f laws_toSpan.f
  simp only [Option.bind_some, rm_s 8, rm_i 4]
  generalize rmA w rel s a b s' c d = x
  have h1 := e_eqSpan (x.1, x.2.1, x.2.2.1)
  have h2 := e_eqSpan (x.2.2.2.1, x.2.2.2.2.1, x.2.2.2.2.2)
  simp only at h1 h2
  rw [h1, Option.bind_some, if_pos rfl, h2, Option.bind_some, if_pos rfl]
end Go.Proofs.Ytlnihglcneaonaa.Pure
