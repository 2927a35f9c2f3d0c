/- LangNameOk of the program and of the reference agree for every text. The program's own words are tied to its text.
   Conditions: none beyond those of the given row (each number is of its kind). -/
import Derived.Test.YtlnihglcneaonaaDoorQFnExactLangNameOkx2
import Derived.Test.YtlnihglcneaonaaDoorMB
import Derived.Test.YtlnihglcneaonaaDoorSOwn
namespace Go.Proofs.YtlnihglcneaonaaDoor.Pure
open Go.RowKit Go.Proofs.YtlnihglcneaonaaDoor.QFnExactLangNameOk Go.Proofs.YtlnihglcneaonaaDoorW.PrintWords Go.Proofs.YtlnihglcneaonaaDoorW.PrintLast Go.Proofs.YtlnihglcneaonaaDoorW.PrintMore Go.Proofs.YtlnihglcneaonaaDoor.M Go.Proofs.YtlnihglcneaonaaDoor.SOwn
set_option linter.unusedVariables false
set_option linter.unusedSimpArgs false
def lnL (b : Int) : Bool := decide (97 ≤ b) && decide (b ≤ 122)
def lnD (b : Int) : Bool := decide (48 ≤ b) && decide (b ≤ 57)
def lnG (a : ByteArray) : Nat → Int → Bool
  | 0, _ => true
  | m + 1, i => (lnL (bt a i) || lnD (bt a i)) && lnG a m (i + 1)
theorem ln_sL (b : Int) : spec_l11Letter.f b = some (lnL b) := by
  unfold spec_l11Letter.f lnL
  by_cases h : 97 ≤ b <;> simp [h]
theorem ln_sD (b : Int) : spec_l11Digit.f b = some (lnD b) := by
  unfold spec_l11Digit.f lnD
  by_cases h : 48 ≤ b <;> simp [h]
theorem ln_iL (b : Int) : impl_isLetter.f b = some (lnL b) := by
  unfold impl_isLetter.f lnL
  by_cases h : 97 ≤ b <;> simp [h]
theorem ln_iD (b : Int) : impl_isFigure.f b = some (lnD b) := by
  unfold impl_isFigure.f lnD
  by_cases h : 48 ≤ b <;> simp [h]
theorem ln_w (x : Int) (h0 : 0 ≤ x) (h1 : x ≤ 140737488351232) : wrap64 (x + 1) = x + 1 := by
  unfold wrap64; omega
theorem ln_sl (a : ByteArray) (ha : a.size ≤ 140737488351232) : ∀ (m : Nat) (i : Int), 0 ≤ i → i + m = a.size → ∀ k, m < k → spec_l11Plain.l0 k a i = some (lnG a m i) := by
  intro m
  induction m with
  | zero =>
    intro i h0 hi k hk
    obtain ⟨k, rfl⟩ : ∃ q, k = q + 1 := ⟨k - 1, by omega⟩
    rw [spec_l11Plain.l0, if_neg (by omega)]
    rfl
  | succ m ih =>
    intro i h0 hi k hk
    obtain ⟨k, rfl⟩ : ∃ q, k = q + 1 := ⟨k - 1, by omega⟩
    have hn := ih (i + 1) (by omega) (by omega) k (by omega)
    rw [spec_l11Plain.l0, if_pos (by omega), if_pos h0, ln_sL, ln_sD, ln_w i h0 (by omega), hn, lnG]
    cases lnL (bt a i) <;> cases lnD (bt a i) <;> simp
theorem ln_il (a : ByteArray) (ha : a.size ≤ 140737488351232) : ∀ (m : Nat) (i : Int), 0 ≤ i → i + m = a.size → ∀ k, m < k → impl_wordOk.l0 k a a.size i = (if lnG a m i = true then (impl_in.f (a.size : Int) 1 8).bind fun t106 => (if t106 = true then (if 0 < (a.size : Int) then ((impl_isLetter.f (bt a 0)).bind fun t107 => (some t107)) else (none)) else (some false)) else some false) := by
  intro m
  induction m with
  | zero =>
    intro i h0 hi k hk
    obtain ⟨k, rfl⟩ : ∃ q, k = q + 1 := ⟨k - 1, by omega⟩
    rw [impl_wordOk.l0, if_neg (by omega), lnG, if_pos rfl]
  | succ m ih =>
    intro i h0 hi k hk
    obtain ⟨k, rfl⟩ : ∃ q, k = q + 1 := ⟨k - 1, by omega⟩
    have hn := ih (i + 1) (by omega) (by omega) k (by omega)
    rw [impl_wordOk.l0, if_pos (by omega), if_pos h0, if_pos (by omega), ln_iL, ln_iD, ln_w i h0 (by omega), hn, lnG]
    cases lnL (bt a i) <;> cases lnD (bt a i) <;> simp
theorem ln_plain (a : ByteArray) (ha : a.size ≤ 140737488351232) (k : Nat) (hk : a.size + 2 ≤ k) : ∃ b, spec_l11Plain.f k a = some b ∧ impl_wordOk.f k a = some b := by
  obtain ⟨k, rfl⟩ : ∃ q, k = q + 1 := ⟨k - 1, by omega⟩
  have hI := ln_il a ha a.size 0 (Int.le_refl 0) (by omega) (k + 1) (by omega)
  unfold impl_wordOk.f spec_l11Plain.f
  rw [hI]
  clear hI
  unfold impl_in.f
  by_cases h1 : (a.size : Int) < 1
  · refine ⟨false, ?_, ?_⟩
    · rw [if_pos h1, spec_l11Plain.j0, if_pos rfl]
    · rw [if_neg (show ¬ (a.size : Int) ≥ 1 from by omega)]
      simp
  · rw [if_neg h1, if_pos (show (a.size : Int) ≥ 1 from by omega)]
    by_cases h8 : (a.size : Int) > 8
    · refine ⟨false, ?_, ?_⟩
      · rw [if_pos h8, spec_l11Plain.j0, if_pos rfl]
      · rw [show decide ((a.size : Int) ≤ 8) = false from decide_eq_false (by omega)]
        simp
    · obtain ⟨m, hm⟩ : ∃ m, a.size = m + 1 := ⟨a.size - 1, by omega⟩
      have hS := ln_sl a ha m 1 (by omega) (by omega) k (by omega)
      rw [if_neg h8, if_pos (show 0 < (a.size : Int) from by omega), if_pos (show 0 < (a.size : Int) from by omega), ln_sL, ln_iL, show decide ((a.size : Int) ≤ 8) = true from decide_eq_true (by omega)]
      rw [show lnG a a.size 0 = ((lnL (bt a 0) || lnD (bt a 0)) && lnG a m 1) from by rw [hm]; rfl]
      simp only [Option.bind_some, spec_l11Plain.j0]
      rw [hS]
      refine ⟨lnL (bt a 0) && lnG a m 1, by cases lnL (bt a 0) <;> simp, ?_⟩
      cases lnL (bt a 0) <;> cases lnD (bt a 0) <;> cases lnG a m 1 <;> simp
theorem ln_word (a : ByteArray) (k : Nat) (hk : 8 ≤ k) : ∃ b, spec_l11Word.f a = some b ∧ slices_Contains_string_string.f k SOwn.words a = some b := by
  refine ⟨decide (a.toList = ([100, 101, 102] : List UInt8)) || (decide (a.toList = ([118, 97, 114] : List UInt8)) || (decide (a.toList = ([115, 113, 114, 116] : List UInt8)) || (decide (a.toList = ([97, 98, 115] : List UInt8)) || (decide (a.toList = ([109, 105, 110] : List UInt8)) || decide (a.toList = ([109, 97, 120] : List UInt8)))))), ?_, ?_⟩
  · unfold spec_l11Word.f
    repeat' split
    all_goals simp_all
    rw [Bool.eq_iff_iff]; simp
  · obtain ⟨q, rfl⟩ : ∃ q, k = q + 8 := ⟨k - 8, by omega⟩
    have e0 : (rdOf ByteArray.empty SOwn.words 0).toList = ([100, 101, 102] : List UInt8) := by rw [ByteArray.toList_eq]; rfl
    have e1 : (rdOf ByteArray.empty SOwn.words 1).toList = ([118, 97, 114] : List UInt8) := by rw [ByteArray.toList_eq]; rfl
    have e2 : (rdOf ByteArray.empty SOwn.words 2).toList = ([115, 113, 114, 116] : List UInt8) := by rw [ByteArray.toList_eq]; rfl
    have e3 : (rdOf ByteArray.empty SOwn.words 3).toList = ([97, 98, 115] : List UInt8) := by rw [ByteArray.toList_eq]; rfl
    have e4 : (rdOf ByteArray.empty SOwn.words 4).toList = ([109, 105, 110] : List UInt8) := by rw [ByteArray.toList_eq]; rfl
    have e5 : (rdOf ByteArray.empty SOwn.words 5).toList = ([109, 97, 120] : List UInt8) := by rw [ByteArray.toList_eq]; rfl
    have w0 : wrap64 1 = 1 := by simpa using ln_w 0 (by omega) (by omega)
    have w1 : wrap64 2 = 2 := by simpa using ln_w 1 (by omega) (by omega)
    have w2 : wrap64 3 = 3 := by simpa using ln_w 2 (by omega) (by omega)
    have w3 : wrap64 4 = 4 := by simpa using ln_w 3 (by omega) (by omega)
    have w4 : wrap64 5 = 5 := by simpa using ln_w 4 (by omega) (by omega)
    have w5 : wrap64 6 = 6 := by simpa using ln_w 5 (by omega) (by omega)
    have hl : (SOwn.words.length : Int) = 6 := rfl
    unfold slices_Contains_string_string.f slices_Index_string_string.f
    rw [hl]
    by_cases c0 : a.toList = ([100, 101, 102] : List UInt8)
    · simp [slices_Index_string_string.l0, hl, e0, c0]
    · by_cases c1 : a.toList = ([118, 97, 114] : List UInt8)
      · simp [slices_Index_string_string.l0, hl, e0, e1, w0, c1]
      · by_cases c2 : a.toList = ([115, 113, 114, 116] : List UInt8)
        · simp [slices_Index_string_string.l0, hl, e0, e1, e2, w0, w1, c2]
        · by_cases c3 : a.toList = ([97, 98, 115] : List UInt8)
          · simp [slices_Index_string_string.l0, hl, e0, e1, e2, e3, w0, w1, w2, c3]
          · by_cases c4 : a.toList = ([109, 105, 110] : List UInt8)
            · simp [slices_Index_string_string.l0, hl, e0, e1, e2, e3, e4, w0, w1, w2, w3, c4]
            · by_cases c5 : a.toList = ([109, 97, 120] : List UInt8)
              · simp [slices_Index_string_string.l0, hl, e0, e1, e2, e3, e4, e5, w0, w1, w2, w3, w4, c5]
              · simp [slices_Index_string_string.l0, hl, e0, e1, e2, e3, e4, e5, w0, w1, w2, w3, w4, w5, c0, c1, c2, c3, c4, c5]
theorem FnExactLangNameOk : laws_FnExactLangNameOk.Pure := by
  intro a ha
  refine ⟨a.size + 8, ?_⟩
  unfold laws_FnExactLangNameOk.f spec_LangNameOk.f impl_LangNameOk.f
  obtain ⟨p, p1, p2⟩ := ln_plain a ha (a.size + 8) (by omega)
  obtain ⟨q, q1, q2⟩ := ln_word a (a.size + 8) (by omega)
  rw [p1, p2, q1, q2]
  split
  · rfl
  · cases p <;> cases q <;> simp
end Go.Proofs.YtlnihglcneaonaaDoor.Pure
