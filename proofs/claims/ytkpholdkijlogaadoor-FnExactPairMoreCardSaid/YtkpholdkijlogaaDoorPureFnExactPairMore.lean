/- PairMore of the program and of the reference agree for every pair. The table of math/bits is tied to the program's text.
   Conditions: none beyond those of the given row (each number is of its kind). -/
import Derived.Test.YtkpholdkijlogaaDoorQFnExactPairMorex6
import Derived.Test.YtkpholdkijlogaaDoorMB
namespace Go.Proofs.YtkpholdkijlogaaDoor.Pure
open Go.RowKit Go.Proofs.YtkpholdkijlogaaDoor.QFnExactPairMore Go.Proofs.YtkpholdkijlogaaDoorW.PrintWords Go.Proofs.YtkpholdkijlogaaDoorW.PrintLast Go.Proofs.YtkpholdkijlogaaDoorW.PrintMore Go.Proofs.YtkpholdkijlogaaDoor.M
set_option linter.unusedVariables false
set_option linter.unusedSimpArgs false
theorem e_sBitTop (w : Int) : spec_BitTop.f w = some (top w) := by
  unfold spec_BitTop.f top; split
  · rfl
  · split <;> rfl
theorem e_formatOf (w : Int) : impl_formatOf.f w = some (if w = 32 then (23, -149, 127, top w, true) else if w = 64 then (52, -1074, 1023, top w, true) else (0, 0, 0, top w, false)) := by
  unfold impl_formatOf.f top
  by_cases h : w = 32
  · simp [h]
  · by_cases h' : w = 64
    · simp [h']
    · simp [h, h']
theorem e_iBitTop (w : Int) : impl_BitTop.f w = some (top w) := by
  unfold impl_BitTop.f; rw [e_formatOf]
  by_cases h : w = 32
  · simp [h]
  · by_cases h' : w = 64
    · simp [h']
    · simp [h, h']
theorem e_sBitOk (w n : Int) : spec_BitOk.f w n = some (bitOk w n) := by
  unfold spec_BitOk.f spec_l1Width.f
  simp only [e_sBitTop, Option.bind_some, top_neg, bitOk]
  by_cases h : w = 32
  · subst h; simp; split <;> simp_all; omega
  · by_cases h' : w = 64
    · subst h'; simp; split <;> simp_all; omega
    · simp [h, h']
theorem e_in (n a b : Int) : impl_in.f n a b = some (decide (a ≤ n ∧ n ≤ b)) := by
  unfold impl_in.f; split
  · simp_all
  · simp; omega
theorem e_iBitOk (w n : Int) : impl_BitOk.f w n = some (bitOk w n) := by
  unfold impl_BitOk.f
  simp only [e_formatOf, Option.bind_some, e_in]
  by_cases h : w = 32
  · subst h; simp [bitOk, top_neg]
  · by_cases h' : w = 64
    · subst h'; simp [bitOk, top_neg]
    · simp [h, h', bitOk]
theorem e_sPairOk (w a b : Int) : spec_PairOk.f w a b = some (pairOk w a b) := by
  unfold spec_PairOk.f
  simp only [e_sBitTop, e_sBitOk, Option.bind_some, top_neg]
  have no : ∀ h : ¬ ((w = 32 ∨ w = 64) ∧ -top w ≤ a ∧ a ≤ b ∧ b ≤ top w ∧ a ≠ top w ∧ b ≠ -top w), some false = some (pairOk w a b) := fun h => by rw [pairOk, decide_eq_false h]
  by_cases h1 : bitOk w a = true
  · by_cases h2 : bitOk w b = true
    · have q1 := bitOk_iff.mp h1
      have q2 := bitOk_iff.mp h2
      rw [if_pos h1, if_pos h2]
      by_cases c1 : a ≤ b
      · rw [if_pos c1]
        by_cases c2 : a < top w
        · rw [if_pos c2, pairOk]; congr 1; rw [decide_eq_decide]; omega
        · rw [if_neg c2]; exact no (by omega)
      · rw [if_neg c1]; exact no (by omega)
    · rw [if_pos h1, if_neg h2]; exact no (fun q => h2 (bitOk_iff.mpr (by omega)))
  · rw [if_neg h1]; exact no (fun q => h1 (bitOk_iff.mpr (by omega)))
theorem e_iPairOk (w a b : Int) : impl_PairOk.f w a b = some (pairOk w a b) := by
  unfold impl_PairOk.f
  simp only [e_iBitTop, e_iBitOk, Option.bind_some, top_neg]
  have no : ∀ h : ¬ ((w = 32 ∨ w = 64) ∧ -top w ≤ a ∧ a ≤ b ∧ b ≤ top w ∧ a ≠ top w ∧ b ≠ -top w), some false = some (pairOk w a b) := fun h => by rw [pairOk, decide_eq_false h]
  by_cases h1 : bitOk w a = true
  · by_cases h2 : bitOk w b = true
    · have q1 := bitOk_iff.mp h1
      have q2 := bitOk_iff.mp h2
      rw [if_pos h1, if_pos h2]
      by_cases c1 : a ≤ b
      · rw [if_pos c1]
        by_cases c2 : a = top w
        · rw [if_pos c2]; exact no (by omega)
        · rw [if_neg c2]; congr 1; rw [Bool.eq_iff_iff, bne_iff_ne, pairOk_iff]; omega
      · rw [if_neg c1]; exact no (by omega)
    · rw [if_pos h1, if_neg h2]; exact no (fun q => h2 (bitOk_iff.mpr (by omega)))
  · rw [if_neg h1]; exact no (fun q => h1 (bitOk_iff.mpr (by omega)))
theorem e_sPartOf (k : Nat) (w n : Int) : spec_BitPartOf.f (k + 1) w n = some (partOf w n) := by
  unfold spec_BitPartOf.f
  simp only [e_sBitOk, e_sBitTop, Option.bind_some, top_neg, spec_BitPartOf.j0, spec_l1Least.f, spec_l1Frac.f]
  by_cases h : bitOk w n = true
  · have r := bitOk_iff.mp h
    have t := top_range w
    rw [if_pos h]
    by_cases c1 : n = top w
    · rw [if_pos c1]; simp [partOf, c1]
    · rw [if_neg c1]
      by_cases c2 : n = -top w
      · rw [if_pos (beq_iff_eq.mpr c2)]; simp [partOf, c2]
      · rw [if_neg (fun q => c2 (beq_iff_eq.mp q))]
        simp only [partOf, h, c1, c2, ne_eq, not_false_eq_true, and_self, if_true]
        have hs0 : 0 ≤ (if n < 0 then -n else n) ∧ (if n < 0 then -n else n) ≤ top w := by split <;> omega
        have hE : (if n < 0 then wrap64 (-n) else n) = (if n < 0 then -n else n) := by split <;> (try unfold wrap64) <;> omega
        rcases r.1 with rfl | rfl
        · rw [top_32] at hs0
          have q1 : shl .i64 1 (IntKind.u64.wrap 23) = 8388608 := by decide +kernel
          have q2 : (0 : Int) ≤ IntKind.u64.wrap 23 := by decide +kernel
          by_cases c : n < 0
          · simp only [c, if_true, Option.bind_some, q1, q2] at hs0 ⊢
            rw [if_neg (by decide), show wrap64 (-n) = -n from by unfold wrap64; omega, Int.tdiv_eq_ediv_of_nonneg hs0.1, Int.tmod_eq_emod_of_nonneg hs0.1]
            simp only [u64w]
            by_cases z : -n / 8388608 = 0
            · rw [if_neg (by unfold wrap64; omega), if_pos z, show -n % 8388608 % 18446744073709551616 = -n % 8388608 from by omega]
            · rw [if_pos (by unfold wrap64; omega), if_neg z]; congr 3
              · omega
              · congr 1; unfold wrap64; omega
          · simp only [c, if_true, if_false, Option.bind_some, q1, q2] at hs0 ⊢
            rw [if_neg (by decide), Int.tdiv_eq_ediv_of_nonneg hs0.1, Int.tmod_eq_emod_of_nonneg hs0.1]
            simp only [u64w]
            by_cases z : n / 8388608 = 0
            · rw [if_neg (by unfold wrap64; omega), if_pos z, show n % 8388608 % 18446744073709551616 = n % 8388608 from by omega]
            · rw [if_pos (by unfold wrap64; omega), if_neg z]; congr 3
              · omega
              · congr 1; unfold wrap64; omega
        · rw [top_64] at hs0
          have q1 : shl .i64 1 (IntKind.u64.wrap 52) = 4503599627370496 := by decide +kernel
          have q2 : (0 : Int) ≤ IntKind.u64.wrap 52 := by decide +kernel
          simp only [show ¬ (64 : Int) = 32 by decide, if_false]
          by_cases c : n < 0
          · simp only [c, if_true, Option.bind_some, q1, q2] at hs0 ⊢
            rw [if_neg (by decide), show wrap64 (-n) = -n from by unfold wrap64; omega, Int.tdiv_eq_ediv_of_nonneg hs0.1, Int.tmod_eq_emod_of_nonneg hs0.1]
            simp only [u64w]
            by_cases z : -n / 4503599627370496 = 0
            · rw [if_neg (by unfold wrap64; omega), if_pos z, show -n % 4503599627370496 % 18446744073709551616 = -n % 4503599627370496 from by omega]
            · rw [if_pos (by unfold wrap64; omega), if_neg z]; congr 3
              · omega
              · congr 1; unfold wrap64; omega
          · simp only [c, if_true, if_false, Option.bind_some, q1, q2] at hs0 ⊢
            rw [if_neg (by decide), Int.tdiv_eq_ediv_of_nonneg hs0.1, Int.tmod_eq_emod_of_nonneg hs0.1]
            simp only [u64w]
            by_cases z : n / 4503599627370496 = 0
            · rw [if_neg (by unfold wrap64; omega), if_pos z, show n % 4503599627370496 % 18446744073709551616 = n % 4503599627370496 from by omega]
            · rw [if_pos (by unfold wrap64; omega), if_neg z]; congr 3
              · omega
              · congr 1; unfold wrap64; omega
  · simp [h, partOf]
theorem e_iPartOf (k : Nat) (w n : Int) : impl_BitPartOf.f (k + 1) w n = some (partOf w n) := by
  unfold impl_BitPartOf.f
  simp only [e_iBitOk, e_formatOf, Option.bind_some, impl_BitPartOf.j0]
  by_cases h : bitOk w n = true
  · have r := bitOk_iff.mp h
    have t := top_range w
    have es : impl_size.f n = some (if n < 0 then -n else n) := by unfold impl_size.f mx wrap64; congr 1; split <;> omega
    rw [if_pos h, es]
    simp only [Option.bind_some, es]
    have hs0 : 0 ≤ (if n < 0 then -n else n) ∧ (if n < 0 then -n else n) ≤ top w := by split <;> omega
    have ht : ((if n < 0 then -n else n) == top w) = true ↔ (n = top w ∨ n = -top w) := by rw [beq_iff_eq]; split <;> omega
    by_cases c : n = top w ∨ n = -top w
    · have hg : ¬ (bitOk w n = true ∧ n ≠ top w ∧ n ≠ -top w) := by omega
      simp only [partOf]; rw [if_neg hg]
      rcases r.1 with rfl | rfl
      · simp only [if_true]; rw [if_pos (ht.mpr c)]
      · simp only [show ¬ (64 : Int) = 32 by decide, if_false, if_true]; rw [if_pos (ht.mpr c)]
    · have hg : bitOk w n = true ∧ n ≠ top w ∧ n ≠ -top w := ⟨h, by omega, by omega⟩
      simp only [partOf]; rw [if_pos hg]
      generalize (if n < 0 then -n else n) = s at hs0 ht ⊢
      rcases r.1 with rfl | rfl
      · rw [top_32] at hs0
        have q1 : shl .i64 1 23 = 8388608 := by decide +kernel
        have q2 : shr .i64 s 23 = s / 8388608 := by simp [shr, IntKind.bits]
        simp only [if_true, q1, q2]
        rw [if_neg (fun q => c (ht.mp q)), if_pos (by decide), show wrap64 (8388608 - 1) = 8388607 from by decide +kernel, i64_mask23 s hs0.1 (by omega)]
        by_cases z : s / 8388608 = 0
        · rw [if_pos z, if_pos z, u64w, show s % 8388608 % 18446744073709551616 = s % 8388608 from by omega]
        · rw [if_neg z, if_neg z, i64_or23 _ (by omega) (by omega), u64w]; congr 3
          · omega
          · congr 1; unfold wrap64; omega
      · rw [top_64] at hs0
        have q1 : shl .i64 1 52 = 4503599627370496 := by decide +kernel
        have q2 : shr .i64 s 52 = s / 4503599627370496 := by simp [shr, IntKind.bits]
        simp only [show ¬ (64 : Int) = 32 by decide, if_false, if_true, q1, q2]
        rw [if_neg (fun q => c (ht.mp q)), if_pos (by decide), show wrap64 (4503599627370496 - 1) = 4503599627370495 from by decide +kernel, i64_mask52 s hs0.1 (by omega)]
        by_cases z : s / 4503599627370496 = 0
        · rw [if_pos z, if_pos z, u64w, show s % 4503599627370496 % 18446744073709551616 = s % 4503599627370496 from by omega]
        · rw [if_neg z, if_neg z, i64_or52 _ (by omega) (by omega), u64w]; congr 3
          · omega
          · congr 1; unfold wrap64; omega
  · simp [h, partOf]
theorem bm_pow_le {a b : Nat} (h : a ≤ b) : 2 ^ a ≤ 2 ^ b := Nat.pow_le_pow_right (by decide) h
theorem bm_cmp (o n s m : Nat) (h1 : 2 ^ n ≤ 2 * o) (h2 : o < 2 ^ n) : o * 2 ^ s < 2 ^ m ↔ n + s ≤ m := by
  constructor
  · intro h
    rcases Nat.lt_or_ge m (n + s) with h3 | h3
    · exfalso
      have h4 := bm_pow_le (show m + 1 ≤ n + s by omega)
      rw [Nat.pow_succ, Nat.pow_add] at h4
      have h5 : 2 ^ n * 2 ^ s ≤ 2 * o * 2 ^ s := Nat.mul_le_mul_right _ h1
      rw [Nat.mul_assoc] at h5
      omega
    · exact h3
  · intro h
    have h4 := bm_pow_le h
    rw [Nat.pow_add] at h4
    have h5 : o * 2 ^ s < 2 ^ n * 2 ^ s := Nat.mul_lt_mul_of_pos_right h2 (Nat.two_pow_pos s)
    omega
theorem bm_len : ∀ (f x : Nat), 0 < x → x < 2 ^ f → 2 ^ Lib.bitLenAux f x ≤ 2 * x ∧ x < 2 ^ Lib.bitLenAux f x := by
  intro f
  induction f with
  | zero => intro x h0 h1; simp at h1; omega
  | succ f ih =>
    intro x h0 h1
    simp only [Lib.bitLenAux]
    rw [if_neg (by omega), Nat.add_comm, Nat.pow_succ]
    rw [Nat.pow_succ] at h1
    by_cases c : x / 2 = 0
    · have : Lib.bitLenAux f (x / 2) = 0 := by rw [c]; cases f <;> simp [Lib.bitLenAux]
      rw [this]; omega
    · have := ih (x / 2) (by omega) (by omega)
      omega
def Fm (w : Int) (F : Nat) (U L G : Int) : Prop := (w = 32 ∧ F = 23 ∧ U = 8388608 ∧ L = -149 ∧ G = 127) ∨ (w = 64 ∧ F = 52 ∧ U = 4503599627370496 ∧ L = -1074 ∧ G = 1023)
theorem Fm.u {w : Int} {F : Nat} {U L G : Int} (h : Fm w F U L G) : U = ((2 ^ F : Nat) : Int) := by
  rcases h with ⟨_, rfl, rfl, _, _⟩ | ⟨_, rfl, rfl, _, _⟩ <;> rfl
theorem Fm.least {w : Int} {F : Nat} {U L G : Int} (h : Fm w F U L G) : spec_l1Least.f w = some L := by
  unfold spec_l1Least.f
  rcases h with ⟨rfl, _, _, rfl, _⟩ | ⟨rfl, _, _, rfl, _⟩
  · rw [if_pos rfl]
  · rw [if_neg (by decide)]
structure Top (F n : Nat) (T L M : Int) (m : Nat) : Prop where
  a : M ≤ (F : Int) + 1 - n
  b : M ≤ T - L
  c : M = (F : Int) + 1 - n ∨ M = T - L
  d : 0 ≤ M → (m : Int) = M
  e : M < 0 → m = 0
theorem bm_l0 {w : Int} {F : Nat} {U L G : Int} (h : Fm w F U L G) (o n : Nat) (ho : o % 2 = 1) (h1 : 2 ^ n ≤ 2 * o) (h2 : o < 2 ^ n) (T M : Int) (hT : -2000 ≤ T ∧ T ≤ 2100) (m : Nat) (hM : Top F n T L M m) (b : Bool) (c1 c2 : Int) :
    ∀ (s K : Nat), s ≤ 64 → o * 2 ^ s < 2 ^ 64 → s + 10 ≤ K →
    ∃ K', K ≤ K' + s + 2 ∧ spec_BitMake.l0 K w ((o * 2 ^ s : Nat) : Int) (T - (s : Int)) U b c1 c2 = spec_BitMake.l1 K' w ((o * 2 ^ (min s m) : Nat) : Int) (T - ((min s m : Nat) : Int)) U b c1 c2 := by
  intro s
  induction s with
  | zero =>
    intro K hs hb hK
    obtain ⟨K, rfl⟩ : ∃ q, K = q + 2 := ⟨K - 2, by omega⟩
    refine ⟨K, by omega, ?_⟩
    have e : Int.tmod ((o * 2 ^ 0 : Nat) : Int) 2 ≠ 0 := by
      rw [Nat.pow_zero, Nat.mul_one, Int.tmod_eq_emod_of_nonneg (by omega)]; omega
    rw [show K + 2 = (K + 1) + 1 from rfl, spec_BitMake.l0, if_neg e, spec_BitMake.j2, Nat.zero_min]
  | succ s ih =>
    intro K hs hb hK
    obtain ⟨K, rfl⟩ : ∃ q, K = q + 2 := ⟨K - 2, by omega⟩
    have cmp := bm_cmp o n (s + 1) (F + 1) h1 h2
    have hu := Fm.u h
    have y2 : o * 2 ^ (s + 1) = 2 * (o * 2 ^ s) := by rw [Nat.pow_succ, ← Nat.mul_assoc, Nat.mul_comm]
    obtain ⟨y, hy⟩ : ∃ y, y = o * 2 ^ s := ⟨_, rfl⟩
    have p2 : 2 ^ (F + 1) = 2 * 2 ^ F := by rw [Nat.pow_succ, Nat.mul_comm]
    obtain ⟨u, hu2⟩ : ∃ u, u = 2 ^ F := ⟨_, rfl⟩
    rw [← hu2] at hu p2
    have hub : u ≤ 4503599627370496 := by
      rcases h with ⟨_, rfl, hh, _, _⟩ | ⟨_, rfl, hh, _, _⟩ <;> omega
    rw [y2, ← hy] at hb cmp ⊢
    rw [p2] at cmp
    have e0 : Int.tmod ((2 * y : Nat) : Int) 2 = 0 := by rw [Int.tmod_eq_emod_of_nonneg (by omega)]; omega
    have e1 : IntKind.u64.wrap (2 * U) = 2 * U := by rw [u64w]; omega
    have e2 : IntKind.u64.wrap (Int.tdiv ((2 * y : Nat) : Int) 2) = (y : Int) := by rw [Int.tdiv_eq_ediv_of_nonneg (by omega), u64w]; omega
    have e3 : wrap64 (T - ((s + 1 : Nat) : Int) + 1) = T - (s : Int) := by unfold wrap64; omega
    obtain ⟨ha, hb2, hc, hd, he⟩ := hM
    rw [show K + 2 = (K + 1) + 1 from rfl, spec_BitMake.l0, if_pos e0, e1, e2, e3, (Fm.least h), Option.bind_some]
    by_cases c : ((s + 1 : Nat) : Int) ≤ M
    · have hm := hd (by omega)
      have hmin : min (s + 1) m = s + 1 := by omega
      refine ⟨K, by omega, ?_⟩
      rw [if_neg (by omega), if_neg (by omega), spec_BitMake.j2, hmin, y2, ← hy]
    · obtain ⟨K', k1, k2⟩ := ih (K + 1) (by omega) (by omega) (by omega)
      rw [← hy] at k2
      have hmin : min (s + 1) m = min s m := by
        by_cases c0 : 0 ≤ M
        · have := hd c0; omega
        · have := he (by omega); omega
      refine ⟨K', by omega, ?_⟩
      rw [hmin, ← k2]
      by_cases cc : ((2 * y : Nat) : Int) ≥ 2 * U
      · rw [if_pos cc]
      · rw [if_neg cc, if_pos (by omega)]
theorem bm_l1 {w : Int} {F : Nat} {U L G : Int} (h : Fm w F U L G) (o n : Nat) (ho : o % 2 = 1) (h1 : 2 ^ n ≤ 2 * o) (h2 : o < 2 ^ n) (T M : Int) (hT : -2000 ≤ T ∧ T ≤ 2100) (m : Nat) (hM : Top F n T L M m) (h0 : 0 ≤ M) (b : Bool) (c1 c2 : Int) :
    ∀ (d s K : Nat), s + d = m → d + 10 ≤ K →
    ∃ K', K ≤ K' + d + 1 ∧ spec_BitMake.l1 K w ((o * 2 ^ s : Nat) : Int) (T - (s : Int)) U b c1 c2 = spec_BitMake.j4 K' w ((o * 2 ^ m : Nat) : Int) (T - (m : Int)) U b c1 c2 := by
  intro d
  have hu := Fm.u h
  obtain ⟨u, hu2⟩ : ∃ u, u = 2 ^ F := ⟨_, rfl⟩
  have hub : u ≤ 4503599627370496 ∧ F ≤ 52 := by
    rcases h with ⟨_, rfl, hh, _, _⟩ | ⟨_, rfl, hh, _, _⟩ <;> omega
  obtain ⟨ha, hb2, hc, hd, he⟩ := hM
  have hm := hd h0
  induction d with
  | zero =>
    intro s K hs hK
    obtain ⟨K, rfl⟩ : ∃ q, K = q + 1 := ⟨K - 1, by omega⟩
    obtain rfl : s = m := by omega
    have cmp := bm_cmp o n s F h1 h2
    rw [← hu2] at cmp hu
    refine ⟨K, by omega, ?_⟩
    rw [spec_BitMake.l1, (Fm.least h), Option.bind_some]
    by_cases c : ((o * 2 ^ s : Nat) : Int) < U
    · rw [if_pos c, if_neg (by omega)]
    · rw [if_neg c]
  | succ d ih =>
    intro s K hs hK
    obtain ⟨K, rfl⟩ : ∃ q, K = q + 1 := ⟨K - 1, by omega⟩
    have cmp := bm_cmp o n s F h1 h2
    rw [← hu2] at cmp hu
    have y2 : o * 2 ^ (s + 1) = 2 * (o * 2 ^ s) := by rw [Nat.pow_succ, ← Nat.mul_assoc, Nat.mul_comm]
    obtain ⟨K', k1, k2⟩ := ih (s + 1) K (by omega) (by omega)
    rw [y2] at k2
    obtain ⟨y, hy⟩ : ∃ y, y = o * 2 ^ s := ⟨_, rfl⟩
    rw [← hy] at cmp k2 ⊢
    have e1 : IntKind.u64.wrap ((y : Int) * 2) = ((2 * y : Nat) : Int) := by rw [u64w]; omega
    have e2 : wrap64 (T - (s : Int) - 1) = T - ((s + 1 : Nat) : Int) := by unfold wrap64; omega
    refine ⟨K', by omega, ?_⟩
    rw [spec_BitMake.l1, (Fm.least h), Option.bind_some, if_pos (by omega), if_pos (by omega), e1, e2, k2]
def mkR (b : Bool) (n : Int) : Int × Bool := (if b = true then -n else n, true)
def bmR (U L G M : Int) (b : Bool) (z q : Int) : Int × Bool := if M < 0 then (0, false) else if z ≥ U then (if q - L + 1 > 2 * G then (0, false) else mkR b ((q - L + 1) * U + (z - U))) else mkR b z
theorem bm_j4 {w : Int} {F : Nat} {U L G : Int} (h : Fm w F U L G) (K : Nat) (z q : Int) (hz : 0 ≤ z ∧ z < 2 * U) (hq : L ≤ q ∧ q ≤ 5000) (b : Bool) (c1 c2 : Int) :
    spec_BitMake.j4 (K + 2) w z q U b c1 c2 = some (bmR U L G 0 b z q) := by
  have hl := (Fm.least h)
  rw [show K + 2 = (K + 1) + 1 from rfl, spec_BitMake.j4]
  have e1 : IntKind.u64.wrap (2 * U) = 2 * U := by
    rcases h with ⟨_, _, rfl, _, _⟩ | ⟨_, _, rfl, _, _⟩ <;> rw [u64w] <;> omega
  rw [e1, if_neg (by omega), hl, Option.bind_some, decide_eq_false (by omega), spec_BitMake.j5, if_neg (by decide), hl, Option.bind_some]
  unfold bmR mkR spec_BitTop.f
  rw [if_neg (show ¬ (0 : Int) < 0 by decide)]
  rcases h with ⟨rfl, _, rfl, rfl, rfl⟩ | ⟨rfl, _, rfl, rfl, rfl⟩
  · rw [if_pos (show (32 : Int) = 32 from rfl), Option.bind_some]
    have t1 : wrap64 8388608 = 8388608 := by unfold wrap64; decide
    have t2' : wrap64 (wrap64 (Int.tdiv 2139095040 8388608) - 1) = 254 := by unfold wrap64; decide
    have w1 : wrap64 (wrap64 (q - -149) + 1) = q - -149 + 1 := by unfold wrap64; omega
    have w2 : wrap64 z = z := by unfold wrap64; omega
    rw [t1, w1, w2]
    by_cases c : z ≥ 8388608
    · rw [if_pos c, if_pos c, if_neg (by decide), t2']
      by_cases d : q - -149 + 1 > 254
      · rw [if_pos d, if_pos (show q - -149 + 1 > 2 * 127 by omega)]
      · rw [if_neg d, if_neg (show ¬ (q - -149 + 1 > 2 * 127) by omega)]
        have w3 : wrap64 (wrap64 ((q - -149 + 1) * 8388608) + wrap64 (IntKind.u64.wrap (z - 8388608))) = (q - -149 + 1) * 8388608 + (z - 8388608) := by rw [u64w]; unfold wrap64; omega
        rw [w3]
        cases b
        · rfl
        · have w4 : wrap64 (-((q - -149 + 1) * 8388608 + (z - 8388608))) = -((q - -149 + 1) * 8388608 + (z - 8388608)) := by unfold wrap64; omega
          rw [if_pos rfl, if_pos rfl, w4]
    · rw [if_neg c, if_neg c]
      cases b
      · rfl
      · have w4 : wrap64 (-z) = -z := by unfold wrap64; omega
        rw [if_pos rfl, if_pos rfl, w4]
  · rw [if_neg (show ¬ (64 : Int) = 32 by decide), if_pos (show (64 : Int) = 64 from rfl), Option.bind_some]
    have t1 : wrap64 4503599627370496 = 4503599627370496 := by unfold wrap64; decide
    have t2' : wrap64 (wrap64 (Int.tdiv 9218868437227405312 4503599627370496) - 1) = 2046 := by unfold wrap64; decide
    have w1 : wrap64 (wrap64 (q - -1074) + 1) = q - -1074 + 1 := by unfold wrap64; omega
    have w2 : wrap64 z = z := by unfold wrap64; omega
    rw [t1, w1, w2]
    by_cases c : z ≥ 4503599627370496
    · rw [if_pos c, if_pos c, if_neg (by decide), t2']
      by_cases d : q - -1074 + 1 > 2046
      · rw [if_pos d, if_pos (show q - -1074 + 1 > 2 * 1023 by omega)]
      · rw [if_neg d, if_neg (show ¬ (q - -1074 + 1 > 2 * 1023) by omega)]
        have w3 : wrap64 (wrap64 ((q - -1074 + 1) * 4503599627370496) + wrap64 (IntKind.u64.wrap (z - 4503599627370496))) = (q - -1074 + 1) * 4503599627370496 + (z - 4503599627370496) := by rw [u64w]; unfold wrap64; omega
        rw [w3]
        cases b
        · rfl
        · have w4 : wrap64 (-((q - -1074 + 1) * 4503599627370496 + (z - 4503599627370496))) = -((q - -1074 + 1) * 4503599627370496 + (z - 4503599627370496)) := by unfold wrap64; omega
          rw [if_pos rfl, if_pos rfl, w4]
    · rw [if_neg c, if_neg c]
      cases b
      · rfl
      · have w4 : wrap64 (-z) = -z := by unfold wrap64; omega
        rw [if_pos rfl, if_pos rfl, w4]
theorem bm_and (r : Int) (h0 : 0 ≤ r) (h1 : r < 9223372036854775808) (F : Nat) (U : Int) (hF : (F = 23 ∧ U = 8388608) ∨ (F = 52 ∧ U = 4503599627370496)) : Go.bits .and .i64 r (U - 1) = r % U := by
  rcases hF with ⟨_, rfl⟩ | ⟨_, rfl⟩
  · exact i64_mask23 r h0 h1
  · exact i64_mask52 r h0 h1
theorem bm_or (a r : Nat) (F : Nat) (ha : a * 2 ^ F < 9223372036854775808) (hr : r < 2 ^ F) (hF : F ≤ 52) : Go.bits .or .i64 ((a : Int) * ((2 ^ F : Nat) : Int)) (r : Int) = (a : Int) * ((2 ^ F : Nat) : Int) + (r : Int) := by
  have hp := bm_pow_le hF
  have := (bits_nat .i64 63 (by decide) wraps_i64_63 (a * 2 ^ F) r (by omega) (by omega)).2
  rw [Int.natCast_mul] at this
  rw [this, ← Nat.shiftLeft_eq, ← Nat.shiftLeft_add_eq_or_of_lt hr, Nat.shiftLeft_eq, Int.natCast_add, Int.natCast_mul]
theorem bm_spec {w : Int} {F : Nat} {U L G : Int} (h : Fm w F U L G) (o n t : Nat) (ho : o % 2 = 1) (h1 : 2 ^ n ≤ 2 * o) (h2 : o < 2 ^ n) (T M : Int) (hT : -2000 ≤ T ∧ T ≤ 2100) (m : Nat) (hM : Top F n T L M m) (ht : t ≤ 64) (hx : o * 2 ^ t < 2 ^ 64) (p : Int) (hp : p = T - (t : Int)) (b : Bool) (K : Nat) (hK : 400 ≤ K) :
    spec_BitMake.j0 K w false b ((o * 2 ^ t : Nat) : Int) p = some (bmR U L G M b ((o * 2 ^ m : Nat) : Int) (T - (m : Int))) := by
  obtain ⟨K, rfl⟩ : ∃ q, K = q + 1 := ⟨K - 1, by omega⟩
  have hu := Fm.u h
  have hub : F ≤ 52 := by rcases h with ⟨_, rfl, _, _, _⟩ | ⟨_, rfl, _, _, _⟩ <;> omega
  have hpos : 0 < o * 2 ^ t := Nat.mul_pos (by omega) (Nat.two_pow_pos t)
  have e1 : spec_l1Frac.f w = some (F : Int) := by
    unfold spec_l1Frac.f
    rcases h with ⟨rfl, rfl, _⟩ | ⟨rfl, rfl, _⟩
    · rw [if_pos rfl]; rfl
    · rw [if_neg (by decide)]; rfl
  have e2 : IntKind.u64.wrap (F : Int) = (F : Int) := by rw [u64w]; omega
  have e3 : shl .u64 1 (F : Int) = U := by
    rcases h with ⟨_, rfl, rfl, _⟩ | ⟨_, rfl, rfl, _⟩ <;> decide +kernel
  obtain ⟨K1, k1, k2⟩ := bm_l0 h o n ho h1 h2 T M hT m hM b ((o * 2 ^ t : Nat) : Int) p t K (by omega) hx (by omega)
  rw [spec_BitMake.j0, if_neg (by decide), if_neg (by omega), e1, Option.bind_some, e2, if_pos (by omega), e3]
  rw [← hp] at k2
  rw [k2]
  have cmp1 := bm_cmp o n m (F + 1) h1 h2
  have p2 : 2 ^ (F + 1) = 2 * 2 ^ F := by rw [Nat.pow_succ, Nat.mul_comm]
  obtain ⟨ha, hb2, hc, hd, he⟩ := hM
  by_cases c0 : 0 ≤ M
  · have hm := hd c0
    have hm64 : m ≤ 64 := by omega
    obtain ⟨K2, k3, k4⟩ := bm_l1 h o n ho h1 h2 T M hT m ⟨ha, hb2, hc, hd, he⟩ c0 b ((o * 2 ^ t : Nat) : Int) p (m - min t m) (min t m) K1 (by omega) (by omega)
    rw [k4]
    obtain ⟨K3, rfl⟩ : ∃ q, K2 = q + 2 := ⟨K2 - 2, by omega⟩
    rw [bm_j4 h K3 ((o * 2 ^ m : Nat) : Int) (T - (m : Int)) ⟨by omega, by rw [hu]; omega⟩ ⟨by omega, by omega⟩]
    unfold bmR
    rw [if_neg (show ¬ (0 : Int) < 0 by decide), if_neg (show ¬ M < 0 by omega)]
  · have hm := he (by omega)
    subst hm
    rw [Nat.min_zero]
    unfold bmR
    rw [if_pos (by omega)]
    have cmp0 := bm_cmp o n 0 F h1 h2
    have cmp2 := bm_cmp o n 0 (F + 1) h1 h2
    rw [Nat.pow_zero, Nat.mul_one] at cmp0 cmp2 ⊢
    rw [p2] at cmp2
    obtain ⟨u, hu2⟩ : ∃ u, u = 2 ^ F := ⟨_, rfl⟩
    rw [← hu2] at hu cmp0 cmp2
    have hub2 : u ≤ 4503599627370496 := by rcases h with ⟨_, rfl, hh, _, _⟩ | ⟨_, rfl, hh, _, _⟩ <;> omega
    have w2 : IntKind.u64.wrap (2 * U) = 2 * U := by rw [u64w]; omega
    obtain ⟨K3, rfl⟩ : ∃ q, K1 = q + 3 := ⟨K1 - 3, by omega⟩
    have j5 : ∀ c, spec_BitMake.j5 (K3 + 1) w (o : Int) (T - ((0 : Nat) : Int)) U true b c p = some (0, false) := fun c => by rw [spec_BitMake.j5, if_pos rfl]
    have j4 : ∀ c, spec_BitMake.j4 (K3 + 1 + 1) w (o : Int) (T - ((0 : Nat) : Int)) U b c p = some (0, false) := fun c => by
      rw [spec_BitMake.j4, w2]
      by_cases q1 : (o : Int) ≥ 2 * U
      · rw [if_pos q1]; exact j5 c
      · rw [if_neg q1, Fm.least h, Option.bind_some, decide_eq_true (by omega)]; exact j5 c
    rw [show K3 + 3 = (K3 + 1 + 1) + 1 from rfl, spec_BitMake.l1, Fm.least h, Option.bind_some]
    by_cases q1 : (o : Int) < U
    · rw [if_pos q1, if_neg (by omega)]; exact j4 _
    · rw [if_neg q1]; exact j4 _
theorem bm_in (o n m F : Nat) (h1 : 2 ^ n ≤ 2 * o) (h2 : o < 2 ^ n) (h : n + m = F + 1) : 2 ^ F ≤ o * 2 ^ m ∧ o * 2 ^ m < 2 * 2 ^ F := by
  have c0 := bm_cmp o n m F h1 h2
  have c1 := bm_cmp o n m (F + 1) h1 h2
  have p2 : 2 ^ (F + 1) = 2 * 2 ^ F := by rw [Nat.pow_succ, Nat.mul_comm]
  rw [p2] at c1
  omega
theorem bm_under (o n m F : Nat) (h1 : 2 ^ n ≤ 2 * o) (h2 : o < 2 ^ n) (h : n + m ≤ F) : o * 2 ^ m < 2 ^ F := (bm_cmp o n m F h1 h2).mpr h
theorem bm_two (m : Nat) : ((2 : Int) ^ m) = ((2 ^ m : Nat) : Int) := by rw [Int.natCast_pow]; rfl
theorem bm_shl (o m : Nat) (hm : m ≤ 64) (hz : o * 2 ^ m < 18446744073709551616) (q : Int) (hq : q = (m : Int)) : shl .u64 (o : Int) q = ((o * 2 ^ m : Nat) : Int) := by
  subst hq
  unfold shl
  rw [Int.toNat_natCast, show min m IntKind.u64.bits = m by simp [IntKind.bits]; omega, bm_two, ← Int.natCast_mul, u64w]
  omega
theorem bm_shr (o t : Nat) (ht : t ≤ 64) : shr .u64 ((o * 2 ^ t : Nat) : Int) (t : Int) = (o : Int) := by
  unfold shr
  rw [Int.toNat_natCast, show min t IntKind.u64.bits = t by simp [IntKind.bits]; omega, bm_two, ← Int.natCast_ediv, Nat.mul_div_cancel _ (Nat.two_pow_pos t)]
theorem bm_hi {F : Nat} {U : Int} (hFU : (F = 23 ∧ U = 8388608) ∨ (F = 52 ∧ U = 4503599627370496)) (fd z : Nat) (hf : fd ≤ 2046) (h0 : U ≤ (z : Int)) (h1 : (z : Int) < 2 * U) :
    Go.bits .or .i64 (shl .i64 (fd : Int) (F : Int)) (Go.bits .and .i64 (wrap64 (z : Int)) (wrap64 (shl .i64 1 (F : Int) - 1))) = (fd : Int) * U + ((z : Int) - U) := by
  have e4 : shl .i64 1 (F : Int) = U := by
    rcases hFU with ⟨rfl, rfl⟩ | ⟨rfl, rfl⟩ <;> decide +kernel
  have hU : U = ((2 ^ F : Nat) : Int) := by rcases hFU with ⟨rfl, rfl⟩ | ⟨rfl, rfl⟩ <;> rfl
  have hF : F ≤ 52 := by rcases hFU with ⟨rfl, _⟩ | ⟨rfl, _⟩ <;> decide
  have e5 : shl .i64 (fd : Int) (F : Int) = (fd : Int) * U := by
    unfold shl
    rw [Int.toNat_natCast, show min F IntKind.i64.bits = F by simp [IntKind.bits]; omega, bm_two, ← hU, i64_w]
    clear hU e4 h0 h1
    rcases hFU with ⟨_, rfl⟩ | ⟨_, rfl⟩ <;> (unfold wrap64; omega)
  have w6 : wrap64 (U - 1) = U - 1 := by
    clear hU e4 e5 h0 h1
    rcases hFU with ⟨_, rfl⟩ | ⟨_, rfl⟩ <;> (unfold wrap64; omega)
  have w7 : wrap64 (z : Int) = (z : Int) ∧ (z : Int) < 9223372036854775808 ∧ (z : Int) % U = (z : Int) - U := by
    clear hU e4 e5 w6
    rcases hFU with ⟨_, rfl⟩ | ⟨_, rfl⟩ <;> (unfold wrap64; omega)
  rw [e4, e5, w6, w7.1, bm_and _ (by omega) w7.2.1 F U hFU, w7.2.2]
  obtain ⟨r, hr⟩ : ∃ r : Nat, (z : Int) - U = (r : Int) := ⟨((z : Int) - U).toNat, by omega⟩
  rw [hr, hU]
  refine bm_or fd r F ?_ ?_ hF
  · clear hr h0 h1 w6 w7 e5 e4 hU
    rcases hFU with ⟨rfl, _⟩ | ⟨rfl, _⟩ <;> omega
  · omega
theorem bm_neg (b : Bool) (a : Int) (h : -9223372036854775808 < a ∧ a < 9223372036854775808) : (if b = true then some (wrap64 (-a), true) else some (a, true)) = some (mkR b a) := by
  unfold mkR
  have w : wrap64 (-a) = -a := by unfold wrap64; omega
  cases b
  · rfl
  · rw [if_pos rfl, if_pos rfl, w]
theorem bm_j1 {w : Int} {F : Nat} {U L G : Int} (h : Fm w F U L G) (o n : Nat) (h1 : 2 ^ n ≤ 2 * o) (h2 : o < 2 ^ n) (T : Int) (hT : -2000 ≤ T ∧ T ≤ 2100) (hn : n ≤ 64) (hnF : n ≤ F + 1) (hTL : L ≤ T) (hG : T + n - 1 ≤ G) (m : Nat) (M : Int) (hm : (m : Int) = M) (ha : M ≤ (F : Int) + 1 - n) (hb : M ≤ T - L) (hc : M = (F : Int) + 1 - n ∨ M = T - L) (b : Bool) (c1 c2 TP : Int) (K : Nat) :
    impl_BitMake.j1 (K + 1) (o : Int) T (n : Int) (T + n - 1) false b c1 c2 (F : Int) L G TP = some (if ((o * 2 ^ m : Nat) : Int) ≥ U then mkR b ((T - (m : Int) - L + 1) * U + (((o * 2 ^ m : Nat) : Int) - U)) else mkR b ((o * 2 ^ m : Nat) : Int)) := by
  have hu := Fm.u h
  have hLG : L = 1 - G - F ∧ 0 < G ∧ G ≤ 1023 ∧ F ≤ 52 := by rcases h with ⟨_, rfl, _, rfl, rfl⟩ | ⟨_, rfl, _, rfl, rfl⟩ <;> (clear h1 h2 hu; omega)
  have hFU : (F = 23 ∧ U = 8388608) ∨ (F = 52 ∧ U = 4503599627370496) := by rcases h with ⟨_, a, b, _⟩ | ⟨_, a, b, _⟩ <;> simp [a, b]
  have w1 : wrap64 ((F : Int) + 1) = (F : Int) + 1 := by clear h1 h2 hu; unfold wrap64; omega
  have w4 : wrap64 (T + n - 1 + G) = T + n - 1 + G := by clear h1 h2 hu; unfold wrap64; omega
  have hU52 : (2 ^ F : Nat) ≤ 4503599627370496 := bm_pow_le hLG.2.2.2
  rw [impl_BitMake.j1, if_neg (show ¬ (false = true) by decide), w4]
  by_cases q4 : T + n - 1 + G ≥ 1
  · have hMF : n + m = F + 1 := by clear h1 h2 hu hU52; omega
    have hin := bm_in o n m F h1 h2 hMF
    obtain ⟨z, hz⟩ : ∃ z, z = o * 2 ^ m := ⟨_, rfl⟩
    have w5 : wrap64 ((F : Int) + 1 - (n : Int)) = (F : Int) + 1 - n := by clear h1 h2 hu hin hz; unfold wrap64; omega
    have sh := bm_shl o m (by clear h1 h2 hu hin hz; omega) (by clear h1 h2 hu hz; omega) ((F : Int) + 1 - n) (by clear h1 h2 hu hin hz; omega)
    obtain ⟨fd, hfd⟩ : ∃ fd : Nat, T + n - 1 + G = (fd : Int) := ⟨(T + n - 1 + G).toNat, by clear h1 h2 hu hin hz; omega⟩
    have hfd2 : fd ≤ 2046 := by clear h1 h2 hu hin hz; omega
    have e7 : T - (m : Int) - L + 1 = (fd : Int) := by clear h1 h2 hu hin hz; omega
    rw [← hz] at hin sh ⊢
    have z0 : U ≤ (z : Int) ∧ (z : Int) < 2 * U := by rw [hu]; clear h1 h2 hz; omega
    rw [if_pos q4, if_pos (show 0 ≤ (F : Int) by clear h1 h2 hin hz; omega), w1, w5, if_pos (show 0 ≤ (F : Int) + 1 - n by clear h1 h2 hin hz; omega), sh, hfd, bm_hi hFU fd z hfd2 z0.1 z0.2, e7, if_pos (show (z : Int) ≥ U from z0.1)]
    refine bm_neg b _ ?_
    clear hu h1 h2 hin hz sh e7 hfd w1 w4 w5
    rcases hFU with ⟨_, rfl⟩ | ⟨_, rfl⟩ <;> omega
  · have hML : n + m ≤ F := by clear h1 h2 hu hU52; omega
    have hin := bm_under o n m F h1 h2 hML
    obtain ⟨z, hz⟩ : ∃ z, z = o * 2 ^ m := ⟨_, rfl⟩
    have w5 : wrap64 (T - L) = T - L := by clear h1 h2 hu hin hz; unfold wrap64; omega
    have sh := bm_shl o m (by clear h1 h2 hu hin hz; omega) (by clear h1 h2 hu hz; omega) (T - L) (by clear h1 h2 hu hin hz; omega)
    rw [← hz] at hin sh ⊢
    have zlt : z < 4503599627370496 := Nat.lt_of_lt_of_le hin hU52
    have zU : ¬ (z : Int) ≥ U := by
      rw [hu]
      exact fun hh => absurd (Int.ofNat_le.mp hh) (Nat.not_le.mpr hin)
    have w7 : wrap64 (z : Int) = (z : Int) := by clear h1 h2 hu hz hin hU52 zU sh w5 w4 w1; unfold wrap64; omega
    have zb : -9223372036854775808 < (z : Int) ∧ (z : Int) < 9223372036854775808 := by clear h1 h2 hu hz hin hU52 zU sh w5 w4 w1 w7; omega
    have t0 : 0 ≤ T - L := Int.sub_nonneg_of_le hTL
    rw [if_neg q4, w5, if_pos t0, sh, w7, if_neg zU]
    exact bm_neg b _ zb
theorem bm_impl {w : Int} {F : Nat} {U L G : Int} (h : Fm w F U L G) (o n t : Nat) (ho : o % 2 = 1) (h1 : 2 ^ n ≤ 2 * o) (h2 : o < 2 ^ n) (T M : Int) (hT : -2000 ≤ T ∧ T ≤ 2100) (m : Nat) (hM : Top F n T L M m) (ht : t ≤ 63) (hx : o * 2 ^ t < 2 ^ 64) (p : Int) (hp : p = T - (t : Int))
    (htz : STz.tz 64 (o * 2 ^ t) = t) (hln : Lib.bitLen o = n) (hn : n ≤ 64) (b : Bool) (TP : Int) (K : Nat) (hK : 400 ≤ K) :
    impl_BitMake.j0 K false b ((o * 2 ^ t : Nat) : Int) p (F : Int) L G TP = some (bmR U L G M b ((o * 2 ^ m : Nat) : Int) (T - (m : Int))) := by
  obtain ⟨K, rfl⟩ : ∃ q, K = q + 2 := ⟨K - 2, by clear h1 h2 hx; omega⟩
  have hu := Fm.u h
  have hLG : L = 1 - G - F ∧ 0 < G ∧ G ≤ 1023 ∧ F ≤ 52 := by rcases h with ⟨_, rfl, _, rfl, rfl⟩ | ⟨_, rfl, _, rfl, rfl⟩ <;> (clear h1 h2 hx hu; omega)
  have hpos : 0 < o * 2 ^ t := Nat.mul_pos (by clear h1 h2 hx; omega) (Nat.two_pow_pos t)
  have hot : o < 2 ^ 64 := Nat.lt_of_le_of_lt (Nat.le_mul_of_pos_right o (Nat.two_pow_pos t)) hx
  have e1 : bits_TrailingZeros64.f ((o * 2 ^ t : Nat) : Int) = some (t : Int) := by
    unfold bits_TrailingZeros64.f
    rw [if_pos ⟨by omega, by omega⟩, Int.toNat_natCast, htz]
  have e3 : bits_Len64.f (o : Int) = some (n : Int) := by
    unfold bits_Len64.f
    rw [if_pos ⟨by omega, by omega⟩, Int.toNat_natCast, hln]
  have w1 : wrap64 ((F : Int) + 1) = (F : Int) + 1 := by clear h1 h2 hx hu hpos hot; unfold wrap64; omega
  have w2 : wrap64 (p + (t : Int)) = T := by clear h1 h2 hx hu hpos hot; unfold wrap64; omega
  have w3 : wrap64 (wrap64 (T + (n : Int)) - 1) = T + n - 1 := by clear h1 h2 hx hu hpos hot; unfold wrap64; omega
  have hx0 : ¬ ((o * 2 ^ t : Nat) : Int) = 0 := by clear h1 h2 hx hu hot; omega
  rw [show K + 2 = (K + 1) + 1 from rfl, impl_BitMake.j0, if_neg (show ¬ (false = true) by decide), if_neg hx0, e1, Option.bind_some, if_pos (Int.natCast_nonneg t), bm_shr o t (by clear h1 h2 hx hu hpos hot; omega), e3, Option.bind_some, w1, w2, w3]
  have jT : ∀ a c d e f g i j k l, impl_BitMake.j1 (K + 1) a c d e true f g i j k l (TP) = some (0, false) := fun a c d e f g i j k l => by rw [impl_BitMake.j1, if_pos rfl]
  obtain ⟨ha, hb2, hc, hd, he⟩ := hM
  clear e1 e3 hx hpos hot hx0 htz w1 w2 w3
  unfold bmR
  by_cases q1 : (n : Int) > (F : Int) + 1
  · rw [if_pos q1, if_pos (show M < 0 by clear h1 h2 hu; omega)]; exact jT _ _ _ _ _ _ _ _ _ _
  · rw [if_neg q1]
    by_cases q2 : T < L
    · rw [if_pos q2, if_pos (show M < 0 by clear h1 h2 hu; omega)]; exact jT _ _ _ _ _ _ _ _ _ _
    · have hM0 : ¬ M < 0 := by clear h1 h2 hu; omega
      rw [if_neg q2, if_neg hM0]
      have hm := hd (by clear h1 h2 hu; omega)
      by_cases q3 : T + n - 1 > G
      · rw [decide_eq_true q3, jT]
        have hMF : n + m = F + 1 := by clear h1 h2 hu; omega
        have hin := bm_in o n m F h1 h2 hMF
        rw [if_pos (show ((o * 2 ^ m : Nat) : Int) ≥ U by rw [hu]; clear h1 h2; omega), if_pos (show T - (m : Int) - L + 1 > 2 * G by clear h1 h2 hu hin; omega)]
      · rw [decide_eq_false q3, bm_j1 h o n h1 h2 T hT hn (by clear h1 h2 hu; omega) (by clear h1 h2 hu; omega) (by clear h1 h2 hu; omega) m M hm ha hb2 hc b _ _ TP K]
        by_cases q5 : ((o * 2 ^ m : Nat) : Int) ≥ U
        · have q6 : ¬ (T - (m : Int) - L + 1 > 2 * G) := by clear h1 h2 hu q5; omega
          rw [if_pos q5, if_pos q5, if_neg q6]
        · rw [if_neg q5, if_neg q5]
theorem bmR_ok (U L G M : Int) (b : Bool) (z q : Int) (h0 : 0 ≤ M) (h1 : q - L + 1 ≤ 2 * G) : (bmR U L G M b z q).2 = true := by
  unfold bmR mkR
  rw [if_neg (by omega)]
  split
  · rw [if_neg (by omega)]
  · rfl
theorem bm_same (k : Nat) (w : Int) (b : Bool) (x p : Int) (hk : 500 ≤ k) (hx : 0 ≤ x ∧ x ≤ 18446744073709551615) : ∃ r, spec_BitMake.f k w b x p = some r ∧ impl_BitMake.f k w b x p = some r ∧ (w = 64 → x < 16777216 → -149 ≤ p → p ≤ 104 → r.2 = true) := by
  unfold spec_BitMake.f impl_BitMake.f spec_l1Width.f impl_formatOf.f impl_in.f
  have sT : spec_BitMake.j0 k w true b x p = some (0, false) := by
    obtain ⟨k, rfl⟩ : ∃ q, k = q + 1 := ⟨k - 1, by omega⟩
    rw [spec_BitMake.j0, if_pos rfl]
  have iT : ∀ f l g tp, impl_BitMake.j0 k true b x p f l g tp = some (0, false) := by
    intro f l g tp
    obtain ⟨k, rfl⟩ : ∃ q, k = q + 1 := ⟨k - 1, by omega⟩
    rw [impl_BitMake.j0, if_pos rfl]
  have main : ∀ (F : Nat) (U L G TP : Int), Fm w F U L G → -2000 ≤ p → p ≤ 2000 → ∃ r, spec_BitMake.j0 k w false b x p = some r ∧ impl_BitMake.j0 k false b x p (F : Int) L G TP = some r ∧ (w = 64 → x < 16777216 → -149 ≤ p → p ≤ 104 → r.2 = true) := by
    intro F U L G TP h p0 p1
    by_cases hz : x = 0
    · refine ⟨(0, true), ?_, ?_, fun _ _ _ _ => rfl⟩
      · obtain ⟨k, rfl⟩ : ∃ q, k = q + 1 := ⟨k - 1, by omega⟩
        rw [spec_BitMake.j0, if_neg (by decide), if_pos hz]
      · obtain ⟨k, rfl⟩ : ∃ q, k = q + 1 := ⟨k - 1, by omega⟩
        rw [impl_BitMake.j0, if_neg (by decide), if_pos hz]
    · obtain ⟨q, hq⟩ := STz.tz_odd 64 x.toNat (by omega) (by omega)
      obtain ⟨t, ht⟩ : ∃ t, t = STz.tz 64 x.toNat := ⟨_, rfl⟩
      rw [← ht, Nat.mul_comm] at hq
      obtain ⟨o, hoq⟩ : ∃ o, o = 2 * q + 1 := ⟨_, rfl⟩
      rw [← hoq] at hq
      have hx2 : x = ((o * 2 ^ t : Nat) : Int) := by omega
      have hlt : o * 2 ^ t < 2 ^ 64 := by omega
      have hpos : 0 < o := by omega
      have ht63 : t ≤ 63 := by
        have h2 : 1 * 2 ^ t ≤ o * 2 ^ t := Nat.mul_le_mul_right _ hpos
        have := (Nat.pow_lt_pow_iff_right (by decide : 1 < 2)).mp (show 2 ^ t < 2 ^ 64 by omega)
        omega
      have ho64 : o < 2 ^ 64 := Nat.lt_of_le_of_lt (Nat.le_mul_of_pos_right o (Nat.two_pow_pos t)) hlt
      have hlen := bm_len 64 o hpos ho64
      have hln : Lib.bitLen o = Lib.bitLenAux 64 o := rfl
      obtain ⟨n, hn⟩ : ∃ n, n = Lib.bitLenAux 64 o := ⟨_, rfl⟩
      rw [← hn] at hlen hln
      have hn64 : n ≤ 64 := by
        have h3 : 2 ^ n < 2 ^ 65 := by omega
        have := (Nat.pow_lt_pow_iff_right (by decide : 1 < 2)).mp h3
        omega
      obtain ⟨M, hM⟩ : ∃ M, M = min ((F : Int) + 1 - n) (p + t - L) := ⟨_, rfl⟩
      have hTop : Top F n (p + t) L M M.toNat := ⟨by omega, by omega, by omega, by omega, by omega⟩
      refine ⟨bmR U L G M b ((o * 2 ^ M.toNat : Nat) : Int) (p + t - (M.toNat : Int)), ?_, ?_, fun h64 hx24 hp1 hp2 => ?_⟩
      · rw [hx2]
        exact bm_spec h o n t (by omega) hlen.1 hlen.2 (p + t) M (by omega) M.toNat hTop (by omega) hlt p (by omega) b k (by omega)
      · rw [hx2]
        exact bm_impl h o n t (by omega) hlen.1 hlen.2 (p + t) M (by omega) M.toNat hTop ht63 hlt p (by omega) (by rw [← hq, ht]) hln hn64 b TP k (by omega)
      · have c24 := (bm_cmp o n t 24 hlen.1 hlen.2).mp (by clear hlen; omega)
        rcases h with ⟨rfl, _⟩ | ⟨_, rfl, rfl, rfl, rfl⟩
        · cases h64
        · exact bmR_ok _ _ _ _ _ _ _ (by clear hlen hq hlt hx2; omega) (by clear hlen hq hlt hx2; omega)
  by_cases h32 : w = 32
  · rw [if_pos h32, Option.bind_some, if_pos rfl, if_pos h32, Option.bind_some]
    simp only [if_true]
    by_cases c1 : p < -2000
    · rw [if_pos c1, if_neg (by omega), Option.bind_some, sT]; exact ⟨_, rfl, iT _ _ _ _, fun h1 h2 h3 h4 => by first | omega | (exfalso; omega)⟩
    · rw [if_neg c1, if_pos (by omega), Option.bind_some]
      by_cases c2 : p > 2000
      · rw [decide_eq_true c2, decide_eq_false (by omega), sT]; exact ⟨_, rfl, iT _ _ _ _, fun h1 h2 h3 h4 => by first | omega | (exfalso; omega)⟩
      · rw [decide_eq_false c2, decide_eq_true (by omega)]
        exact main 23 8388608 (-149) 127 2139095040 (.inl ⟨h32, rfl, rfl, rfl, rfl⟩) (by omega) (by omega)
  · by_cases h64 : w = 64
    · have hb : (w == 64) = true := by simp [h64]
      rw [if_neg h32, Option.bind_some, hb, if_pos rfl, if_neg h32, if_pos h64, Option.bind_some]
      simp only [if_true]
      by_cases c1 : p < -2000
      · rw [if_pos c1, if_neg (by omega), Option.bind_some, sT]; exact ⟨_, rfl, iT _ _ _ _, fun h1 h2 h3 h4 => by first | omega | (exfalso; omega)⟩
      · rw [if_neg c1, if_pos (by omega), Option.bind_some]
        by_cases c2 : p > 2000
        · rw [decide_eq_true c2, decide_eq_false (by omega), sT]; exact ⟨_, rfl, iT _ _ _ _, fun h1 h2 h3 h4 => by first | omega | (exfalso; omega)⟩
        · rw [decide_eq_false c2, decide_eq_true (by omega)]
          exact main 52 4503599627370496 (-1074) 1023 9218868437227405312 (.inr ⟨h64, rfl, rfl, rfl, rfl⟩) (by omega) (by omega)
    · have hb : (w == 64) = false := by simp [h64]
      rw [if_neg h32, Option.bind_some, hb, if_neg (by decide), sT, if_neg h32, if_neg h64, Option.bind_some]
      exact ⟨_, rfl, iT _ _ _ _, fun h1 h2 h3 h4 => by first | omega | (exfalso; omega)⟩
theorem part32 {n : Int} (h : bitOk 32 n = true) : (partOf 32 n).2.2.2 = true → (0 ≤ (partOf 32 n).2.1 ∧ (partOf 32 n).2.1 < 16777216) ∧ -149 ≤ (partOf 32 n).2.2.1 ∧ (partOf 32 n).2.2.1 ≤ 104 := by
  have h1 := bitOk_iff.mp h
  rw [top_32] at h1
  unfold partOf
  by_cases c : bitOk 32 n = true ∧ n ≠ top 32 ∧ n ≠ -top 32
  · rw [if_pos c]
    rw [top_32] at c
    simp only [if_true]
    obtain ⟨s, hs⟩ : ∃ s, s = if n < 0 then -n else n := ⟨_, rfl⟩
    rw [← hs]
    have hs2 : 0 ≤ s ∧ s < 2139095040 := by rw [hs]; split <;> omega
    clear hs c h1 h
    split
    · intro _; dsimp only; omega
    · intro _; dsimp only; omega
  · rw [if_neg c]
    intro h; cases h
theorem e_widen (k : Nat) (n : Int) (h : bitOk 32 n = true) (hk : 501 ≤ k) : ∃ r, spec_BitWiden.f k n = some (r, true) ∧ impl_widen.f k n = some r := by
  obtain ⟨k, rfl⟩ : ∃ q, k = q + 1 := ⟨k - 1, by omega⟩
  unfold spec_BitWiden.f impl_widen.f
  rw [e_sBitOk, Option.bind_some, h, if_pos rfl, e_sPartOf, Option.bind_some, e_iPartOf, Option.bind_some]
  have hp := part32 h
  generalize partOf 32 n = P at hp ⊢
  obtain ⟨a, b, c, d⟩ := P
  dsimp only at hp ⊢
  cases d
  · rw [if_neg (show ¬ (false = true) by decide), if_neg (show ¬ (false = true) by decide), e_sBitTop, Option.bind_some, e_iBitTop, Option.bind_some, Option.bind_some]
    by_cases q : n < 0
    · rw [if_pos q, if_pos q]; exact ⟨_, rfl, rfl⟩
    · rw [if_neg q, if_neg q]; exact ⟨_, rfl, rfl⟩
  · obtain ⟨r1, r2, r3⟩ := hp rfl
    obtain ⟨⟨r, ok⟩, h1, h2, h3⟩ := bm_same (k + 1) 64 a b c (by omega) ⟨r1.1, by omega⟩
    have := h3 rfl r1.2 r2 r3
    dsimp only at this
    subst this
    rw [if_pos rfl, if_pos rfl, h1, Option.bind_some, h2, Option.bind_some]
    exact ⟨_, rfl, rfl⟩
theorem e_l2Wide (k : Nat) (n : Int) (h : bitOk 32 n = true) (hk : 501 ≤ k) : ∃ r, spec_l2Wide.f k n = some r ∧ impl_widen.f k n = some r := by
  obtain ⟨r, h1, h2⟩ := e_widen k n h hk
  refine ⟨r, ?_, h2⟩
  unfold spec_l2Wide.f
  rw [h1, Option.bind_some]
theorem FnExactPairMore : laws_FnExactPairMore.Pure := by
  intro a b _ _
  refine ⟨600, ?_⟩
  unfold laws_FnExactPairMore.f laws_toPair.f spec_PairMore.f impl_PairMore.f
  simp only [Option.bind_some, e_sPairOk, e_iPairOk]
  by_cases c : pairOk 32 a b = true
  · have h := pairOk_iff.mp c
    obtain ⟨r, h1, h2⟩ := e_l2Wide 600 a (bitOk_iff.mpr ⟨.inl rfl, by omega, by omega⟩) (by omega)
    obtain ⟨s, h3, h4⟩ := e_l2Wide 600 b (bitOk_iff.mpr ⟨.inl rfl, by omega, by omega⟩) (by omega)
    simp only [if_pos c, h1, h2, h3, h4, Option.bind_some]
    unfold laws_eqPair.f
    simp
  · simp only [if_neg c, Option.bind_some]
    unfold laws_eqPair.f
    simp
end Go.Proofs.YtkpholdkijlogaaDoor.Pure
