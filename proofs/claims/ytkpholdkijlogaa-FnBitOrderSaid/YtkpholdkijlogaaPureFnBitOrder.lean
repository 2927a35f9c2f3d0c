/- Order numbers of drawn floats stand as their values do, whatever numbers the generator draws.
   Conditions: none beyond those of the given row (each number is of its kind). -/
import Derived.Test.YtkpholdkijlogaaQFnBitOrderx6
import Derived.Test.YtkpholdkijlogaaMB
import Derived.Test.YtkpholdkijlogaaMG
import Derived.Test.YtkpholdkijlogaaMN
namespace Go.Proofs.Ytkpholdkijlogaa.Pure
open Go.RowKit Go.Proofs.Ytkpholdkijlogaa.QFnBitOrder Go.Proofs.YtkpholdkijlogaaW.PrintWords Go.Proofs.YtkpholdkijlogaaW.PrintLast Go.Proofs.YtkpholdkijlogaaW.PrintMore Go.Proofs.Ytkpholdkijlogaa.M Go.Proofs.Ytkpholdkijlogaa.MG Go.Proofs.Ytkpholdkijlogaa.MN
set_option linter.unusedVariables false
set_option linter.unusedSimpArgs false
theorem e_sBitTop (w : Int) : spec_BitTop.f w = some (top w) := by
  unfold spec_BitTop.f top; split
  · rfl
  · split <;> rfl
theorem e_formatOf (w : Int) : impl_formatOf.f w = some (if w = 32 then (23, -149, 127, top w, true) else if w = 64 then (52, -1074, 1023, top w, true) else (0, 0, 0, top w, false)) := by
  unfold impl_formatOf.f top
  by_cases h : w = 32
  · simp [h]
  · by_cases h' : w = 64
    · simp [h']
    · simp [h, h']
theorem e_sBitOk (w n : Int) : spec_BitOk.f w n = some (bitOk w n) := by
  unfold spec_BitOk.f spec_l1Width.f
  simp only [e_sBitTop, Option.bind_some, top_neg, bitOk]
  by_cases h : w = 32
  · subst h; simp; split <;> simp_all; omega
  · by_cases h' : w = 64
    · subst h'; simp; split <;> simp_all; omega
    · simp [h, h']
theorem e_in (n a b : Int) : impl_in.f n a b = some (decide (a ≤ n ∧ n ≤ b)) := by
  unfold impl_in.f; split
  · simp_all
  · simp; omega
theorem e_iBitOk (w n : Int) : impl_BitOk.f w n = some (bitOk w n) := by
  unfold impl_BitOk.f
  simp only [e_formatOf, Option.bind_some, e_in]
  by_cases h : w = 32
  · subst h; simp [bitOk, top_neg]
  · by_cases h' : w = 64
    · subst h'; simp [bitOk, top_neg]
    · simp [h, h', bitOk]
theorem e_sPartOf (k : Nat) (w n : Int) : spec_BitPartOf.f (k + 1) w n = some (partOf w n) := by
  unfold spec_BitPartOf.f
  simp only [e_sBitOk, e_sBitTop, Option.bind_some, top_neg, spec_BitPartOf.j0, spec_l1Least.f, spec_l1Frac.f]
  by_cases h : bitOk w n = true
  · have r := bitOk_iff.mp h
    have t := top_range w
    rw [if_pos h]
    by_cases c1 : n = top w
    · rw [if_pos c1]; simp [partOf, c1]
    · rw [if_neg c1]
      by_cases c2 : n = -top w
      · rw [if_pos (beq_iff_eq.mpr c2)]; simp [partOf, c2]
      · rw [if_neg (fun q => c2 (beq_iff_eq.mp q))]
        simp only [partOf, h, c1, c2, ne_eq, not_false_eq_true, and_self, if_true]
        have hs0 : 0 ≤ (if n < 0 then -n else n) ∧ (if n < 0 then -n else n) ≤ top w := by split <;> omega
        have hE : (if n < 0 then wrap64 (-n) else n) = (if n < 0 then -n else n) := by split <;> (try unfold wrap64) <;> omega
        rcases r.1 with rfl | rfl
        · rw [top_32] at hs0
          have q1 : shl .i64 1 (IntKind.u64.wrap 23) = 8388608 := by decide +kernel
          have q2 : (0 : Int) ≤ IntKind.u64.wrap 23 := by decide +kernel
          by_cases c : n < 0
          · simp only [c, if_true, Option.bind_some, q1, q2] at hs0 ⊢
            rw [if_neg (by decide), show wrap64 (-n) = -n from by unfold wrap64; omega, Int.tdiv_eq_ediv_of_nonneg hs0.1, Int.tmod_eq_emod_of_nonneg hs0.1]
            simp only [u64w]
            by_cases z : -n / 8388608 = 0
            · rw [if_neg (by unfold wrap64; omega), if_pos z, show -n % 8388608 % 18446744073709551616 = -n % 8388608 from by omega]
            · rw [if_pos (by unfold wrap64; omega), if_neg z]; congr 3
              · omega
              · congr 1; unfold wrap64; omega
          · simp only [c, if_true, if_false, Option.bind_some, q1, q2] at hs0 ⊢
            rw [if_neg (by decide), Int.tdiv_eq_ediv_of_nonneg hs0.1, Int.tmod_eq_emod_of_nonneg hs0.1]
            simp only [u64w]
            by_cases z : n / 8388608 = 0
            · rw [if_neg (by unfold wrap64; omega), if_pos z, show n % 8388608 % 18446744073709551616 = n % 8388608 from by omega]
            · rw [if_pos (by unfold wrap64; omega), if_neg z]; congr 3
              · omega
              · congr 1; unfold wrap64; omega
        · rw [top_64] at hs0
          have q1 : shl .i64 1 (IntKind.u64.wrap 52) = 4503599627370496 := by decide +kernel
          have q2 : (0 : Int) ≤ IntKind.u64.wrap 52 := by decide +kernel
          simp only [show ¬ (64 : Int) = 32 by decide, if_false]
          by_cases c : n < 0
          · simp only [c, if_true, Option.bind_some, q1, q2] at hs0 ⊢
            rw [if_neg (by decide), show wrap64 (-n) = -n from by unfold wrap64; omega, Int.tdiv_eq_ediv_of_nonneg hs0.1, Int.tmod_eq_emod_of_nonneg hs0.1]
            simp only [u64w]
            by_cases z : -n / 4503599627370496 = 0
            · rw [if_neg (by unfold wrap64; omega), if_pos z, show -n % 4503599627370496 % 18446744073709551616 = -n % 4503599627370496 from by omega]
            · rw [if_pos (by unfold wrap64; omega), if_neg z]; congr 3
              · omega
              · congr 1; unfold wrap64; omega
          · simp only [c, if_true, if_false, Option.bind_some, q1, q2] at hs0 ⊢
            rw [if_neg (by decide), Int.tdiv_eq_ediv_of_nonneg hs0.1, Int.tmod_eq_emod_of_nonneg hs0.1]
            simp only [u64w]
            by_cases z : n / 4503599627370496 = 0
            · rw [if_neg (by unfold wrap64; omega), if_pos z, show n % 4503599627370496 % 18446744073709551616 = n % 4503599627370496 from by omega]
            · rw [if_pos (by unfold wrap64; omega), if_neg z]; congr 3
              · omega
              · congr 1; unfold wrap64; omega
  · simp [h, partOf]
theorem e_iPartOf (k : Nat) (w n : Int) : impl_BitPartOf.f (k + 1) w n = some (partOf w n) := by
  unfold impl_BitPartOf.f
  simp only [e_iBitOk, e_formatOf, Option.bind_some, impl_BitPartOf.j0]
  by_cases h : bitOk w n = true
  · have r := bitOk_iff.mp h
    have t := top_range w
    have es : impl_size.f n = some (if n < 0 then -n else n) := by unfold impl_size.f mx wrap64; congr 1; split <;> omega
    rw [if_pos h, es]
    simp only [Option.bind_some, es]
    have hs0 : 0 ≤ (if n < 0 then -n else n) ∧ (if n < 0 then -n else n) ≤ top w := by split <;> omega
    have ht : ((if n < 0 then -n else n) == top w) = true ↔ (n = top w ∨ n = -top w) := by rw [beq_iff_eq]; split <;> omega
    by_cases c : n = top w ∨ n = -top w
    · have hg : ¬ (bitOk w n = true ∧ n ≠ top w ∧ n ≠ -top w) := by omega
      simp only [partOf]; rw [if_neg hg]
      rcases r.1 with rfl | rfl
      · simp only [if_true]; rw [if_pos (ht.mpr c)]
      · simp only [show ¬ (64 : Int) = 32 by decide, if_false, if_true]; rw [if_pos (ht.mpr c)]
    · have hg : bitOk w n = true ∧ n ≠ top w ∧ n ≠ -top w := ⟨h, by omega, by omega⟩
      simp only [partOf]; rw [if_pos hg]
      generalize (if n < 0 then -n else n) = s at hs0 ht ⊢
      rcases r.1 with rfl | rfl
      · rw [top_32] at hs0
        have q1 : shl .i64 1 23 = 8388608 := by decide +kernel
        have q2 : shr .i64 s 23 = s / 8388608 := by simp [shr, IntKind.bits]
        simp only [if_true, q1, q2]
        rw [if_neg (fun q => c (ht.mp q)), if_pos (by decide), show wrap64 (8388608 - 1) = 8388607 from by decide +kernel, i64_mask23 s hs0.1 (by omega)]
        by_cases z : s / 8388608 = 0
        · rw [if_pos z, if_pos z, u64w, show s % 8388608 % 18446744073709551616 = s % 8388608 from by omega]
        · rw [if_neg z, if_neg z, i64_or23 _ (by omega) (by omega), u64w]; congr 3
          · omega
          · congr 1; unfold wrap64; omega
      · rw [top_64] at hs0
        have q1 : shl .i64 1 52 = 4503599627370496 := by decide +kernel
        have q2 : shr .i64 s 52 = s / 4503599627370496 := by simp [shr, IntKind.bits]
        simp only [show ¬ (64 : Int) = 32 by decide, if_false, if_true, q1, q2]
        rw [if_neg (fun q => c (ht.mp q)), if_pos (by decide), show wrap64 (4503599627370496 - 1) = 4503599627370495 from by decide +kernel, i64_mask52 s hs0.1 (by omega)]
        by_cases z : s / 4503599627370496 = 0
        · rw [if_pos z, if_pos z, u64w, show s % 4503599627370496 % 18446744073709551616 = s % 4503599627370496 from by omega]
        · rw [if_neg z, if_neg z, i64_or52 _ (by omega) (by omega), u64w]; congr 3
          · omega
          · congr 1; unfold wrap64; omega
  · simp [h, partOf]
theorem e_pick (k : Nat) (l : List Int) (p n : Int) (hb : Bytes l) (hl : l.length ≤ 2000) (hp : 0 ≤ p ∧ p ≤ 4000) (hn : 1 ≤ n) :
    DR (p + 1) (spec_l31Rd_pick.f (k + 1) l p n) (fun v => 0 ≤ v ∧ v < n) := by
  have hw : wrap64 (p + 1) = p + 1 := by unfold wrap64; omega
  unfold spec_l31Rd_pick.f
  rw [if_neg (by omega), hw]
  simp only [spec_l31Rd_pick.j0]
  have hw2 : wrap64 (p + 1 - 1) = p := by unfold wrap64; omega
  rw [hw2]
  refine DR.ite (fun _ => DR.here (by omega) (by omega) ⟨by omega, by omega⟩) (fun h1 => ?_)
  have hL : 0 < (l.length : Int) := by
    rcases Nat.eq_zero_or_pos l.length with h | h
    · exact absurd (by simp [h]) h1
    · omega
  refine DR.ite (fun h2 => ?_) (fun h2 => ?_)
  · rw [if_pos hp.1, if_neg (by omega)]
    have := byte_range hb p
    have e : wrap64 (rd l p) = rd l p := by unfold wrap64; omega
    rw [e]
    exact DR.here (by omega) (by omega) ⟨Int.tmod_nonneg _ this.1, Int.tmod_lt_of_pos _ (by omega)⟩
  · have e7 : (wrap64 ((wrap64 (p * 7)) + 3)) = p * 7 + 3 := by unfold wrap64; omega
    rw [if_neg (by omega), if_pos (Int.tmod_nonneg _ hp.1), if_pos (Int.tmod_lt_of_pos _ hL), e7, if_pos (Int.tmod_nonneg _ (by omega)), if_pos (Int.tmod_lt_of_pos _ hL), if_neg (by omega)]
    have r1 := byte_range hb (Int.tmod p (l.length : Int))
    have r2 := byte_range hb (Int.tmod (p * 7 + 3) (l.length : Int))
    have w1 : wrap64 (rd l (Int.tmod p (l.length : Int))) = rd l (Int.tmod p (l.length : Int)) := by unfold wrap64; omega
    have w2 : wrap64 (rd l (Int.tmod (p * 7 + 3) (l.length : Int))) = rd l (Int.tmod (p * 7 + 3) (l.length : Int)) := by unfold wrap64; omega
    rw [w1, w2]
    exact DR.here (by omega) (by omega) (pick_core _ _ p _ r1 r2 ⟨hp.1, by omega⟩ hL n hn)
theorem e_bigl (l : List Int) (hb : Bytes l) (hl : l.length ≤ 2000) : ∀ (d : Nat) (k : Nat) (x p : Int), d ≤ 8 → 0 ≤ p ∧ p + d ≤ 3010 →
    DR (p + d) (spec_l31Rd_big.l0 (k + d + 2) x (8 - d) l p) (fun _ => True) := by
  intro d
  induction d with
  | zero =>
    intro k x p hd hp
    show DR _ (spec_l31Rd_big.l0 (k + 1 + 1) x (8 - (0 : Int)) l p) _
    simp only [spec_l31Rd_big.l0]
    rw [if_neg (by omega)]
    exact DR.here (by omega) (by omega) trivial
  | succ d ih =>
    intro k x p hd hp
    rw [show k + (d + 1) + 2 = (k + d + 2) + 1 by omega]
    simp only [spec_l31Rd_big.l0]
    rw [if_pos (by omega)]
    refine DR.bind (e_pick (k + d + 1) l p 256 hb hl (by omega) (by omega)) ?_
    intro v j h0 h1 hv
    have e : wrap64 (8 - ((d + 1 : Nat) : Int) + 1) = 8 - (d : Int) := by unfold wrap64; omega
    rw [e]
    exact (ih k _ j (by omega) (by omega)).mono (by omega) (fun _ h => h)
theorem e_big (k : Nat) (l : List Int) (p : Int) (hb : Bytes l) (hl : l.length ≤ 2000) (hp : 0 ≤ p ∧ p ≤ 3000) :
    DR (p + 8) (spec_l31Rd_big.f (k + 10) l p) (fun _ => True) := by
  have := e_bigl l hb hl 8 k 0 p (by omega) (by omega)
  exact this
theorem e_ordj1 (k : Nat) (x5 x6 : Int) (l : List Int) (p : Int) (hb : Bytes l) (hl : l.length ≤ 2000) (hp : 0 ≤ p ∧ p ≤ 2000) (h5 : In64 x5) (h6 : In64 x6) :
    DR (p + 3) (spec_l31Rd_ord.j1 (k + 2) x5 x6 l p) In64 := by
  simp only [spec_l31Rd_ord.j1]
  refine DR.bind (e_pick k l p 40 hb hl (by omega) (by omega)) ?_
  intro v j h0 h1 hv
  refine DR.ite (fun _ => ?_) (fun _ => DR.ite (fun _ => ?_) (fun _ => ?_))
  · refine DR.bind (e_pick k l j 3 hb hl (by omega) (by omega)) ?_
    intro v2 j2 h02 h12 hv2
    refine DR.bind (e_pick k l j2 2 hb hl (by (try dsimp only at *); omega) (by omega)) ?_
    intro v3 j3 h03 h13 hv3
    refine DR.ite (fun _ => DR.here h03 ?_ (in64_wrap _)) (fun _ => DR.here h03 ?_ (in64_wrap _)) <;> ((try dsimp only at *); omega)
  · refine DR.bind (e_pick k l j 2 hb hl (by omega) (by omega)) ?_
    intro v3 j3 h03 h13 hv3
    refine DR.ite (fun _ => DR.here h03 ?_ (in64_wrap _)) (fun _ => DR.here h03 ?_ h5) <;> ((try dsimp only at *); omega)
  · refine DR.bind (e_pick k l j 2 hb hl (by omega) (by omega)) ?_
    intro v3 j3 h03 h13 hv3
    refine DR.ite (fun _ => DR.here h03 ?_ (in64_wrap _)) (fun _ => DR.here h03 ?_ h6) <;> ((try dsimp only at *); omega)
theorem in64_small {v n : Int} (h : 0 ≤ v ∧ v < n) (hn : n ≤ 1000000000) : In64 v := by unfold In64; omega
theorem in64_tmod (a b : Int) (h : 0 < b ∧ b ≤ 9223372036854775807) : In64 (Int.tmod a b) := by
  unfold In64
  have h1 := Int.natAbs_tmod a b
  have h2 : a.natAbs % b.natAbs < b.natAbs := Nat.mod_lt _ (by omega)
  generalize a.natAbs % b.natAbs = q at *
  omega
theorem e_ordj0 (k : Nat) (x1 x5 x10 : Int) (x31 : Bool) (l : List Int) (p : Int) (hb : Bytes l) (hl : l.length ≤ 2000) (hp : 0 ≤ p ∧ p ≤ 1500) (h5 : 0 ≤ x5 ∧ x5 ≤ 9218868437227405312) :
    DR (p + 11) (spec_l31Rd_ord.j0 (k + 11) x1 x5 x10 x31 l p) In64 := by
  have i5 : In64 x5 := by unfold In64; omega
  simp only [spec_l31Rd_ord.j0]
  refine DR.ite (fun _ => ?_) (fun _ => DR.ite (fun _ => ?_) (fun _ => ?_))
  · refine DR.bind (e_pick (k + 9) l p 2048 hb hl (by omega) (by omega)) ?_
    intro v j h0 h1 hv
    refine DR.bind (e_pick (k + 9) l j 4 hb hl (by omega) (by omega)) ?_
    intro v2 j2 h02 h12 hv2
    refine DR.ite (fun _ => ?_) (fun _ => ?_)
    · refine DR.bind (e_pick (k + 9) l j2 256 hb hl (by (try dsimp only at *); omega) (by omega)) ?_
      intro v3 j3 h03 h13 hv3
      refine DR.bind (e_pick (k + 9) l j3 4 hb hl (by (try dsimp only at *); omega) (by omega)) ?_
      intro v4 j4 h04 h14 hv4
      exact (e_ordj1 (k + 8) x5 _ l j4 hb hl (by (try dsimp only at *); omega) i5 (in64_wrap _)).mono (by (try dsimp only at *); omega) (fun _ h => h)
    · exact (e_ordj1 (k + 8) x5 _ l j2 hb hl (by (try dsimp only at *); omega) i5 (in64_wrap _)).mono (by (try dsimp only at *); omega) (fun _ h => h)
  · refine DR.bind (e_pick (k + 9) l p 1048576 hb hl (by omega) (by omega)) ?_
    intro v j h0 h1 hv
    exact (e_ordj1 (k + 8) x5 _ l j hb hl (by (try dsimp only at *); omega) i5 (in64_small hv (by omega))).mono (by (try dsimp only at *); omega) (fun _ h => h)
  · refine DR.bind (e_big k l p hb hl (by omega)) ?_
    intro v j h0 h1 hv
    have e : wrap64 (x5 + 1) = x5 + 1 := by unfold wrap64; omega
    refine DR.ite (fun _ => ?_) (fun _ => ?_)
    · rw [e, if_neg (by omega)]
      exact (e_ordj1 (k + 8) x5 _ l j hb hl (by (try dsimp only at *); omega) i5 (in64_tmod _ _ (by omega))).mono (by (try dsimp only at *); omega) (fun _ h => h)
    · exact (e_ordj1 (k + 8) x5 _ l j hb hl (by (try dsimp only at *); omega) i5 (in64_wrap _)).mono (by (try dsimp only at *); omega) (fun _ h => h)
theorem e_ord (k : Nat) (l : List Int) (p w : Int) (hb : Bytes l) (hl : l.length ≤ 2000) (hp : 0 ≤ p ∧ p ≤ 1400) :
    DR (p + 12) (spec_l31Rd_ord.f (k + 11) l p w) In64 := by
  unfold spec_l31Rd_ord.f
  rw [e_sBitTop, Option.bind_some]
  have ht := top_range w
  refine DR.bind (e_pick (k + 10) l p 10 hb hl (by omega) (by omega)) ?_
  intro v j h0 h1 hv
  refine DR.ite (fun _ => ?_) (fun _ => DR.ite (fun _ => ?_) (fun _ => DR.ite (fun _ => ?_) (fun _ => ?_)))
  · refine DR.bind (e_pick (k + 10) l j 6 hb hl (by omega) (by omega)) ?_
    intro v2 j2 h02 h12 hv2
    exact (e_ordj1 (k + 9) _ _ l j2 hb hl (by (try dsimp only at *); omega) (in64_top w) (in64_small hv2 (by omega))).mono (by (try dsimp only at *); omega) (fun _ h => h)
  · refine DR.bind (e_pick (k + 10) l j 6 hb hl (by omega) (by omega)) ?_
    intro v2 j2 h02 h12 hv2
    exact (e_ordj1 (k + 9) _ _ l j2 hb hl (by (try dsimp only at *); omega) (in64_top w) (in64_wrap _)).mono (by (try dsimp only at *); omega) (fun _ h => h)
  · exact (e_ordj0 k _ _ _ _ l j hb hl (by omega) ht).mono (by omega) (fun _ h => h)
  · exact (e_ordj0 k _ _ _ _ l j hb hl (by omega) ht).mono (by omega) (fun _ h => h)
theorem e_open (l : List Int) (hb : Bytes l) : ∃ l' : List Int, spec_l31Open.f l = some (l', 0) ∧ Bytes l' ∧ l'.length ≤ 2000 := by
  unfold spec_l31Open.f
  by_cases h : (l.length : Int) > 2000
  · rw [if_pos h, if_pos (by omega)]
    exact ⟨_, rfl, hb.take _, by rw [List.length_take]; omega⟩
  · rw [if_neg h]
    exact ⟨_, rfl, hb, by omega⟩
theorem e_lessl1 (x7 x9 : Int) : ∀ (d k : Nat) (x8 x10 : Int), d ≤ 63 → 9223372036854775808 ≤ x8 * 2 ^ d → x8 * 2 ^ d < 18446744073709551616 → 0 < x8 → -100000 ≤ x10 - d → x10 ≤ 100000 →
    laws_pbLess.l1 (k + d + 1) x7 x8 x9 x10 = some (decide (x9 < x10 - d ∨ (x9 = x10 - d ∧ x7 < x8 * 2 ^ d))) := by
  intro d
  induction d with
  | zero =>
    intro k x8 x10 hd h0 h1 h2 h3 h4
    have e : x8 * 2 ^ 0 = x8 := by omega
    have e' : x10 - ((0 : Nat) : Int) = x10 := by omega
    rw [e] at h0 h1
    rw [e, e', show k + 0 + 1 = k + 1 by omega]
    simp only [laws_pbLess.l1]
    rw [if_neg (by omega)]
    by_cases c : x9 < x10
    · rw [if_pos c]; simp [c]
    · rw [if_neg c]
      by_cases c2 : x9 = x10
      · rw [if_pos c2]; simp [c2]
      · rw [if_neg c2]; simp [c, c2]
  | succ d ih =>
    intro k x8 x10 hd h0 h1 h2 h3 h4
    have e : x8 * 2 ^ (d + 1) = x8 * 2 * 2 ^ d := by rw [Int.pow_succ, Int.mul_assoc, Int.mul_comm (2 ^ d) 2]
    have p := pow_pos d
    have hlt : x8 * 2 ≤ x8 * 2 * 2 ^ d := by
      have := Int.mul_le_mul_of_nonneg_left (show 1 ≤ (2 : Int) ^ d by omega) (show 0 ≤ x8 * 2 by omega)
      omega
    rw [e] at h0 h1
    have w1 : IntKind.u64.wrap (x8 * 2) = x8 * 2 := by rw [u64w]; omega
    have w2 : wrap64 (x10 - 1) = x10 - 1 := by unfold wrap64; omega
    obtain ⟨m, hm⟩ : ∃ m, m = k + d + 1 := ⟨_, rfl⟩
    rw [show k + (d + 1) + 1 = m + 1 by omega]
    simp only [laws_pbLess.l1]
    rw [if_pos (by omega), w1, w2, hm, ih k (x8 * 2) (x10 - 1) (by omega) h0 h1 (by omega) (by omega) (by omega), e]
    congr 2
    rw [show x10 - 1 - (d : Int) = x10 - ((d + 1 : Nat) : Int) by omega]
theorem e_lessl0 (x8 x10 : Int) : ∀ (d k : Nat) (x7 x9 : Int), d ≤ 63 → 9223372036854775808 ≤ x7 * 2 ^ d → x7 * 2 ^ d < 18446744073709551616 → 0 < x7 → -100000 ≤ x9 - d → x9 ≤ 100000 →
    laws_pbLess.l0 (k + d + 1) x7 x8 x9 x10 = laws_pbLess.l1 k (x7 * 2 ^ d) x8 (x9 - d) x10 := by
  intro d
  induction d with
  | zero =>
    intro k x7 x9 hd h0 h1 h2 h3 h4
    have e : x7 * 2 ^ 0 = x7 := by omega
    have e' : x9 - ((0 : Nat) : Int) = x9 := by omega
    rw [e] at h0 h1
    rw [e, e', show k + 0 + 1 = k + 1 by omega]
    simp only [laws_pbLess.l0]
    rw [if_neg (by omega)]
  | succ d ih =>
    intro k x7 x9 hd h0 h1 h2 h3 h4
    have e : x7 * 2 ^ (d + 1) = x7 * 2 * 2 ^ d := by rw [Int.pow_succ, Int.mul_assoc, Int.mul_comm (2 ^ d) 2]
    have p := pow_pos d
    have hlt : x7 * 2 ≤ x7 * 2 * 2 ^ d := by
      have := Int.mul_le_mul_of_nonneg_left (show 1 ≤ (2 : Int) ^ d by omega) (show 0 ≤ x7 * 2 by omega)
      omega
    rw [e] at h0 h1
    have w1 : IntKind.u64.wrap (x7 * 2) = x7 * 2 := by rw [u64w]; omega
    have w2 : wrap64 (x9 - 1) = x9 - 1 := by unfold wrap64; omega
    obtain ⟨m, hm⟩ : ∃ m, m = k + d + 1 := ⟨_, rfl⟩
    rw [show k + (d + 1) + 1 = m + 1 by omega]
    simp only [laws_pbLess.l0]
    rw [if_pos (by omega), w1, w2, hm, ih k (x7 * 2) (x9 - 1) (by omega) h0 h1 (by omega) (by omega) (by omega), e]
    congr 1
    omega
theorem hi_norm {x : Int} {t : Nat} (h : Hi x t) : 9223372036854775808 ≤ x * 2 ^ (63 - t) ∧ x * 2 ^ (63 - t) < 18446744073709551616 ∧ 0 < x := by
  obtain ⟨h0, h1, h2⟩ := h
  have p := pow_pos (63 - t)
  have p' := pow_pos t
  have a := Int.mul_le_mul_of_nonneg_right h1 (Int.le_of_lt p)
  have b := Int.mul_lt_mul_of_pos_right h2 p
  rw [← Int.pow_add, show t + (63 - t) = 63 by omega] at a
  rw [← Int.pow_add, show t + 1 + (63 - t) = 64 by omega] at b
  refine ⟨by omega, by omega, by omega⟩
theorem e_lessj1 (k : Nat) (b1 b2 : Bool) (x1 p1 x2 p2 : Int) (t1 t2 : Nat) (h1 : Hi x1 t1) (h2 : Hi x2 t2) (r1 : -50000 ≤ p1 ∧ p1 ≤ 50000) (r2 : -50000 ≤ p2 ∧ p2 ≤ 50000) :
    laws_pbLess.j1 (k + 150) b1 x1 p1 b2 x2 p2 = some (lessV p1 x1 t1 p2 x2 t2) := by
  obtain ⟨a1, a2, a3⟩ := hi_norm h1
  obtain ⟨c1, c2, c3⟩ := hi_norm h2
  have q1 := h1.1
  have q2 := h2.1
  simp only [laws_pbLess.j1]
  obtain ⟨m, hm⟩ : ∃ m, k + 149 = (m + (63 - t2) + 1) + (63 - t1) + 1 := ⟨k + 149 - (63 - t2) - 1 - (63 - t1) - 1, by omega⟩
  rw [hm, e_lessl0 x2 p2 (63 - t1) _ x1 p1 (by omega) a1 a2 a3 (by omega) (by omega), e_lessl1 _ _ (63 - t2) m x2 p2 (by omega) c1 c2 c3 (by omega) (by omega)]
  unfold lessV
  congr 1
  rw [decide_eq_decide]
  omega
theorem e_pbLess (k : Nat) (w n1 n2 : Int) (h1 : (partOf w n1).2.2.2 = true) (h2 : (partOf w n2).2.2.2 = true) :
    laws_pbLess.f (k + 151) (partOf w n1).1 (partOf w n1).2.1 (partOf w n1).2.2.1 (partOf w n2).1 (partOf w n2).2.1 (partOf w n2).2.2.1 = some (decide (n1 < n2)) := by
  have val : ∀ n, (partOf w n).2.2.2 = true → ∃ f : Nat, ∃ u p0 : Int, ((f = 23 ∧ u = 8388608) ∨ (f = 52 ∧ u = 4503599627370496)) ∧ u = (if w = 32 then 8388608 else 4503599627370496) ∧ p0 = (if w = 32 then -149 else -1074) ∧
      partOf w n = (decide (n < 0), sz u (if n < 0 then -n else n), pwr u p0 (if n < 0 then -n else n), true) ∧ -50000 ≤ pwr u p0 (if n < 0 then -n else n) ∧ pwr u p0 (if n < 0 then -n else n) ≤ 50000 := by
    intro n hn
    by_cases g : bitOk w n = true ∧ n ≠ top w ∧ n ≠ -top w
    · have r := bitOk_iff.mp g.1
      have hp : partOf w n = (decide (n < 0), sz (if w = 32 then 8388608 else 4503599627370496) (if n < 0 then -n else n), pwr (if w = 32 then 8388608 else 4503599627370496) (if w = 32 then -149 else -1074) (if n < 0 then -n else n), true) := by
        unfold partOf; rw [if_pos g]; unfold sz pwr
        generalize (if n < 0 then -n else n) = s
        generalize (if w = 32 then (8388608 : Int) else 4503599627370496) = u
        dsimp only
        split <;> rfl
      have hs : 0 ≤ (if n < 0 then -n else n) ∧ (if n < 0 then -n else n) ≤ top w := by split <;> omega
      generalize (if n < 0 then -n else n) = s at hs hp ⊢
      rcases r.1 with rfl | rfl
      · refine ⟨23, 8388608, -149, .inl ⟨rfl, rfl⟩, rfl, rfl, hp, ?_⟩
        rw [top_32] at hs; unfold pwr; split <;> omega
      · refine ⟨52, 4503599627370496, -1074, .inr ⟨rfl, rfl⟩, rfl, rfl, hp, ?_⟩
        rw [top_64] at hs; unfold pwr; split <;> omega
    · unfold partOf at hn; rw [if_neg g] at hn; simp at hn
  obtain ⟨f, u, p0, hu, eu, ep, e1, r1⟩ := val n1 h1
  obtain ⟨f', u', p0', hu', eu', ep', e2, r2⟩ := val n2 h2
  have e3 : u' = u := by rw [eu, eu']
  have e4 : p0' = p0 := by rw [ep, ep']
  subst e3 e4
  have e5 : f' = f := by rcases hu with ⟨a, b⟩ | ⟨a, b⟩ <;> rcases hu' with ⟨c, d⟩ | ⟨c, d⟩ <;> omega
  subst e5
  rw [e1, e2]
  have zero : ∀ s : Int, 0 ≤ s → (sz u' s = 0 ↔ s = 0) := by
    intro s hs; unfold sz; rcases hu with ⟨_, rfl⟩ | ⟨_, rfl⟩ <;> (split <;> omega)
  have z1 := zero (if n1 < 0 then -n1 else n1) (by split <;> omega)
  have z2 := zero (if n2 < 0 then -n2 else n2) (by split <;> omega)
  simp only
  unfold laws_pbLess.f
  by_cases c1 : n1 = 0
  · have s1 : sz u' (if n1 < 0 then -n1 else n1) = 0 := z1.mpr (by split <;> omega)
    rw [if_pos s1]
    by_cases c2 : n2 = 0
    · have s2 : sz u' (if n2 < 0 then -n2 else n2) = 0 := z2.mpr (by split <;> omega)
      simp only [laws_pbLess.j0]
      rw [if_pos (by rw [s2]; rfl)]; simp [c1, c2]
    · have s2 : sz u' (if n2 < 0 then -n2 else n2) ≠ 0 := fun h => c2 (by have := z2.mp h; split at this <;> omega)
      simp only [laws_pbLess.j0]
      rw [if_neg (by simpa using s2), if_pos s1, c1, ← decide_not, Option.some.injEq, decide_eq_decide]; omega
  · have s1 : sz u' (if n1 < 0 then -n1 else n1) ≠ 0 := fun h => c1 (by have := z1.mp h; split at this <;> omega)
    rw [if_neg s1]
    simp only [laws_pbLess.j0]
    rw [if_neg (by decide), if_neg s1]
    by_cases c2 : n2 = 0
    · have s2 : sz u' (if n2 < 0 then -n2 else n2) = 0 := z2.mpr (by split <;> omega)
      rw [if_pos s2]; simp [c2]
    · have s2 : sz u' (if n2 < 0 then -n2 else n2) ≠ 0 := fun h => c2 (by have := z2.mp h; split at this <;> omega)
      rw [if_neg s2]
      obtain ⟨t1, k1⟩ := hi_sz u' (if n1 < 0 then -n1 else n1) f' hu (by split <;> omega)
      obtain ⟨t2, k2⟩ := hi_sz u' (if n2 < 0 then -n2 else n2) f' hu (by split <;> omega)
      by_cases d1 : n1 < 0 <;> by_cases d2 : n2 < 0
      · rw [if_neg (by simp [d1, d2]), if_pos (by simp [d1]), e_lessj1 k _ _ _ _ _ _ t2 t1 k2.1 k1.1 r2 r1, less_core u' p0' _ _ f' t2 t1 hu (by split <;> omega) (by split <;> omega) k2 k1, if_pos d1, if_pos d2, Option.some.injEq, decide_eq_decide]; omega
      · rw [if_pos (by simp [d1, d2])]; simp [d1]; omega
      · rw [if_pos (by simp [d1, d2])]; simp [d1]; omega
      · rw [if_neg (by simp [d1, d2]), if_neg (by simp [d1]), e_lessj1 k _ _ _ _ _ _ t1 t2 k1.1 k2.1 r1 r2, less_core u' p0' _ _ f' t1 t2 hu (by split <;> omega) (by split <;> omega) k1 k2, if_neg d1, if_neg d2]
theorem e_width (k : Nat) (l : List Int) (p : Int) (hb : Bytes l) (hl : l.length ≤ 2000) (hp : 0 ≤ p ∧ p ≤ 3000) :
    DR (p + 2) (spec_l31Rd_width.f (k + 1) l p) (fun _ => True) := by
  unfold spec_l31Rd_width.f
  refine DR.bind (e_pick k l p 32 hb hl (by omega) (by omega)) ?_
  intro v j h0 h1 hv
  refine DR.ite (fun _ => DR.here h0 (by (try dsimp only at *); omega) trivial) (fun _ => DR.ite (fun _ => DR.here h0 (by (try dsimp only at *); omega) trivial) (fun _ => ?_))
  simp only [Option.bind_some]
  refine DR.bind (e_pick k l j 4 hb hl (by omega) (by omega)) ?_
  intro v2 j2 h02 h12 hv2
  refine DR.ite (fun _ => DR.ite (fun _ => DR.here h02 (by (try dsimp only at *); omega) trivial) (fun c => absurd ?_ c)) (fun c => absurd ?_ c)
  · simp; omega
  · exact hv2.1
theorem e_widthOrd (k : Nat) (l : List Int) (hb : Bytes l) : ∃ w n, spec_l31WidthOrd.f (k + 11) l = some (w, n) ∧ In64 n := by
  obtain ⟨l', e, hb', hl⟩ := e_open l hb
  unfold spec_l31WidthOrd.f
  rw [e]
  simp only [Option.bind_some]
  obtain ⟨w, j, e1, h0, h1, _⟩ := e_width (k + 10) l' 0 hb' hl (by omega)
  rw [e1]
  simp only [Option.bind_some]
  obtain ⟨n, j2, e2, h02, h12, hn⟩ := e_ord k l' j w hb' hl (by omega)
  rw [e2]
  exact ⟨w, n, rfl, hn⟩
theorem FnBitOrder : laws_FnBitOrder.Pure := by
  intro l0 l1 _ _ hb _ _ hb1
  refine ⟨200, ?_⟩
  obtain ⟨w, a, e, ha⟩ := e_widthOrd 188 l0 hb
  obtain ⟨w', b, e', hb'⟩ := e_widthOrd 188 l1 hb1
  have d1 : spec_DrawBitPartOf.f 199 l0 = some (w, a) := by unfold spec_DrawBitPartOf.f; rw [e]; rfl
  have d2 : spec_DrawBitPartOf.f 199 l1 = some (w', b) := by unfold spec_DrawBitPartOf.f; rw [e']; rfl
  have main : ∀ c : Bool, laws_FnBitOrder.j0 200 l0 l1 c = some true := by
    intro c
    simp only [laws_FnBitOrder.j0, d1, d2, Option.bind_some, e_iPartOf 198, e_sPartOf 198]
    split
    · rfl
    · rw [if_neg (by simp)]
      simp only [laws_FnBitOrder.j1]
      rw [if_neg (by simp)]
      by_cases c1 : (partOf w a).2.2.2 = true
      · by_cases c2 : (partOf w b).2.2.2 = true
        · rw [if_pos c1, if_pos c2, e_pbLess 47 w a b c1 c2, Option.bind_some]
          simp
        · rw [if_pos c1, if_neg c2]
      · rw [if_neg c1]
  unfold laws_FnBitOrder.f
  split
  · exact main _
  · exact main _
end Go.Proofs.Ytkpholdkijlogaa.Pure
