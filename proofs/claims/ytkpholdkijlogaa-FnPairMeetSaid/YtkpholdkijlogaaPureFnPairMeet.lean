/- Meet and hull of drawn pairs, whatever numbers the generator draws.
   Conditions: none beyond those of the given row (each number is of its kind). -/
import Derived.Test.YtkpholdkijlogaaQFnPairMeetx6
import Derived.Test.YtkpholdkijlogaaMB
import Derived.Test.YtkpholdkijlogaaMG
namespace Go.Proofs.Ytkpholdkijlogaa.Pure
open Go.RowKit Go.Proofs.Ytkpholdkijlogaa.QFnPairMeet Go.Proofs.YtkpholdkijlogaaW.PrintWords Go.Proofs.YtkpholdkijlogaaW.PrintLast Go.Proofs.YtkpholdkijlogaaW.PrintMore Go.Proofs.Ytkpholdkijlogaa.M Go.Proofs.Ytkpholdkijlogaa.MG
set_option linter.unusedVariables false
set_option linter.unusedSimpArgs false
theorem e_sBitTop (w : Int) : spec_BitTop.f w = some (top w) := by
  unfold spec_BitTop.f top; split
  · rfl
  · split <;> rfl
theorem e_formatOf (w : Int) : impl_formatOf.f w = some (if w = 32 then (23, -149, 127, top w, true) else if w = 64 then (52, -1074, 1023, top w, true) else (0, 0, 0, top w, false)) := by
  unfold impl_formatOf.f top
  by_cases h : w = 32
  · simp [h]
  · by_cases h' : w = 64
    · simp [h']
    · simp [h, h']
theorem e_iBitTop (w : Int) : impl_BitTop.f w = some (top w) := by
  unfold impl_BitTop.f; rw [e_formatOf]
  by_cases h : w = 32
  · simp [h]
  · by_cases h' : w = 64
    · simp [h']
    · simp [h, h']
theorem e_sBitOk (w n : Int) : spec_BitOk.f w n = some (bitOk w n) := by
  unfold spec_BitOk.f spec_l1Width.f
  simp only [e_sBitTop, Option.bind_some, top_neg, bitOk]
  by_cases h : w = 32
  · subst h; simp; split <;> simp_all; omega
  · by_cases h' : w = 64
    · subst h'; simp; split <;> simp_all; omega
    · simp [h, h']
theorem e_in (n a b : Int) : impl_in.f n a b = some (decide (a ≤ n ∧ n ≤ b)) := by
  unfold impl_in.f; split
  · simp_all
  · simp; omega
theorem e_iBitOk (w n : Int) : impl_BitOk.f w n = some (bitOk w n) := by
  unfold impl_BitOk.f
  simp only [e_formatOf, Option.bind_some, e_in]
  by_cases h : w = 32
  · subst h; simp [bitOk, top_neg]
  · by_cases h' : w = 64
    · subst h'; simp [bitOk, top_neg]
    · simp [h, h', bitOk]
theorem e_sPairOk (w a b : Int) : spec_PairOk.f w a b = some (pairOk w a b) := by
  unfold spec_PairOk.f
  simp only [e_sBitTop, e_sBitOk, Option.bind_some, top_neg]
  have no : ∀ h : ¬ ((w = 32 ∨ w = 64) ∧ -top w ≤ a ∧ a ≤ b ∧ b ≤ top w ∧ a ≠ top w ∧ b ≠ -top w), some false = some (pairOk w a b) := fun h => by rw [pairOk, decide_eq_false h]
  by_cases h1 : bitOk w a = true
  · by_cases h2 : bitOk w b = true
    · have q1 := bitOk_iff.mp h1
      have q2 := bitOk_iff.mp h2
      rw [if_pos h1, if_pos h2]
      by_cases c1 : a ≤ b
      · rw [if_pos c1]
        by_cases c2 : a < top w
        · rw [if_pos c2, pairOk]; congr 1; rw [decide_eq_decide]; omega
        · rw [if_neg c2]; exact no (by omega)
      · rw [if_neg c1]; exact no (by omega)
    · rw [if_pos h1, if_neg h2]; exact no (fun q => h2 (bitOk_iff.mpr (by omega)))
  · rw [if_neg h1]; exact no (fun q => h1 (bitOk_iff.mpr (by omega)))
theorem e_iPairOk (w a b : Int) : impl_PairOk.f w a b = some (pairOk w a b) := by
  unfold impl_PairOk.f
  simp only [e_iBitTop, e_iBitOk, Option.bind_some, top_neg]
  have no : ∀ h : ¬ ((w = 32 ∨ w = 64) ∧ -top w ≤ a ∧ a ≤ b ∧ b ≤ top w ∧ a ≠ top w ∧ b ≠ -top w), some false = some (pairOk w a b) := fun h => by rw [pairOk, decide_eq_false h]
  by_cases h1 : bitOk w a = true
  · by_cases h2 : bitOk w b = true
    · have q1 := bitOk_iff.mp h1
      have q2 := bitOk_iff.mp h2
      rw [if_pos h1, if_pos h2]
      by_cases c1 : a ≤ b
      · rw [if_pos c1]
        by_cases c2 : a = top w
        · rw [if_pos c2]; exact no (by omega)
        · rw [if_neg c2]; congr 1; rw [Bool.eq_iff_iff, bne_iff_ne, pairOk_iff]; omega
      · rw [if_neg c1]; exact no (by omega)
    · rw [if_pos h1, if_neg h2]; exact no (fun q => h2 (bitOk_iff.mpr (by omega)))
  · rw [if_neg h1]; exact no (fun q => h1 (bitOk_iff.mpr (by omega)))
theorem e_pick (k : Nat) (l : List Int) (p n : Int) (hb : Bytes l) (hl : l.length ≤ 2000) (hp : 0 ≤ p ∧ p ≤ 4000) (hn : 1 ≤ n) :
    DR (p + 1) (spec_l31Rd_pick.f (k + 1) l p n) (fun v => 0 ≤ v ∧ v < n) := by
  have hw : wrap64 (p + 1) = p + 1 := by unfold wrap64; omega
  unfold spec_l31Rd_pick.f
  rw [if_neg (by omega), hw]
  simp only [spec_l31Rd_pick.j0]
  have hw2 : wrap64 (p + 1 - 1) = p := by unfold wrap64; omega
  rw [hw2]
  refine DR.ite (fun _ => DR.here (by omega) (by omega) ⟨by omega, by omega⟩) (fun h1 => ?_)
  have hL : 0 < (l.length : Int) := by
    rcases Nat.eq_zero_or_pos l.length with h | h
    · exact absurd (by simp [h]) h1
    · omega
  refine DR.ite (fun h2 => ?_) (fun h2 => ?_)
  · rw [if_pos hp.1, if_neg (by omega)]
    have := byte_range hb p
    have e : wrap64 (rd l p) = rd l p := by unfold wrap64; omega
    rw [e]
    exact DR.here (by omega) (by omega) ⟨Int.tmod_nonneg _ this.1, Int.tmod_lt_of_pos _ (by omega)⟩
  · have e7 : (wrap64 ((wrap64 (p * 7)) + 3)) = p * 7 + 3 := by unfold wrap64; omega
    rw [if_neg (by omega), if_pos (Int.tmod_nonneg _ hp.1), if_pos (Int.tmod_lt_of_pos _ hL), e7, if_pos (Int.tmod_nonneg _ (by omega)), if_pos (Int.tmod_lt_of_pos _ hL), if_neg (by omega)]
    have r1 := byte_range hb (Int.tmod p (l.length : Int))
    have r2 := byte_range hb (Int.tmod (p * 7 + 3) (l.length : Int))
    have w1 : wrap64 (rd l (Int.tmod p (l.length : Int))) = rd l (Int.tmod p (l.length : Int)) := by unfold wrap64; omega
    have w2 : wrap64 (rd l (Int.tmod (p * 7 + 3) (l.length : Int))) = rd l (Int.tmod (p * 7 + 3) (l.length : Int)) := by unfold wrap64; omega
    rw [w1, w2]
    exact DR.here (by omega) (by omega) (pick_core _ _ p _ r1 r2 ⟨hp.1, by omega⟩ hL n hn)
theorem e_bigl (l : List Int) (hb : Bytes l) (hl : l.length ≤ 2000) : ∀ (d : Nat) (k : Nat) (x p : Int), d ≤ 8 → 0 ≤ p ∧ p + d ≤ 3010 → 0 ≤ x ∧ x ≤ 18446744073709551615 →
    DR (p + d) (spec_l31Rd_big.l0 (k + d + 2) x (8 - d) l p) (fun v => 0 ≤ v ∧ v ≤ 18446744073709551615) := by
  intro d
  induction d with
  | zero =>
    intro k x p hd hp hx
    show DR _ (spec_l31Rd_big.l0 (k + 1 + 1) x (8 - (0 : Int)) l p) _
    simp only [spec_l31Rd_big.l0]
    rw [if_neg (by omega)]
    exact DR.here (by omega) (by omega) hx
  | succ d ih =>
    intro k x p hd hp hx
    rw [show k + (d + 1) + 2 = (k + d + 2) + 1 by omega]
    simp only [spec_l31Rd_big.l0]
    rw [if_pos (by omega)]
    refine DR.bind (e_pick (k + d + 1) l p 256 hb hl (by omega) (by omega)) ?_
    intro v j h0 h1 hv
    have e : wrap64 (8 - ((d + 1 : Nat) : Int) + 1) = 8 - (d : Int) := by unfold wrap64; omega
    rw [e]
    exact (ih k _ j (by omega) (by omega) (by rw [u64w]; omega)).mono (by omega) (fun _ h => h)
theorem e_big (k : Nat) (l : List Int) (p : Int) (hb : Bytes l) (hl : l.length ≤ 2000) (hp : 0 ≤ p ∧ p ≤ 3000) :
    DR (p + 8) (spec_l31Rd_big.f (k + 10) l p) (fun v => 0 ≤ v ∧ v ≤ 18446744073709551615) := by
  have := e_bigl l hb hl 8 k 0 p (by omega) (by omega) (by omega)
  exact this
theorem e_ordj1 (k : Nat) (x5 x6 : Int) (l : List Int) (p : Int) (hb : Bytes l) (hl : l.length ≤ 2000) (hp : 0 ≤ p ∧ p ≤ 2000) (h5 : 0 ≤ x5 ∧ x5 ≤ 9218868437227405312) (h6 : -10 ≤ x6) :
    DR (p + 3) (spec_l31Rd_ord.j1 (k + 2) x5 x6 l p) (Bd 9218868437227405400) := by
  simp only [spec_l31Rd_ord.j1]
  refine DR.bind (e_pick k l p 40 hb hl (by omega) (by omega)) ?_
  intro v j h0 h1 hv
  refine DR.ite (fun _ => ?_) (fun _ => DR.ite (fun _ => ?_) (fun _ => ?_))
  · refine DR.bind (e_pick k l j 3 hb hl (by omega) (by omega)) ?_
    intro v2 j2 h02 h12 hv2
    refine DR.bind (e_pick k l j2 2 hb hl (by (try dsimp only at *); omega) (by omega)) ?_
    intro v3 j3 h03 h13 hv3
    refine DR.ite (fun _ => DR.here h03 ?_ ?_) (fun _ => DR.here h03 ?_ ?_) <;> (try unfold Bd wrap64) <;> (try dsimp only at *) <;> omega
  · refine DR.bind (e_pick k l j 2 hb hl (by omega) (by omega)) ?_
    intro v3 j3 h03 h13 hv3
    refine DR.ite (fun _ => DR.here h03 ?_ ?_) (fun _ => DR.here h03 ?_ ?_) <;> (try unfold Bd) <;> (try unfold wrap64) <;> (try dsimp only at *) <;> omega
  · refine DR.bind (e_pick k l j 2 hb hl (by omega) (by omega)) ?_
    intro v3 j3 h03 h13 hv3
    refine DR.ite (fun _ => DR.here h03 ?_ ?_) (fun _ => DR.here h03 ?_ ?_) <;> (try unfold Bd) <;> (try unfold wrap64) <;> (try dsimp only at *) <;> omega
theorem e_ordj0 (k : Nat) (x1 x5 x10 : Int) (x31 : Bool) (l : List Int) (p : Int) (hb : Bytes l) (hl : l.length ≤ 2000) (hp : 0 ≤ p ∧ p ≤ 1500) (h5 : 0 ≤ x5 ∧ x5 ≤ 9218868437227405312) :
    DR (p + 11) (spec_l31Rd_ord.j0 (k + 11) x1 x5 x10 x31 l p) (Bd 9218868437227405400) := by
  simp only [spec_l31Rd_ord.j0]
  refine DR.ite (fun _ => ?_) (fun _ => DR.ite (fun _ => ?_) (fun _ => ?_))
  · refine DR.bind (e_pick (k + 9) l p 2048 hb hl (by omega) (by omega)) ?_
    intro v j h0 h1 hv
    refine DR.bind (e_pick (k + 9) l j 4 hb hl (by omega) (by omega)) ?_
    intro v2 j2 h02 h12 hv2
    refine DR.ite (fun _ => ?_) (fun _ => ?_)
    · refine DR.bind (e_pick (k + 9) l j2 256 hb hl (by (try dsimp only at *); omega) (by omega)) ?_
      intro v3 j3 h03 h13 hv3
      refine DR.bind (e_pick (k + 9) l j3 4 hb hl (by (try dsimp only at *); omega) (by omega)) ?_
      intro v4 j4 h04 h14 hv4
      exact (e_ordj1 (k + 8) x5 _ l j4 hb hl (by (try dsimp only at *); omega) h5 (by unfold wrap64; (try dsimp only at *); omega)).mono (by (try dsimp only at *); omega) (fun _ h => h)
    · exact (e_ordj1 (k + 8) x5 _ l j2 hb hl (by (try dsimp only at *); omega) h5 (by unfold wrap64; (try dsimp only at *); omega)).mono (by (try dsimp only at *); omega) (fun _ h => h)
  · refine DR.bind (e_pick (k + 9) l p 1048576 hb hl (by omega) (by omega)) ?_
    intro v j h0 h1 hv
    exact (e_ordj1 (k + 8) x5 _ l j hb hl (by (try dsimp only at *); omega) h5 (by (try dsimp only at *); omega)).mono (by (try dsimp only at *); omega) (fun _ h => h)
  · refine DR.bind (e_big k l p hb hl (by omega)) ?_
    intro v j h0 h1 hv
    have e : wrap64 (x5 + 1) = x5 + 1 := by unfold wrap64; omega
    have e2 : wrap64 (v / 2) = v / 2 := by unfold wrap64; omega
    refine DR.ite (fun _ => ?_) (fun _ => ?_)
    · rw [e, if_neg (by omega)]
      have := Int.tmod_nonneg (x5 + 1) (show 0 ≤ wrap64 (v / 2) by omega)
      exact (e_ordj1 (k + 8) x5 _ l j hb hl (by (try dsimp only at *); omega) h5 (by (try dsimp only at *); omega)).mono (by (try dsimp only at *); omega) (fun _ h => h)
    · exact (e_ordj1 (k + 8) x5 _ l j hb hl (by (try dsimp only at *); omega) h5 (by (try dsimp only at *); omega)).mono (by (try dsimp only at *); omega) (fun _ h => h)
theorem e_ord (k : Nat) (l : List Int) (p w : Int) (hb : Bytes l) (hl : l.length ≤ 2000) (hp : 0 ≤ p ∧ p ≤ 1400) :
    DR (p + 12) (spec_l31Rd_ord.f (k + 11) l p w) (Bd 9218868437227405400) := by
  unfold spec_l31Rd_ord.f
  rw [e_sBitTop, Option.bind_some]
  have ht := top_range w
  refine DR.bind (e_pick (k + 10) l p 10 hb hl (by omega) (by omega)) ?_
  intro v j h0 h1 hv
  refine DR.ite (fun _ => ?_) (fun _ => DR.ite (fun _ => ?_) (fun _ => DR.ite (fun _ => ?_) (fun _ => ?_)))
  · refine DR.bind (e_pick (k + 10) l j 6 hb hl (by omega) (by omega)) ?_
    intro v2 j2 h02 h12 hv2
    exact (e_ordj1 (k + 9) _ _ l j2 hb hl (by (try dsimp only at *); omega) ht (by (try dsimp only at *); omega)).mono (by (try dsimp only at *); omega) (fun _ h => h)
  · refine DR.bind (e_pick (k + 10) l j 6 hb hl (by omega) (by omega)) ?_
    intro v2 j2 h02 h12 hv2
    exact (e_ordj1 (k + 9) _ _ l j2 hb hl (by (try dsimp only at *); omega) ht (by unfold wrap64; (try dsimp only at *); omega)).mono (by (try dsimp only at *); omega) (fun _ h => h)
  · exact (e_ordj0 k _ _ _ _ l j hb hl (by omega) ht).mono (by omega) (fun _ h => h)
  · exact (e_ordj0 k _ _ _ _ l j hb hl (by omega) ht).mono (by omega) (fun _ h => h)
theorem e_open (l : List Int) (hb : Bytes l) : ∃ l' : List Int, spec_l31Open.f l = some (l', 0) ∧ Bytes l' ∧ l'.length ≤ 2000 := by
  unfold spec_l31Open.f
  by_cases h : (l.length : Int) > 2000
  · rw [if_pos h, if_pos (by omega)]
    exact ⟨_, rfl, hb.take _, by rw [List.length_take]; omega⟩
  · rw [if_neg h]
    exact ⟨_, rfl, hb, by omega⟩
theorem e_pair (k : Nat) (l : List Int) (p w : Int) (hb : Bytes l) (hl : l.length ≤ 2000) (hp : 0 ≤ p ∧ p ≤ 1300) :
    DR2 (p + 30) (spec_l31Rd_pair.f (k + 11) l p w) (fun a b => Bd 9218868437227407000 a ∧ Bd 9218868437227407000 b) := by
  unfold spec_l31Rd_pair.f
  refine DR2.bind (e_ord k l p w hb hl (by omega)) ?_
  intro a ja h0 h1 ha
  refine DR2.bind (e_ord k l ja w hb hl (by omega)) ?_
  intro b jb h02 h12 hbb
  unfold Bd at ha hbb
  refine DR2.bind (e_pick (k + 10) l jb 6 hb hl (by (try dsimp only at *); omega) (by omega)) ?_
  intro c jc h03 h13 hc
  refine DR2.ite (fun _ => ?_) (fun _ => DR2.ite (fun _ => ?_) (fun _ => DR2.ite (fun _ => ?_) (fun _ => ?_)))
  · refine DR2.ite (fun _ => ?_) (fun _ => DR2.here h03 (by (try dsimp only at *); omega) (by unfold Bd; (try dsimp only at *); omega))
    refine DR2.bind (e_pick (k + 10) l jc 24 hb hl (by (try dsimp only at *); omega) (by omega)) ?_
    intro d jd h04 h14 hd
    refine DR2.ite (fun _ => DR2.here h04 (by (try dsimp only at *); omega) (by unfold Bd; (try unfold wrap64); (try dsimp only at *); omega)) (fun _ => DR2.here h04 (by (try dsimp only at *); omega) (by unfold Bd; (try unfold wrap64); (try dsimp only at *); omega))
  · refine DR2.bind (e_pick (k + 10) l jc 4 hb hl (by (try dsimp only at *); omega) (by omega)) ?_
    intro e je h05 h15 he
    refine DR2.ite (fun _ => ?_) (fun _ => DR2.here h05 (by (try dsimp only at *); omega) (by unfold Bd; (try unfold wrap64); (try dsimp only at *); omega))
    refine DR2.bind (e_pick (k + 10) l je 24 hb hl (by (try dsimp only at *); omega) (by omega)) ?_
    intro d jd h04 h14 hd
    refine DR2.ite (fun _ => DR2.here h04 (by (try dsimp only at *); omega) (by unfold Bd; (try unfold wrap64); (try dsimp only at *); omega)) (fun _ => DR2.here h04 (by (try dsimp only at *); omega) (by unfold Bd; (try unfold wrap64); (try dsimp only at *); omega))
  · refine DR2.bind (e_pick (k + 10) l jc 1000 hb hl (by (try dsimp only at *); omega) (by omega)) ?_
    intro e je h05 h15 he
    refine DR2.ite (fun _ => ?_) (fun _ => DR2.here h05 (by (try dsimp only at *); omega) (by unfold Bd; (try unfold wrap64); (try dsimp only at *); omega))
    refine DR2.bind (e_pick (k + 10) l je 24 hb hl (by (try dsimp only at *); omega) (by omega)) ?_
    intro d jd h04 h14 hd
    refine DR2.ite (fun _ => DR2.here h04 (by (try dsimp only at *); omega) (by unfold Bd; (try unfold wrap64); (try dsimp only at *); omega)) (fun _ => DR2.here h04 (by (try dsimp only at *); omega) (by unfold Bd; (try unfold wrap64); (try dsimp only at *); omega))
  · refine DR2.ite (fun _ => ?_) (fun _ => DR2.here h03 (by (try dsimp only at *); omega) (by unfold Bd; (try dsimp only at *); omega))
    refine DR2.bind (e_pick (k + 10) l jc 24 hb hl (by (try dsimp only at *); omega) (by omega)) ?_
    intro d jd h04 h14 hd
    refine DR2.ite (fun _ => DR2.here h04 (by (try dsimp only at *); omega) (by unfold Bd; (try dsimp only at *); omega)) (fun _ => DR2.here h04 (by (try dsimp only at *); omega) (by unfold Bd; (try dsimp only at *); omega))
theorem e_width (k : Nat) (l : List Int) (p : Int) (hb : Bytes l) (hl : l.length ≤ 2000) (hp : 0 ≤ p ∧ p ≤ 3000) :
    DR (p + 2) (spec_l31Rd_width.f (k + 1) l p) (fun _ => True) := by
  unfold spec_l31Rd_width.f
  refine DR.bind (e_pick k l p 32 hb hl (by omega) (by omega)) ?_
  intro v j h0 h1 hv
  refine DR.ite (fun _ => DR.here h0 (by (try dsimp only at *); omega) trivial) (fun _ => DR.ite (fun _ => DR.here h0 (by (try dsimp only at *); omega) trivial) (fun _ => ?_))
  simp only [Option.bind_some]
  refine DR.bind (e_pick k l j 4 hb hl (by omega) (by omega)) ?_
  intro v2 j2 h02 h12 hv2
  refine DR.ite (fun _ => DR.ite (fun _ => DR.here h02 (by (try dsimp only at *); omega) trivial) (fun c => absurd ?_ c)) (fun c => absurd ?_ c)
  · simp; omega
  · exact hv2.1
theorem e_good_l (l : List Int) (w : Int) (hb : Bytes l) (hl : l.length ≤ 2000) : ∀ (d : Nat) (k : Nat) (p a b : Int), d ≤ 5 → 0 ≤ p ∧ p ≤ 500 + 30 * (5 - d) → Bd 9218868437227407000 a ∧ Bd 9218868437227407000 b →
    DR2 (p + 30 * d) (spec_l31Rd_good.l0 (k + d + 12) w (5 - d) l p a b) (fun a b => Bd 9218868437227407000 a ∧ Bd 9218868437227407000 b) := by
  intro d
  induction d with
  | zero =>
    intro k p a b hd hp hab
    show DR2 _ (spec_l31Rd_good.l0 (k + 11 + 1) w (5 - (0 : Int)) l p a b) _
    simp only [spec_l31Rd_good.l0]
    rw [if_neg (by omega)]
    exact DR2.here (by omega) (by omega) hab
  | succ d ih =>
    intro k p a b hd hp hab
    rw [show k + (d + 1) + 12 = (k + d + 12) + 1 by omega]
    simp only [spec_l31Rd_good.l0]
    rw [if_pos (by omega), e_sPairOk, Option.bind_some]
    refine DR2.ite (fun _ => DR2.here (by omega) (by omega) hab) (fun _ => ?_)
    refine DR2.then (e_pair (k + d + 1) l p w hb hl (by omega)) ?_
    intro a' b' j h0 h1 h2
    have e : wrap64 (5 - ((d + 1 : Nat) : Int) + 1) = 5 - (d : Int) := by unfold wrap64; omega
    rw [e]
    exact (ih k j a' b' (by omega) (by omega) h2).mono (by omega) (fun _ _ h => h)
theorem e_good (k : Nat) (l : List Int) (p w : Int) (hb : Bytes l) (hl : l.length ≤ 2000) (hp : 0 ≤ p ∧ p ≤ 400) :
    DR2 (p + 180) (spec_l31Rd_good.f (k + 17) l p w) (fun a b => Bd 9218868437227407000 a ∧ Bd 9218868437227407000 b) := by
  unfold spec_l31Rd_good.f
  refine DR2.then (e_pair (k + 6) l p w hb hl (by omega)) ?_
  intro a b j h0 h1 h2
  exact (e_good_l l w hb hl 5 k j a b (by omega) (by omega) h2).mono (by omega) (fun _ _ h => h)
theorem e_withinj (k : Nat) (w g : Int) (c : Bool) (l : List Int) (p a b : Int) (hb : Bytes l) (hl : l.length ≤ 2000) (hp : 0 ≤ p ∧ p ≤ 600) (hg : 0 ≤ g ∧ g ≤ 18446744073709551000) :
    DR2 (p + 40) (spec_l31Rd_within.j0 (k + 12) w g c l p a b) (fun _ _ => True) := by
  simp only [spec_l31Rd_within.j0]
  refine DR2.ite (fun _ => ?_) (fun _ => ?_)
  · refine DR2.then (e_pair k l p w hb hl (by omega)) ?_
    intro a b j h0 h1 h2
    exact DR2.here h0 (by (try dsimp only at *); omega) trivial
  · refine DR2.bind (e_big (k + 1) l p hb hl (by omega)) ?_
    intro v1 j1 h01 h11 hv1
    rw [if_neg (by rw [u64w]; omega)]
    refine DR2.bind (e_big (k + 1) l j1 hb hl (by (try dsimp only at *); omega)) ?_
    intro v2 j2 h02 h12 hv2
    refine DR2.bind (e_pick (k + 10) l j2 5 hb hl (by (try dsimp only at *); omega) (by omega)) ?_
    intro v3 j3 h03 h13 hv3
    refine DR2.ite (fun _ => ?_) (fun _ => DR2.ite (fun _ => ?_) (fun _ => DR2.ite (fun _ => ?_) (fun _ => ?_)))
    · refine DR2.bind (e_pick (k + 10) l j3 3 hb hl (by (try dsimp only at *); omega) (by omega)) ?_
      intro v4 j4 h04 h14 hv4
      refine DR2.ite (fun _ => ?_) (fun _ => DR2.here h04 (by (try dsimp only at *); omega) trivial)
      refine DR2.bind (e_pick (k + 10) l j4 12 hb hl (by (try dsimp only at *); omega) (by omega)) ?_
      intro v5 j5 h05 h15 hv5
      refine DR2.ite (fun _ => DR2.here h05 (by (try dsimp only at *); omega) trivial) (fun _ => DR2.here h05 (by (try dsimp only at *); omega) trivial)
    · refine DR2.bind (e_pick (k + 10) l j3 3 hb hl (by (try dsimp only at *); omega) (by omega)) ?_
      intro v4 j4 h04 h14 hv4
      refine DR2.ite (fun _ => ?_) (fun _ => DR2.here h04 (by (try dsimp only at *); omega) trivial)
      refine DR2.bind (e_pick (k + 10) l j4 12 hb hl (by (try dsimp only at *); omega) (by omega)) ?_
      intro v5 j5 h05 h15 hv5
      refine DR2.ite (fun _ => DR2.here h05 (by (try dsimp only at *); omega) trivial) (fun _ => DR2.here h05 (by (try dsimp only at *); omega) trivial)
    · refine DR2.ite (fun _ => ?_) (fun _ => DR2.here h03 (by (try dsimp only at *); omega) trivial)
      refine DR2.bind (e_pick (k + 10) l j3 12 hb hl (by (try dsimp only at *); omega) (by omega)) ?_
      intro v5 j5 h05 h15 hv5
      refine DR2.ite (fun _ => DR2.here h05 (by (try dsimp only at *); omega) trivial) (fun _ => DR2.here h05 (by (try dsimp only at *); omega) trivial)
    · refine DR2.ite (fun _ => ?_) (fun _ => DR2.here h03 (by (try dsimp only at *); omega) trivial)
      refine DR2.bind (e_pick (k + 10) l j3 12 hb hl (by (try dsimp only at *); omega) (by omega)) ?_
      intro v5 j5 h05 h15 hv5
      refine DR2.ite (fun _ => DR2.here h05 (by (try dsimp only at *); omega) trivial) (fun _ => DR2.here h05 (by (try dsimp only at *); omega) trivial)
theorem e_within (k : Nat) (w : Int) (l : List Int) (p a b : Int) (hb : Bytes l) (hl : l.length ≤ 2000) (hp : 0 ≤ p ∧ p ≤ 590) (h2 : Bd 9218868437227407000 a ∧ Bd 9218868437227407000 b) :
    DR2 (p + 50) (spec_l31Rd_within.f (k + 12) l p w a b) (fun _ _ => True) := by
  unfold Bd at h2
  have g : ∃ g : Int, spec_BitGap.f a b = some g ∧ 0 ≤ g ∧ g ≤ 18446744073709551000 := by
    unfold spec_BitGap.f
    by_cases c : a > b
    · rw [if_pos c]; exact ⟨_, rfl, by omega, by omega⟩
    · rw [if_neg c]; refine ⟨_, rfl, ?_, ?_⟩ <;> (simp only [u64w]; omega)
  obtain ⟨g, e, hg⟩ := g
  unfold spec_l31Rd_within.f
  rw [e, Option.bind_some]
  refine DR2.ite (fun _ => ?_) (fun _ => ?_)
  · exact (e_withinj k w g true l p a b hb hl (by omega) hg).mono (by omega) (fun _ _ h => h)
  · refine DR2.bind (e_pick (k + 11) l p 16 hb hl (by (try dsimp only at *); omega) (by omega)) ?_
    intro v j h0 h1 hv
    exact (e_withinj k w g _ l j a b hb hl (by omega) hg).mono (by omega) (fun _ _ h => h)
theorem e_pairs (k : Nat) (l : List Int) (hb : Bytes l) : ∃ w a b c d, spec_l31Pairs.f (k + 17) l = some (w, a, b, c, d) := by
  obtain ⟨l', e, hb', hl⟩ := e_open l hb
  unfold spec_l31Pairs.f
  rw [e, Option.bind_some]
  obtain ⟨w, j, e1, h0, h1, _⟩ := e_width (k + 16) l' 0 hb' hl (by omega)
  rw [e1, Option.bind_some]
  obtain ⟨a, b, j2, e2, h02, h12, hn⟩ := e_good k l' j w hb' hl (by omega)
  simp only [e2, Option.bind_some]
  obtain ⟨v, j3, e3, h03, h13, _⟩ := e_pick (k + 16) l' j2 2 hb' hl (by omega) (by omega)
  simp only [e3, Option.bind_some]
  by_cases h : v = 0
  · rw [if_pos h]
    obtain ⟨c, d, j4, e4, h04, h14, _⟩ := e_within (k + 5) w l' j3 a b hb' hl (by omega) hn
    simp only [e4, Option.bind_some]
    exact ⟨_, _, _, _, _, rfl⟩
  · rw [if_neg h]
    obtain ⟨c, d, j4, e4, h04, h14, _⟩ := e_good k l' j3 w hb' hl (by omega)
    simp only [e4, Option.bind_some]
    exact ⟨_, _, _, _, _, rfl⟩
theorem e_goodPair (k : Nat) (l : List Int) (hb : Bytes l) : ∃ w a b, spec_GoodPair.f (k + 17) l = some (w, a, b) := by
  obtain ⟨l', e, hb', hl⟩ := e_open l hb
  unfold spec_GoodPair.f
  rw [e]
  simp only [Option.bind_some]
  obtain ⟨v, j, e1, h0, h1, hv⟩ := e_pick (k + 16) l' 0 2 hb' hl (by omega) (by omega)
  simp only [e1, Option.bind_some]
  rw [if_pos hv.1, if_pos (by simp; omega)]
  obtain ⟨a, b, j2, e2, h02, h12, hn⟩ := e_good k l' j (rd [32, 64] v) hb' hl (by omega)
  simp only [e2, Option.bind_some, e_sPairOk]
  split <;> exact ⟨_, _, _, rfl⟩
theorem e_iPairMeet (w a b c d : Int) : impl_PairMeet.f w a b c d = some (if pairOk w a b = true ∧ pairOk w c d = true ∧ mx a c ≤ mn b d then (mx a c, mn b d, true) else (0, 0, false)) := by
  unfold impl_PairMeet.f
  simp only [e_iPairOk, Option.bind_some]
  by_cases h : pairOk w a b = true <;> by_cases h' : pairOk w c d = true <;> simp [h, h']
  by_cases q : mx a c ≤ mn b d <;> simp [q, pairOk_meet h h']
theorem e_iPairHull (w a b c d : Int) : impl_PairHull.f w a b c d = some (if pairOk w a b = true ∧ pairOk w c d = true then (mn a c, mx b d, true) else (0, 0, false)) := by
  unfold impl_PairHull.f
  simp only [e_iPairOk, Option.bind_some]
  by_cases h : pairOk w a b = true <;> by_cases h' : pairOk w c d = true <;> simp [h, h']
theorem e_iPairIs (a b c d : Int) : impl_PairIs.f a b c d = some (decide (c ≤ a ∧ b ≤ d)) := by
  unfold impl_PairIs.f; split
  · simp_all
  · simp; omega
theorem FnPairMeet : laws_FnPairMeet.Pure := by
  intro l0 l1 _ _ hb _ _ hb1
  refine ⟨30, ?_⟩
  obtain ⟨w, a, b, c, d, e⟩ := e_pairs 12 l0 hb
  have hd : spec_DrawPairMeet.f 29 l0 = some (w, a, b, c, d) := by unfold spec_DrawPairMeet.f; rw [e]; rfl
  obtain ⟨w', q1, q2, e'⟩ := e_goodPair 8 l1 hb1
  have cx : mx a c = mx c a := by unfold mx; split <;> split <;> omega
  have cn : mn b d = mn d b := by unfold mn; split <;> split <;> omega
  have cx' : mx b d = mx d b := by unfold mx; split <;> split <;> omega
  have cn' : mn a c = mn c a := by unfold mn; split <;> split <;> omega
  have main : ∀ z : Bool, laws_FnPairMeet.j0 30 l0 l1 z = some true := by
    intro z
    simp only [laws_FnPairMeet.j0, hd, Option.bind_some, e_iPairMeet, e_iPairHull, e_sPairOk]
    split
    · rfl
    have h4 : ∀ m1 m2 : Int, ∀ ok : Bool, (ok = true ↔ (pairOk w a b = true ∧ pairOk w c d = true ∧ mx a c ≤ mn b d)) → (ok = true → m1 = mx a c ∧ m2 = mn b d) → pairOk w a b = true → pairOk w c d = true →
        laws_FnPairMeet.j4 26 l1 ok false a b c d m1 m2 = some true := by
      intro m1 m2 ok hok hm p1 p2
      simp only [laws_FnPairMeet.j4, e', Option.bind_some, e_iPairIs]
      rw [if_neg (by decide)]
      have := pairOk_iff.mp p1
      have := pairOk_iff.mp p2
      cases ok
      · have hn : ¬ mx a c ≤ mn b d := fun q => by have := hok.mpr ⟨p1, p2, q⟩; simp at this
        have hx : ¬ (a ≤ q1 ∧ q1 ≤ b ∧ c ≤ q1 ∧ q1 ≤ d) := by
          intro q; apply hn; unfold mx mn; split <;> split <;> omega
        by_cases g1 : a ≤ q1 ∧ q1 ≤ b <;> by_cases g2 : c ≤ q1 ∧ q1 ≤ d <;> simp [g1, g2] <;> omega
      · obtain ⟨rfl, rfl⟩ := hm rfl
        have hx : (mx a c ≤ q1 ∧ q1 ≤ mn b d) ↔ ((a ≤ q1 ∧ q1 ≤ b) ∧ (c ≤ q1 ∧ q1 ≤ d)) := by
          unfold mx mn; split <;> split <;> omega
        simp only [hx]
        by_cases g1 : a ≤ q1 ∧ q1 ≤ b <;> by_cases g2 : c ≤ q1 ∧ q1 ≤ d <;> simp [g1, g2]
    by_cases p1 : pairOk w a b = true
    · by_cases p2 : pairOk w c d = true
      · have r1 := pairOk_iff.mp p1
        have r2 := pairOk_iff.mp p2
        have hh : pairOk w (mn a c) (mx b d) = true := pairOk_hull p1 p2
        have m1 : mx a (mn a c) = a := by unfold mx mn; split <;> split <;> omega
        have m2 : mn b (mx b d) = b := by unfold mx mn; split <;> split <;> omega
        have i1 : mn a c ≤ a ∧ b ≤ mx b d := by unfold mx mn; split <;> split <;> omega
        have i2 : mn a c ≤ c ∧ d ≤ mx b d := by unfold mx mn; split <;> split <;> omega
        have h3 : ∀ x1 x2 : Int, ∀ ok : Bool, (ok = true ↔ (pairOk w a b = true ∧ pairOk w c d = true ∧ mx a c ≤ mn b d)) → (ok = true → x1 = mx a c ∧ x2 = mn b d) →
            laws_FnPairMeet.j2 28 l1 w ok true false a b c d x1 x2 (mn a c) (mx b d) = some true := by
          intro x1 x2 ok hok hm
          simp only [laws_FnPairMeet.j2, laws_FnPairMeet.j3, e_iPairIs, Option.bind_some, e_iPairMeet, hh, p1, m1, m2]
          simp only [i1, i2, r1.2.2.1, and_self, decide_true, if_true, Bool.not_true, Bool.false_eq_true, if_false, beq_self_eq_true, Bool.or_self]
          exact h4 x1 x2 ok hok hm p1 p2
        by_cases q : mx a c ≤ mn b d
        · have := h3 (mx a c) (mn b d) true (by simp [p1, p2, q]) (fun _ => ⟨rfl, rfl⟩)
          simp [laws_FnPairMeet.j1, p1, p2, ← cx, ← cn, ← cx', ← cn', q, this]
        · have := h3 0 0 false (by simp [p1, p2, q]) (by simp)
          simp [laws_FnPairMeet.j1, p1, p2, ← cx, ← cn, ← cx', ← cn', q, this]
      · simp [laws_FnPairMeet.j1, laws_FnPairMeet.j2, p1, p2]
    · simp [laws_FnPairMeet.j1, laws_FnPairMeet.j2, p1]
  unfold laws_FnPairMeet.f
  split
  · exact main _
  · exact main _
end Go.Proofs.Ytkpholdkijlogaa.Pure
