/- The middle of two drawn numbers lies between them, whatever numbers the generator draws.
   Conditions: none beyond those of the given row (each number is of its kind). -/
import Derived.Test.YtkpholdkijlogaaQFnBitMiddlex2
import Derived.Test.YtkpholdkijlogaaMB
import Derived.Test.YtkpholdkijlogaaMG
namespace Go.Proofs.Ytkpholdkijlogaa.Pure
open Go.RowKit Go.Proofs.Ytkpholdkijlogaa.QFnBitMiddle Go.Proofs.YtkpholdkijlogaaW.PrintWords Go.Proofs.YtkpholdkijlogaaW.PrintLast Go.Proofs.YtkpholdkijlogaaW.PrintMore Go.Proofs.Ytkpholdkijlogaa.M Go.Proofs.Ytkpholdkijlogaa.MG
set_option linter.unusedVariables false
set_option linter.unusedSimpArgs false
theorem e_sBitTop (w : Int) : spec_BitTop.f w = some (top w) := by
  unfold spec_BitTop.f top; split
  · rfl
  · split <;> rfl
theorem e_pick (k : Nat) (l : List Int) (p n : Int) (hb : Bytes l) (hl : l.length ≤ 2000) (hp : 0 ≤ p ∧ p ≤ 4000) (hn : 1 ≤ n) :
    DR (p + 1) (spec_l31Rd_pick.f (k + 1) l p n) (fun v => 0 ≤ v ∧ v < n) := by
  have hw : wrap64 (p + 1) = p + 1 := by unfold wrap64; omega
  unfold spec_l31Rd_pick.f
  rw [if_neg (by omega), hw]
  simp only [spec_l31Rd_pick.j0]
  have hw2 : wrap64 (p + 1 - 1) = p := by unfold wrap64; omega
  rw [hw2]
  refine DR.ite (fun _ => DR.here (by omega) (by omega) ⟨by omega, by omega⟩) (fun h1 => ?_)
  have hL : 0 < (l.length : Int) := by
    rcases Nat.eq_zero_or_pos l.length with h | h
    · exact absurd (by simp [h]) h1
    · omega
  refine DR.ite (fun h2 => ?_) (fun h2 => ?_)
  · rw [if_pos hp.1, if_neg (by omega)]
    have := byte_range hb p
    have e : wrap64 (rd l p) = rd l p := by unfold wrap64; omega
    rw [e]
    exact DR.here (by omega) (by omega) ⟨Int.tmod_nonneg _ this.1, Int.tmod_lt_of_pos _ (by omega)⟩
  · have e7 : (wrap64 ((wrap64 (p * 7)) + 3)) = p * 7 + 3 := by unfold wrap64; omega
    rw [if_neg (by omega), if_pos (Int.tmod_nonneg _ hp.1), if_pos (Int.tmod_lt_of_pos _ hL), e7, if_pos (Int.tmod_nonneg _ (by omega)), if_pos (Int.tmod_lt_of_pos _ hL), if_neg (by omega)]
    have r1 := byte_range hb (Int.tmod p (l.length : Int))
    have r2 := byte_range hb (Int.tmod (p * 7 + 3) (l.length : Int))
    have w1 : wrap64 (rd l (Int.tmod p (l.length : Int))) = rd l (Int.tmod p (l.length : Int)) := by unfold wrap64; omega
    have w2 : wrap64 (rd l (Int.tmod (p * 7 + 3) (l.length : Int))) = rd l (Int.tmod (p * 7 + 3) (l.length : Int)) := by unfold wrap64; omega
    rw [w1, w2]
    exact DR.here (by omega) (by omega) (pick_core _ _ p _ r1 r2 ⟨hp.1, by omega⟩ hL n hn)
theorem e_bigl (l : List Int) (hb : Bytes l) (hl : l.length ≤ 2000) : ∀ (d : Nat) (k : Nat) (x p : Int), d ≤ 8 → 0 ≤ p ∧ p + d ≤ 3010 →
    DR (p + d) (spec_l31Rd_big.l0 (k + d + 2) x (8 - d) l p) (fun _ => True) := by
  intro d
  induction d with
  | zero =>
    intro k x p hd hp
    show DR _ (spec_l31Rd_big.l0 (k + 1 + 1) x (8 - (0 : Int)) l p) _
    simp only [spec_l31Rd_big.l0]
    rw [if_neg (by omega)]
    exact DR.here (by omega) (by omega) trivial
  | succ d ih =>
    intro k x p hd hp
    rw [show k + (d + 1) + 2 = (k + d + 2) + 1 by omega]
    simp only [spec_l31Rd_big.l0]
    rw [if_pos (by omega)]
    refine DR.bind (e_pick (k + d + 1) l p 256 hb hl (by omega) (by omega)) ?_
    intro v j h0 h1 hv
    have e : wrap64 (8 - ((d + 1 : Nat) : Int) + 1) = 8 - (d : Int) := by unfold wrap64; omega
    rw [e]
    exact (ih k _ j (by omega) (by omega)).mono (by omega) (fun _ h => h)
theorem e_big (k : Nat) (l : List Int) (p : Int) (hb : Bytes l) (hl : l.length ≤ 2000) (hp : 0 ≤ p ∧ p ≤ 3000) :
    DR (p + 8) (spec_l31Rd_big.f (k + 10) l p) (fun _ => True) := by
  have := e_bigl l hb hl 8 k 0 p (by omega) (by omega)
  exact this
theorem e_ordj1 (k : Nat) (x5 x6 : Int) (l : List Int) (p : Int) (hb : Bytes l) (hl : l.length ≤ 2000) (hp : 0 ≤ p ∧ p ≤ 2000) (h5 : In64 x5) (h6 : In64 x6) :
    DR (p + 3) (spec_l31Rd_ord.j1 (k + 2) x5 x6 l p) In64 := by
  simp only [spec_l31Rd_ord.j1]
  refine DR.bind (e_pick k l p 40 hb hl (by omega) (by omega)) ?_
  intro v j h0 h1 hv
  refine DR.ite (fun _ => ?_) (fun _ => DR.ite (fun _ => ?_) (fun _ => ?_))
  · refine DR.bind (e_pick k l j 3 hb hl (by omega) (by omega)) ?_
    intro v2 j2 h02 h12 hv2
    refine DR.bind (e_pick k l j2 2 hb hl (by (try dsimp only at *); omega) (by omega)) ?_
    intro v3 j3 h03 h13 hv3
    refine DR.ite (fun _ => DR.here h03 ?_ (in64_wrap _)) (fun _ => DR.here h03 ?_ (in64_wrap _)) <;> ((try dsimp only at *); omega)
  · refine DR.bind (e_pick k l j 2 hb hl (by omega) (by omega)) ?_
    intro v3 j3 h03 h13 hv3
    refine DR.ite (fun _ => DR.here h03 ?_ (in64_wrap _)) (fun _ => DR.here h03 ?_ h5) <;> ((try dsimp only at *); omega)
  · refine DR.bind (e_pick k l j 2 hb hl (by omega) (by omega)) ?_
    intro v3 j3 h03 h13 hv3
    refine DR.ite (fun _ => DR.here h03 ?_ (in64_wrap _)) (fun _ => DR.here h03 ?_ h6) <;> ((try dsimp only at *); omega)
theorem in64_small {v n : Int} (h : 0 ≤ v ∧ v < n) (hn : n ≤ 1000000000) : In64 v := by unfold In64; omega
theorem in64_tmod (a b : Int) (h : 0 < b ∧ b ≤ 9223372036854775807) : In64 (Int.tmod a b) := by
  unfold In64
  have h1 := Int.natAbs_tmod a b
  have h2 : a.natAbs % b.natAbs < b.natAbs := Nat.mod_lt _ (by omega)
  generalize a.natAbs % b.natAbs = q at *
  omega
theorem e_ordj0 (k : Nat) (x1 x5 x10 : Int) (x31 : Bool) (l : List Int) (p : Int) (hb : Bytes l) (hl : l.length ≤ 2000) (hp : 0 ≤ p ∧ p ≤ 1500) (h5 : 0 ≤ x5 ∧ x5 ≤ 9218868437227405312) :
    DR (p + 11) (spec_l31Rd_ord.j0 (k + 11) x1 x5 x10 x31 l p) In64 := by
  have i5 : In64 x5 := by unfold In64; omega
  simp only [spec_l31Rd_ord.j0]
  refine DR.ite (fun _ => ?_) (fun _ => DR.ite (fun _ => ?_) (fun _ => ?_))
  · refine DR.bind (e_pick (k + 9) l p 2048 hb hl (by omega) (by omega)) ?_
    intro v j h0 h1 hv
    refine DR.bind (e_pick (k + 9) l j 4 hb hl (by omega) (by omega)) ?_
    intro v2 j2 h02 h12 hv2
    refine DR.ite (fun _ => ?_) (fun _ => ?_)
    · refine DR.bind (e_pick (k + 9) l j2 256 hb hl (by (try dsimp only at *); omega) (by omega)) ?_
      intro v3 j3 h03 h13 hv3
      refine DR.bind (e_pick (k + 9) l j3 4 hb hl (by (try dsimp only at *); omega) (by omega)) ?_
      intro v4 j4 h04 h14 hv4
      exact (e_ordj1 (k + 8) x5 _ l j4 hb hl (by (try dsimp only at *); omega) i5 (in64_wrap _)).mono (by (try dsimp only at *); omega) (fun _ h => h)
    · exact (e_ordj1 (k + 8) x5 _ l j2 hb hl (by (try dsimp only at *); omega) i5 (in64_wrap _)).mono (by (try dsimp only at *); omega) (fun _ h => h)
  · refine DR.bind (e_pick (k + 9) l p 1048576 hb hl (by omega) (by omega)) ?_
    intro v j h0 h1 hv
    exact (e_ordj1 (k + 8) x5 _ l j hb hl (by (try dsimp only at *); omega) i5 (in64_small hv (by omega))).mono (by (try dsimp only at *); omega) (fun _ h => h)
  · refine DR.bind (e_big k l p hb hl (by omega)) ?_
    intro v j h0 h1 hv
    have e : wrap64 (x5 + 1) = x5 + 1 := by unfold wrap64; omega
    refine DR.ite (fun _ => ?_) (fun _ => ?_)
    · rw [e, if_neg (by omega)]
      exact (e_ordj1 (k + 8) x5 _ l j hb hl (by (try dsimp only at *); omega) i5 (in64_tmod _ _ (by omega))).mono (by (try dsimp only at *); omega) (fun _ h => h)
    · exact (e_ordj1 (k + 8) x5 _ l j hb hl (by (try dsimp only at *); omega) i5 (in64_wrap _)).mono (by (try dsimp only at *); omega) (fun _ h => h)
theorem e_ord (k : Nat) (l : List Int) (p w : Int) (hb : Bytes l) (hl : l.length ≤ 2000) (hp : 0 ≤ p ∧ p ≤ 1400) :
    DR (p + 12) (spec_l31Rd_ord.f (k + 11) l p w) In64 := by
  unfold spec_l31Rd_ord.f
  rw [e_sBitTop, Option.bind_some]
  have ht := top_range w
  refine DR.bind (e_pick (k + 10) l p 10 hb hl (by omega) (by omega)) ?_
  intro v j h0 h1 hv
  refine DR.ite (fun _ => ?_) (fun _ => DR.ite (fun _ => ?_) (fun _ => DR.ite (fun _ => ?_) (fun _ => ?_)))
  · refine DR.bind (e_pick (k + 10) l j 6 hb hl (by omega) (by omega)) ?_
    intro v2 j2 h02 h12 hv2
    exact (e_ordj1 (k + 9) _ _ l j2 hb hl (by (try dsimp only at *); omega) (in64_top w) (in64_small hv2 (by omega))).mono (by (try dsimp only at *); omega) (fun _ h => h)
  · refine DR.bind (e_pick (k + 10) l j 6 hb hl (by omega) (by omega)) ?_
    intro v2 j2 h02 h12 hv2
    exact (e_ordj1 (k + 9) _ _ l j2 hb hl (by (try dsimp only at *); omega) (in64_top w) (in64_wrap _)).mono (by (try dsimp only at *); omega) (fun _ h => h)
  · exact (e_ordj0 k _ _ _ _ l j hb hl (by omega) ht).mono (by omega) (fun _ h => h)
  · exact (e_ordj0 k _ _ _ _ l j hb hl (by omega) ht).mono (by omega) (fun _ h => h)
theorem e_open (l : List Int) (hb : Bytes l) : ∃ l' : List Int, spec_l31Open.f l = some (l', 0) ∧ Bytes l' ∧ l'.length ≤ 2000 := by
  unfold spec_l31Open.f
  by_cases h : (l.length : Int) > 2000
  · rw [if_pos h, if_pos (by omega)]
    exact ⟨_, rfl, hb.take _, by rw [List.length_take]; omega⟩
  · rw [if_neg h]
    exact ⟨_, rfl, hb, by omega⟩
theorem e_pair (k : Nat) (l : List Int) (p w : Int) (hb : Bytes l) (hl : l.length ≤ 2000) (hp : 0 ≤ p ∧ p ≤ 1300) :
    DR2 (p + 30) (spec_l31Rd_pair.f (k + 11) l p w) (fun a b => In64 a ∧ In64 b) := by
  unfold spec_l31Rd_pair.f
  refine DR2.bind (e_ord k l p w hb hl (by omega)) ?_
  intro a ja h0 h1 ha
  refine DR2.bind (e_ord k l ja w hb hl (by omega)) ?_
  intro b jb h02 h12 hbb
  have i1 := fun x : Int => in64_wrap x
  refine DR2.bind (e_pick (k + 10) l jb 6 hb hl (by (try dsimp only at *); omega) (by omega)) ?_
  intro c jc h03 h13 hc
  refine DR2.ite (fun _ => ?_) (fun _ => DR2.ite (fun _ => ?_) (fun _ => DR2.ite (fun _ => ?_) (fun _ => ?_)))
  · refine DR2.ite (fun _ => ?_) (fun _ => DR2.here h03 (by (try dsimp only at *); omega) ⟨by first | exact ha | exact i1 _, by first | exact ha | exact i1 _⟩)
    refine DR2.bind (e_pick (k + 10) l jc 24 hb hl (by (try dsimp only at *); omega) (by omega)) ?_
    intro d jd h04 h14 hd
    refine DR2.ite (fun _ => DR2.here h04 (by (try dsimp only at *); omega) ⟨by first | exact ha | exact i1 _, by first | exact ha | exact i1 _⟩) (fun _ => DR2.here h04 (by (try dsimp only at *); omega) ⟨by first | exact ha | exact i1 _, by first | exact ha | exact i1 _⟩)
  · refine DR2.bind (e_pick (k + 10) l jc 4 hb hl (by (try dsimp only at *); omega) (by omega)) ?_
    intro e je h05 h15 he
    refine DR2.ite (fun _ => ?_) (fun _ => DR2.here h05 (by (try dsimp only at *); omega) ⟨by first | exact ha | exact i1 _, by first | exact ha | exact i1 _⟩)
    refine DR2.bind (e_pick (k + 10) l je 24 hb hl (by (try dsimp only at *); omega) (by omega)) ?_
    intro d jd h04 h14 hd
    refine DR2.ite (fun _ => DR2.here h04 (by (try dsimp only at *); omega) ⟨by first | exact ha | exact i1 _, by first | exact ha | exact i1 _⟩) (fun _ => DR2.here h04 (by (try dsimp only at *); omega) ⟨by first | exact ha | exact i1 _, by first | exact ha | exact i1 _⟩)
  · refine DR2.bind (e_pick (k + 10) l jc 1000 hb hl (by (try dsimp only at *); omega) (by omega)) ?_
    intro e je h05 h15 he
    refine DR2.ite (fun _ => ?_) (fun _ => DR2.here h05 (by (try dsimp only at *); omega) ⟨by first | exact ha | exact i1 _, by first | exact ha | exact i1 _⟩)
    refine DR2.bind (e_pick (k + 10) l je 24 hb hl (by (try dsimp only at *); omega) (by omega)) ?_
    intro d jd h04 h14 hd
    refine DR2.ite (fun _ => DR2.here h04 (by (try dsimp only at *); omega) ⟨by first | exact ha | exact i1 _, by first | exact ha | exact i1 _⟩) (fun _ => DR2.here h04 (by (try dsimp only at *); omega) ⟨by first | exact ha | exact i1 _, by first | exact ha | exact i1 _⟩)
  · refine DR2.ite (fun _ => ?_) (fun _ => DR2.here h03 (by (try dsimp only at *); omega) ⟨ha, hbb⟩)
    refine DR2.bind (e_pick (k + 10) l jc 24 hb hl (by (try dsimp only at *); omega) (by omega)) ?_
    intro d jd h04 h14 hd
    refine DR2.ite (fun _ => DR2.here h04 (by (try dsimp only at *); omega) ⟨hbb, ha⟩) (fun _ => DR2.here h04 (by (try dsimp only at *); omega) ⟨ha, hbb⟩)
theorem e_two (k : Nat) (l : List Int) (hb : Bytes l) : ∃ a b, spec_l31Two.f (k + 11) l = some (a, b) ∧ In64 a ∧ In64 b := by
  obtain ⟨l', e, hb', hl⟩ := e_open l hb
  unfold spec_l31Two.f
  rw [e]
  simp only [Option.bind_some]
  obtain ⟨v, j, e1, h0, h1, hv⟩ := e_pick (k + 10) l' 0 2 hb' hl (by omega) (by omega)
  rw [e1]
  simp only [Option.bind_some]
  rw [if_pos hv.1, if_pos (by simp; omega)]
  obtain ⟨a, b, j2, e2, h02, h12, ha, hbb⟩ := e_pair k l' j (rd [32, 64] v) hb' hl (by omega)
  rw [e2]
  simp only [Option.bind_some]
  obtain ⟨v3, j3, e3, h03, h13, hv3⟩ := e_pick (k + 10) l' j2 12 hb' hl (by omega) (by omega)
  rw [e3]
  simp only [Option.bind_some]
  by_cases h : v3 = 0
  · rw [if_pos h]
    obtain ⟨v4, j4, e4, h04, h14, hv4⟩ := e_big (k + 1) l' j3 hb' hl (by omega)
    rw [e4]
    simp only [Option.bind_some]
    obtain ⟨v5, j5, e5, h05, h15, hv5⟩ := e_big (k + 1) l' j4 hb' hl (by omega)
    rw [e5]
    exact ⟨_, _, rfl, in64_wrap _, in64_wrap _⟩
  · rw [if_neg h]
    exact ⟨_, _, rfl, ha, hbb⟩
theorem FnBitMiddle : laws_FnBitMiddle.Pure := by
  intro l0 _ _ hb
  refine ⟨11, ?_⟩
  unfold laws_FnBitMiddle.f
  split
  · rfl
  obtain ⟨a, b, e, ha, hbb⟩ := e_two 0 l0 hb
  unfold spec_DrawBitMiddle.f
  rw [e]
  unfold In64 at ha hbb
  simp only [Option.bind_some]
  by_cases h : a > b
  · have g : impl_BitGap.f a b = some 0 := by unfold impl_BitGap.f; rw [if_pos h]
    have g' : spec_BitGap.f a b = some 0 := by unfold spec_BitGap.f; rw [if_pos h]
    have m : impl_BitMiddle.f a b = some a := by
      unfold impl_BitMiddle.f; rw [g]; simp only [Option.bind_some, u64w, wrap64, Option.some.injEq, Int.zero_tdiv]; omega
    simp [g, g', m, h]
  · have gap : ∀ x y : Int, -9223372036854775808 ≤ x → y ≤ 9223372036854775807 → x ≤ y → impl_BitGap.f x y = some (y - x) := by
      intro x y h1 h2 h3
      unfold impl_BitGap.f; rw [if_neg (by omega)]; simp only [u64w, Option.some.injEq]; omega
    have g := gap a b (by omega) (by omega) (by omega)
    have g' : spec_BitGap.f a b = some (b - a) := by
      unfold spec_BitGap.f; rw [if_neg (by omega)]; simp only [u64w, Option.some.injEq]; omega
    have m : impl_BitMiddle.f a b = some (a + (b - a) / 2) := by
      unfold impl_BitMiddle.f; rw [g]; simp only [Option.bind_some, u64w, wrap64, Option.some.injEq, Int.tdiv_eq_ediv_of_nonneg (show 0 ≤ b - a by omega)]; omega
    have g1 := gap a (a + (b - a) / 2) (by omega) (by omega) (by omega)
    have g2 := gap (a + (b - a) / 2) b (by omega) (by omega) (by omega)
    rw [g, g', m]
    simp only [Option.bind_some]
    rw [if_pos trivial, if_neg h, g1, g2]
    simp only [Option.bind_some, u64w]
    rw [if_pos (by omega), if_pos (by omega), if_pos (by omega), if_pos (by omega)]
    simp only [Option.some.injEq, decide_eq_true_eq]
    omega
end Go.Proofs.Ytkpholdkijlogaa.Pure
