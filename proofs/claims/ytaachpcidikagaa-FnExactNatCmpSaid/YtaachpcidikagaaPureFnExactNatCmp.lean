/- NatCmp of the program and of the reference agree for all two lists of whole numbers.
   Conditions: none beyond those of the given row (each number is of its kind). -/
import Derived.Test.YtaachpcidikagaaQFnExactNatCmpx2
import Derived.Test.YtaachpcidikagaaMN
namespace Go.Proofs.Ytaachpcidikagaa.Pure
open Go.RowKit Go.Proofs.Ytaachpcidikagaa.QFnExactNatCmp Go.Proofs.YtaachpcidikagaaW.PrintWords Go.Proofs.YtaachpcidikagaaW.PrintLast Go.Proofs.YtaachpcidikagaaW.PrintMore Go.Proofs.Ytaachpcidikagaa.MN
set_option linter.unusedVariables false
set_option linter.unusedSimpArgs false
theorem w64i (i : Nat) (h : i ≤ 1048576) : wrap64 ((i : Int) + 1) = ((i + 1 : Nat) : Int) := by unfold wrap64; omega
theorem e_rd (l : List Int) (i : Nat) (h : i < l.length) : rd l (i : Int) = l[i] := by simp [rd, List.getD_eq_getElem?_getD, List.getElem?_eq_getElem h]
theorem e_toIntS_l (l : List Int) (hl : l.length ≤ 1048576) (d : Nat) : ∀ (i k : Nat), i + d = l.length → d < k → laws_toIntS.l0 k l (l.take i ++ List.replicate d 0) (i : Int) = some l := by
  induction d with
  | zero =>
    intro i k hi hk
    obtain ⟨k, rfl⟩ : ∃ m, k = m + 1 := ⟨k - 1, by omega⟩
    simp only [laws_toIntS.l0]; rw [if_neg (by omega), List.take_of_length_le (by omega)]; simp
  | succ d ih =>
    intro i k hi hk
    obtain ⟨k, rfl⟩ : ∃ m, k = m + 1 := ⟨k - 1, by omega⟩
    have hlt : i < l.length := by omega
    simp only [laws_toIntS.l0]
    rw [if_pos (by omega), if_pos (by omega), if_pos (by simp; omega), e_rd l i hlt, w64i i (by omega), Int.toNat_natCast]
    have e : (l.take i ++ List.replicate (d + 1) 0).set i l[i] = l.take (i + 1) ++ List.replicate d 0 := by
      rw [List.set_append_right _ _ (by simp; omega), List.take_succ_eq_append_getElem hlt, List.length_take, Nat.min_eq_left (Nat.le_of_lt hlt), Nat.sub_self, List.replicate_succ, List.set_cons_zero, List.append_assoc]
      rfl
    rw [e]; exact ih (i + 1) k (by omega) (by omega)
theorem e_toIntS (k : Nat) (l : List Int) (hl : l.length ≤ 1048576) (hk : l.length < k) : laws_toIntS.f k l = some l := by
  unfold laws_toIntS.f
  rw [if_pos (by omega), if_pos (by omega), Int.toNat_natCast]
  have := e_toIntS_l l hl l.length 0 k (by omega) hk
  simpa using this
theorem e_eqIntS_l (l : List Int) (hl : l.length ≤ 1048576) (d : Nat) : ∀ (i k : Nat), i + d = l.length → d < k → laws_eqIntS.l0 k l l (i : Int) = some true := by
  induction d with
  | zero =>
    intro i k hi hk
    obtain ⟨k, rfl⟩ : ∃ m, k = m + 1 := ⟨k - 1, by omega⟩
    simp only [laws_eqIntS.l0]; rw [if_neg (by omega)]
  | succ d ih =>
    intro i k hi hk
    obtain ⟨k, rfl⟩ : ∃ m, k = m + 1 := ⟨k - 1, by omega⟩
    simp only [laws_eqIntS.l0]
    rw [if_pos (by omega), if_pos (by omega), if_pos (by omega), if_pos trivial, w64i i (by omega)]
    exact ih (i + 1) k (by omega) (by omega)
theorem e_eqIntS (k : Nat) (l : List Int) (hl : l.length ≤ 1048576) (hk : l.length < k) : laws_eqIntS.f k l l = some true := by
  unfold laws_eqIntS.f; rw [if_pos rfl]; exact e_eqIntS_l l hl l.length 0 k (by omega) hk
theorem e_sNatOk_l (l : List Int) (hl : l.length ≤ 256) (d : Nat) : ∀ (i k : Nat), i + d = l.length → d < k → spec_NatOk.l0 k l (i : Int) = some ((l.drop i).all (fun d => decide (0 ≤ d ∧ d ≤ 65535)) && (l.getLast? != some 0)) := by
  induction d with
  | zero =>
    intro i k hi hk
    obtain ⟨k, rfl⟩ : ∃ m, k = m + 1 := ⟨k - 1, by omega⟩
    simp only [spec_NatOk.l0]; rw [if_neg (by omega), List.drop_of_length_le (by omega)]
    by_cases hz : l = []
    · subst hz; simp
    · have hp : 0 < l.length := List.length_pos_iff.mpr hz
      have ej : wrap64 ((l.length : Int) - 1) = ((l.length - 1 : Nat) : Int) := by unfold wrap64; omega
      rw [if_neg (by omega), ej, if_pos (by omega), if_pos (by omega), e_rd l _ (by omega), List.getLast?_eq_getElem?, List.getElem?_eq_getElem (by omega)]
      simp only [List.all_nil, Bool.true_and]; congr 1
  | succ d ih =>
    intro i k hi hk
    obtain ⟨k, rfl⟩ : ∃ m, k = m + 1 := ⟨k - 1, by omega⟩
    have hlt : i < l.length := by omega
    simp only [spec_NatOk.l0]
    rw [if_pos (by omega), if_pos (by omega), e_rd l i hlt, List.drop_eq_getElem_cons hlt, List.all_cons]
    by_cases h0 : l[i] < 0
    · rw [if_pos h0, decide_eq_false (by omega)]; rfl
    · rw [if_neg h0]
      by_cases h1 : l[i] ≥ 65536
      · rw [if_pos h1, decide_eq_false (by omega)]; rfl
      · rw [if_neg h1, w64i i (by omega), decide_eq_true (by omega), Bool.true_and]
        exact ih (i + 1) k (by omega) (by omega)
theorem e_sNatOk (k : Nat) (l : List Int) (hk : 256 < k) : spec_NatOk.f k l = some (natOk l) := by
  unfold spec_NatOk.f natOk
  by_cases h : l.length ≤ 256
  · have := e_sNatOk_l l h l.length 0 k (by omega) (by omega)
    rw [if_neg (by omega)]
    have e0 : ((0 : Nat) : Int) = 0 := rfl
    rw [e0] at this
    rw [this, decide_eq_true h, Bool.true_and, List.drop_zero, Bool.and_comm]
  · rw [if_pos (by omega), decide_eq_false h]; rfl
theorem e_cmp_l (a b : List Int) (ha : DOk a) (hb : DOk b) (hl : a.length = b.length) (h256 : a.length ≤ 256) : ∀ (d k : Nat), d ≤ a.length → d < k →
    ∃ v, spec_l5Cmp.l0 k a b ((d : Int) - 1) = some v ∧ impl_natCmp.l0 k a b ((d : Int) - 1) = some v := by
  intro d
  induction d with
  | zero =>
    intro k hd hk
    obtain ⟨k, rfl⟩ : ∃ m, k = m + 1 := ⟨k - 1, by omega⟩
    simp only [spec_l5Cmp.l0, impl_natCmp.l0]
    exact ⟨0, by rw [if_neg (by omega)], by rw [if_neg (by omega)]⟩
  | succ d ih =>
    intro k hd hk
    obtain ⟨k, rfl⟩ : ∃ m, k = m + 1 := ⟨k - 1, by omega⟩
    have r1 := ha.getD d
    have r2 := hb.getD d
    have e1 : rd a (d : Int) = a.getD d 0 := by simp [rd]
    have e2 : rd b (d : Int) = b.getD d 0 := by simp [rd]
    have w : wrap64 ((d : Int) - 1) = (d : Int) - 1 := by unfold wrap64; omega
    have ws : wrap64 (a.getD d 0 - b.getD d 0) = a.getD d 0 - b.getD d 0 := by generalize a.getD d 0 = x at *; generalize b.getD d 0 = y at *; unfold wrap64; omega
    rw [show (((d + 1 : Nat) : Int) - 1) = (d : Int) by omega]
    have s1 : spec_l5Cmp.l0 (k + 1) a b (d : Int) = if a.getD d 0 < b.getD d 0 then some (-1) else if a.getD d 0 > b.getD d 0 then some 1 else spec_l5Cmp.l0 k a b ((d : Int) - 1) := by
      simp only [spec_l5Cmp.l0]
      rw [if_pos (by omega), if_pos (by omega), if_pos (by omega), if_pos (by omega), e1, e2, w]
    have s2 : impl_natCmp.l0 (k + 1) a b (d : Int) = if a.getD d 0 = b.getD d 0 then impl_natCmp.l0 k a b ((d : Int) - 1) else some (mx (-1) (mn 1 (a.getD d 0 - b.getD d 0))) := by
      simp only [impl_natCmp.l0]
      rw [if_pos (by omega), if_pos (by omega), if_pos (by omega), if_pos (by omega), e1, e2, w, ws]
    rw [s1, s2]
    generalize a.getD d 0 = x at *
    generalize b.getD d 0 = y at *
    by_cases c : x = y
    · obtain ⟨v, h1, h2⟩ := ih k (by omega) (by omega)
      refine ⟨v, ?_, ?_⟩
      · rw [if_neg (by omega), if_neg (by omega)]; exact h1
      · rw [if_pos c]; exact h2
    · by_cases l : x < y
      · refine ⟨-1, by rw [if_pos l], ?_⟩
        rw [if_neg c, Option.some.injEq]; unfold mx mn; split <;> split <;> omega
      · refine ⟨1, by rw [if_neg l, if_pos (by omega)], ?_⟩
        rw [if_neg c, Option.some.injEq]; unfold mx mn; split <;> split <;> omega
theorem e_cmp (a b : List Int) (ha : natOk a = true) (hb : natOk b = true) (k : Nat) (hk : 256 < k) : ∃ v, spec_l5Cmp.f k a b = some v ∧ impl_natCmp.f k a b = some v := by
  obtain ⟨la, ca, _⟩ := natOk_iff.mp ha
  obtain ⟨lb, cb, _⟩ := natOk_iff.mp hb
  unfold spec_l5Cmp.f impl_natCmp.f
  have wl : wrap64 ((a.length : Int) - 1) = (a.length : Int) - 1 := by unfold wrap64; omega
  have wd : wrap64 ((a.length : Int) - (b.length : Int)) = (a.length : Int) - (b.length : Int) := by unfold wrap64; omega
  rw [wl, wd]
  by_cases h1 : (a.length : Int) < b.length
  · refine ⟨-1, by rw [if_pos h1], ?_⟩
    rw [if_neg (by omega), Option.some.injEq]; unfold mx mn; split <;> split <;> omega
  · by_cases h2 : (a.length : Int) > b.length
    · refine ⟨1, by rw [if_neg h1, if_pos h2], ?_⟩
      rw [if_neg (by omega), Option.some.injEq]; unfold mx mn; split <;> split <;> omega
    · rw [if_neg h1, if_neg h2, if_pos (by omega)]
      exact e_cmp_l a b ca cb (by omega) la a.length k (by omega) (by omega)
theorem FnExactNatCmp : laws_FnExactNatCmp.Pure := by
  intro l0 l1 _ _ _ _ _ _
  refine ⟨1048577, ?_⟩
  unfold laws_FnExactNatCmp.f
  by_cases h : (l0.length : Int) > 1048576
  · rw [if_pos h]
  · rw [if_neg h]
    by_cases h' : (l1.length : Int) > 1048576
    · rw [if_pos h']
    · rw [if_neg h']
      have t0 := e_toIntS 1048577 l0 (by omega) (by omega)
      have t1 := e_toIntS 1048577 l1 (by omega) (by omega)
      have q0 := e_eqIntS 1048577 l0 (by omega) (by omega)
      have q1 := e_eqIntS 1048577 l1 (by omega) (by omega)
      have main : ∃ v, spec_NatCmp.f 1048577 l0 l1 = some v ∧ impl_NatCmp.f 1048577 l0 l1 = some v := by
        unfold spec_NatCmp.f impl_NatCmp.f impl_nats.f
        simp only [e_sNatOk 1048577 _ (show 256 < 1048577 by omega), Option.bind_some, List.all_cons, List.all_nil, Bool.and_true]
        by_cases a : natOk l0 = true
        · by_cases b : natOk l1 = true
          · obtain ⟨v, e1, e2⟩ := e_cmp l0 l1 a b 1048577 (by omega)
            refine ⟨v, by rw [if_pos a, if_pos b, e1]; rfl, by rw [if_pos (by simp [a, b]), e2]; rfl⟩
          · exact ⟨2, by rw [if_pos a, if_neg b], by rw [if_neg (by simp [b])]⟩
        · exact ⟨2, by rw [if_neg a], by rw [if_neg (by simp [a])]⟩
      obtain ⟨v, m1, m2⟩ := main
      simp only [t0, t1, Option.bind_some, m1, m2, if_true, q0, q1]
end Go.Proofs.Ytaachpcidikagaa.Pure
