/- NatOk of the program and of the reference agree for every list of whole numbers.
   Conditions: none beyond those of the given row (each number is of its kind). -/
import Derived.Test.YtaachpcidikagaaQFnExactNatOkx1
import Derived.Test.YtaachpcidikagaaMN
namespace Go.Proofs.Ytaachpcidikagaa.Pure
open Go.RowKit Go.Proofs.Ytaachpcidikagaa.QFnExactNatOk Go.Proofs.YtaachpcidikagaaW.PrintWords Go.Proofs.YtaachpcidikagaaW.PrintLast Go.Proofs.YtaachpcidikagaaW.PrintMore Go.Proofs.Ytaachpcidikagaa.MN
set_option linter.unusedVariables false
set_option linter.unusedSimpArgs false
theorem w64i (i : Nat) (h : i ≤ 1048576) : wrap64 ((i : Int) + 1) = ((i + 1 : Nat) : Int) := by unfold wrap64; omega
theorem e_rd (l : List Int) (i : Nat) (h : i < l.length) : rd l (i : Int) = l[i] := by simp [rd, List.getD_eq_getElem?_getD, List.getElem?_eq_getElem h]
theorem e_toIntS_l (l : List Int) (hl : l.length ≤ 1048576) (d : Nat) : ∀ (i k : Nat), i + d = l.length → d < k → laws_toIntS.l0 k l (l.take i ++ List.replicate d 0) (i : Int) = some l := by
  induction d with
  | zero =>
    intro i k hi hk
    obtain ⟨k, rfl⟩ : ∃ m, k = m + 1 := ⟨k - 1, by omega⟩
    simp only [laws_toIntS.l0]; rw [if_neg (by omega), List.take_of_length_le (by omega)]; simp
  | succ d ih =>
    intro i k hi hk
    obtain ⟨k, rfl⟩ : ∃ m, k = m + 1 := ⟨k - 1, by omega⟩
    have hlt : i < l.length := by omega
    simp only [laws_toIntS.l0]
    rw [if_pos (by omega), if_pos (by omega), if_pos (by simp; omega), e_rd l i hlt, w64i i (by omega), Int.toNat_natCast]
    have e : (l.take i ++ List.replicate (d + 1) 0).set i l[i] = l.take (i + 1) ++ List.replicate d 0 := by
      rw [List.set_append_right _ _ (by simp; omega), List.take_succ_eq_append_getElem hlt, List.length_take, Nat.min_eq_left (Nat.le_of_lt hlt), Nat.sub_self, List.replicate_succ, List.set_cons_zero, List.append_assoc]
      rfl
    rw [e]; exact ih (i + 1) k (by omega) (by omega)
theorem e_toIntS (k : Nat) (l : List Int) (hl : l.length ≤ 1048576) (hk : l.length < k) : laws_toIntS.f k l = some l := by
  unfold laws_toIntS.f
  rw [if_pos (by omega), if_pos (by omega), Int.toNat_natCast]
  have := e_toIntS_l l hl l.length 0 k (by omega) hk
  simpa using this
theorem e_eqIntS_l (l : List Int) (hl : l.length ≤ 1048576) (d : Nat) : ∀ (i k : Nat), i + d = l.length → d < k → laws_eqIntS.l0 k l l (i : Int) = some true := by
  induction d with
  | zero =>
    intro i k hi hk
    obtain ⟨k, rfl⟩ : ∃ m, k = m + 1 := ⟨k - 1, by omega⟩
    simp only [laws_eqIntS.l0]; rw [if_neg (by omega)]
  | succ d ih =>
    intro i k hi hk
    obtain ⟨k, rfl⟩ : ∃ m, k = m + 1 := ⟨k - 1, by omega⟩
    simp only [laws_eqIntS.l0]
    rw [if_pos (by omega), if_pos (by omega), if_pos (by omega), if_pos trivial, w64i i (by omega)]
    exact ih (i + 1) k (by omega) (by omega)
theorem e_eqIntS (k : Nat) (l : List Int) (hl : l.length ≤ 1048576) (hk : l.length < k) : laws_eqIntS.f k l l = some true := by
  unfold laws_eqIntS.f; rw [if_pos rfl]; exact e_eqIntS_l l hl l.length 0 k (by omega) hk
theorem e_sNatOk_l (l : List Int) (hl : l.length ≤ 256) (d : Nat) : ∀ (i k : Nat), i + d = l.length → d < k → spec_NatOk.l0 k l (i : Int) = some ((l.drop i).all (fun d => decide (0 ≤ d ∧ d ≤ 65535)) && (l.getLast? != some 0)) := by
  induction d with
  | zero =>
    intro i k hi hk
    obtain ⟨k, rfl⟩ : ∃ m, k = m + 1 := ⟨k - 1, by omega⟩
    simp only [spec_NatOk.l0]; rw [if_neg (by omega), List.drop_of_length_le (by omega)]
    by_cases hz : l = []
    · subst hz; simp
    · have hp : 0 < l.length := List.length_pos_iff.mpr hz
      have ej : wrap64 ((l.length : Int) - 1) = ((l.length - 1 : Nat) : Int) := by unfold wrap64; omega
      rw [if_neg (by omega), ej, if_pos (by omega), if_pos (by omega), e_rd l _ (by omega), List.getLast?_eq_getElem?, List.getElem?_eq_getElem (by omega)]
      simp only [List.all_nil, Bool.true_and]; congr 1
  | succ d ih =>
    intro i k hi hk
    obtain ⟨k, rfl⟩ : ∃ m, k = m + 1 := ⟨k - 1, by omega⟩
    have hlt : i < l.length := by omega
    simp only [spec_NatOk.l0]
    rw [if_pos (by omega), if_pos (by omega), e_rd l i hlt, List.drop_eq_getElem_cons hlt, List.all_cons]
    by_cases h0 : l[i] < 0
    · rw [if_pos h0, decide_eq_false (by omega)]; rfl
    · rw [if_neg h0]
      by_cases h1 : l[i] ≥ 65536
      · rw [if_pos h1, decide_eq_false (by omega)]; rfl
      · rw [if_neg h1, w64i i (by omega), decide_eq_true (by omega), Bool.true_and]
        exact ih (i + 1) k (by omega) (by omega)
theorem e_sNatOk (k : Nat) (l : List Int) (hk : 256 < k) : spec_NatOk.f k l = some (natOk l) := by
  unfold spec_NatOk.f natOk
  by_cases h : l.length ≤ 256
  · have := e_sNatOk_l l h l.length 0 k (by omega) (by omega)
    rw [if_neg (by omega)]
    have e0 : ((0 : Nat) : Int) = 0 := rfl
    rw [e0] at this
    rw [this, decide_eq_true h, Bool.true_and, List.drop_zero, Bool.and_comm]
  · rw [if_pos (by omega), decide_eq_false h]; rfl
theorem e_iNatOk (l : List Int) : impl_NatOk.f l = some (natOk l) := rfl
theorem FnExactNatOk : laws_FnExactNatOk.Pure := by
  intro l _ _ _
  refine ⟨1048577, ?_⟩
  unfold laws_FnExactNatOk.f
  by_cases h : (l.length : Int) > 1048576
  · rw [if_pos h]
  · have hl : l.length ≤ 1048576 := by omega
    rw [if_neg h]
    simp only [e_toIntS 1048577 l hl (by omega), e_sNatOk 1048577 l (by omega), e_iNatOk, e_eqIntS 1048577 l hl (by omega), Option.bind_some]
    simp
end Go.Proofs.Ytaachpcidikagaa.Pure
