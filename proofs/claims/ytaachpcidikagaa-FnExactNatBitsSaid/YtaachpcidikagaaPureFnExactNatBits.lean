/- NatBits of the program and of the reference agree for every list of whole numbers.
   Conditions: none beyond those of the given row (each number is of its kind). -/
import Derived.Test.YtaachpcidikagaaQFnExactNatBitsx2
import Derived.Test.YtaachpcidikagaaMB
import Derived.Test.YtaachpcidikagaaMN
namespace Go.Proofs.Ytaachpcidikagaa.Pure
open Go.RowKit Go.Proofs.Ytaachpcidikagaa.QFnExactNatBits Go.Proofs.YtaachpcidikagaaW.PrintWords Go.Proofs.YtaachpcidikagaaW.PrintLast Go.Proofs.YtaachpcidikagaaW.PrintMore Go.Proofs.Ytaachpcidikagaa.M Go.Proofs.Ytaachpcidikagaa.MN
set_option linter.unusedVariables false
set_option linter.unusedSimpArgs false
theorem w64i (i : Nat) (h : i ≤ 1048576) : wrap64 ((i : Int) + 1) = ((i + 1 : Nat) : Int) := by unfold wrap64; omega
theorem e_rd (l : List Int) (i : Nat) (h : i < l.length) : rd l (i : Int) = l[i] := by simp [rd, List.getD_eq_getElem?_getD, List.getElem?_eq_getElem h]
theorem e_toIntS_l (l : List Int) (hl : l.length ≤ 1048576) (d : Nat) : ∀ (i k : Nat), i + d = l.length → d < k → laws_toIntS.l0 k l (l.take i ++ List.replicate d 0) (i : Int) = some l := by
  induction d with
  | zero =>
    intro i k hi hk
    obtain ⟨k, rfl⟩ : ∃ m, k = m + 1 := ⟨k - 1, by omega⟩
    simp only [laws_toIntS.l0]; rw [if_neg (by omega), List.take_of_length_le (by omega)]; simp
  | succ d ih =>
    intro i k hi hk
    obtain ⟨k, rfl⟩ : ∃ m, k = m + 1 := ⟨k - 1, by omega⟩
    have hlt : i < l.length := by omega
    simp only [laws_toIntS.l0]
    rw [if_pos (by omega), if_pos (by omega), if_pos (by simp; omega), e_rd l i hlt, w64i i (by omega), Int.toNat_natCast]
    have e : (l.take i ++ List.replicate (d + 1) 0).set i l[i] = l.take (i + 1) ++ List.replicate d 0 := by
      rw [List.set_append_right _ _ (by simp; omega), List.take_succ_eq_append_getElem hlt, List.length_take, Nat.min_eq_left (Nat.le_of_lt hlt), Nat.sub_self, List.replicate_succ, List.set_cons_zero, List.append_assoc]
      rfl
    rw [e]; exact ih (i + 1) k (by omega) (by omega)
theorem e_toIntS (k : Nat) (l : List Int) (hl : l.length ≤ 1048576) (hk : l.length < k) : laws_toIntS.f k l = some l := by
  unfold laws_toIntS.f
  rw [if_pos (by omega), if_pos (by omega), Int.toNat_natCast]
  have := e_toIntS_l l hl l.length 0 k (by omega) hk
  simpa using this
theorem e_eqIntS_l (l : List Int) (hl : l.length ≤ 1048576) (d : Nat) : ∀ (i k : Nat), i + d = l.length → d < k → laws_eqIntS.l0 k l l (i : Int) = some true := by
  induction d with
  | zero =>
    intro i k hi hk
    obtain ⟨k, rfl⟩ : ∃ m, k = m + 1 := ⟨k - 1, by omega⟩
    simp only [laws_eqIntS.l0]; rw [if_neg (by omega)]
  | succ d ih =>
    intro i k hi hk
    obtain ⟨k, rfl⟩ : ∃ m, k = m + 1 := ⟨k - 1, by omega⟩
    simp only [laws_eqIntS.l0]
    rw [if_pos (by omega), if_pos (by omega), if_pos (by omega), if_pos trivial, w64i i (by omega)]
    exact ih (i + 1) k (by omega) (by omega)
theorem e_eqIntS (k : Nat) (l : List Int) (hl : l.length ≤ 1048576) (hk : l.length < k) : laws_eqIntS.f k l l = some true := by
  unfold laws_eqIntS.f; rw [if_pos rfl]; exact e_eqIntS_l l hl l.length 0 k (by omega) hk
theorem e_sNatOk_l (l : List Int) (hl : l.length ≤ 256) (d : Nat) : ∀ (i k : Nat), i + d = l.length → d < k → spec_NatOk.l0 k l (i : Int) = some ((l.drop i).all (fun d => decide (0 ≤ d ∧ d ≤ 65535)) && (l.getLast? != some 0)) := by
  induction d with
  | zero =>
    intro i k hi hk
    obtain ⟨k, rfl⟩ : ∃ m, k = m + 1 := ⟨k - 1, by omega⟩
    simp only [spec_NatOk.l0]; rw [if_neg (by omega), List.drop_of_length_le (by omega)]
    by_cases hz : l = []
    · subst hz; simp
    · have hp : 0 < l.length := List.length_pos_iff.mpr hz
      have ej : wrap64 ((l.length : Int) - 1) = ((l.length - 1 : Nat) : Int) := by unfold wrap64; omega
      rw [if_neg (by omega), ej, if_pos (by omega), if_pos (by omega), e_rd l _ (by omega), List.getLast?_eq_getElem?, List.getElem?_eq_getElem (by omega)]
      simp only [List.all_nil, Bool.true_and]; congr 1
  | succ d ih =>
    intro i k hi hk
    obtain ⟨k, rfl⟩ : ∃ m, k = m + 1 := ⟨k - 1, by omega⟩
    have hlt : i < l.length := by omega
    simp only [spec_NatOk.l0]
    rw [if_pos (by omega), if_pos (by omega), e_rd l i hlt, List.drop_eq_getElem_cons hlt, List.all_cons]
    by_cases h0 : l[i] < 0
    · rw [if_pos h0, decide_eq_false (by omega)]; rfl
    · rw [if_neg h0]
      by_cases h1 : l[i] ≥ 65536
      · rw [if_pos h1, decide_eq_false (by omega)]; rfl
      · rw [if_neg h1, w64i i (by omega), decide_eq_true (by omega), Bool.true_and]
        exact ih (i + 1) k (by omega) (by omega)
theorem e_sNatOk (k : Nat) (l : List Int) (hk : 256 < k) : spec_NatOk.f k l = some (natOk l) := by
  unfold spec_NatOk.f natOk
  by_cases h : l.length ≤ 256
  · have := e_sNatOk_l l h l.length 0 k (by omega) (by omega)
    rw [if_neg (by omega)]
    have e0 : ((0 : Nat) : Int) = 0 := rfl
    rw [e0] at this
    rw [this, decide_eq_true h, Bool.true_and, List.drop_zero, Bool.and_comm]
  · rw [if_pos (by omega), decide_eq_false h]; rfl
theorem e_rd0 (l : List Int) (i : Nat) : rd l (i : Int) = l.getD i 0 := by simp [rd]
theorem bitLen_le64 : ∀ (f x : Nat), Lib.bitLenAux f x ≤ f := by
  intro f
  induction f with
  | zero => intro x; simp [Lib.bitLenAux]
  | succ f ih =>
    intro x
    simp only [Lib.bitLenAux]
    have := ih (x / 2)
    split <;> omega
theorem e_l5Bits_l : ∀ (d k : Nat) (n x : Int), 0 ≤ x → x < 2 ^ d → d ≤ 16 → d < k → 0 ≤ n → n + d ≤ 100000 → spec_l5Bits.l0 k n x = some (n + (Lib.bitLen x.toNat : Int)) := by
  intro d
  induction d with
  | zero =>
    intro k n x h0 h1 hd hk hn hb
    obtain ⟨k, rfl⟩ : ∃ q, k = q + 1 := ⟨k - 1, by omega⟩
    obtain rfl : x = 0 := by simp at h1; omega
    simp only [spec_l5Bits.l0]
    rw [if_neg (by omega)]; simp [Lib.bitLen, Lib.bitLenAux]
  | succ d ih =>
    intro k n x h0 h1 hd hk hn hb
    obtain ⟨k, rfl⟩ : ∃ q, k = q + 1 := ⟨k - 1, by omega⟩
    by_cases c : x > 0
    · have h2 : x / 2 < 2 ^ d := by rw [Int.pow_succ] at h1; omega
      have h3 : x < 2 ^ 16 := Int.lt_of_lt_of_le h1 (by
        have : (2 : Nat) ^ (d + 1) ≤ 2 ^ 16 := Nat.pow_le_pow_right (by decide) hd
        exact_mod_cast this)
      have e0 : Int.tdiv x 2 = x / 2 := Int.tdiv_eq_ediv_of_nonneg h0
      have e1 : wrap64 (n + 1) = n + 1 := by unfold wrap64; omega
      have e2 : wrap64 (x / 2) = x / 2 := by unfold wrap64; omega
      have e3 := Lib.bitLen_half x.toNat (by omega) (by omega)
      have e4 : (x / 2).toNat = x.toNat / 2 := by omega
      have := ih k (n + 1) (x / 2) (by omega) h2 (by omega) (by omega) (by omega) (by omega)
      simp only [spec_l5Bits.l0]
      rw [if_pos c, e0, e1, e2, this, e3, e4, Option.some.injEq]; omega
    · obtain rfl : x = 0 := by omega
      simp only [spec_l5Bits.l0]
      rw [if_neg c]; simp [Lib.bitLen, Lib.bitLenAux]
theorem e_natBits (k : Nat) (l : List Int) (hk : 256 < k) : ∃ v, spec_NatBits.f k l = some v ∧ impl_NatBits.f l = some v := by
  unfold spec_NatBits.f impl_NatBits.f impl_NatOk.f
  simp only [e_sNatOk k _ hk, Option.bind_some]
  by_cases a : natOk l = true
  · obtain ⟨la, ca⟩ := natOk_iff.mp a
    rw [if_pos a, if_pos a]
    unfold spec_l5Bits.f impl_natBits.f bits_Len.f bits_Len64.f
    by_cases z : (l.length : Int) = 0
    · rw [if_pos z, if_pos z]; exact ⟨0, rfl, rfl⟩
    · have e1 : wrap64 ((l.length : Int) - 1) = ((l.length - 1 : Nat) : Int) := by unfold wrap64; omega
      have r := ca.1.getD (l.length - 1)
      have e2 : wrap64 (16 * ((l.length - 1 : Nat) : Int)) = 16 * ((l.length - 1 : Nat) : Int) := by unfold wrap64; omega
      rw [if_neg z, if_neg z, e1, if_pos (by omega), if_pos (by omega), if_pos (by omega), if_pos (by omega), e_rd0, e2]
      generalize l.getD (l.length - 1) 0 = x at *
      have e3 : IntKind.u64.wrap x = x := by rw [M.u64w]; omega
      have e4 := e_l5Bits_l 16 k (16 * ((l.length - 1 : Nat) : Int)) x r.1 (by omega) (by omega) (by omega) (by omega) (by omega)
      have hb : Lib.bitLen x.toNat ≤ 64 := bitLen_le64 64 _
      have e5 : wrap64 (16 * ((l.length - 1 : Nat) : Int) + (Lib.bitLen x.toNat : Int)) = 16 * ((l.length - 1 : Nat) : Int) + (Lib.bitLen x.toNat : Int) := by unfold wrap64; omega
      refine ⟨16 * ((l.length - 1 : Nat) : Int) + (Lib.bitLen x.toNat : Int), ?_, ?_⟩
      · rw [e4]; rfl
      · rw [e3, if_pos (by omega)]; simp only [Option.bind_some]; rw [e5]
  · rw [if_neg a, if_neg a]; exact ⟨-1, rfl, rfl⟩
theorem FnExactNatBits : laws_FnExactNatBits.Pure := by
  intro l _ _ _
  refine ⟨1048577, ?_⟩
  unfold laws_FnExactNatBits.f
  by_cases h : (l.length : Int) > 1048576
  · rw [if_pos h]
  · have hl : l.length ≤ 1048576 := by omega
    obtain ⟨v, h1, h2⟩ := e_natBits 1048577 l (by omega)
    rw [if_neg h]
    simp only [e_toIntS 1048577 l hl (by omega), h1, h2, e_eqIntS 1048577 l hl (by omega), Option.bind_some]
    simp
end Go.Proofs.Ytaachpcidikagaa.Pure
