/- NatSmall of the program and of the reference agree for every list of whole numbers.
   Conditions: none beyond those of the given row (each number is of its kind). -/
import Derived.Test.YtaachpcidikagaaQFnExactNatSmallx2
import Derived.Test.YtaachpcidikagaaMB
import Derived.Test.YtaachpcidikagaaMN
import Derived.Test.YtaachpcidikagaaSBack
namespace Go.Proofs.Ytaachpcidikagaa.Pure
open Go.RowKit Go.Proofs.Ytaachpcidikagaa.QFnExactNatSmall Go.Proofs.YtaachpcidikagaaW.PrintWords Go.Proofs.YtaachpcidikagaaW.PrintLast Go.Proofs.YtaachpcidikagaaW.PrintMore Go.Proofs.Ytaachpcidikagaa.M Go.Proofs.Ytaachpcidikagaa.MN Go.Proofs.Ytaachpcidikagaa.SBack
set_option linter.unusedVariables false
set_option linter.unusedSimpArgs false
theorem w64i (i : Nat) (h : i ≤ 1048576) : wrap64 ((i : Int) + 1) = ((i + 1 : Nat) : Int) := by unfold wrap64; omega
theorem e_rd (l : List Int) (i : Nat) (h : i < l.length) : rd l (i : Int) = l[i] := by simp [rd, List.getD_eq_getElem?_getD, List.getElem?_eq_getElem h]
theorem e_toIntS_l (l : List Int) (hl : l.length ≤ 1048576) (d : Nat) : ∀ (i k : Nat), i + d = l.length → d < k → laws_toIntS.l0 k l (l.take i ++ List.replicate d 0) (i : Int) = some l := by
  induction d with
  | zero =>
    intro i k hi hk
    obtain ⟨k, rfl⟩ : ∃ m, k = m + 1 := ⟨k - 1, by omega⟩
    simp only [laws_toIntS.l0]; rw [if_neg (by omega), List.take_of_length_le (by omega)]; simp
  | succ d ih =>
    intro i k hi hk
    obtain ⟨k, rfl⟩ : ∃ m, k = m + 1 := ⟨k - 1, by omega⟩
    have hlt : i < l.length := by omega
    simp only [laws_toIntS.l0]
    rw [if_pos (by omega), if_pos (by omega), if_pos (by simp; omega), e_rd l i hlt, w64i i (by omega), Int.toNat_natCast]
    have e : (l.take i ++ List.replicate (d + 1) 0).set i l[i] = l.take (i + 1) ++ List.replicate d 0 := by
      rw [List.set_append_right _ _ (by simp; omega), List.take_succ_eq_append_getElem hlt, List.length_take, Nat.min_eq_left (Nat.le_of_lt hlt), Nat.sub_self, List.replicate_succ, List.set_cons_zero, List.append_assoc]
      rfl
    rw [e]; exact ih (i + 1) k (by omega) (by omega)
theorem e_toIntS (k : Nat) (l : List Int) (hl : l.length ≤ 1048576) (hk : l.length < k) : laws_toIntS.f k l = some l := by
  unfold laws_toIntS.f
  rw [if_pos (by omega), if_pos (by omega), Int.toNat_natCast]
  have := e_toIntS_l l hl l.length 0 k (by omega) hk
  simpa using this
theorem e_eqIntS_l (l : List Int) (hl : l.length ≤ 1048576) (d : Nat) : ∀ (i k : Nat), i + d = l.length → d < k → laws_eqIntS.l0 k l l (i : Int) = some true := by
  induction d with
  | zero =>
    intro i k hi hk
    obtain ⟨k, rfl⟩ : ∃ m, k = m + 1 := ⟨k - 1, by omega⟩
    simp only [laws_eqIntS.l0]; rw [if_neg (by omega)]
  | succ d ih =>
    intro i k hi hk
    obtain ⟨k, rfl⟩ : ∃ m, k = m + 1 := ⟨k - 1, by omega⟩
    simp only [laws_eqIntS.l0]
    rw [if_pos (by omega), if_pos (by omega), if_pos (by omega), if_pos trivial, w64i i (by omega)]
    exact ih (i + 1) k (by omega) (by omega)
theorem e_eqIntS (k : Nat) (l : List Int) (hl : l.length ≤ 1048576) (hk : l.length < k) : laws_eqIntS.f k l l = some true := by
  unfold laws_eqIntS.f; rw [if_pos rfl]; exact e_eqIntS_l l hl l.length 0 k (by omega) hk
theorem e_sNatOk_l (l : List Int) (hl : l.length ≤ 256) (d : Nat) : ∀ (i k : Nat), i + d = l.length → d < k → spec_NatOk.l0 k l (i : Int) = some ((l.drop i).all (fun d => decide (0 ≤ d ∧ d ≤ 65535)) && (l.getLast? != some 0)) := by
  induction d with
  | zero =>
    intro i k hi hk
    obtain ⟨k, rfl⟩ : ∃ m, k = m + 1 := ⟨k - 1, by omega⟩
    simp only [spec_NatOk.l0]; rw [if_neg (by omega), List.drop_of_length_le (by omega)]
    by_cases hz : l = []
    · subst hz; simp
    · have hp : 0 < l.length := List.length_pos_iff.mpr hz
      have ej : wrap64 ((l.length : Int) - 1) = ((l.length - 1 : Nat) : Int) := by unfold wrap64; omega
      rw [if_neg (by omega), ej, if_pos (by omega), if_pos (by omega), e_rd l _ (by omega), List.getLast?_eq_getElem?, List.getElem?_eq_getElem (by omega)]
      simp only [List.all_nil, Bool.true_and]; congr 1
  | succ d ih =>
    intro i k hi hk
    obtain ⟨k, rfl⟩ : ∃ m, k = m + 1 := ⟨k - 1, by omega⟩
    have hlt : i < l.length := by omega
    simp only [spec_NatOk.l0]
    rw [if_pos (by omega), if_pos (by omega), e_rd l i hlt, List.drop_eq_getElem_cons hlt, List.all_cons]
    by_cases h0 : l[i] < 0
    · rw [if_pos h0, decide_eq_false (by omega)]; rfl
    · rw [if_neg h0]
      by_cases h1 : l[i] ≥ 65536
      · rw [if_pos h1, decide_eq_false (by omega)]; rfl
      · rw [if_neg h1, w64i i (by omega), decide_eq_true (by omega), Bool.true_and]
        exact ih (i + 1) k (by omega) (by omega)
theorem e_sNatOk (k : Nat) (l : List Int) (hk : 256 < k) : spec_NatOk.f k l = some (natOk l) := by
  unfold spec_NatOk.f natOk
  by_cases h : l.length ≤ 256
  · have := e_sNatOk_l l h l.length 0 k (by omega) (by omega)
    rw [if_neg (by omega)]
    have e0 : ((0 : Nat) : Int) = 0 := rfl
    rw [e0] at this
    rw [this, decide_eq_true h, Bool.true_and, List.drop_zero, Bool.and_comm]
  · rw [if_pos (by omega), decide_eq_false h]; rfl
theorem e_rd0 (l : List Int) (i : Nat) : rd l (i : Int) = l.getD i 0 := by simp [rd]
theorem drop_val (b : List Int) (j : Nat) (hj : j < b.length) : MN.val (b.drop j) = b.getD j 0 + 65536 * MN.val (b.drop (j + 1)) := by
  rw [List.drop_eq_getElem_cons hj, List.getD_eq_getElem?_getD, List.getElem?_eq_getElem hj]; rfl
theorem step_eq (n d : Int) (h0 : 0 ≤ n) (h1 : n < 281474976710656) (h2 : 0 ≤ d) (h3 : d < 65536) : SBack.step n d = n * 65536 + d := by
  unfold SBack.step
  rw [M.u64w, M.u64w, Int.emod_eq_of_lt (by omega) (by omega), Int.emod_eq_of_lt h2 (by omega), u64_or _ _ (by omega) (by omega) h2 (by omega)]
  obtain ⟨a, rfl⟩ : ∃ a : Nat, n = (a : Int) := ⟨n.toNat, by omega⟩
  obtain ⟨b, rfl⟩ : ∃ b : Nat, d = (b : Int) := ⟨d.toNat, by omega⟩
  have e : ((a : Int) * 65536).toNat = a <<< 16 := by rw [Nat.shiftLeft_eq]; omega
  rw [e, Int.toNat_natCast, ← Nat.shiftLeft_add_eq_or_of_lt (by omega), Nat.shiftLeft_eq]
  omega
theorem e_smalll (l : List Int) (hd : MN.DOk l) (hl : l.length ≤ 4) : ∀ (j k : Nat) (n : Nat), j + n = l.length → j < k → SBack.many (SBack.upto (SBack.nth l) n) = MN.val (l.drop j) → spec_NatSmall.l0 k l (MN.val (l.drop j)) ((j : Int) - 1) = some (SBack.small l, true) := by
  intro j
  induction j with
  | zero =>
    intro k n hj hk hm
    obtain ⟨k, rfl⟩ : ∃ q, k = q + 1 := ⟨k - 1, by omega⟩
    have : n = l.length := by omega
    subst this
    rw [spec_NatSmall.l0, if_neg (by omega)]
    unfold SBack.small
    rw [hm]
  | succ j ih =>
    intro k n hj hk hm
    obtain ⟨k, rfl⟩ : ∃ q, k = q + 1 := ⟨k - 1, by omega⟩
    have r := hd.getD j
    have v0 := MN.val_nonneg (hd.drop (j + 1))
    have v1 := MN.Can.lt_of_len (n := 3) (hd.drop (j + 1)) (by rw [List.length_drop]; omega)
    have p3 : MN.pw 3 = 281474976710656 := by decide
    rw [p3] at v1
    have dv := drop_val l j (by omega)
    have e1 : ((j + 1 : Nat) : Int) - 1 = (j : Int) := by omega
    have e2 : wrap64 ((j : Int) - 1) = (j : Int) - 1 := by unfold wrap64; omega
    have nt : (SBack.nth l n).2 = l.getD j 0 := by
      unfold SBack.nth
      rw [show l.length - 1 - n = j by omega, List.getD_eq_getElem?_getD]
    have st : SBack.many (SBack.upto (SBack.nth l) (n + 1)) = MN.val (l.drop j) := by
      rw [SBack.upto_succ, SBack.many_snoc, hm, nt, step_eq _ _ v0 v1 r.1 r.2, dv]; omega
    have w : IntKind.u64.wrap (IntKind.u64.wrap (MN.val (l.drop (j + 1)) * 65536) + IntKind.u64.wrap (l.getD j 0)) = MN.val (l.drop j) := by
      rw [dv, M.u64w, M.u64w, M.u64w]; omega
    have := ih k (n + 1) (by omega) (by omega) st
    rw [e1, spec_NatSmall.l0, if_pos (by omega), if_pos (by omega), if_pos (by omega), e_rd0, w, e2]
    exact this
theorem e_natSmall (k : Nat) (l : List Int) (hk : 300 ≤ k) : ∃ r, spec_NatSmall.f k l = some r ∧ impl_NatSmall.f l = some r := by
  unfold spec_NatSmall.f impl_NatSmall.f
  rw [e_sNatOk k l (by omega), Option.bind_some]
  obtain ⟨k, rfl⟩ : ∃ q, k = q + 1 := ⟨k - 1, by omega⟩
  by_cases a : natOk l = true
  · obtain ⟨la, ca⟩ := natOk_iff.mp a
    rw [if_pos a, spec_NatSmall.j0, a, Bool.true_and]
    by_cases c : l.length ≤ 4
    · have e : wrap64 ((l.length : Int) - 1) = (l.length : Int) - 1 := by unfold wrap64; omega
      have := e_smalll l ca.1 c l.length k 0 (by omega) (by omega) (by rw [List.drop_length]; rfl)
      rw [List.drop_length] at this
      refine ⟨_, ?_, rfl⟩
      rw [decide_eq_false (by omega), if_neg (by decide), e, if_pos (by simpa using c)]
      exact this
    · refine ⟨_, ?_, rfl⟩
      rw [decide_eq_true (by omega), if_pos rfl, if_neg (by simpa using c)]
  · have a' : natOk l = false := by simpa using a
    refine ⟨_, ?_, rfl⟩
    rw [if_neg a, spec_NatSmall.j0, if_pos rfl, a', Bool.false_and, if_neg (by decide)]
theorem FnExactNatSmall : laws_FnExactNatSmall.Pure := by
  intro l _ _ _
  refine ⟨1048578, ?_⟩
  unfold laws_FnExactNatSmall.f
  by_cases h : (l.length : Int) > 1048576
  · rw [if_pos h]
  · have hl : l.length ≤ 1048576 := by omega
    obtain ⟨v, h1, h2⟩ := e_natSmall 1048578 l (by omega)
    rw [if_neg h]
    simp only [e_toIntS 1048578 l hl (by omega), h1, h2, Option.bind_some, if_true, bne_self_eq_false]
    rw [show (1048578 : Nat) = 1048577 + 1 from rfl, laws_FnExactNatSmall.j0]
    simp only [Bool.false_eq_true, if_false, e_toIntS 1048577 l hl (by omega), e_eqIntS 1048577 l hl (by omega), Option.bind_some, if_true]
end Go.Proofs.Ytaachpcidikagaa.Pure
