/- NatSub of the program and of the reference agree for all two lists of whole numbers; what is told is the caller's own, and nothing that was given is changed.
   Conditions: none beyond those of the given row (each number is of its kind). -/
import Derived.Test.YtaachpcidikagaaQFnExactNatSubx5
import Derived.Test.YtaachpcidikagaaMB
import Derived.Test.YtaachpcidikagaaMN
namespace Go.Proofs.Ytaachpcidikagaa.Pure
open Go.RowKit Go.Proofs.Ytaachpcidikagaa.QFnExactNatSub Go.Proofs.YtaachpcidikagaaW.PrintWords Go.Proofs.YtaachpcidikagaaW.PrintLast Go.Proofs.YtaachpcidikagaaW.PrintMore Go.Proofs.Ytaachpcidikagaa.M Go.Proofs.Ytaachpcidikagaa.MN
set_option linter.unusedVariables false
set_option linter.unusedSimpArgs false
theorem w64i (i : Nat) (h : i ≤ 1048576) : wrap64 ((i : Int) + 1) = ((i + 1 : Nat) : Int) := by unfold wrap64; omega
theorem e_rd (l : List Int) (i : Nat) (h : i < l.length) : rd l (i : Int) = l[i] := by simp [rd, List.getD_eq_getElem?_getD, List.getElem?_eq_getElem h]
theorem e_toIntS_l (l : List Int) (hl : l.length ≤ 1048576) (d : Nat) : ∀ (i k : Nat), i + d = l.length → d < k → laws_toIntS.l0 k l (l.take i ++ List.replicate d 0) (i : Int) = some l := by
  induction d with
  | zero =>
    intro i k hi hk
    obtain ⟨k, rfl⟩ : ∃ m, k = m + 1 := ⟨k - 1, by omega⟩
    simp only [laws_toIntS.l0]; rw [if_neg (by omega), List.take_of_length_le (by omega)]; simp
  | succ d ih =>
    intro i k hi hk
    obtain ⟨k, rfl⟩ : ∃ m, k = m + 1 := ⟨k - 1, by omega⟩
    have hlt : i < l.length := by omega
    simp only [laws_toIntS.l0]
    rw [if_pos (by omega), if_pos (by omega), if_pos (by simp; omega), e_rd l i hlt, w64i i (by omega), Int.toNat_natCast]
    have e : (l.take i ++ List.replicate (d + 1) 0).set i l[i] = l.take (i + 1) ++ List.replicate d 0 := by
      rw [List.set_append_right _ _ (by simp; omega), List.take_succ_eq_append_getElem hlt, List.length_take, Nat.min_eq_left (Nat.le_of_lt hlt), Nat.sub_self, List.replicate_succ, List.set_cons_zero, List.append_assoc]
      rfl
    rw [e]; exact ih (i + 1) k (by omega) (by omega)
theorem e_toIntS (k : Nat) (l : List Int) (hl : l.length ≤ 1048576) (hk : l.length < k) : laws_toIntS.f k l = some l := by
  unfold laws_toIntS.f
  rw [if_pos (by omega), if_pos (by omega), Int.toNat_natCast]
  have := e_toIntS_l l hl l.length 0 k (by omega) hk
  simpa using this
theorem e_eqIntS_l (l : List Int) (hl : l.length ≤ 1048576) (d : Nat) : ∀ (i k : Nat), i + d = l.length → d < k → laws_eqIntS.l0 k l l (i : Int) = some true := by
  induction d with
  | zero =>
    intro i k hi hk
    obtain ⟨k, rfl⟩ : ∃ m, k = m + 1 := ⟨k - 1, by omega⟩
    simp only [laws_eqIntS.l0]; rw [if_neg (by omega)]
  | succ d ih =>
    intro i k hi hk
    obtain ⟨k, rfl⟩ : ∃ m, k = m + 1 := ⟨k - 1, by omega⟩
    simp only [laws_eqIntS.l0]
    rw [if_pos (by omega), if_pos (by omega), if_pos (by omega), if_pos trivial, w64i i (by omega)]
    exact ih (i + 1) k (by omega) (by omega)
theorem e_eqIntS (k : Nat) (l : List Int) (hl : l.length ≤ 1048576) (hk : l.length < k) : laws_eqIntS.f k l l = some true := by
  unfold laws_eqIntS.f; rw [if_pos rfl]; exact e_eqIntS_l l hl l.length 0 k (by omega) hk
theorem e_sNatOk_l (l : List Int) (hl : l.length ≤ 256) (d : Nat) : ∀ (i k : Nat), i + d = l.length → d < k → spec_NatOk.l0 k l (i : Int) = some ((l.drop i).all (fun d => decide (0 ≤ d ∧ d ≤ 65535)) && (l.getLast? != some 0)) := by
  induction d with
  | zero =>
    intro i k hi hk
    obtain ⟨k, rfl⟩ : ∃ m, k = m + 1 := ⟨k - 1, by omega⟩
    simp only [spec_NatOk.l0]; rw [if_neg (by omega), List.drop_of_length_le (by omega)]
    by_cases hz : l = []
    · subst hz; simp
    · have hp : 0 < l.length := List.length_pos_iff.mpr hz
      have ej : wrap64 ((l.length : Int) - 1) = ((l.length - 1 : Nat) : Int) := by unfold wrap64; omega
      rw [if_neg (by omega), ej, if_pos (by omega), if_pos (by omega), e_rd l _ (by omega), List.getLast?_eq_getElem?, List.getElem?_eq_getElem (by omega)]
      simp only [List.all_nil, Bool.true_and]; congr 1
  | succ d ih =>
    intro i k hi hk
    obtain ⟨k, rfl⟩ : ∃ m, k = m + 1 := ⟨k - 1, by omega⟩
    have hlt : i < l.length := by omega
    simp only [spec_NatOk.l0]
    rw [if_pos (by omega), if_pos (by omega), e_rd l i hlt, List.drop_eq_getElem_cons hlt, List.all_cons]
    by_cases h0 : l[i] < 0
    · rw [if_pos h0, decide_eq_false (by omega)]; rfl
    · rw [if_neg h0]
      by_cases h1 : l[i] ≥ 65536
      · rw [if_pos h1, decide_eq_false (by omega)]; rfl
      · rw [if_neg h1, w64i i (by omega), decide_eq_true (by omega), Bool.true_and]
        exact ih (i + 1) k (by omega) (by omega)
theorem e_sNatOk (k : Nat) (l : List Int) (hk : 256 < k) : spec_NatOk.f k l = some (natOk l) := by
  unfold spec_NatOk.f natOk
  by_cases h : l.length ≤ 256
  · have := e_sNatOk_l l h l.length 0 k (by omega) (by omega)
    rw [if_neg (by omega)]
    have e0 : ((0 : Nat) : Int) = 0 := rfl
    rw [e0] at this
    rw [this, decide_eq_true h, Bool.true_and, List.drop_zero, Bool.and_comm]
  · rw [if_pos (by omega), decide_eq_false h]; rfl
def marks : Int → Nat → List Int
  | _, 0 => []
  | a, n + 1 => a :: marks (a + 1) n
theorem marks_length : ∀ (n : Nat) (a : Int), (marks a n).length = n := by
  intro n; induction n with
  | zero => intro a; rfl
  | succ n ih => intro a; simp [marks, ih]
theorem e_mark_l : ∀ (suf pre : List Int) (a : Int) (k : Nat), suf.length < k → pre.length + suf.length ≤ 1048576 → 0 ≤ a ∧ a + suf.length ≤ 9000000 → laws_markIntS.l0 k (pre ++ suf) a (pre.length : Int) = some (a + suf.length, pre ++ marks a suf.length) := by
  intro suf; induction suf with
  | nil =>
    intro pre a k hk hl ha
    obtain ⟨k, rfl⟩ : ∃ m, k = m + 1 := ⟨k - 1, by simp at hk; omega⟩
    simp only [laws_markIntS.l0]
    rw [if_neg (by simp)]; simp [marks]
  | cons s suf ih =>
    intro pre a k hk hl ha
    simp only [List.length_cons] at hk hl ha
    obtain ⟨k, rfl⟩ : ∃ m, k = m + 1 := ⟨k - 1, by omega⟩
    simp only [laws_markIntS.l0]
    rw [if_pos (by simp; omega), if_pos (by omega)]
    have e1 : (pre ++ s :: suf).set ((pre.length : Int)).toNat a = (pre ++ [a]) ++ suf := by
      rw [Int.toNat_natCast, List.set_append_right _ _ (Nat.le_refl _), Nat.sub_self, List.set_cons_zero, List.append_assoc]; rfl
    have e2 : wrap64 (a + 1) = a + 1 := by unfold wrap64; omega
    have e3 : wrap64 ((pre.length : Int) + 1) = ((pre ++ [a]).length : Int) := by rw [List.length_append]; simp; unfold wrap64; omega
    rw [e1, e2, e3, ih (pre ++ [a]) (a + 1) k (by omega) (by rw [List.length_append]; simp; omega) (by omega)]
    simp [marks]; omega
theorem e_mark (k : Nat) (l : List Int) (a : Int) (hk : l.length < k) (hl : l.length ≤ 1048576) (ha : 0 ≤ a ∧ a ≤ 7000000) : laws_markIntS.f k l a = some (a + l.length, marks a l.length) := by
  have := e_mark_l l [] a k hk (by simpa using hl) (by omega)
  simpa [laws_markIntS.f] using this
theorem e_held_l : ∀ (n : Nat) (pre : List Int) (a : Int) (k : Nat), n < k → pre.length + n ≤ 1048576 → 0 ≤ a ∧ a + n ≤ 9000000 → laws_heldIntS.l0 k (pre ++ marks a n) a (pre.length : Int) = some (a + n) := by
  intro n; induction n with
  | zero =>
    intro pre a k hk hl ha
    obtain ⟨k, rfl⟩ : ∃ m, k = m + 1 := ⟨k - 1, by omega⟩
    simp only [laws_heldIntS.l0]
    rw [if_neg (by simp [marks])]; simp
  | succ n ih =>
    intro pre a k hk hl ha
    obtain ⟨k, rfl⟩ : ∃ m, k = m + 1 := ⟨k - 1, by omega⟩
    simp only [laws_heldIntS.l0]
    have e0 : rd (pre ++ marks a (n + 1)) (pre.length : Int) = a := by
      rw [e_rd _ _ (by rw [List.length_append, marks_length]; omega)]; simp [marks]
    have e2 : wrap64 (a + 1) = a + 1 := by unfold wrap64; omega
    have e3 : wrap64 ((pre.length : Int) + 1) = ((pre ++ [a]).length : Int) := by rw [List.length_append]; simp; unfold wrap64; omega
    have e1 : pre ++ marks a (n + 1) = (pre ++ [a]) ++ marks (a + 1) n := by simp [marks]
    rw [if_pos (by rw [List.length_append, marks_length]; omega), if_pos (by omega), if_pos e0, e2, e3, e1, ih (pre ++ [a]) (a + 1) k (by omega) (by rw [List.length_append]; simp; omega) (by omega), Option.some.injEq]
    omega
theorem e_held (k : Nat) (n : Nat) (a : Int) (hk : n < k) (hl : n ≤ 1048576) (ha : 0 ≤ a ∧ a ≤ 7000000) : laws_heldIntS.f k (marks a n) a = some (a + n) := by
  have := e_held_l n [] a k hk (by simpa using hl) (by omega)
  simpa [laws_heldIntS.f] using this
theorem e_clone (l : List Int) (h : l.length ≤ 17592186044416) : impl_clone_int.f l = some l := by
  unfold impl_clone_int.f slices_Clone_int_int.f; rw [if_pos h]
theorem e_rd0 (l : List Int) (i : Nat) : rd l (i : Int) = l.getD i 0 := by simp [rd]
theorem e_sTrim_copy (y : List Int) (hl : y.length ≤ 2000) (m : Nat) (hm : m ≤ y.length) : ∀ (d k j : Nat), j + d = m → d < k → spec_l5Trim.l1 k y (m : Int) (y.take j) (j : Int) = some (y.take m) := by
  intro d
  induction d with
  | zero =>
    intro k j hj hk
    obtain ⟨k, rfl⟩ : ∃ q, k = q + 1 := ⟨k - 1, by omega⟩
    have : j = m := by omega
    subst this
    simp only [spec_l5Trim.l1]
    rw [if_neg (by omega)]
  | succ d ih =>
    intro k j hj hk
    obtain ⟨k, rfl⟩ : ∃ q, k = q + 1 := ⟨k - 1, by omega⟩
    simp only [spec_l5Trim.l1]
    have e1 : wrap64 ((j : Int) + 1) = ((j + 1 : Nat) : Int) := by unfold wrap64; omega
    have e2 : y.take j ++ [rd y (j : Int)] = y.take (j + 1) := by
      rw [e_rd0, List.getD_eq_getElem?_getD, List.getElem?_eq_getElem (by omega), Option.getD_some, List.take_succ_eq_append_getElem (by omega)]
    rw [if_pos (by omega), if_pos (by omega), if_pos (by omega), if_pos (by rw [List.length_take]; omega), e1, e2]
    exact ih k (j + 1) (by omega) (by omega)
theorem e_sTrim_l (y : List Int) (hl : y.length ≤ 2000) : ∀ (m k : Nat), m ≤ y.length → 2 * m + 5 ≤ k → spec_l5Trim.l0 k y (m : Int) = some (MN.trimD (y.take m)) := by
  intro m
  induction m with
  | zero =>
    intro k hm hk
    obtain ⟨k, rfl⟩ : ∃ q, k = q + 2 := ⟨k - 2, by omega⟩
    simp only [spec_l5Trim.l0, spec_l5Trim.j1]
    rw [if_neg (by omega)]
    have := e_sTrim_copy y hl 0 (by omega) 0 k 0 rfl (by omega)
    simpa [MN.trimD] using this
  | succ m ih =>
    intro k hm hk
    obtain ⟨k, rfl⟩ : ∃ q, k = q + 2 := ⟨k - 2, by omega⟩
    have e1 : wrap64 (((m + 1 : Nat) : Int) - 1) = (m : Int) := by unfold wrap64; omega
    have e2 : y.take (m + 1) = y.take m ++ [y.getD m 0] := by
      rw [List.getD_eq_getElem?_getD, List.getElem?_eq_getElem (by omega), Option.getD_some, List.take_succ_eq_append_getElem (by omega)]
    rw [show k + 2 = (k + 1) + 1 from rfl]
    simp only [spec_l5Trim.l0]
    rw [e1, if_pos (by omega), if_pos (by omega), if_pos (by omega), e_rd0]
    by_cases c : y.getD m 0 = 0
    · have := ih (k + 1) (by omega) (by omega)
      simp only [spec_l5Trim.l0] at this
      rw [if_pos c, e2, c, MN.trimD_snoc_zero]
      (try simp only [spec_l5Trim.l0])
      exact this
    · rw [if_neg c]
      simp only [spec_l5Trim.j1]
      have := e_sTrim_copy y hl (m + 1) hm (m + 1) k 0 (by omega) (by omega)
      rw [e2, MN.trimD_snoc_ne _ c, ← e2]
      simpa using this
theorem e_sTrim (k : Nat) (y : List Int) (hl : y.length ≤ 2000) (hk : 4005 ≤ k) : spec_l5Trim.f k y = some (MN.trimD y) := by
  unfold spec_l5Trim.f
  rw [e_sTrim_l y hl y.length k (Nat.le_refl _) (by omega), List.take_length]
theorem e_iTrim_l (y : List Int) (hl : y.length ≤ 2000) : ∀ (m k : Nat), m ≤ y.length → m < k → impl_trim.l0 k (y.take m) = some (MN.trimD (y.take m)) := by
  intro m
  induction m with
  | zero =>
    intro k hm hk
    obtain ⟨k, rfl⟩ : ∃ q, k = q + 1 := ⟨k - 1, by omega⟩
    simp only [impl_trim.l0]
    rw [if_neg (by simp)]; simp [MN.trimD]
  | succ m ih =>
    intro k hm hk
    obtain ⟨k, rfl⟩ : ∃ q, k = q + 1 := ⟨k - 1, by omega⟩
    have hlen : (y.take (m + 1)).length = m + 1 := by rw [List.length_take]; omega
    have e1 : wrap64 (((m + 1 : Nat) : Int) - 1) = (m : Int) := by unfold wrap64; omega
    have e2 : y.take (m + 1) = y.take m ++ [y.getD m 0] := by
      rw [List.getD_eq_getElem?_getD, List.getElem?_eq_getElem (by omega), Option.getD_some, List.take_succ_eq_append_getElem (by omega)]
    have e3 : (y.take (m + 1)).getD m 0 = y.getD m 0 := by
      rw [List.getD_eq_getElem?_getD, List.getD_eq_getElem?_getD, List.getElem?_take_of_lt (by omega)]
    have e4 : (y.take (m + 1)).take m = y.take m := by rw [List.take_take, Nat.min_eq_left (by omega)]
    simp only [impl_trim.l0]
    rw [hlen, e1, if_pos (by omega), if_pos (by omega), if_pos (by omega), e_rd0, e3]
    by_cases c : y.getD m 0 = 0
    · rw [if_pos c, if_pos (by omega), Int.toNat_natCast, e4, ih k (by omega) (by omega), e2, c, MN.trimD_snoc_zero]
    · rw [if_neg c, e2, MN.trimD_snoc_ne _ c]
theorem e_iTrim (k : Nat) (y : List Int) (hl : y.length ≤ 2000) (hk : 2000 < k) : impl_trim.f k y = some (MN.trimD y) := by
  unfold impl_trim.f
  have := e_iTrim_l y hl y.length k (Nat.le_refl _) (by omega)
  rwa [List.take_length] at this
def toldOf (y : List Int) : List Int × Bool := if (MN.trimD y).length ≤ 256 then (MN.trimD y, true) else ([], false)
theorem toldOf_len (y : List Int) : (toldOf y).1.length ≤ 256 := by unfold toldOf; split <;> simp_all
theorem e_iTold (k : Nat) (y : List Int) (hl : y.length ≤ 2000) (hk : 2000 < k) : impl_told.f k y true = some (toldOf y) := by
  unfold impl_told.f toldOf
  have h1 := MN.trimD_length y
  rw [e_iTrim k y hl hk, Option.bind_some, if_pos rfl]
  by_cases c : (MN.trimD y).length ≤ 256
  · rw [if_neg (by omega), if_pos c, e_clone _ (by omega)]; rfl
  · rw [if_pos (by omega), if_neg c]
theorem toldOf_eq {y z : List Int} (hy : MN.DOk y) (hz : MN.DOk z) (h : MN.val y = MN.val z) : toldOf y = toldOf z := by
  have : MN.trimD y = MN.trimD z := (MN.Can.trimD hy).inj (MN.Can.trimD hz) (by rw [MN.val_trimD, MN.val_trimD, h])
  unfold toldOf; rw [this]
theorem take_val (a : List Int) (i : Nat) (hi : i < a.length) : MN.val (a.take (i + 1)) = MN.val (a.take i) + MN.pw i * a.getD i 0 := by
  rw [List.take_succ_eq_append_getElem hi, MN.val_append, List.length_take, Nat.min_eq_left (by omega), List.getD_eq_getElem?_getD, List.getElem?_eq_getElem hi]
  simp [MN.val]
theorem getD_set_ne (x : List Int) (i m : Nat) (v : Int) (h : i ≠ m) : (x.set i v).getD m 0 = x.getD m 0 := by
  rw [List.getD_eq_getElem?_getD, List.getD_eq_getElem?_getD, List.getElem?_set_ne h]
theorem alg1 (A P x y w VA VB : Int) (h : A - w * P = VA - VB) : A + P * ((x - y - w + 65536) + 65536 * 0) - 1 * (65536 * P) = (VA + P * x) - (VB + P * y) := by grind
theorem alg2 (A P x y w VA VB : Int) (h : A - w * P = VA - VB) : A + P * ((x - y - w) + 65536 * 0) - 0 * (65536 * P) = (VA + P * x) - (VB + P * y) := by grind
theorem alg3 (VA VB P x y : Int) : VA - VB + P * (x - y - x) = VA - (VB + P * y) := by grind
theorem alg4 (V P x y : Int) : V + P * (x + 65536 - x) + 65536 * P * (y - 1 - y) = V := by grind
theorem leO_add {α : Type} {f : Nat → Option α} (h : ∀ k, LeO (f k) (f (k + 1))) (k : Nat) : ∀ n, LeO (f k) (f (k + n)) := by
  intro n
  induction n with
  | zero => exact LeO.refl _
  | succ n ih => exact LeO.trans ih (h (k + n))
theorem take_val' (a : List Int) (i : Nat) : MN.val (a.take (i + 1)) = MN.val (a.take i) + MN.pw i * a.getD i 0 := by
  by_cases hi : i < a.length
  · exact take_val a i hi
  · rw [List.take_of_length_le (by omega), List.take_of_length_le (by omega), List.getD_eq_getElem?_getD, List.getElem?_eq_none (by omega)]; simp
theorem dok_of {x : List Int} (h : ∀ m, m < x.length → 0 ≤ x.getD m 0 ∧ x.getD m 0 < 65536) : MN.DOk x := by
  intro d hd
  obtain ⟨i, hi, rfl⟩ := List.getElem_of_mem hd
  have := h i hi
  rwa [List.getD_eq_getElem?_getD, List.getElem?_eq_getElem hi, Option.getD_some] at this
theorem getD_set_eq (x : List Int) (i : Nat) (v : Int) (h : i < x.length) : (x.set i v).getD i 0 = v := by
  rw [List.getD_eq_getElem?_getD, List.getElem?_set_self h]; rfl
theorem getD_take (x : List Int) (i m : Nat) (h : m < i) : (x.take i).getD m 0 = x.getD m 0 := by
  rw [List.getD_eq_getElem?_getD, List.getD_eq_getElem?_getD, List.getElem?_take_of_lt h]
theorem e_scmpv_l (a b : List Int) (ha : MN.DOk a) (hb : MN.DOk b) (hl : a.length = b.length) (h256 : a.length ≤ 256) : ∀ (d k : Nat), d ≤ a.length → d < k →
    ∃ v, spec_l5Cmp.l0 k a b ((d : Int) - 1) = some v ∧ impl_natCmp.l0 k a b ((d : Int) - 1) = some v ∧ (0 ≤ v → MN.val (b.take d) ≤ MN.val (a.take d)) := by
  intro d
  induction d with
  | zero =>
    intro k hd hk
    obtain ⟨k, rfl⟩ : ∃ m, k = m + 1 := ⟨k - 1, by omega⟩
    simp only [spec_l5Cmp.l0, impl_natCmp.l0]
    exact ⟨0, by rw [if_neg (by omega)], by rw [if_neg (by omega)], fun _ => by simp⟩
  | succ d ih =>
    intro k hd hk
    obtain ⟨k, rfl⟩ : ∃ m, k = m + 1 := ⟨k - 1, by omega⟩
    have r1 := ha.getD d
    have r2 := hb.getD d
    have w : wrap64 ((d : Int) - 1) = (d : Int) - 1 := by unfold wrap64; omega
    have ws : wrap64 (a.getD d 0 - b.getD d 0) = a.getD d 0 - b.getD d 0 := by generalize a.getD d 0 = x at *; generalize b.getD d 0 = y at *; unfold wrap64; omega
    rw [show (((d + 1 : Nat) : Int) - 1) = (d : Int) by omega, take_val' a d, take_val' b d]
    have s1 : spec_l5Cmp.l0 (k + 1) a b (d : Int) = if a.getD d 0 < b.getD d 0 then some (-1) else if a.getD d 0 > b.getD d 0 then some 1 else spec_l5Cmp.l0 k a b ((d : Int) - 1) := by
      simp only [spec_l5Cmp.l0]
      rw [if_pos (by omega), if_pos (by omega), if_pos (by omega), if_pos (by omega), e_rd0, e_rd0, w]
    have s2 : impl_natCmp.l0 (k + 1) a b (d : Int) = if a.getD d 0 = b.getD d 0 then impl_natCmp.l0 k a b ((d : Int) - 1) else some (mx (-1) (mn 1 (a.getD d 0 - b.getD d 0))) := by
      simp only [impl_natCmp.l0]
      rw [if_pos (by omega), if_pos (by omega), if_pos (by omega), if_pos (by omega), e_rd0, e_rd0, w, ws]
    rw [s1, s2]
    have vb : MN.val (b.take d) < MN.pw d := MN.Can.lt_of_len (hb.take d) (by rw [List.length_take]; omega)
    have va := MN.val_nonneg (ha.take d)
    have hp := MN.pw_pos d
    generalize a.getD d 0 = x at *
    generalize b.getD d 0 = y at *
    by_cases c : x = y
    · obtain ⟨v, h1, h2, h3⟩ := ih k (by omega) (by omega)
      refine ⟨v, ?_, ?_, ?_⟩
      · rw [if_neg (by omega), if_neg (by omega)]; exact h1
      · rw [if_pos c]; exact h2
      · intro hv; have := h3 hv; subst c; omega
    · by_cases l : x < y
      · refine ⟨-1, by rw [if_pos l], ?_, fun hv => by omega⟩
        rw [if_neg c, Option.some.injEq]; unfold mx mn; split <;> split <;> omega
      · refine ⟨1, by rw [if_neg l, if_pos (by omega)], ?_, fun _ => ?_⟩
        · rw [if_neg c, Option.some.injEq]; unfold mx mn; split <;> split <;> omega
        · have := Int.mul_le_mul_of_nonneg_left (show y + 1 ≤ x by omega) (Int.le_of_lt hp)
          rw [Int.mul_add] at this; omega
theorem e_scmpv (a b : List Int) (ha : natOk a = true) (hb : natOk b = true) (k : Nat) (hk : 256 < k) : ∃ v, spec_l5Cmp.f k a b = some v ∧ impl_natCmp.f k a b = some v ∧ (0 ≤ v → MN.val b ≤ MN.val a ∧ b.length ≤ a.length) := by
  obtain ⟨la, ca⟩ := natOk_iff.mp ha
  obtain ⟨lb, cb⟩ := natOk_iff.mp hb
  unfold spec_l5Cmp.f impl_natCmp.f
  have wl : wrap64 ((a.length : Int) - 1) = (a.length : Int) - 1 := by unfold wrap64; omega
  have wd : wrap64 ((a.length : Int) - (b.length : Int)) = (a.length : Int) - (b.length : Int) := by unfold wrap64; omega
  rw [wl, wd]
  by_cases h1 : (a.length : Int) < b.length
  · refine ⟨-1, by rw [if_pos h1], ?_, fun h => by omega⟩
    rw [if_neg (by omega), Option.some.injEq]; unfold mx mn; split <;> split <;> omega
  · by_cases h2 : (a.length : Int) > b.length
    · refine ⟨1, by rw [if_neg h1, if_pos h2], ?_, fun _ => ⟨?_, by omega⟩⟩
      · rw [if_neg (by omega), Option.some.injEq]; unfold mx mn; split <;> split <;> omega
      · have p1 := ca.pos (by intro e; rw [e] at h2; simp at h2; omega)
        have p2 := MN.val_lt cb.1
        have p3 := MN.pw_le (show b.length ≤ a.length - 1 by omega)
        omega
    · rw [if_neg h1, if_neg h2, if_pos (by omega)]
      obtain ⟨v, e1, e2, e3⟩ := e_scmpv_l a b ca.1 cb.1 (by omega) la a.length k (by omega) (by omega)
      refine ⟨v, e1, e2, fun h => ⟨?_, by omega⟩⟩
      have := e3 h
      rwa [List.take_length, List.take_of_length_le (by omega)] at this
theorem e_sSub_l (a b : List Int) (ha : MN.DOk a) (hb : MN.DOk b) (la : a.length ≤ 256) : ∀ (d k : Nat) (acc : List Int) (w : Int) (i : Nat), i + d = a.length → acc.length = i → MN.DOk acc → (w = 0 ∨ w = 1) → MN.val acc - w * MN.pw i = MN.val (a.take i) - MN.val (b.take i) →
    ∃ (y : List Int) (w' : Int), spec_l5Sub.l0 (k + d + 1) a b acc w (i : Int) = (spec_l5Trim.f k y).bind some ∧ y.length = a.length ∧ MN.DOk y ∧ (w' = 0 ∨ w' = 1) ∧ MN.val y - w' * MN.pw a.length = MN.val a - MN.val (b.take a.length) := by
  intro d
  induction d with
  | zero =>
    intro k acc w i hi hl hd hw
    have : i = a.length := by omega
    subst this
    have hn : ¬ ((a.length : Nat) : Int) < (a.length : Int) := by omega
    intro hv
    refine ⟨acc, w, ?_, hl, hd, hw, by rwa [List.take_length] at hv⟩
    rw [show k + 0 + 1 = k + 1 from rfl]
    simp only [spec_l5Sub.l0]
    rw [if_neg hn]
  | succ d ih =>
    intro k acc w i hi hl hd hw
    have ra := ha.getD i
    have rb := hb.getD i
    have eat : spec_l5At.f b (i : Int) = some (b.getD i 0) := by
      unfold spec_l5At.f
      by_cases c : (i : Int) < b.length
      · rw [if_pos c, if_pos (by omega), e_rd0]
      · rw [if_neg c, List.getD_eq_getElem?_getD, List.getElem?_eq_none (by omega)]; rfl
    have e2 : wrap64 ((i : Int) + 1) = ((i + 1 : Nat) : Int) := by unfold wrap64; omega
    have w1 : wrap64 (wrap64 (a.getD i 0 - b.getD i 0) - w) = a.getD i 0 - b.getD i 0 - w := by generalize a.getD i 0 = x at *; generalize b.getD i 0 = y at *; unfold wrap64; omega
    have w2 : wrap64 (a.getD i 0 - b.getD i 0 - w + 65536) = a.getD i 0 - b.getD i 0 - w + 65536 := by generalize a.getD i 0 = x at *; generalize b.getD i 0 = y at *; unfold wrap64; omega
    have h3 : i + 1 + d = a.length := by omega
    have h4 : (acc ++ [0]).length = i + 1 := by rw [List.length_append]; simp; omega
    obtain ⟨K, hK⟩ : ∃ K, K = k + d + 1 := ⟨_, rfl⟩
    rw [show k + (d + 1) + 1 = (k + d + 1) + 1 by omega, ← hK]
    by_cases c : a.getD i 0 - b.getD i 0 - w < 0
    · have st : spec_l5Sub.l0 (K + 1) a b acc w (i : Int) = spec_l5Sub.l0 K a b (acc ++ [a.getD i 0 - b.getD i 0 - w + 65536]) 1 ((i + 1 : Nat) : Int) := by
        simp only [spec_l5Sub.l0, eat, Option.bind_some]
        rw [if_pos (by omega), if_pos (by omega), e_rd0, w1, w2, e2, if_pos c, if_pos (by omega)]
      have d1 : 0 ≤ a.getD i 0 - b.getD i 0 - w + 65536 := by omega
      have d2 : a.getD i 0 - b.getD i 0 - w + 65536 < 65536 := by omega
      intro hv
      obtain ⟨y, w', g1, g⟩ := ih k (acc ++ [a.getD i 0 - b.getD i 0 - w + 65536]) 1 (i + 1) h3 (by rw [List.length_append] at h4 ⊢; exact h4) (hd.append (MN.DOk.cons d1 d2 MN.DOk.nil)) (by first | exact .inl rfl | exact .inr rfl) (by
        rw [MN.val_append, hl, MN.pw_succ, take_val' a i, take_val' b i]
        simp only [MN.val]
        exact alg1 _ _ _ _ _ _ _ hv)
      subst hK; exact ⟨y, w', st.trans g1, g⟩
    · have st : spec_l5Sub.l0 (K + 1) a b acc w (i : Int) = spec_l5Sub.l0 K a b (acc ++ [a.getD i 0 - b.getD i 0 - w]) 0 ((i + 1 : Nat) : Int) := by
        simp only [spec_l5Sub.l0, eat, Option.bind_some]
        rw [if_pos (by omega), if_pos (by omega), e_rd0, w1, e2, if_neg c, if_pos (by omega)]
      have d1 : 0 ≤ a.getD i 0 - b.getD i 0 - w := by omega
      have d2 : a.getD i 0 - b.getD i 0 - w < 65536 := by omega
      intro hv
      obtain ⟨y, w', g1, g⟩ := ih k (acc ++ [a.getD i 0 - b.getD i 0 - w]) 0 (i + 1) h3 (by rw [List.length_append] at h4 ⊢; exact h4) (hd.append (MN.DOk.cons d1 d2 MN.DOk.nil)) (by first | exact .inl rfl | exact .inr rfl) (by
        rw [MN.val_append, hl, MN.pw_succ, take_val' a i, take_val' b i]
        simp only [MN.val]
        exact alg2 _ _ _ _ _ _ _ hv)
      subst hK; exact ⟨y, w', st.trans g1, g⟩
theorem e_sSub (k : Nat) (a b : List Int) (ha : MN.DOk a) (hb : MN.DOk b) (la : a.length ≤ 256) (hlb : b.length ≤ a.length) (hv : MN.val b ≤ MN.val a) (hk : 6000 ≤ k) : ∃ y, spec_l5Sub.f k a b = some (MN.trimD y) ∧ y.length ≤ 256 ∧ MN.DOk y ∧ MN.val y = MN.val a - MN.val b := by
  obtain ⟨K, hK⟩ : ∃ K, k = K + a.length + 1 := ⟨k - a.length - 1, by omega⟩
  obtain ⟨y, w, g1, g2, g3, g4, g5⟩ := e_sSub_l a b ha hb la a.length K [] 0 0 (by omega) rfl MN.DOk.nil (by omega) (by simp [MN.val])
  rw [List.take_of_length_le hlb] at g5
  have h1 := MN.val_lt g3
  rw [g2] at h1
  have hw : w = 0 := by
    rcases g4 with h | h
    · exact h
    · subst h; omega
  subst hw
  refine ⟨y, ?_, by omega, g3, by omega⟩
  unfold spec_l5Sub.f
  rw [show ((0 : Nat) : Int) = 0 from rfl] at g1
  rw [hK, g1, e_sTrim K y (by omega) (by omega)]; rfl
theorem e_iSub_1 (a b : List Int) (ha : MN.DOk a) (hb : MN.DOk b) (la : a.length ≤ 256) (hlb : b.length ≤ a.length) : ∀ (d k : Nat) (x : List Int) (i : Nat), i + d = b.length → x.length = a.length → (∀ m, -65535 ≤ x.getD m 0 ∧ x.getD m 0 ≤ 65535) → (∀ m, i ≤ m → x.getD m 0 = a.getD m 0) → MN.val x = MN.val a - MN.val (b.take i) →
    ∃ y, impl_natSub.l0 (k + d + 1) x b (b.length : Int) (i : Int) = impl_natSub.l1 k y (y.length : Int) 0 ∧ y.length = a.length ∧ MN.val y = MN.val a - MN.val b ∧ (∀ m, -65535 ≤ y.getD m 0 ∧ y.getD m 0 ≤ 65535) := by
  intro d
  induction d with
  | zero =>
    intro k x i hi hl hr hz
    have : i = b.length := by omega
    subst this
    have hn : ¬ ((b.length : Nat) : Int) < (b.length : Int) := by omega
    intro hv
    refine ⟨x, ?_, hl, by rwa [List.take_length] at hv, hr⟩
    rw [show k + 0 + 1 = k + 1 from rfl]
    simp only [impl_natSub.l0]
    rw [if_neg hn]
  | succ d ih =>
    intro k x i hi hl hr hz
    have ra := ha.getD i
    have rb := hb.getD i
    have hx := hz i (Nat.le_refl _)
    have e2 : wrap64 ((i : Int) + 1) = ((i + 1 : Nat) : Int) := by unfold wrap64; omega
    have w1 : wrap64 (a.getD i 0 - b.getD i 0) = a.getD i 0 - b.getD i 0 := by generalize a.getD i 0 = x at *; generalize b.getD i 0 = y at *; unfold wrap64; omega
    obtain ⟨K, hK⟩ : ∃ K, K = k + d + 1 := ⟨_, rfl⟩
    rw [show k + (d + 1) + 1 = (k + d + 1) + 1 by omega, ← hK]
    have st : impl_natSub.l0 (K + 1) x b (b.length : Int) (i : Int) = impl_natSub.l0 K (x.set i (a.getD i 0 - b.getD i 0)) b (b.length : Int) ((i + 1 : Nat) : Int) := by
      simp only [impl_natSub.l0]
      rw [if_pos (by omega), if_pos (by omega), if_pos (by omega), if_pos (by omega), e_rd0, e_rd0, hx, w1, e2, Int.toNat_natCast]
    have h3 : i + 1 + d = b.length := by omega
    have h4 : i < x.length := by omega
    have h5 : -65535 ≤ a.getD i 0 - b.getD i 0 ∧ a.getD i 0 - b.getD i 0 ≤ 65535 := by omega
    have hr2 : ∀ m, -65535 ≤ (x.set i (a.getD i 0 - b.getD i 0)).getD m 0 ∧ (x.set i (a.getD i 0 - b.getD i 0)).getD m 0 ≤ 65535 := by
      intro m
      by_cases c : i = m
      · subst c; rw [getD_set_eq _ _ _ h4]; exact h5
      · rw [getD_set_ne _ _ _ _ c]; exact hr m
    have hz2 : ∀ m, i + 1 ≤ m → (x.set i (a.getD i 0 - b.getD i 0)).getD m 0 = a.getD m 0 := by
      intro m hm
      rw [getD_set_ne _ _ _ _ (by omega)]; exact hz m (by omega)
    intro hv
    obtain ⟨y, g1, g⟩ := ih k (x.set i (a.getD i 0 - b.getD i 0)) (i + 1) h3 (by rw [List.length_set]; exact hl) hr2 hz2 (by
      rw [MN.val_set h4, hx, hv, take_val' b i]; exact alg3 _ _ _ _ _)
    subst hK; exact ⟨y, st.trans g1, g⟩
theorem iSub_eq (K : Nat) (x : List Int) (n i : Int) (h0 : i < n) (h1 : 0 ≤ i) (h2 : i < (x.length : Int)) (c : rd x i < 0) (h3 : 0 ≤ wrap64 (i + 1)) (h4 : wrap64 (i + 1) < (x.length : Int)) :
    impl_natSub.l1 (K + 1) x n i = impl_natSub.l1 K ((x.set i.toNat (wrap64 (rd x i + 65536))).set (wrap64 (i + 1)).toNat (wrap64 (rd (x.set i.toNat (wrap64 (rd x i + 65536))) (wrap64 (i + 1)) - 1))) n (wrap64 (i + 1)) := by
  conv => lhs; rw [impl_natSub.l1]
  rw [if_pos h0, if_pos h1, if_pos h2, if_pos c, Option.bind_some, if_pos h3, if_pos h4]
theorem iSub_w (z : Int) (h1 : -65536 ≤ z) (h2 : z ≤ 65535) : wrap64 (z + 65536) = z + 65536 ∧ wrap64 (z - 1) = z - 1 := by unfold wrap64; omega
theorem iSub_stepA (K : Nat) (x : List Int) (n i : Nat) (hl : x.length = n) (hn : n ≤ 256) (hi : i < n) (c : x.getD i 0 < 0) (hlast : i + 1 < n) (h2 : -65536 ≤ x.getD i 0) (h3 : -65535 ≤ x.getD (i + 1) 0 ∧ x.getD (i + 1) 0 ≤ 65535) :
    impl_natSub.l1 (K + 1) x (n : Int) (i : Int) = impl_natSub.l1 K ((x.set i (x.getD i 0 + 65536)).set (i + 1) (x.getD (i + 1) 0 - 1)) (n : Int) ((i + 1 : Nat) : Int) := by
  have e2 : wrap64 ((i : Int) + 1) = ((i + 1 : Nat) : Int) := by clear c h2 h3; unfold wrap64; omega
  have w1 : wrap64 (x.getD i 0 + 65536) = x.getD i 0 + 65536 := (iSub_w _ h2 (by omega)).1
  have w3 : wrap64 (x.getD (i + 1) 0 - 1) = x.getD (i + 1) 0 - 1 := (iSub_w _ (by omega) h3.2).2
  have g1 : (x.set i (x.getD i 0 + 65536)).getD (i + 1) 0 = x.getD (i + 1) 0 := getD_set_ne _ _ _ _ (by clear c h2 h3 e2 w1 w3; omega)
  have p0 : (i : Int) < (n : Int) := by clear c h2 h3 e2 w1 w3 g1; omega
  have p2 : (i : Int) < (x.length : Int) := by clear c h2 h3 e2 w1 w3 g1; omega
  have p4 : ((i + 1 : Nat) : Int) < (x.length : Int) := by clear c h2 h3 e2 w1 w3 g1; omega
  have q := iSub_eq K x n i p0 (Int.natCast_nonneg i) p2 (by rw [e_rd0]; exact c) (by rw [e2]; exact Int.natCast_nonneg _) (by rw [e2]; exact p4)
  rw [q, e2, e_rd0, w1, Int.toNat_natCast, Int.toNat_natCast, e_rd0, g1, w3]
theorem iSub_stepB (K : Nat) (x : List Int) (n i : Nat) (hl : x.length = n) (hn : n ≤ 256) (hi : i < n) (c : ¬ x.getD i 0 < 0) :
    impl_natSub.l1 (K + 1) x (n : Int) (i : Int) = impl_natSub.l1 K x (n : Int) ((i + 1 : Nat) : Int) := by
  have e2 : wrap64 ((i : Int) + 1) = ((i + 1 : Nat) : Int) := by unfold wrap64; omega
  simp only [impl_natSub.l1, Option.bind_some, e_rd0, e2, c, if_false]
  rw [if_pos (by omega), if_pos (by omega), if_pos (by omega)]
theorem e_iSub_2 (n : Nat) (hn : n ≤ 256) (V : Int) (hV : 0 ≤ V) : ∀ (d k : Nat) (x : List Int) (i : Nat), i + d = n → x.length = n → (∀ m, m < i → 0 ≤ x.getD m 0 ∧ x.getD m 0 < 65536) → (-65536 ≤ x.getD i 0 ∧ x.getD i 0 ≤ 65535) → (∀ m, i < m → -65535 ≤ x.getD m 0 ∧ x.getD m 0 ≤ 65535) → MN.val x = V →
    ∃ y, impl_natSub.l1 (k + d + 1) x (n : Int) (i : Int) = (impl_trim.f k y).bind some ∧ y.length = n ∧ MN.DOk y ∧ MN.val y = V := by
  intro d
  induction d with
  | zero =>
    intro k x i hi hl h1 h2 h3
    have : i = n := by omega
    subst this
    have hn : ¬ ((i : Nat) : Int) < (i : Int) := by omega
    have hd : MN.DOk x := dok_of (fun m hm => h1 m (by omega))
    intro hv
    refine ⟨x, ?_, hl, hd, hv⟩
    rw [show k + 0 + 1 = k + 1 from rfl]
    simp only [impl_natSub.l1]
    rw [if_neg hn]
  | succ d ih =>
    intro k x i hi hl h1 h2 h3
    have q6 : i < n := by omega
    rw [show k + (d + 1) + 1 = (k + d + 1) + 1 by omega]
    have q3 : i + 1 + d = n := by omega
    have q4 : i < x.length := by omega
    by_cases c : x.getD i 0 < 0
    · have hlast : MN.val x = V → i + 1 < n := by
        rcases Nat.lt_or_ge (i + 1) n with h | h
        · exact fun _ => h
        · intro hv
          exfalso
          have hx : x.take (i + 1) = x := List.take_of_length_le (by rw [hl]; exact h)
          have t := take_val' x i
          rw [hx, hv] at t
          have lt : MN.val (x.take i) < MN.pw i := MN.Can.lt_of_len (dok_of (fun m hm => by rw [List.length_take] at hm; rw [getD_take _ _ _ (Nat.lt_of_lt_of_le hm (Nat.min_le_left _ _))]; exact h1 m (Nat.lt_of_lt_of_le hm (Nat.min_le_left _ _)))) (by rw [List.length_take]; exact Nat.min_le_left _ _)
          have h7 : x.getD i 0 ≤ -1 := Int.le_sub_one_of_lt c
          have := Int.mul_le_mul_of_nonneg_left h7 (Int.le_of_lt (MN.pw_pos i))
          rw [Int.mul_neg, Int.mul_one] at this
          generalize MN.pw i * x.getD i 0 = z at *
          generalize MN.val (x.take i) = z2 at *
          generalize MN.pw i = z3 at *
          clear hv h1 h2 h3 c h7
          omega
      intro hv
      replace hlast := hlast hv
      revert hv
      have h3' := h3 (i + 1) (by omega)
      have g1 : (x.set i (x.getD i 0 + 65536)).getD (i + 1) 0 = x.getD (i + 1) 0 := getD_set_ne _ _ _ _ (by omega)
      have m1 : ∀ m, m < i + 1 → 0 ≤ ((x.set i (x.getD i 0 + 65536)).set (i + 1) (x.getD (i + 1) 0 - 1)).getD m 0 ∧ ((x.set i (x.getD i 0 + 65536)).set (i + 1) (x.getD (i + 1) 0 - 1)).getD m 0 < 65536 := by
        intro m hm
        rw [getD_set_ne _ _ _ _ (by omega)]
        by_cases q : i = m
        · subst q; rw [getD_set_eq _ _ _ q4]; omega
        · rw [getD_set_ne _ _ _ _ q]; exact h1 m (by omega)
      have m2 : -65536 ≤ ((x.set i (x.getD i 0 + 65536)).set (i + 1) (x.getD (i + 1) 0 - 1)).getD (i + 1) 0 ∧ ((x.set i (x.getD i 0 + 65536)).set (i + 1) (x.getD (i + 1) 0 - 1)).getD (i + 1) 0 ≤ 65535 := by
        rw [getD_set_eq _ _ _ (by rw [List.length_set]; omega)]; omega
      have m3 : ∀ m, i + 1 < m → -65535 ≤ ((x.set i (x.getD i 0 + 65536)).set (i + 1) (x.getD (i + 1) 0 - 1)).getD m 0 ∧ ((x.set i (x.getD i 0 + 65536)).set (i + 1) (x.getD (i + 1) 0 - 1)).getD m 0 ≤ 65535 := by
        intro m hm
        rw [getD_set_ne _ _ _ _ (by omega), getD_set_ne _ _ _ _ (by omega)]; exact h3 m (by omega)
      have q5 : i + 1 < (x.set i (x.getD i 0 + 65536)).length := by rw [List.length_set]; omega
      intro hv
      obtain ⟨y, g1', g⟩ := ih k ((x.set i (x.getD i 0 + 65536)).set (i + 1) (x.getD (i + 1) 0 - 1)) (i + 1) q3 (by rw [List.length_set, List.length_set]; exact hl) m1 m2 m3 (by
        rw [MN.val_set q5, g1, MN.val_set q4, hv, MN.pw_succ]; exact alg4 _ _ _ _)
      exact ⟨y, (iSub_stepA (k + d + 1) x n i hl hn q6 c hlast h2.1 h3').trans g1', g⟩
    · have m1 : ∀ m, m < i + 1 → 0 ≤ x.getD m 0 ∧ x.getD m 0 < 65536 := by
        intro m hm
        by_cases q : m = i
        · subst q; omega
        · exact h1 m (by omega)
      have m2 : -65536 ≤ x.getD (i + 1) 0 ∧ x.getD (i + 1) 0 ≤ 65535 := by
        have := h3 (i + 1) (by omega); omega
      have m3 : ∀ m, i + 1 < m → -65535 ≤ x.getD m 0 ∧ x.getD m 0 ≤ 65535 := fun m hm => h3 m (by omega)
      intro hv
      obtain ⟨y, g1', g⟩ := ih k x (i + 1) q3 hl m1 m2 m3 hv
      exact ⟨y, (iSub_stepB (k + d + 1) x n i hl hn q6 c).trans g1', g⟩
theorem e_iSub (k : Nat) (a b : List Int) (ha : MN.DOk a) (hb : MN.DOk b) (la : a.length ≤ 256) (hlb : b.length ≤ a.length) (hv : MN.val b ≤ MN.val a) (hk : 6000 ≤ k) : ∃ y, impl_natSub.f k a b = some (MN.trimD y) ∧ y.length ≤ 256 ∧ MN.DOk y ∧ MN.val y = MN.val a - MN.val b := by
  obtain ⟨K, hK⟩ : ∃ K, k = (K + a.length + 1) + b.length + 1 := ⟨k - a.length - b.length - 2, by omega⟩
  have ra := fun m => ha.getD m
  obtain ⟨x, f1, f2, f3, f4⟩ := e_iSub_1 a b ha hb la hlb b.length (K + a.length + 1) a 0 (by omega) rfl (fun m => by have := ra m; omega) (fun m _ => rfl) (by simp [MN.val])
  obtain ⟨y, g1, g2, g3, g4⟩ := e_iSub_2 a.length la (MN.val a - MN.val b) (by omega) a.length K x 0 (by omega) f2 (fun m hm => absurd hm (Nat.not_lt_zero m)) ⟨Int.le_trans (by decide) (f4 0).1, (f4 0).2⟩ (fun m _ => f4 m) f3
  refine ⟨y, ?_, by omega, g3, g4⟩
  unfold impl_natSub.f slices_Clone_int_int.f
  rw [show ((0 : Nat) : Int) = 0 from rfl] at f1 g1
  rw [if_pos (by omega), Option.bind_some, hK, f1, f2, g1, e_iTrim K y (by omega) (by omega)]; rfl
theorem e_mainNatSub (l0 l1 : List Int) : ∃ (v : List Int) (ok : Bool), v.length ≤ 256 ∧ (∀ k, 1000000 ≤ k → spec_NatSub.f k l0 l1 = some (v, ok)) ∧ (∀ k, 1000000 ≤ k → impl_NatSub.f k l0 l1 = some (v, ok)) := by
  by_cases a : natOk l0 = true
  · by_cases b : natOk l1 = true
    · obtain ⟨la, ca⟩ := natOk_iff.mp a
      obtain ⟨lb, cb⟩ := natOk_iff.mp b
      obtain ⟨v0, c1, c2, c3⟩ := e_scmpv l0 l1 a b 1000000 (by omega)
      by_cases neg : v0 < 0
      · have same : ∀ k, 1000000 ≤ k → ∃ v, spec_l5Cmp.f k l0 l1 = some v ∧ impl_natCmp.f k l0 l1 = some v ∧ v < 0 := by
          intro k hk
          obtain ⟨v, d1, d2, d3⟩ := e_scmpv l0 l1 a b k (by omega)
          refine ⟨v, d1, d2, ?_⟩
          obtain ⟨q, rfl⟩ : ∃ q, k = 1000000 + q := ⟨k - 1000000, by omega⟩
          have := leO_add (fun k => spec_l5Cmp.mono l0 l1 k) 1000000 q
          rw [c1, d1] at this
          have := this v0 rfl
          injection this with this
          omega
        refine ⟨[], false, by simp, fun k hk => ?_, fun k hk => ?_⟩
        · obtain ⟨v, d1, d2, d3⟩ := same k hk
          unfold spec_NatSub.f
          simp only [e_sNatOk k _ (show 256 < k by omega), Option.bind_some, a, b, if_true, d1, d3]
        · obtain ⟨v, d1, d2, d3⟩ := same k hk
          obtain ⟨k, rfl⟩ : ∃ q, k = q + 1 := ⟨k - 1, by omega⟩
          unfold impl_NatSub.f impl_nats.f
          simp only [List.all_cons, List.all_nil, a, b, Bool.and_true, Option.bind_some, if_true, d2, d3, decide_true, impl_NatSub.j0]
      · obtain ⟨hv, hl⟩ := c3 (by omega)
        have same : ∀ k, 1000000 ≤ k → ∃ v, spec_l5Cmp.f k l0 l1 = some v ∧ impl_natCmp.f k l0 l1 = some v ∧ ¬ v < 0 := by
          intro k hk
          obtain ⟨v, d1, d2, d3⟩ := e_scmpv l0 l1 a b k (by omega)
          refine ⟨v, d1, d2, ?_⟩
          obtain ⟨q, rfl⟩ : ∃ q, k = 1000000 + q := ⟨k - 1000000, by omega⟩
          have := leO_add (fun k => spec_l5Cmp.mono l0 l1 k) 1000000 q
          rw [c1, d1] at this
          have := this v0 rfl
          injection this with this
          omega
        obtain ⟨ys, s1, s2, s3, s4⟩ := e_sSub 1000000 l0 l1 ca.1 cb.1 la hl hv (by omega)
        refine ⟨(toldOf ys).1, (toldOf ys).2, toldOf_len ys, fun k hk => ?_, fun k hk => ?_⟩
        · obtain ⟨v, d1, d2, d3⟩ := same k hk
          obtain ⟨y, f1, f2, f3, f4⟩ := e_sSub k l0 l1 ca.1 cb.1 la hl hv (by omega)
          unfold spec_NatSub.f
          simp only [e_sNatOk k _ (show 256 < k by omega), Option.bind_some, a, b, if_true, d1, d3, if_false, f1]
          have hlen := MN.trimD_length y
          have e : toldOf y = (MN.trimD y, true) := by unfold toldOf; rw [if_pos (by omega)]
          rw [toldOf_eq s3 f3 (by rw [f4, s4]), e]
        · obtain ⟨v, d1, d2, d3⟩ := same k hk
          obtain ⟨k, rfl⟩ : ∃ q, k = q + 1 := ⟨k - 1, by omega⟩
          obtain ⟨y, f1, f2, f3, f4⟩ := e_iSub k l0 l1 ca.1 cb.1 la hl hv (by omega)
          unfold impl_NatSub.f impl_nats.f
          simp only [List.all_cons, List.all_nil, a, b, Bool.and_true, Option.bind_some, if_true, d2, d3, decide_false, impl_NatSub.j0, Bool.false_eq_true, if_false, f1]
          have hlen := MN.trimD_length y
          rw [e_iTold k _ (by omega) (by omega), Option.bind_some, toldOf_eq (MN.Can.trimD f3).1 s3 (by rw [MN.val_trimD, f4, s4])]
    · refine ⟨[], false, by simp, fun k hk => ?_, fun k hk => ?_⟩
      · unfold spec_NatSub.f
        simp only [e_sNatOk k _ (show 256 < k by omega), Option.bind_some, a, if_true]
        rw [if_neg b]
      · obtain ⟨k, rfl⟩ : ∃ q, k = q + 1 := ⟨k - 1, by omega⟩
        unfold impl_NatSub.f impl_nats.f
        simp only [List.all_cons, List.all_nil, Bool.and_true, Option.bind_some, impl_NatSub.j0, if_true]
        rw [if_neg (by simp [b])]
  · refine ⟨[], false, by simp, fun k hk => ?_, fun k hk => ?_⟩
    · unfold spec_NatSub.f
      simp only [e_sNatOk k _ (show 256 < k by omega), Option.bind_some]
      rw [if_neg a]
    · obtain ⟨k, rfl⟩ : ∃ q, k = q + 1 := ⟨k - 1, by omega⟩
      unfold impl_NatSub.f impl_nats.f
      simp only [List.all_cons, List.all_nil, Bool.and_true, Option.bind_some, impl_NatSub.j0, if_true]
      rw [if_neg (by simp [a])]
theorem FnExactNatSub : laws_FnExactNatSub.Pure := by
  intro l0 l1 _ _ _ _ _ _
  refine ⟨2000000, ?_⟩
  unfold laws_FnExactNatSub.f
  by_cases h : (l0.length : Int) > 1048576
  · rw [if_pos h]
  · rw [if_neg h]
    by_cases h' : (l1.length : Int) > 1048576
    · rw [if_pos h']
    · rw [if_neg h']
      have t0 := fun k hk => e_toIntS k l0 (by omega) hk
      have t1 := fun k hk => e_toIntS k l1 (by omega) hk
      have q0 := fun k hk => e_eqIntS k l0 (by omega) hk
      have q1 := fun k hk => e_eqIntS k l1 (by omega) hk
      have m0 := fun k hk => e_mark k l0 1 hk (by omega) (by omega)
      have m1 := fun k hk => e_mark k l1 (1 + l0.length) hk (by omega) (by omega)
      obtain ⟨v, ok, hv, es, ei⟩ := e_mainNatSub l0 l1
      have qv := fun k hk => e_eqIntS k v (by omega) hk
      have mv := fun k hk => e_mark k v 1 hk (by omega) (by omega)
      have hd := fun k hk => e_held k v.length 1 hk (by omega) (by omega)
      rw [t0 2000000 (by omega), Option.bind_some, t1 2000000 (by omega), Option.bind_some, es 2000000 (by omega)]
      simp only [Option.bind_some, ei 2000000 (by omega), qv 2000000 (by omega), if_true, bne_self_eq_false]
      simp only [laws_FnExactNatSub.j0, laws_FnExactNatSub.j1, laws_FnExactNatSub.j2, Bool.false_eq_true, if_false, t0 1999999 (by omega), t1 1999999 (by omega), q0 1999999 (by omega), q1 1999999 (by omega), m0 1999999 (by omega), m1 1999999 (by omega), qv 1999999 (by omega), Option.bind_some, if_true, bne_self_eq_false,
        t0 1999998 (by omega), t1 1999998 (by omega), mv 1999998 (by omega), hd 1999998 (by omega), ei 1999998 (by omega), qv 1999998 (by omega), hd 1999997 (by omega)]
      rw [if_neg (by omega), if_neg (by omega), if_neg (by omega)]
end Go.Proofs.Ytaachpcidikagaa.Pure
