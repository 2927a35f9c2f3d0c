/- NatPow of the program and of the reference agree for every list of whole numbers and every exponent; what is told is the caller's own, and nothing that was given is changed.
   Conditions: none beyond those of the given row (each number is of its kind). -/
import Derived.Test.YtaachpcidikagaaQFnExactNatPowx4
import Derived.Test.YtaachpcidikagaaMB
import Derived.Test.YtaachpcidikagaaMN
namespace Go.Proofs.Ytaachpcidikagaa.Pure
open Go.RowKit Go.Proofs.Ytaachpcidikagaa.QFnExactNatPow Go.Proofs.YtaachpcidikagaaW.PrintWords Go.Proofs.YtaachpcidikagaaW.PrintLast Go.Proofs.YtaachpcidikagaaW.PrintMore Go.Proofs.Ytaachpcidikagaa.M Go.Proofs.Ytaachpcidikagaa.MN
set_option linter.unusedVariables false
set_option linter.unusedSimpArgs false
theorem w64i (i : Nat) (h : i ≤ 1048576) : wrap64 ((i : Int) + 1) = ((i + 1 : Nat) : Int) := by unfold wrap64; omega
theorem e_rd (l : List Int) (i : Nat) (h : i < l.length) : rd l (i : Int) = l[i] := by simp [rd, List.getD_eq_getElem?_getD, List.getElem?_eq_getElem h]
theorem e_toIntS_l (l : List Int) (hl : l.length ≤ 1048576) (d : Nat) : ∀ (i k : Nat), i + d = l.length → d < k → laws_toIntS.l0 k l (l.take i ++ List.replicate d 0) (i : Int) = some l := by
  induction d with
  | zero =>
    intro i k hi hk
    obtain ⟨k, rfl⟩ : ∃ m, k = m + 1 := ⟨k - 1, by omega⟩
    simp only [laws_toIntS.l0]; rw [if_neg (by omega), List.take_of_length_le (by omega)]; simp
  | succ d ih =>
    intro i k hi hk
    obtain ⟨k, rfl⟩ : ∃ m, k = m + 1 := ⟨k - 1, by omega⟩
    have hlt : i < l.length := by omega
    simp only [laws_toIntS.l0]
    rw [if_pos (by omega), if_pos (by omega), if_pos (by simp; omega), e_rd l i hlt, w64i i (by omega), Int.toNat_natCast]
    have e : (l.take i ++ List.replicate (d + 1) 0).set i l[i] = l.take (i + 1) ++ List.replicate d 0 := by
      rw [List.set_append_right _ _ (by simp; omega), List.take_succ_eq_append_getElem hlt, List.length_take, Nat.min_eq_left (Nat.le_of_lt hlt), Nat.sub_self, List.replicate_succ, List.set_cons_zero, List.append_assoc]
      rfl
    rw [e]; exact ih (i + 1) k (by omega) (by omega)
theorem e_toIntS (k : Nat) (l : List Int) (hl : l.length ≤ 1048576) (hk : l.length < k) : laws_toIntS.f k l = some l := by
  unfold laws_toIntS.f
  rw [if_pos (by omega), if_pos (by omega), Int.toNat_natCast]
  have := e_toIntS_l l hl l.length 0 k (by omega) hk
  simpa using this
theorem e_eqIntS_l (l : List Int) (hl : l.length ≤ 1048576) (d : Nat) : ∀ (i k : Nat), i + d = l.length → d < k → laws_eqIntS.l0 k l l (i : Int) = some true := by
  induction d with
  | zero =>
    intro i k hi hk
    obtain ⟨k, rfl⟩ : ∃ m, k = m + 1 := ⟨k - 1, by omega⟩
    simp only [laws_eqIntS.l0]; rw [if_neg (by omega)]
  | succ d ih =>
    intro i k hi hk
    obtain ⟨k, rfl⟩ : ∃ m, k = m + 1 := ⟨k - 1, by omega⟩
    simp only [laws_eqIntS.l0]
    rw [if_pos (by omega), if_pos (by omega), if_pos (by omega), if_pos trivial, w64i i (by omega)]
    exact ih (i + 1) k (by omega) (by omega)
theorem e_eqIntS (k : Nat) (l : List Int) (hl : l.length ≤ 1048576) (hk : l.length < k) : laws_eqIntS.f k l l = some true := by
  unfold laws_eqIntS.f; rw [if_pos rfl]; exact e_eqIntS_l l hl l.length 0 k (by omega) hk
theorem e_sNatOk_l (l : List Int) (hl : l.length ≤ 256) (d : Nat) : ∀ (i k : Nat), i + d = l.length → d < k → spec_NatOk.l0 k l (i : Int) = some ((l.drop i).all (fun d => decide (0 ≤ d ∧ d ≤ 65535)) && (l.getLast? != some 0)) := by
  induction d with
  | zero =>
    intro i k hi hk
    obtain ⟨k, rfl⟩ : ∃ m, k = m + 1 := ⟨k - 1, by omega⟩
    simp only [spec_NatOk.l0]; rw [if_neg (by omega), List.drop_of_length_le (by omega)]
    by_cases hz : l = []
    · subst hz; simp
    · have hp : 0 < l.length := List.length_pos_iff.mpr hz
      have ej : wrap64 ((l.length : Int) - 1) = ((l.length - 1 : Nat) : Int) := by unfold wrap64; omega
      rw [if_neg (by omega), ej, if_pos (by omega), if_pos (by omega), e_rd l _ (by omega), List.getLast?_eq_getElem?, List.getElem?_eq_getElem (by omega)]
      simp only [List.all_nil, Bool.true_and]; congr 1
  | succ d ih =>
    intro i k hi hk
    obtain ⟨k, rfl⟩ : ∃ m, k = m + 1 := ⟨k - 1, by omega⟩
    have hlt : i < l.length := by omega
    simp only [spec_NatOk.l0]
    rw [if_pos (by omega), if_pos (by omega), e_rd l i hlt, List.drop_eq_getElem_cons hlt, List.all_cons]
    by_cases h0 : l[i] < 0
    · rw [if_pos h0, decide_eq_false (by omega)]; rfl
    · rw [if_neg h0]
      by_cases h1 : l[i] ≥ 65536
      · rw [if_pos h1, decide_eq_false (by omega)]; rfl
      · rw [if_neg h1, w64i i (by omega), decide_eq_true (by omega), Bool.true_and]
        exact ih (i + 1) k (by omega) (by omega)
theorem e_sNatOk (k : Nat) (l : List Int) (hk : 256 < k) : spec_NatOk.f k l = some (natOk l) := by
  unfold spec_NatOk.f natOk
  by_cases h : l.length ≤ 256
  · have := e_sNatOk_l l h l.length 0 k (by omega) (by omega)
    rw [if_neg (by omega)]
    have e0 : ((0 : Nat) : Int) = 0 := rfl
    rw [e0] at this
    rw [this, decide_eq_true h, Bool.true_and, List.drop_zero, Bool.and_comm]
  · rw [if_pos (by omega), decide_eq_false h]; rfl
def marks : Int → Nat → List Int
  | _, 0 => []
  | a, n + 1 => a :: marks (a + 1) n
theorem marks_length : ∀ (n : Nat) (a : Int), (marks a n).length = n := by
  intro n; induction n with
  | zero => intro a; rfl
  | succ n ih => intro a; simp [marks, ih]
theorem e_mark_l : ∀ (suf pre : List Int) (a : Int) (k : Nat), suf.length < k → pre.length + suf.length ≤ 1048576 → 0 ≤ a ∧ a + suf.length ≤ 9000000 → laws_markIntS.l0 k (pre ++ suf) a (pre.length : Int) = some (a + suf.length, pre ++ marks a suf.length) := by
  intro suf; induction suf with
  | nil =>
    intro pre a k hk hl ha
    obtain ⟨k, rfl⟩ : ∃ m, k = m + 1 := ⟨k - 1, by simp at hk; omega⟩
    simp only [laws_markIntS.l0]
    rw [if_neg (by simp)]; simp [marks]
  | cons s suf ih =>
    intro pre a k hk hl ha
    simp only [List.length_cons] at hk hl ha
    obtain ⟨k, rfl⟩ : ∃ m, k = m + 1 := ⟨k - 1, by omega⟩
    simp only [laws_markIntS.l0]
    rw [if_pos (by simp; omega), if_pos (by omega)]
    have e1 : (pre ++ s :: suf).set ((pre.length : Int)).toNat a = (pre ++ [a]) ++ suf := by
      rw [Int.toNat_natCast, List.set_append_right _ _ (Nat.le_refl _), Nat.sub_self, List.set_cons_zero, List.append_assoc]; rfl
    have e2 : wrap64 (a + 1) = a + 1 := by unfold wrap64; omega
    have e3 : wrap64 ((pre.length : Int) + 1) = ((pre ++ [a]).length : Int) := by rw [List.length_append]; simp; unfold wrap64; omega
    rw [e1, e2, e3, ih (pre ++ [a]) (a + 1) k (by omega) (by rw [List.length_append]; simp; omega) (by omega)]
    simp [marks]; omega
theorem e_mark (k : Nat) (l : List Int) (a : Int) (hk : l.length < k) (hl : l.length ≤ 1048576) (ha : 0 ≤ a ∧ a ≤ 7000000) : laws_markIntS.f k l a = some (a + l.length, marks a l.length) := by
  have := e_mark_l l [] a k hk (by simpa using hl) (by omega)
  simpa [laws_markIntS.f] using this
theorem e_held_l : ∀ (n : Nat) (pre : List Int) (a : Int) (k : Nat), n < k → pre.length + n ≤ 1048576 → 0 ≤ a ∧ a + n ≤ 9000000 → laws_heldIntS.l0 k (pre ++ marks a n) a (pre.length : Int) = some (a + n) := by
  intro n; induction n with
  | zero =>
    intro pre a k hk hl ha
    obtain ⟨k, rfl⟩ : ∃ m, k = m + 1 := ⟨k - 1, by omega⟩
    simp only [laws_heldIntS.l0]
    rw [if_neg (by simp [marks])]; simp
  | succ n ih =>
    intro pre a k hk hl ha
    obtain ⟨k, rfl⟩ : ∃ m, k = m + 1 := ⟨k - 1, by omega⟩
    simp only [laws_heldIntS.l0]
    have e0 : rd (pre ++ marks a (n + 1)) (pre.length : Int) = a := by
      rw [e_rd _ _ (by rw [List.length_append, marks_length]; omega)]; simp [marks]
    have e2 : wrap64 (a + 1) = a + 1 := by unfold wrap64; omega
    have e3 : wrap64 ((pre.length : Int) + 1) = ((pre ++ [a]).length : Int) := by rw [List.length_append]; simp; unfold wrap64; omega
    have e1 : pre ++ marks a (n + 1) = (pre ++ [a]) ++ marks (a + 1) n := by simp [marks]
    rw [if_pos (by rw [List.length_append, marks_length]; omega), if_pos (by omega), if_pos e0, e2, e3, e1, ih (pre ++ [a]) (a + 1) k (by omega) (by rw [List.length_append]; simp; omega) (by omega), Option.some.injEq]
    omega
theorem e_held (k : Nat) (n : Nat) (a : Int) (hk : n < k) (hl : n ≤ 1048576) (ha : 0 ≤ a ∧ a ≤ 7000000) : laws_heldIntS.f k (marks a n) a = some (a + n) := by
  have := e_held_l n [] a k hk (by simpa using hl) (by omega)
  simpa [laws_heldIntS.f] using this
theorem e_clone (l : List Int) (h : l.length ≤ 17592186044416) : impl_clone_int.f l = some l := by
  unfold impl_clone_int.f slices_Clone_int_int.f; rw [if_pos h]
theorem e_rd0 (l : List Int) (i : Nat) : rd l (i : Int) = l.getD i 0 := by simp [rd]
theorem e_sTrim_copy (y : List Int) (hl : y.length ≤ 2000) (m : Nat) (hm : m ≤ y.length) : ∀ (d k j : Nat), j + d = m → d < k → spec_l5Trim.l1 k y (m : Int) (y.take j) (j : Int) = some (y.take m) := by
  intro d
  induction d with
  | zero =>
    intro k j hj hk
    obtain ⟨k, rfl⟩ : ∃ q, k = q + 1 := ⟨k - 1, by omega⟩
    have : j = m := by omega
    subst this
    simp only [spec_l5Trim.l1]
    rw [if_neg (by omega)]
  | succ d ih =>
    intro k j hj hk
    obtain ⟨k, rfl⟩ : ∃ q, k = q + 1 := ⟨k - 1, by omega⟩
    simp only [spec_l5Trim.l1]
    have e1 : wrap64 ((j : Int) + 1) = ((j + 1 : Nat) : Int) := by unfold wrap64; omega
    have e2 : y.take j ++ [rd y (j : Int)] = y.take (j + 1) := by
      rw [e_rd0, List.getD_eq_getElem?_getD, List.getElem?_eq_getElem (by omega), Option.getD_some, List.take_succ_eq_append_getElem (by omega)]
    rw [if_pos (by omega), if_pos (by omega), if_pos (by omega), if_pos (by rw [List.length_take]; omega), e1, e2]
    exact ih k (j + 1) (by omega) (by omega)
theorem e_sTrim_l (y : List Int) (hl : y.length ≤ 2000) : ∀ (m k : Nat), m ≤ y.length → 2 * m + 5 ≤ k → spec_l5Trim.l0 k y (m : Int) = some (MN.trimD (y.take m)) := by
  intro m
  induction m with
  | zero =>
    intro k hm hk
    obtain ⟨k, rfl⟩ : ∃ q, k = q + 2 := ⟨k - 2, by omega⟩
    simp only [spec_l5Trim.l0, spec_l5Trim.j1]
    rw [if_neg (by omega)]
    have := e_sTrim_copy y hl 0 (by omega) 0 k 0 rfl (by omega)
    simpa [MN.trimD] using this
  | succ m ih =>
    intro k hm hk
    obtain ⟨k, rfl⟩ : ∃ q, k = q + 2 := ⟨k - 2, by omega⟩
    have e1 : wrap64 (((m + 1 : Nat) : Int) - 1) = (m : Int) := by unfold wrap64; omega
    have e2 : y.take (m + 1) = y.take m ++ [y.getD m 0] := by
      rw [List.getD_eq_getElem?_getD, List.getElem?_eq_getElem (by omega), Option.getD_some, List.take_succ_eq_append_getElem (by omega)]
    rw [show k + 2 = (k + 1) + 1 from rfl]
    simp only [spec_l5Trim.l0]
    rw [e1, if_pos (by omega), if_pos (by omega), if_pos (by omega), e_rd0]
    by_cases c : y.getD m 0 = 0
    · have := ih (k + 1) (by omega) (by omega)
      simp only [spec_l5Trim.l0] at this
      rw [if_pos c, e2, c, MN.trimD_snoc_zero]
      (try simp only [spec_l5Trim.l0])
      exact this
    · rw [if_neg c]
      simp only [spec_l5Trim.j1]
      have := e_sTrim_copy y hl (m + 1) hm (m + 1) k 0 (by omega) (by omega)
      rw [e2, MN.trimD_snoc_ne _ c, ← e2]
      simpa using this
theorem e_sTrim (k : Nat) (y : List Int) (hl : y.length ≤ 2000) (hk : 4005 ≤ k) : spec_l5Trim.f k y = some (MN.trimD y) := by
  unfold spec_l5Trim.f
  rw [e_sTrim_l y hl y.length k (Nat.le_refl _) (by omega), List.take_length]
theorem e_iTrim_l (y : List Int) (hl : y.length ≤ 2000) : ∀ (m k : Nat), m ≤ y.length → m < k → impl_trim.l0 k (y.take m) = some (MN.trimD (y.take m)) := by
  intro m
  induction m with
  | zero =>
    intro k hm hk
    obtain ⟨k, rfl⟩ : ∃ q, k = q + 1 := ⟨k - 1, by omega⟩
    simp only [impl_trim.l0]
    rw [if_neg (by simp)]; simp [MN.trimD]
  | succ m ih =>
    intro k hm hk
    obtain ⟨k, rfl⟩ : ∃ q, k = q + 1 := ⟨k - 1, by omega⟩
    have hlen : (y.take (m + 1)).length = m + 1 := by rw [List.length_take]; omega
    have e1 : wrap64 (((m + 1 : Nat) : Int) - 1) = (m : Int) := by unfold wrap64; omega
    have e2 : y.take (m + 1) = y.take m ++ [y.getD m 0] := by
      rw [List.getD_eq_getElem?_getD, List.getElem?_eq_getElem (by omega), Option.getD_some, List.take_succ_eq_append_getElem (by omega)]
    have e3 : (y.take (m + 1)).getD m 0 = y.getD m 0 := by
      rw [List.getD_eq_getElem?_getD, List.getD_eq_getElem?_getD, List.getElem?_take_of_lt (by omega)]
    have e4 : (y.take (m + 1)).take m = y.take m := by rw [List.take_take, Nat.min_eq_left (by omega)]
    simp only [impl_trim.l0]
    rw [hlen, e1, if_pos (by omega), if_pos (by omega), if_pos (by omega), e_rd0, e3]
    by_cases c : y.getD m 0 = 0
    · rw [if_pos c, if_pos (by omega), Int.toNat_natCast, e4, ih k (by omega) (by omega), e2, c, MN.trimD_snoc_zero]
    · rw [if_neg c, e2, MN.trimD_snoc_ne _ c]
theorem e_iTrim (k : Nat) (y : List Int) (hl : y.length ≤ 2000) (hk : 2000 < k) : impl_trim.f k y = some (MN.trimD y) := by
  unfold impl_trim.f
  have := e_iTrim_l y hl y.length k (Nat.le_refl _) (by omega)
  rwa [List.take_length] at this
def toldOf (y : List Int) : List Int × Bool := if (MN.trimD y).length ≤ 256 then (MN.trimD y, true) else ([], false)
theorem e_iTold (k : Nat) (y : List Int) (hl : y.length ≤ 2000) (hk : 2000 < k) : impl_told.f k y true = some (toldOf y) := by
  unfold impl_told.f toldOf
  have h1 := MN.trimD_length y
  rw [e_iTrim k y hl hk, Option.bind_some, if_pos rfl]
  by_cases c : (MN.trimD y).length ≤ 256
  · rw [if_neg (by omega), if_pos c, e_clone _ (by omega)]; rfl
  · rw [if_pos (by omega), if_neg c]
theorem i64_mask16 (n : Int) (h0 : 0 ≤ n) (h1 : n < 9223372036854775808) : Go.bits .and .i64 n 65535 = n % 65536 := by
  have := bits_mask .i64 63 (by decide) (fun n h0 h1 => by rw [IntKind.wrap_i64]; omega) 16 (by decide) n h0 (by omega)
  exact this
theorem mul_bound {a b : Int} (ha : 0 ≤ a ∧ a < 65536) (hb : 0 ≤ b ∧ b < 65536) : 0 ≤ a * b ∧ a * b ≤ 4294836225 := by
  refine ⟨Int.mul_nonneg ha.1 hb.1, ?_⟩
  have := Int.mul_le_mul (show a ≤ 65535 by omega) (show b ≤ 65535 by omega) hb.1 (by decide)
  omega
theorem drop_val (b : List Int) (j : Nat) (hj : j < b.length) : MN.val (b.drop j) = b.getD j 0 + 65536 * MN.val (b.drop (j + 1)) := by
  rw [List.drop_eq_getElem_cons hj, List.getD_eq_getElem?_getD, List.getElem?_eq_getElem hj]; rfl
theorem take_val (a : List Int) (i : Nat) (hi : i < a.length) : MN.val (a.take (i + 1)) = MN.val (a.take i) + MN.pw i * a.getD i 0 := by
  rw [List.take_succ_eq_append_getElem hi, MN.val_append, List.length_take, Nat.min_eq_left (by omega), List.getD_eq_getElem?_getD, List.getElem?_eq_getElem hi]
  simp [MN.val]
theorem getD_set_ne (x : List Int) (i m : Nat) (v : Int) (h : i ≠ m) : (x.set i v).getD m 0 = x.getD m 0 := by
  rw [List.getD_eq_getElem?_getD, List.getD_eq_getElem?_getD, List.getElem?_set_ne h]
theorem step_val (vx P xd a bj c s vb : Int) (hs : s = xd + a * bj + c) : vx + P * (s % 65536 - xd) + s / 65536 * (65536 * P) + a * vb * (65536 * P) = vx + c * P + a * (bj + 65536 * vb) * P := by
  have h : s = 65536 * (s / 65536) + s % 65536 := (Int.mul_ediv_add_emod s 65536).symm
  generalize s / 65536 = q at *
  generalize s % 65536 = r at *
  grind
theorem e_sMul_in (a b : List Int) (ha : MN.DOk a) (hb : MN.DOk b) (la : a.length ≤ 1024) (lb : b.length ≤ 256) (i n : Nat) (hi : i < a.length) (hn : i + b.length < n ∧ n ≤ 1300) : ∀ (d k : Nat) (x : List Int) (c : Int) (j : Nat), j + d = b.length → x.length = n → MN.DOk x → 0 ≤ c ∧ c < 65536 → (∀ m, i + b.length ≤ m → x.getD m 0 = 0) →
    ∃ x' c', spec_l5Mul.l1 (k + d + 1) a b x (i : Int) c (j : Int) = spec_l5Mul.l0 k a b (x'.set (i + b.length) c') ((i + 1 : Nat) : Int) ∧ x'.length = n ∧ MN.DOk x' ∧ (0 ≤ c' ∧ c' < 65536) ∧
      MN.val x' + c' * MN.pw (i + b.length) = MN.val x + c * MN.pw (i + j) + a.getD i 0 * MN.val (b.drop j) * MN.pw (i + j) ∧ ∀ m, i + b.length ≤ m → x'.getD m 0 = 0 := by
  intro d
  induction d with
  | zero =>
    intro k x c j hj hx hd hc hz
    have : j = b.length := by omega
    subst this
    have e1 : wrap64 ((i : Int) + (b.length : Int)) = ((i + b.length : Nat) : Int) := by unfold wrap64; omega
    have e2 : wrap64 ((i : Int) + 1) = ((i + 1 : Nat) : Int) := by unfold wrap64; omega
    refine ⟨x, c, ?_, hx, hd, hc, by simp [MN.val], hz⟩
    rw [show k + 0 + 1 = k + 1 from rfl]
    simp only [spec_l5Mul.l1]
    rw [if_neg (by omega), e1, e2, if_pos (by omega), if_pos (by omega), Int.toNat_natCast]
  | succ d ih =>
    intro k x c j hj hx hd hc hz
    have e1 : wrap64 ((i : Int) + (j : Int)) = ((i + j : Nat) : Int) := by unfold wrap64; omega
    have e2 : wrap64 ((j : Int) + 1) = ((j + 1 : Nat) : Int) := by unfold wrap64; omega
    have ra := ha.getD i
    have rb := hb.getD j
    have rx := hd.getD (i + j)
    have mb := mul_bound ra rb
    have hs : ∃ s, s = x.getD (i + j) 0 + a.getD i 0 * b.getD j 0 + c := ⟨_, rfl⟩
    obtain ⟨s, hs⟩ := hs
    have bs : 0 ≤ s ∧ s ≤ 4294967295 := by omega
    have w1 : wrap64 (a.getD i 0 * b.getD j 0) = a.getD i 0 * b.getD j 0 := by generalize a.getD i 0 * b.getD j 0 = z at *; unfold wrap64; omega
    have w2 : wrap64 (wrap64 (x.getD (i + j) 0 + a.getD i 0 * b.getD j 0) + c) = s := by generalize a.getD i 0 * b.getD j 0 = z at *; unfold wrap64; omega
    have w3 : Int.tmod s 65536 = s % 65536 := Int.tmod_eq_emod_of_nonneg bs.1
    have w4 : wrap64 (Int.tdiv s 65536) = s / 65536 := by rw [Int.tdiv_eq_ediv_of_nonneg bs.1]; unfold wrap64; omega
    obtain ⟨x', c', f1, f2, f3, f4, f5, f6⟩ := ih k (x.set (i + j) (s % 65536)) (s / 65536) (j + 1) (by omega) (by rw [List.length_set]; exact hx) (hd.set _ (by omega) (by omega)) (by omega)
      (fun m hm => by rw [getD_set_ne _ _ _ _ (by omega)]; exact hz m hm)
    refine ⟨x', c', ?_, f2, f3, f4, ?_, f6⟩
    · rw [← f1, show k + (d + 1) + 1 = (k + d + 1) + 1 by omega]
      obtain ⟨K, hK⟩ : ∃ K, K = k + d + 1 := ⟨_, rfl⟩
      rw [← hK]
      conv => lhs; rw [spec_l5Mul.l1]
      rw [e1, e2, if_pos (by omega), if_pos (by omega), if_pos (by omega), if_pos (by omega), if_pos (by omega), if_pos (by omega), e_rd0, e_rd0, e_rd0, w1, w2, w3, w4, Int.toNat_natCast]
    · rw [f5, MN.val_set (by omega), drop_val b j (by omega), show i + (j + 1) = (i + j) + 1 by omega, MN.pw_succ]
      exact step_val _ _ _ _ _ _ _ _ hs
theorem e_iMul_in (a b : List Int) (ha : MN.DOk a) (hb : MN.DOk b) (la : a.length ≤ 1024) (lb : b.length ≤ 256) (i n : Nat) (hi : i < a.length) (hn : i + b.length < n ∧ n ≤ 1300) : ∀ (d k : Nat) (x : List Int) (c : Int) (j : Nat), j + d = b.length → x.length = n → MN.DOk x → 0 ≤ c ∧ c < 65536 → (∀ m, i + b.length ≤ m → x.getD m 0 = 0) →
    ∃ x' c', impl_natMul.l1 (k + d + 1) b x (i : Int) (a.getD i 0) c a (a.length : Int) (i : Int) b (b.length : Int) (j : Int) = impl_natMul.l0 k b (x'.set (i + b.length) c') a (a.length : Int) ((i + 1 : Nat) : Int) ∧ x'.length = n ∧ MN.DOk x' ∧ (0 ≤ c' ∧ c' < 65536) ∧
      MN.val x' + c' * MN.pw (i + b.length) = MN.val x + c * MN.pw (i + j) + a.getD i 0 * MN.val (b.drop j) * MN.pw (i + j) ∧ ∀ m, i + b.length ≤ m → x'.getD m 0 = 0 := by
  intro d
  induction d with
  | zero =>
    intro k x c j hj hx hd hc hz
    have : j = b.length := by omega
    subst this
    have e1 : wrap64 ((i : Int) + (b.length : Int)) = ((i + b.length : Nat) : Int) := by unfold wrap64; omega
    have e2 : wrap64 ((i : Int) + 1) = ((i + 1 : Nat) : Int) := by unfold wrap64; omega
    refine ⟨x, c, ?_, hx, hd, hc, by simp [MN.val], hz⟩
    rw [show k + 0 + 1 = k + 1 from rfl]
    simp only [impl_natMul.l1]
    have w0 : wrap64 (0 + c) = c := by unfold wrap64; omega
    rw [if_neg (by omega), e1, e2, if_pos (by omega), if_pos (by omega), Int.toNat_natCast, e_rd0, hz _ (Nat.le_refl _), w0]
  | succ d ih =>
    intro k x c j hj hx hd hc hz
    have e1 : wrap64 ((i : Int) + (j : Int)) = ((i + j : Nat) : Int) := by unfold wrap64; omega
    have e2 : wrap64 ((j : Int) + 1) = ((j + 1 : Nat) : Int) := by unfold wrap64; omega
    have ra := ha.getD i
    have rb := hb.getD j
    have rx := hd.getD (i + j)
    have mb := mul_bound ra rb
    have hs : ∃ s, s = x.getD (i + j) 0 + a.getD i 0 * b.getD j 0 + c := ⟨_, rfl⟩
    obtain ⟨s, hs⟩ := hs
    have bs : 0 ≤ s ∧ s ≤ 4294967295 := by omega
    have w1 : wrap64 (a.getD i 0 * b.getD j 0) = a.getD i 0 * b.getD j 0 := by generalize a.getD i 0 * b.getD j 0 = z at *; unfold wrap64; omega
    have w2 : wrap64 (wrap64 (x.getD (i + j) 0 + a.getD i 0 * b.getD j 0) + c) = s := by generalize a.getD i 0 * b.getD j 0 = z at *; unfold wrap64; omega
    have w3 : Go.bits .and .i64 s 65535 = s % 65536 := i64_mask16 s bs.1 (by omega)
    obtain ⟨x', c', f1, f2, f3, f4, f5, f6⟩ := ih k (x.set (i + j) (s % 65536)) (s / 65536) (j + 1) (by omega) (by rw [List.length_set]; exact hx) (hd.set _ (by omega) (by omega)) (by omega)
      (fun m hm => by rw [getD_set_ne _ _ _ _ (by omega)]; exact hz m hm)
    refine ⟨x', c', ?_, f2, f3, f4, ?_, f6⟩
    · rw [← f1, show k + (d + 1) + 1 = (k + d + 1) + 1 by omega]
      obtain ⟨K, hK⟩ : ∃ K, K = k + d + 1 := ⟨_, rfl⟩
      rw [← hK]
      conv => lhs; rw [impl_natMul.l1]
      rw [e1, e2, if_pos (by omega), if_pos (by omega), if_pos (by omega), if_pos (by omega), if_pos (by omega), e_rd0, e_rd0, w1, w2, w3, Int.toNat_natCast]
    · rw [f5, MN.val_set (by omega), drop_val b j (by omega), show i + (j + 1) = (i + j) + 1 by omega, MN.pw_succ]
      exact step_val _ _ _ _ _ _ _ _ hs
theorem e_sMul_out (a b : List Int) (ha : MN.DOk a) (hb : MN.DOk b) (la : a.length ≤ 1024) (lb : b.length ≤ 256) (n : Nat) (hn : a.length + b.length ≤ n ∧ n ≤ 1300) : ∀ (d k : Nat) (x : List Int) (i : Nat), i + d = a.length → x.length = n → MN.DOk x → MN.val x = MN.val (a.take i) * MN.val b → (∀ m, i + b.length ≤ m → x.getD m 0 = 0) →
    ∃ y, spec_l5Mul.l0 (k + d * (b.length + 2) + 1) a b x (i : Int) = (spec_l5Trim.f k y).bind some ∧ y.length = n ∧ MN.DOk y ∧ MN.val y = MN.val a * MN.val b := by
  intro d
  induction d with
  | zero =>
    intro k x i hi hx hd hv hz
    have : i = a.length := by omega
    subst this
    rw [List.take_length] at hv
    refine ⟨x, ?_, hx, hd, hv⟩
    rw [show k + 0 * (b.length + 2) + 1 = k + 1 by omega]
    simp only [spec_l5Mul.l0]
    rw [if_neg (by omega)]
  | succ d ih =>
    intro k x i hi hx hd hv hz
    obtain ⟨x', c', f1, f2, f3, f4, f5, f6⟩ := e_sMul_in a b ha hb la lb i n (by omega) (by omega) b.length (k + d * (b.length + 2) + 1) x 0 0 (by omega) hx hd (by omega) hz
    have hv2 : MN.val (x'.set (i + b.length) c') = MN.val (a.take (i + 1)) * MN.val b := by
      rw [MN.val_set (by omega), f6 _ (Nat.le_refl _), take_val a i (by omega)]
      rw [hv, List.drop_zero] at f5
      simp only [Nat.add_zero] at f5
      grind
    obtain ⟨y, g1, g2, g3, g4⟩ := ih k (x'.set (i + b.length) c') (i + 1) (by omega) (by rw [List.length_set]; exact f2) (f3.set _ f4.1 f4.2) hv2
      (fun m hm => by rw [getD_set_ne _ _ _ _ (by omega)]; exact f6 m (by omega))
    refine ⟨y, ?_, g2, g3, g4⟩
    rw [← g1, ← f1, show k + (d + 1) * (b.length + 2) + 1 = (k + d * (b.length + 2) + 1 + b.length + 1) + 1 by rw [Nat.succ_mul]; omega]
    obtain ⟨K, hK⟩ : ∃ K, K = k + d * (b.length + 2) + 1 + b.length + 1 := ⟨_, rfl⟩
    rw [← hK]
    conv => lhs; rw [spec_l5Mul.l0]
    rw [if_pos (by omega)]; rfl
theorem e_iMul_out (a b : List Int) (ha : MN.DOk a) (hb : MN.DOk b) (la : a.length ≤ 1024) (lb : b.length ≤ 256) (n : Nat) (hn : a.length + b.length ≤ n ∧ n ≤ 1300) : ∀ (d k : Nat) (x : List Int) (i : Nat), i + d = a.length → x.length = n → MN.DOk x → MN.val x = MN.val (a.take i) * MN.val b → (∀ m, i + b.length ≤ m → x.getD m 0 = 0) →
    ∃ y, impl_natMul.l0 (k + d * (b.length + 2) + 1) b x a (a.length : Int) (i : Int) = (impl_trim.f k y).bind some ∧ y.length = n ∧ MN.DOk y ∧ MN.val y = MN.val a * MN.val b := by
  intro d
  induction d with
  | zero =>
    intro k x i hi hx hd hv hz
    have : i = a.length := by omega
    subst this
    rw [List.take_length] at hv
    refine ⟨x, ?_, hx, hd, hv⟩
    rw [show k + 0 * (b.length + 2) + 1 = k + 1 by omega]
    simp only [impl_natMul.l0]
    rw [if_neg (by omega)]
  | succ d ih =>
    intro k x i hi hx hd hv hz
    obtain ⟨x', c', f1, f2, f3, f4, f5, f6⟩ := e_iMul_in a b ha hb la lb i n (by omega) (by omega) b.length (k + d * (b.length + 2) + 1) x 0 0 (by omega) hx hd (by omega) hz
    have hv2 : MN.val (x'.set (i + b.length) c') = MN.val (a.take (i + 1)) * MN.val b := by
      rw [MN.val_set (by omega), f6 _ (Nat.le_refl _), take_val a i (by omega)]
      rw [hv, List.drop_zero] at f5
      simp only [Nat.add_zero] at f5
      grind
    obtain ⟨y, g1, g2, g3, g4⟩ := ih k (x'.set (i + b.length) c') (i + 1) (by omega) (by rw [List.length_set]; exact f2) (f3.set _ f4.1 f4.2) hv2
      (fun m hm => by rw [getD_set_ne _ _ _ _ (by omega)]; exact f6 m (by omega))
    refine ⟨y, ?_, g2, g3, g4⟩
    rw [← g1, ← f1, show k + (d + 1) * (b.length + 2) + 1 = (k + d * (b.length + 2) + 1 + b.length + 1) + 1 by rw [Nat.succ_mul]; omega]
    obtain ⟨K, hK⟩ : ∃ K, K = k + d * (b.length + 2) + 1 + b.length + 1 := ⟨_, rfl⟩
    rw [← hK]
    conv => lhs; rw [impl_natMul.l0]
    rw [if_pos (by omega), if_pos (by omega), if_pos (by omega), e_rd0]; rfl
theorem e_sMul (k : Nat) (a b : List Int) (ha : MN.DOk a) (hb : MN.DOk b) (la : a.length ≤ 1024) (lb : b.length ≤ 256) (hk : 300000 ≤ k) : ∃ y, spec_l5Mul.f k a b = some (MN.trimD y) ∧ y.length ≤ 1300 ∧ MN.DOk y ∧ MN.val y = MN.val a * MN.val b := by
  have e1 : wrap64 ((a.length : Int) + (b.length : Int)) = ((a.length + b.length : Nat) : Int) := by unfold wrap64; omega
  have hfu : a.length * (b.length + 2) ≤ 1024 * 258 := Nat.mul_le_mul la (by omega)
  obtain ⟨K, hK⟩ : ∃ K, k = K + a.length * (b.length + 2) + 1 := ⟨k - a.length * (b.length + 2) - 1, by omega⟩
  obtain ⟨y, g1, g2, g3, g4⟩ := e_sMul_out a b ha hb la lb (a.length + b.length) (by omega) a.length K (List.replicate (a.length + b.length) 0) 0 (by omega) (by simp) (MN.DOk.replicate _) (by rw [MN.val_replicate]; simp [MN.val])
    (fun m _ => by rw [List.getD_eq_getElem?_getD, List.getElem?_replicate]; split <;> rfl)
  refine ⟨y, ?_, by omega, g3, g4⟩
  unfold spec_l5Mul.f
  rw [e1, if_pos (by omega), if_pos (by omega), Int.toNat_natCast, hK]
  rw [show ((0 : Nat) : Int) = 0 from rfl] at g1
  rw [g1, e_sTrim K y (by omega) (by omega)]; rfl
theorem e_iMul (k : Nat) (a b : List Int) (ha : MN.DOk a) (hb : MN.DOk b) (la : a.length ≤ 1024) (lb : b.length ≤ 256) (hk : 300000 ≤ k) : ∃ y, impl_natMul.f k a b = some (MN.trimD y) ∧ y.length ≤ 1300 ∧ MN.DOk y ∧ MN.val y = MN.val a * MN.val b := by
  have e1 : wrap64 (wrap64 ((a.length : Int) + (b.length : Int)) + 1) = ((a.length + b.length + 1 : Nat) : Int) := by unfold wrap64; omega
  have hfu : a.length * (b.length + 2) ≤ 1024 * 258 := Nat.mul_le_mul la (by omega)
  obtain ⟨K, hK⟩ : ∃ K, k = K + a.length * (b.length + 2) + 1 := ⟨k - a.length * (b.length + 2) - 1, by omega⟩
  obtain ⟨y, g1, g2, g3, g4⟩ := e_iMul_out a b ha hb la lb (a.length + b.length + 1) (by omega) a.length K (List.replicate (a.length + b.length + 1) 0) 0 (by omega) (by simp) (MN.DOk.replicate _) (by rw [MN.val_replicate]; simp [MN.val])
    (fun m _ => by rw [List.getD_eq_getElem?_getD, List.getElem?_replicate]; split <;> rfl)
  refine ⟨y, ?_, by omega, g3, g4⟩
  unfold impl_natMul.f
  rw [e1, if_pos (by omega), if_pos (by omega), Int.toNat_natCast, hK]
  rw [show ((0 : Nat) : Int) = 0 from rfl] at g1
  rw [g1, e_iTrim K y (by omega) (by omega)]; rfl
theorem leO_add {α : Type} {f : Nat → Option α} (h : ∀ k, LeO (f k) (f (k + 1))) (k : Nat) : ∀ n, LeO (f k) (f (k + n)) := by
  intro n
  induction n with
  | zero => exact LeO.refl _
  | succ n ih => exact LeO.trans ih (h (k + n))
theorem mul_len {a b y : List Int} (ha : MN.Can a) (hb : MN.Can b) (hne : b ≠ []) (hy : MN.DOk y) (hv : MN.val y = MN.val a * MN.val b) : a.length ≤ (MN.trimD y).length := by
  by_cases e : a = []
  · subst e; exact Nat.zero_le _
  · have h1 := ha.pos e
    have h2 := hb.pos hne
    have h3 := MN.pw_pos (b.length - 1)
    have h4 := MN.pw_pos (a.length - 1)
    have h5 : MN.val a * 1 ≤ MN.val a * MN.val b := Int.mul_le_mul_of_nonneg_left (by omega) (by omega)
    have h6 := MN.val_lt (MN.Can.trimD hy).1
    rw [MN.val_trimD, hv] at h6
    rcases Nat.lt_or_ge (MN.trimD y).length a.length with h | h
    · have h7 := MN.pw_le (show (MN.trimD y).length ≤ a.length - 1 by omega)
      generalize MN.val a * MN.val b = z at *
      omega
    · exact h
theorem e_powBig (l0 : List Int) (ca : MN.Can l0) (la : l0.length ≤ 256) (hne : l0 ≠ []) (n : Nat) (hn : n ≤ 64) : ∀ (d k : Nat) (out : List Int) (i : Nat), i + d = n → MN.Can out → 256 < out.length → out.length ≤ 1024 → 300000 + d < k →
    ∃ v, impl_natPow.l0 k l0 out (n : Int) (i : Int) = some v ∧ MN.Can v ∧ 256 < v.length ∧ v.length ≤ 1300 := by
  intro d
  induction d with
  | zero =>
    intro k out i hi hc h1 h2 hk
    obtain ⟨k, rfl⟩ : ∃ q, k = q + 1 := ⟨k - 1, by omega⟩
    refine ⟨out, ?_, hc, h1, by omega⟩
    simp only [impl_natPow.l0]
    rw [if_neg (by omega)]
  | succ d ih =>
    intro k out i hi hc h1 h2 hk
    obtain ⟨k, rfl⟩ : ∃ q, k = q + 1 := ⟨k - 1, by omega⟩
    obtain ⟨y, f1, f2, f3, f4⟩ := e_iMul k out l0 hc.1 ca.1 h2 la (by omega)
    have hl := mul_len hc ca hne f3 f4
    have hl2 := MN.trimD_length y
    have cy := MN.Can.trimD f3
    have e2 : wrap64 ((i : Int) + 1) = ((i + 1 : Nat) : Int) := by unfold wrap64; omega
    by_cases c : (MN.trimD y).length ≤ 1024
    · obtain ⟨v, g1, g⟩ := ih k (MN.trimD y) (i + 1) (by omega) cy (by omega) c (by omega)
      refine ⟨v, ?_, g⟩
      simp only [impl_natPow.l0]
      rw [if_pos (by omega), f1, Option.bind_some, if_neg (by omega), e2, g1]
    · refine ⟨MN.trimD y, ?_, cy, by omega, by omega⟩
      simp only [impl_natPow.l0]
      rw [if_pos (by omega), f1, Option.bind_some, if_pos (by omega)]
theorem e_powl (l0 : List Int) (ca : MN.Can l0) (la : l0.length ≤ 256) (n : Nat) (hn : n ≤ 64) : ∀ (d k : Nat) (out : List Int) (i : Nat), i + d = n → MN.Can out → out.length ≤ 256 → 300000 + d < k →
    (∃ v, spec_NatPow.l0 k l0 (n : Int) out (i : Int) = some (v, true) ∧ impl_natPow.l0 k l0 out (n : Int) (i : Int) = some v ∧ MN.Can v ∧ v.length ≤ 256 ∧ MN.val v = MN.val out * MN.val l0 ^ d) ∨
    (∃ v, spec_NatPow.l0 k l0 (n : Int) out (i : Int) = some ([], false) ∧ impl_natPow.l0 k l0 out (n : Int) (i : Int) = some v ∧ MN.Can v ∧ 256 < v.length ∧ v.length ≤ 1300) := by
  intro d
  induction d with
  | zero =>
    intro k out i hi hc h1 hk
    obtain ⟨k, rfl⟩ : ∃ q, k = q + 1 := ⟨k - 1, by omega⟩
    refine .inl ⟨out, ?_, ?_, hc, h1, by simp⟩
    · simp only [spec_NatPow.l0]
      rw [if_neg (by omega)]
    · simp only [impl_natPow.l0]
      rw [if_neg (by omega)]
  | succ d ih =>
    intro k out i hi hc h1 hk
    obtain ⟨k, rfl⟩ : ∃ q, k = q + 1 := ⟨k - 1, by omega⟩
    obtain ⟨y, f1, f2, f3, f4⟩ := e_iMul k out l0 hc.1 ca.1 (by omega) la (by omega)
    obtain ⟨z, s1, s2, s3, s4⟩ := e_sMul k out l0 hc.1 ca.1 (by omega) la (by omega)
    have cy := MN.Can.trimD f3
    have cz := MN.Can.trimD s3
    have ez : MN.trimD z = MN.trimD y := cz.inj cy (by rw [MN.val_trimD, MN.val_trimD, f4, s4])
    have hl2 := MN.trimD_length y
    have e2 : wrap64 ((i : Int) + 1) = ((i + 1 : Nat) : Int) := by unfold wrap64; omega
    by_cases c : (MN.trimD y).length ≤ 256
    · have r := ih k (MN.trimD y) (i + 1) (by omega) cy c (by omega)
      have g1 : spec_NatPow.l0 (k + 1) l0 (n : Int) out (i : Int) = spec_NatPow.l0 k l0 (n : Int) (MN.trimD y) ((i + 1 : Nat) : Int) := by
        simp only [spec_NatPow.l0]
        rw [if_pos (by omega), s1, Option.bind_some, ez, if_neg (by omega), e2]
      have g2 : impl_natPow.l0 (k + 1) l0 out (n : Int) (i : Int) = impl_natPow.l0 k l0 (MN.trimD y) (n : Int) ((i + 1 : Nat) : Int) := by
        simp only [impl_natPow.l0]
        rw [if_pos (by omega), f1, Option.bind_some, if_neg (by omega), e2]
      rw [g1, g2]
      rcases r with ⟨v, r1, r2, r3, r4, r5⟩ | r
      · refine .inl ⟨v, r1, r2, r3, r4, ?_⟩
        rw [r5, MN.val_trimD, f4, Int.pow_succ, Int.mul_assoc, Int.mul_comm (MN.val l0)]
      · exact .inr r
    · have hne : l0 ≠ [] := by
        intro e
        subst e
        have : MN.trimD y = [] := cy.zero (by rw [MN.val_trimD, f4]; simp [MN.val])
        rw [this] at c; simp at c
      have g1 : spec_NatPow.l0 (k + 1) l0 (n : Int) out (i : Int) = some ([], false) := by
        simp only [spec_NatPow.l0]
        rw [if_pos (by omega), s1, Option.bind_some, ez, if_pos (by omega)]
      by_cases c2 : (MN.trimD y).length ≤ 1024
      · obtain ⟨v, v1, v2⟩ := e_powBig l0 ca la hne n hn d k (MN.trimD y) (i + 1) (by omega) cy (by omega) c2 (by omega)
        refine .inr ⟨v, g1, ?_, v2⟩
        simp only [impl_natPow.l0]
        rw [if_pos (by omega), f1, Option.bind_some, if_neg (by omega), e2, v1]
      · refine .inr ⟨MN.trimD y, g1, ?_, cy, by omega, by omega⟩
        simp only [impl_natPow.l0]
        rw [if_pos (by omega), f1, Option.bind_some, if_pos (by omega)]
theorem can_one : MN.Can [1] := by
  refine ⟨MN.DOk.cons (by omega) (by omega) MN.DOk.nil, by simp⟩
theorem e_powPair (k : Nat) (l0 : List Int) (a1 : Int) (hk : 400000 ≤ k) : ∃ (v : List Int) (ok : Bool), v.length ≤ 256 ∧ spec_NatPow.f k l0 a1 = some (v, ok) ∧ impl_NatPow.f k l0 a1 = some (v, ok) ∧ (ok = decide (natOk l0 = true ∧ 0 ≤ a1 ∧ a1 ≤ 64 ∧ ok = true)) ∧ (ok = true → MN.Can v ∧ MN.val v = MN.val l0 ^ a1.toNat) := by
  obtain ⟨k, rfl⟩ : ∃ q, k = q + 1 := ⟨k - 1, by omega⟩
  unfold spec_NatPow.f impl_NatPow.f impl_NatOk.f impl_in.f
  simp only [e_sNatOk (k + 1) _ (show 256 < k + 1 by omega), Option.bind_some]
  by_cases a : natOk l0 = true
  · by_cases b : 0 ≤ a1 ∧ a1 ≤ 64
    · obtain ⟨la, ca⟩ := natOk_iff.mp a
      obtain ⟨n, rfl⟩ : ∃ n : Nat, a1 = (n : Int) := ⟨a1.toNat, by omega⟩
      have hn : n ≤ 64 := by omega
      have r := e_powl l0 ca la n hn n k [1] 0 (by omega) can_one (by simp) (by omega)
      rw [if_pos a, if_neg (by omega), if_pos a, if_pos (by omega), Option.bind_some, decide_eq_false (by omega), decide_eq_true (by omega)]
      simp only [spec_NatPow.j0, impl_NatPow.j0, Bool.not_true, Bool.false_eq_true, if_false, impl_natPow.f]
      rw [show ((0 : Nat) : Int) = 0 from rfl] at r
      rcases r with ⟨v, r1, r2, r3, r4, r5⟩ | ⟨v, r1, r2, r3, r4, r5⟩
      · refine ⟨v, true, r4, r1, ?_, by simp [a]; omega, fun _ => ⟨r3, ?_⟩⟩
        · rw [r2, Option.bind_some, e_iTold k v (by omega) (by omega), Option.bind_some]
          unfold toldOf
          rw [MN.trimD_can r3, if_pos r4]
        · rw [r5, Int.toNat_natCast]; simp [MN.val]
      · refine ⟨[], false, by simp, r1, ?_, by simp, fun h => by cases h⟩
        rw [r2, Option.bind_some, e_iTold k v (by omega) (by omega), Option.bind_some]
        unfold toldOf
        rw [MN.trimD_can r3, if_neg (by omega)]
    · refine ⟨[], false, by simp, ?_, ?_, by simp, fun h => by cases h⟩
      · rw [if_pos a]
        by_cases c : a1 < 0
        · rw [if_pos c]; simp only [spec_NatPow.j0, if_true]
        · rw [if_neg c, decide_eq_true (by omega)]; simp only [spec_NatPow.j0, if_true]
      · rw [if_pos a]
        by_cases c : a1 ≥ 0
        · rw [if_pos c, decide_eq_false (by omega), Option.bind_some]; simp only [impl_NatPow.j0, Bool.not_false, if_true]
        · rw [if_neg c, Option.bind_some]; simp only [impl_NatPow.j0, Bool.not_false, if_true]
  · refine ⟨[], false, by simp, ?_, ?_, by simp, fun h => by cases h⟩
    · rw [if_neg a]; simp only [spec_NatPow.j0, if_true]
    · rw [if_neg a]; simp only [impl_NatPow.j0, if_true]
theorem e_mainNatPow (l0 : List Int) (a1 : Int) : ∃ (v : List Int) (ok : Bool), v.length ≤ 256 ∧ (∀ k, 1000000 ≤ k → spec_NatPow.f k l0 a1 = some (v, ok)) ∧ (∀ k, 1000000 ≤ k → impl_NatPow.f k l0 a1 = some (v, ok)) := by
  obtain ⟨v, ok, hv, h1, h2, _⟩ := e_powPair 1000000 l0 a1 (by omega)
  refine ⟨v, ok, hv, fun k hk => ?_, fun k hk => ?_⟩
  · obtain ⟨q, rfl⟩ : ∃ q, k = 1000000 + q := ⟨k - 1000000, by omega⟩
    exact leO_add (fun k => spec_NatPow.mono l0 a1 k) 1000000 q _ h1
  · obtain ⟨q, rfl⟩ : ∃ q, k = 1000000 + q := ⟨k - 1000000, by omega⟩
    exact leO_add (fun k => impl_NatPow.mono l0 a1 k) 1000000 q _ h2
theorem FnExactNatPow : laws_FnExactNatPow.Pure := by
  intro l0 a1 _ _ _ _
  refine ⟨2000000, ?_⟩
  unfold laws_FnExactNatPow.f
  by_cases h : (l0.length : Int) > 1048576
  · rw [if_pos h]
  · rw [if_neg h]
    have t0 := fun k hk => e_toIntS k l0 (by omega) hk
    have q0 := fun k hk => e_eqIntS k l0 (by omega) hk
    have m0 := fun k hk => e_mark k l0 1 hk (by omega) (by omega)
    obtain ⟨v, ok, hv, es, ei⟩ := e_mainNatPow l0 a1
    have qv := fun k hk => e_eqIntS k v (by omega) hk
    have mv := fun k hk => e_mark k v 1 hk (by omega) (by omega)
    have hd := fun k hk => e_held k v.length 1 hk (by omega) (by omega)
    rw [t0 2000000 (by omega), Option.bind_some, es 2000000 (by omega)]
    simp only [Option.bind_some, ei 2000000 (by omega), qv 2000000 (by omega), if_true, bne_self_eq_false]
    simp only [laws_FnExactNatPow.j0, laws_FnExactNatPow.j1, laws_FnExactNatPow.j2, Bool.false_eq_true, if_false, t0 1999999 (by omega), q0 1999999 (by omega), m0 1999999 (by omega), qv 1999999 (by omega), Option.bind_some, if_true, bne_self_eq_false,
      t0 1999998 (by omega), mv 1999998 (by omega), hd 1999998 (by omega), ei 1999998 (by omega), qv 1999998 (by omega), hd 1999997 (by omega)]
    rw [if_neg (by omega), if_neg (by omega), if_neg (by omega)]
end Go.Proofs.Ytaachpcidikagaa.Pure
