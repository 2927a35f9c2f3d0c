/- NatAdd of the program and of the reference agree for all two lists of whole numbers; what is told is the caller's own, and nothing that was given is changed.
   Conditions: none beyond those of the given row (each number is of its kind). -/
import Derived.Test.YtaachpcidikagaaQFnExactNatAddx4
import Derived.Test.YtaachpcidikagaaMB
import Derived.Test.YtaachpcidikagaaMN
namespace Go.Proofs.Ytaachpcidikagaa.Pure
open Go.RowKit Go.Proofs.Ytaachpcidikagaa.QFnExactNatAdd Go.Proofs.YtaachpcidikagaaW.PrintWords Go.Proofs.YtaachpcidikagaaW.PrintLast Go.Proofs.YtaachpcidikagaaW.PrintMore Go.Proofs.Ytaachpcidikagaa.M Go.Proofs.Ytaachpcidikagaa.MN
set_option linter.unusedVariables false
set_option linter.unusedSimpArgs false
theorem w64i (i : Nat) (h : i ≤ 1048576) : wrap64 ((i : Int) + 1) = ((i + 1 : Nat) : Int) := by unfold wrap64; omega
theorem e_rd (l : List Int) (i : Nat) (h : i < l.length) : rd l (i : Int) = l[i] := by simp [rd, List.getD_eq_getElem?_getD, List.getElem?_eq_getElem h]
theorem e_toIntS_l (l : List Int) (hl : l.length ≤ 1048576) (d : Nat) : ∀ (i k : Nat), i + d = l.length → d < k → laws_toIntS.l0 k l (l.take i ++ List.replicate d 0) (i : Int) = some l := by
  induction d with
  | zero =>
    intro i k hi hk
    obtain ⟨k, rfl⟩ : ∃ m, k = m + 1 := ⟨k - 1, by omega⟩
    simp only [laws_toIntS.l0]; rw [if_neg (by omega), List.take_of_length_le (by omega)]; simp
  | succ d ih =>
    intro i k hi hk
    obtain ⟨k, rfl⟩ : ∃ m, k = m + 1 := ⟨k - 1, by omega⟩
    have hlt : i < l.length := by omega
    simp only [laws_toIntS.l0]
    rw [if_pos (by omega), if_pos (by omega), if_pos (by simp; omega), e_rd l i hlt, w64i i (by omega), Int.toNat_natCast]
    have e : (l.take i ++ List.replicate (d + 1) 0).set i l[i] = l.take (i + 1) ++ List.replicate d 0 := by
      rw [List.set_append_right _ _ (by simp; omega), List.take_succ_eq_append_getElem hlt, List.length_take, Nat.min_eq_left (Nat.le_of_lt hlt), Nat.sub_self, List.replicate_succ, List.set_cons_zero, List.append_assoc]
      rfl
    rw [e]; exact ih (i + 1) k (by omega) (by omega)
theorem e_toIntS (k : Nat) (l : List Int) (hl : l.length ≤ 1048576) (hk : l.length < k) : laws_toIntS.f k l = some l := by
  unfold laws_toIntS.f
  rw [if_pos (by omega), if_pos (by omega), Int.toNat_natCast]
  have := e_toIntS_l l hl l.length 0 k (by omega) hk
  simpa using this
theorem e_eqIntS_l (l : List Int) (hl : l.length ≤ 1048576) (d : Nat) : ∀ (i k : Nat), i + d = l.length → d < k → laws_eqIntS.l0 k l l (i : Int) = some true := by
  induction d with
  | zero =>
    intro i k hi hk
    obtain ⟨k, rfl⟩ : ∃ m, k = m + 1 := ⟨k - 1, by omega⟩
    simp only [laws_eqIntS.l0]; rw [if_neg (by omega)]
  | succ d ih =>
    intro i k hi hk
    obtain ⟨k, rfl⟩ : ∃ m, k = m + 1 := ⟨k - 1, by omega⟩
    simp only [laws_eqIntS.l0]
    rw [if_pos (by omega), if_pos (by omega), if_pos (by omega), if_pos trivial, w64i i (by omega)]
    exact ih (i + 1) k (by omega) (by omega)
theorem e_eqIntS (k : Nat) (l : List Int) (hl : l.length ≤ 1048576) (hk : l.length < k) : laws_eqIntS.f k l l = some true := by
  unfold laws_eqIntS.f; rw [if_pos rfl]; exact e_eqIntS_l l hl l.length 0 k (by omega) hk
theorem e_sNatOk_l (l : List Int) (hl : l.length ≤ 256) (d : Nat) : ∀ (i k : Nat), i + d = l.length → d < k → spec_NatOk.l0 k l (i : Int) = some ((l.drop i).all (fun d => decide (0 ≤ d ∧ d ≤ 65535)) && (l.getLast? != some 0)) := by
  induction d with
  | zero =>
    intro i k hi hk
    obtain ⟨k, rfl⟩ : ∃ m, k = m + 1 := ⟨k - 1, by omega⟩
    simp only [spec_NatOk.l0]; rw [if_neg (by omega), List.drop_of_length_le (by omega)]
    by_cases hz : l = []
    · subst hz; simp
    · have hp : 0 < l.length := List.length_pos_iff.mpr hz
      have ej : wrap64 ((l.length : Int) - 1) = ((l.length - 1 : Nat) : Int) := by unfold wrap64; omega
      rw [if_neg (by omega), ej, if_pos (by omega), if_pos (by omega), e_rd l _ (by omega), List.getLast?_eq_getElem?, List.getElem?_eq_getElem (by omega)]
      simp only [List.all_nil, Bool.true_and]; congr 1
  | succ d ih =>
    intro i k hi hk
    obtain ⟨k, rfl⟩ : ∃ m, k = m + 1 := ⟨k - 1, by omega⟩
    have hlt : i < l.length := by omega
    simp only [spec_NatOk.l0]
    rw [if_pos (by omega), if_pos (by omega), e_rd l i hlt, List.drop_eq_getElem_cons hlt, List.all_cons]
    by_cases h0 : l[i] < 0
    · rw [if_pos h0, decide_eq_false (by omega)]; rfl
    · rw [if_neg h0]
      by_cases h1 : l[i] ≥ 65536
      · rw [if_pos h1, decide_eq_false (by omega)]; rfl
      · rw [if_neg h1, w64i i (by omega), decide_eq_true (by omega), Bool.true_and]
        exact ih (i + 1) k (by omega) (by omega)
theorem e_sNatOk (k : Nat) (l : List Int) (hk : 256 < k) : spec_NatOk.f k l = some (natOk l) := by
  unfold spec_NatOk.f natOk
  by_cases h : l.length ≤ 256
  · have := e_sNatOk_l l h l.length 0 k (by omega) (by omega)
    rw [if_neg (by omega)]
    have e0 : ((0 : Nat) : Int) = 0 := rfl
    rw [e0] at this
    rw [this, decide_eq_true h, Bool.true_and, List.drop_zero, Bool.and_comm]
  · rw [if_pos (by omega), decide_eq_false h]; rfl
def marks : Int → Nat → List Int
  | _, 0 => []
  | a, n + 1 => a :: marks (a + 1) n
theorem marks_length : ∀ (n : Nat) (a : Int), (marks a n).length = n := by
  intro n; induction n with
  | zero => intro a; rfl
  | succ n ih => intro a; simp [marks, ih]
theorem e_mark_l : ∀ (suf pre : List Int) (a : Int) (k : Nat), suf.length < k → pre.length + suf.length ≤ 1048576 → 0 ≤ a ∧ a + suf.length ≤ 9000000 → laws_markIntS.l0 k (pre ++ suf) a (pre.length : Int) = some (a + suf.length, pre ++ marks a suf.length) := by
  intro suf; induction suf with
  | nil =>
    intro pre a k hk hl ha
    obtain ⟨k, rfl⟩ : ∃ m, k = m + 1 := ⟨k - 1, by simp at hk; omega⟩
    simp only [laws_markIntS.l0]
    rw [if_neg (by simp)]; simp [marks]
  | cons s suf ih =>
    intro pre a k hk hl ha
    simp only [List.length_cons] at hk hl ha
    obtain ⟨k, rfl⟩ : ∃ m, k = m + 1 := ⟨k - 1, by omega⟩
    simp only [laws_markIntS.l0]
    rw [if_pos (by simp; omega), if_pos (by omega)]
    have e1 : (pre ++ s :: suf).set ((pre.length : Int)).toNat a = (pre ++ [a]) ++ suf := by
      rw [Int.toNat_natCast, List.set_append_right _ _ (Nat.le_refl _), Nat.sub_self, List.set_cons_zero, List.append_assoc]; rfl
    have e2 : wrap64 (a + 1) = a + 1 := by unfold wrap64; omega
    have e3 : wrap64 ((pre.length : Int) + 1) = ((pre ++ [a]).length : Int) := by rw [List.length_append]; simp; unfold wrap64; omega
    rw [e1, e2, e3, ih (pre ++ [a]) (a + 1) k (by omega) (by rw [List.length_append]; simp; omega) (by omega)]
    simp [marks]; omega
theorem e_mark (k : Nat) (l : List Int) (a : Int) (hk : l.length < k) (hl : l.length ≤ 1048576) (ha : 0 ≤ a ∧ a ≤ 7000000) : laws_markIntS.f k l a = some (a + l.length, marks a l.length) := by
  have := e_mark_l l [] a k hk (by simpa using hl) (by omega)
  simpa [laws_markIntS.f] using this
theorem e_held_l : ∀ (n : Nat) (pre : List Int) (a : Int) (k : Nat), n < k → pre.length + n ≤ 1048576 → 0 ≤ a ∧ a + n ≤ 9000000 → laws_heldIntS.l0 k (pre ++ marks a n) a (pre.length : Int) = some (a + n) := by
  intro n; induction n with
  | zero =>
    intro pre a k hk hl ha
    obtain ⟨k, rfl⟩ : ∃ m, k = m + 1 := ⟨k - 1, by omega⟩
    simp only [laws_heldIntS.l0]
    rw [if_neg (by simp [marks])]; simp
  | succ n ih =>
    intro pre a k hk hl ha
    obtain ⟨k, rfl⟩ : ∃ m, k = m + 1 := ⟨k - 1, by omega⟩
    simp only [laws_heldIntS.l0]
    have e0 : rd (pre ++ marks a (n + 1)) (pre.length : Int) = a := by
      rw [e_rd _ _ (by rw [List.length_append, marks_length]; omega)]; simp [marks]
    have e2 : wrap64 (a + 1) = a + 1 := by unfold wrap64; omega
    have e3 : wrap64 ((pre.length : Int) + 1) = ((pre ++ [a]).length : Int) := by rw [List.length_append]; simp; unfold wrap64; omega
    have e1 : pre ++ marks a (n + 1) = (pre ++ [a]) ++ marks (a + 1) n := by simp [marks]
    rw [if_pos (by rw [List.length_append, marks_length]; omega), if_pos (by omega), if_pos e0, e2, e3, e1, ih (pre ++ [a]) (a + 1) k (by omega) (by rw [List.length_append]; simp; omega) (by omega), Option.some.injEq]
    omega
theorem e_held (k : Nat) (n : Nat) (a : Int) (hk : n < k) (hl : n ≤ 1048576) (ha : 0 ≤ a ∧ a ≤ 7000000) : laws_heldIntS.f k (marks a n) a = some (a + n) := by
  have := e_held_l n [] a k hk (by simpa using hl) (by omega)
  simpa [laws_heldIntS.f] using this
theorem e_clone (l : List Int) (h : l.length ≤ 17592186044416) : impl_clone_int.f l = some l := by
  unfold impl_clone_int.f slices_Clone_int_int.f; rw [if_pos h]
theorem e_rd0 (l : List Int) (i : Nat) : rd l (i : Int) = l.getD i 0 := by simp [rd]
theorem e_iTrim_l (y : List Int) (hl : y.length ≤ 2000) : ∀ (m k : Nat), m ≤ y.length → m < k → impl_trim.l0 k (y.take m) = some (MN.trimD (y.take m)) := by
  intro m
  induction m with
  | zero =>
    intro k hm hk
    obtain ⟨k, rfl⟩ : ∃ q, k = q + 1 := ⟨k - 1, by omega⟩
    simp only [impl_trim.l0]
    rw [if_neg (by simp)]; simp [MN.trimD]
  | succ m ih =>
    intro k hm hk
    obtain ⟨k, rfl⟩ : ∃ q, k = q + 1 := ⟨k - 1, by omega⟩
    have hlen : (y.take (m + 1)).length = m + 1 := by rw [List.length_take]; omega
    have e1 : wrap64 (((m + 1 : Nat) : Int) - 1) = (m : Int) := by unfold wrap64; omega
    have e2 : y.take (m + 1) = y.take m ++ [y.getD m 0] := by
      rw [List.getD_eq_getElem?_getD, List.getElem?_eq_getElem (by omega), Option.getD_some, List.take_succ_eq_append_getElem (by omega)]
    have e3 : (y.take (m + 1)).getD m 0 = y.getD m 0 := by
      rw [List.getD_eq_getElem?_getD, List.getD_eq_getElem?_getD, List.getElem?_take_of_lt (by omega)]
    have e4 : (y.take (m + 1)).take m = y.take m := by rw [List.take_take, Nat.min_eq_left (by omega)]
    simp only [impl_trim.l0]
    rw [hlen, e1, if_pos (by omega), if_pos (by omega), if_pos (by omega), e_rd0, e3]
    by_cases c : y.getD m 0 = 0
    · rw [if_pos c, if_pos (by omega), Int.toNat_natCast, e4, ih k (by omega) (by omega), e2, c, MN.trimD_snoc_zero]
    · rw [if_neg c, e2, MN.trimD_snoc_ne _ c]
theorem e_iTrim (k : Nat) (y : List Int) (hl : y.length ≤ 2000) (hk : 2000 < k) : impl_trim.f k y = some (MN.trimD y) := by
  unfold impl_trim.f
  have := e_iTrim_l y hl y.length k (Nat.le_refl _) (by omega)
  rwa [List.take_length] at this
def toldOf (y : List Int) : List Int × Bool := if (MN.trimD y).length ≤ 256 then (MN.trimD y, true) else ([], false)
theorem toldOf_len (y : List Int) : (toldOf y).1.length ≤ 256 := by unfold toldOf; split <;> simp_all
theorem e_iTold (k : Nat) (y : List Int) (hl : y.length ≤ 2000) (hk : 2000 < k) : impl_told.f k y true = some (toldOf y) := by
  unfold impl_told.f toldOf
  have h1 := MN.trimD_length y
  rw [e_iTrim k y hl hk, Option.bind_some, if_pos rfl]
  by_cases c : (MN.trimD y).length ≤ 256
  · rw [if_neg (by omega), if_pos c, e_clone _ (by omega)]; rfl
  · rw [if_pos (by omega), if_neg c]
theorem e_sFits (y : List Int) : spec_l5Fits.f (MN.trimD y) = some (toldOf y) := by
  unfold spec_l5Fits.f toldOf
  by_cases c : (MN.trimD y).length ≤ 256
  · rw [if_neg (by omega), if_pos c]
  · rw [if_pos (by omega), if_neg c]
theorem toldOf_eq {y z : List Int} (hy : MN.DOk y) (hz : MN.DOk z) (h : MN.val y = MN.val z) : toldOf y = toldOf z := by
  have : MN.trimD y = MN.trimD z := (MN.Can.trimD hy).inj (MN.Can.trimD hz) (by rw [MN.val_trimD, MN.val_trimD, h])
  unfold toldOf; rw [this]
theorem i64_mask16 (n : Int) (h0 : 0 ≤ n) (h1 : n < 9223372036854775808) : Go.bits .and .i64 n 65535 = n % 65536 := by
  have := bits_mask .i64 63 (by decide) (fun n h0 h1 => by rw [IntKind.wrap_i64]; omega) 16 (by decide) n h0 (by omega)
  exact this
theorem take_val (a : List Int) (i : Nat) (hi : i < a.length) : MN.val (a.take (i + 1)) = MN.val (a.take i) + MN.pw i * a.getD i 0 := by
  rw [List.take_succ_eq_append_getElem hi, MN.val_append, List.length_take, Nat.min_eq_left (by omega), List.getD_eq_getElem?_getD, List.getElem?_eq_getElem hi]
  simp [MN.val]
theorem getD_set_ne (x : List Int) (i m : Nat) (v : Int) (h : i ≠ m) : (x.set i v).getD m 0 = x.getD m 0 := by
  rw [List.getD_eq_getElem?_getD, List.getD_eq_getElem?_getD, List.getElem?_set_ne h]
theorem take_val' (a : List Int) (i : Nat) : MN.val (a.take (i + 1)) = MN.val (a.take i) + MN.pw i * a.getD i 0 := by
  by_cases hi : i < a.length
  · exact take_val a i hi
  · rw [List.take_of_length_le (by omega), List.take_of_length_le (by omega), List.getD_eq_getElem?_getD, List.getElem?_eq_none (by omega)]; simp
theorem dok_of {x : List Int} (h : ∀ m, m < x.length → 0 ≤ x.getD m 0 ∧ x.getD m 0 < 65536) : MN.DOk x := by
  intro d hd
  obtain ⟨i, hi, rfl⟩ := List.getElem_of_mem hd
  have := h i hi
  rwa [List.getD_eq_getElem?_getD, List.getElem?_eq_getElem hi, Option.getD_some] at this
theorem getD_set_eq (x : List Int) (i : Nat) (v : Int) (h : i < x.length) : (x.set i v).getD i 0 = v := by
  rw [List.getD_eq_getElem?_getD, List.getElem?_set_self h]; rfl
theorem at_eat (b : List Int) (i : Nat) : spec_l5At.f b (i : Int) = some (b.getD i 0) := by
  unfold spec_l5At.f
  by_cases c : (i : Int) < b.length
  · rw [if_pos c, if_pos (by omega), e_rd0]
  · rw [if_neg c, List.getD_eq_getElem?_getD, List.getElem?_eq_none (by omega)]; rfl
theorem algA (A P x y c VA VB s : Int) (h : A + c * P = VA + VB) (hs : s = x + y + c) : A + P * (s % 65536 + 65536 * 0) + (s / 65536) * (65536 * P) = (VA + P * x) + (VB + P * y) := by
  have h2 : s = 65536 * (s / 65536) + s % 65536 := (Int.mul_ediv_add_emod s 65536).symm
  generalize s / 65536 = q at *
  generalize s % 65536 = r at *
  grind
theorem sAdd_w (x y c : Int) (hx : 0 ≤ x ∧ x < 65536) (hy : 0 ≤ y ∧ y < 65536) (hc : c = 0 ∨ c = 1) : ∃ s, s = x + y + c ∧ 0 ≤ s ∧ s ≤ 131071 ∧ wrap64 (wrap64 (x + y) + c) = s ∧ Int.tmod s 65536 = s % 65536 ∧ wrap64 (Int.tdiv s 65536) = s / 65536 ∧ (s / 65536 = 0 ∨ s / 65536 = 1) := by
  refine ⟨x + y + c, rfl, by omega, by omega, by unfold wrap64; omega, Int.tmod_eq_emod_of_nonneg (by omega), ?_, by omega⟩
  rw [Int.tdiv_eq_ediv_of_nonneg (by omega)]; unfold wrap64; omega
theorem e_sAdd_l (a b : List Int) (ha : MN.DOk a) (hb : MN.DOk b) (n : Nat) (hn : n ≤ 1024) : ∀ (d k : Nat) (acc : List Int) (c : Int) (i : Nat), i + d = n → acc.length = i → MN.DOk acc → (c = 0 ∨ c = 1) → MN.val acc + c * MN.pw i = MN.val (a.take i) + MN.val (b.take i) →
    ∃ (y : List Int) (c' : Int), spec_l5Add.l0 (k + d + 1) a b (n : Int) acc c (i : Int) = some (if c' > 0 then y ++ [c'] else y) ∧ y.length = n ∧ MN.DOk y ∧ (c' = 0 ∨ c' = 1) ∧ MN.val y + c' * MN.pw n = MN.val (a.take n) + MN.val (b.take n) := by
  intro d
  induction d with
  | zero =>
    intro k acc c i hi hl hd hc hv
    have : i = n := by omega
    subst this
    refine ⟨acc, c, ?_, hl, hd, hc, hv⟩
    rw [show k + 0 + 1 = k + 1 from rfl]
    simp only [spec_l5Add.l0]
    rw [if_neg (by omega)]
    by_cases h : c > 0
    · rw [if_pos h, if_pos h, if_pos (by omega)]
    · rw [if_neg h, if_neg h]
  | succ d ih =>
    intro k acc c i hi hl hd hc hv
    have e2 : wrap64 ((i : Int) + 1) = ((i + 1 : Nat) : Int) := by clear hv; unfold wrap64; omega
    obtain ⟨s, s1, s2, s3, s4, s5, s6, s7⟩ := sAdd_w (a.getD i 0) (b.getD i 0) c (ha.getD i) (hb.getD i) hc
    have st : spec_l5Add.l0 ((k + d + 1) + 1) a b (n : Int) acc c (i : Int) = spec_l5Add.l0 (k + d + 1) a b (n : Int) (acc ++ [s % 65536]) (s / 65536) ((i + 1 : Nat) : Int) := by
      obtain ⟨K, hK⟩ : ∃ K, K = k + d + 1 := ⟨_, rfl⟩
      rw [← hK]
      conv => lhs; rw [spec_l5Add.l0]
      rw [if_pos (by clear hv; omega), at_eat, Option.bind_some, at_eat, Option.bind_some, if_pos (by clear hv; omega), s4, s5, s6, e2]
    obtain ⟨y, c', g1, g⟩ := ih k (acc ++ [s % 65536]) (s / 65536) (i + 1) (by clear hv; omega) (by rw [List.length_append]; simp; clear hv; omega) (hd.append (MN.DOk.cons (by clear hv; omega) (by clear hv; omega) MN.DOk.nil)) s7 (by
      rw [MN.val_append, hl, MN.pw_succ, take_val' a i, take_val' b i]
      simp only [MN.val]
      exact algA _ _ _ _ _ _ _ _ hv s1)
    exact ⟨y, c', (show k + (d + 1) + 1 = (k + d + 1) + 1 from rfl) ▸ st.trans g1, g⟩
theorem can_last {y : List Int} (h : MN.DOk y) (hv : y ≠ [] → MN.pw (y.length - 1) ≤ MN.val y) : MN.Can y := by
  refine ⟨h, fun e => ?_⟩
  obtain ⟨z, rfl⟩ := List.getLast?_eq_some_iff.mp e
  have h1 := hv (by simp)
  rw [MN.val_append] at h1
  have h2 := MN.val_lt h.left
  have : (z ++ [0]).length - 1 = z.length := by simp
  rw [this] at h1
  simp [MN.val] at h1
  omega
theorem e_sAdd_n (k : Nat) (a b : List Int) (n : Nat) (ca : MN.Can a) (cb : MN.Can b) (la : a.length ≤ n) (lb : b.length ≤ n) (hn : n ≤ 1024) (hm : a.length = n ∨ b.length = n) (hk : 1100 ≤ k) :
    ∃ y, spec_l5Add.j0 k a b (n : Int) = some y ∧ y.length ≤ 1025 ∧ MN.Can y ∧ MN.val y = MN.val a + MN.val b := by
  obtain ⟨K, rfl⟩ : ∃ K, k = (K + n + 1) + 1 := ⟨k - n - 2, by omega⟩
  obtain ⟨y, c, g1, g2, g3, g4, g5⟩ := e_sAdd_l a b ca.1 cb.1 n hn n K [] 0 0 (by omega) rfl MN.DOk.nil (.inl rfl) (by simp [MN.val])
  rw [List.take_of_length_le la, List.take_of_length_le lb] at g5
  have va := MN.val_nonneg ca.1
  have vb := MN.val_nonneg cb.1
  have hp := MN.pw_pos n
  rw [spec_l5Add.j0]
  rcases g4 with h | h
  · subst h
    rw [if_neg (by omega)] at g1
    refine ⟨y, g1, by omega, can_last g3 (fun hne => ?_), by omega⟩
    have hne2 : y.length ≠ 0 := fun e => hne (List.eq_nil_of_length_eq_zero e)
    rw [g2] at hne2 ⊢
    rcases hm with h | h
    · have := ca.pos (by intro e; rw [e] at h; simp at h; omega)
      rw [h] at this; omega
    · have := cb.pos (by intro e; rw [e] at h; simp at h; omega)
      rw [h] at this; omega
  · subst h
    rw [if_pos (by omega)] at g1
    refine ⟨y ++ [1], g1, by rw [List.length_append]; simp; omega, ⟨g3.append (MN.DOk.cons (by omega) (by omega) MN.DOk.nil), by simp⟩, ?_⟩
    rw [MN.val_append, g2]
    simp only [MN.val]
    omega
theorem e_sAdd (k : Nat) (a b : List Int) (ca : MN.Can a) (cb : MN.Can b) (la : a.length ≤ 1024) (lb : b.length ≤ 1024) (hk : 1100 ≤ k) :
    ∃ y, spec_l5Add.f k a b = some y ∧ y.length ≤ 1025 ∧ MN.Can y ∧ MN.val y = MN.val a + MN.val b := by
  unfold spec_l5Add.f
  by_cases h : (b.length : Int) > (a.length : Int)
  · rw [if_pos h]
    exact e_sAdd_n k a b b.length ca cb (by omega) (by omega) lb (.inr rfl) hk
  · rw [if_neg h]
    exact e_sAdd_n k a b a.length ca cb (by omega) (by omega) la (.inl rfl) hk
theorem iAdd_eq0 (K : Nat) (x b : List Int) (n i : Int) (h0 : i < n) (h1 : 0 ≤ i) (h2 : i < (b.length : Int)) (h3 : i < (x.length : Int)) :
    impl_natAdd.l0 (K + 1) x b n i = impl_natAdd.l0 K (x.set i.toNat (wrap64 (rd x i + rd b i))) b n (wrap64 (i + 1)) := by
  conv => lhs; rw [impl_natAdd.l0]
  rw [if_pos h0, if_pos h1, if_pos h2, if_pos h3]
theorem iAdd_eq1 (K : Nat) (x : List Int) (n i : Int) (h0 : i < n) (h1 : 0 ≤ wrap64 (i + 1)) (h2 : wrap64 (i + 1) < (x.length : Int)) (h3 : 0 ≤ i) (h4 : i < (x.length : Int)) :
    impl_natAdd.l1 (K + 1) x n i = impl_natAdd.l1 K ((x.set (wrap64 (i + 1)).toNat (wrap64 (rd x (wrap64 (i + 1)) + rd x i / 65536))).set i.toNat (Go.bits .and .i64 (rd (x.set (wrap64 (i + 1)).toNat (wrap64 (rd x (wrap64 (i + 1)) + rd x i / 65536))) i) 65535)) n (wrap64 (i + 1)) := by
  conv => lhs; rw [impl_natAdd.l1]
  rw [if_pos h0, if_pos h1, if_pos h2, if_pos h3, if_pos h4, Option.bind_some]
theorem algB (VA VB P x y : Int) : VA + VB + P * (x + y - x) = VA + (VB + P * y) := by grind
theorem algC (V P x0 x1 : Int) : V + 65536 * P * (x1 + x0 / 65536 - x1) + P * (x0 % 65536 - x0) = V := by
  have h2 : x0 = 65536 * (x0 / 65536) + x0 % 65536 := (Int.mul_ediv_add_emod x0 65536).symm
  generalize x0 / 65536 = q at *
  generalize x0 % 65536 = r at *
  subst h2
  grind
theorem wr_ab (x y : Int) (hx : 0 ≤ x ∧ x ≤ 65535) (hy : 0 ≤ y ∧ y < 65536) : wrap64 (x + y) = x + y := by unfold wrap64; omega
theorem wr_c (x y : Int) (hx : 0 ≤ x ∧ x ≤ 131071) (hy : 0 ≤ y ∧ y ≤ 131071) : wrap64 (x + y / 65536) = x + y / 65536 := by unfold wrap64; omega
theorem e_iAdd_1 (b : List Int) (hb : MN.DOk b) (N : Nat) (hN : b.length < N) (hN2 : N ≤ 1025) (VA : Int) : ∀ (d k : Nat) (x : List Int) (i : Nat), i + d = b.length → x.length = N → (∀ m, 0 ≤ x.getD m 0 ∧ x.getD m 0 ≤ 131070) → (∀ m, i ≤ m → x.getD m 0 ≤ 65535) → x.getD (N - 1) 0 = 0 → MN.val x = VA + MN.val (b.take i) →
    ∃ y, impl_natAdd.l0 (k + d + 1) x b (b.length : Int) (i : Int) = impl_natAdd.l1 k y (wrap64 ((y.length : Int) - 1)) 0 ∧ y.length = N ∧ MN.val y = VA + MN.val b ∧ (∀ m, 0 ≤ y.getD m 0 ∧ y.getD m 0 ≤ 131070) ∧ y.getD (N - 1) 0 = 0 := by
  intro d
  induction d with
  | zero =>
    intro k x i hi hl hr hz h9 hv
    have : i = b.length := by clear hv; omega
    subst this
    refine ⟨x, ?_, hl, by rwa [List.take_length] at hv, hr, h9⟩
    rw [show k + 0 + 1 = k + 1 from rfl]
    simp only [impl_natAdd.l0]
    rw [if_neg (by clear hv; omega)]
  | succ d ih =>
    intro k x i hi hl hr hz h9 hv
    have e2 : wrap64 ((i : Int) + 1) = ((i + 1 : Nat) : Int) := by clear hv; unfold wrap64; omega
    have rx : 0 ≤ x.getD i 0 ∧ x.getD i 0 ≤ 65535 := ⟨(hr i).1, hz i (Nat.le_refl _)⟩
    have rb := hb.getD i
    have w1 := wr_ab _ _ rx rb
    have h4 : i < x.length := by clear hv; omega
    have st := iAdd_eq0 (k + d + 1) x b (b.length : Int) (i : Int) (by clear hv; omega) (Int.natCast_nonneg i) (by clear hv; omega) (by clear hv; omega)
    rw [e2, e_rd0, e_rd0, w1, Int.toNat_natCast] at st
    have hr2 : ∀ m, 0 ≤ (x.set i (x.getD i 0 + b.getD i 0)).getD m 0 ∧ (x.set i (x.getD i 0 + b.getD i 0)).getD m 0 ≤ 131070 := by
      intro m
      by_cases c : i = m
      · subst c; rw [getD_set_eq _ _ _ h4]; clear hv; omega
      · rw [getD_set_ne _ _ _ _ c]; exact hr m
    obtain ⟨y, g1, g⟩ := ih k (x.set i (x.getD i 0 + b.getD i 0)) (i + 1) (by clear hv; omega) (by rw [List.length_set]; exact hl) hr2
      (fun m hm => by rw [getD_set_ne _ _ _ _ (by clear hv; omega)]; exact hz m (by clear hv; omega))
      (by rw [getD_set_ne _ _ _ _ (by clear hv; omega)]; exact h9) (by
      rw [MN.val_set h4, hv, take_val' b i]; exact algB _ _ _ _ _)
    exact ⟨y, (show k + (d + 1) + 1 = (k + d + 1) + 1 from rfl) ▸ st.trans g1, g⟩
theorem e_iAdd_2 (N : Nat) (hN : 0 < N) (hN2 : N ≤ 1025) (V : Int) : ∀ (d k : Nat) (x : List Int) (i : Nat), i + d = N - 1 → x.length = N → (∀ m, m < i → 0 ≤ x.getD m 0 ∧ x.getD m 0 < 65536) → (0 ≤ x.getD i 0 ∧ x.getD i 0 ≤ 131071) → (∀ m, i < m → 0 ≤ x.getD m 0 ∧ x.getD m 0 ≤ 131070) → (x.getD (N - 1) 0 ≤ 1) → (i < N - 1 → x.getD (N - 1) 0 = 0) → MN.val x = V →
    ∃ y, impl_natAdd.l1 (k + d + 1) x ((N - 1 : Nat) : Int) (i : Int) = (impl_trim.f k y).bind some ∧ y.length = N ∧ MN.DOk y ∧ MN.val y = V := by
  intro d
  induction d with
  | zero =>
    intro k x i hi hl h1 h2 h3 h4 h5 hv
    have : i = N - 1 := by clear hv; omega
    subst this
    refine ⟨x, ?_, hl, dok_of (fun m hm => ?_), hv⟩
    · rw [show k + 0 + 1 = k + 1 from rfl]
      simp only [impl_natAdd.l1]
      rw [if_neg (by clear hv; omega)]
    · by_cases c : m < N - 1
      · exact h1 m c
      · have : m = N - 1 := by clear hv; omega
        subst this
        exact ⟨h2.1, by clear hv; omega⟩
  | succ d ih =>
    intro k x i hi hl h1 h2 h3 h4 h5 hv
    have e2 : wrap64 ((i : Int) + 1) = ((i + 1 : Nat) : Int) := by clear hv; unfold wrap64; omega
    have q1 : i + 1 < x.length := by clear hv; omega
    have q0 : i < x.length := by clear hv; omega
    have r1 := h3 (i + 1) (Nat.lt_succ_self i)
    have w1 := wr_c (x.getD (i + 1) 0) (x.getD i 0) ⟨r1.1, by clear hv; omega⟩ h2
    have g1 : (x.set (i + 1) (x.getD (i + 1) 0 + x.getD i 0 / 65536)).getD i 0 = x.getD i 0 := getD_set_ne _ _ _ _ (by clear hv; omega)
    have m1 : Go.bits .and .i64 (x.getD i 0) 65535 = x.getD i 0 % 65536 := i64_mask16 _ h2.1 (by clear hv; omega)
    have st := iAdd_eq1 (k + d + 1) x ((N - 1 : Nat) : Int) (i : Int) (by clear hv; omega) (by rw [e2]; exact Int.natCast_nonneg _) (by rw [e2]; clear hv; omega) (Int.natCast_nonneg i) (by clear hv; omega)
    rw [e2, e_rd0, e_rd0, w1, Int.toNat_natCast, Int.toNat_natCast, e_rd0, g1, m1] at st
    obtain ⟨z, hz⟩ : ∃ z, z = (x.set (i + 1) (x.getD (i + 1) 0 + x.getD i 0 / 65536)).set i (x.getD i 0 % 65536) := ⟨_, rfl⟩
    rw [← hz] at st
    have hzl : z.length = N := by rw [hz, List.length_set, List.length_set]; exact hl
    have z0 : z.getD i 0 = x.getD i 0 % 65536 := by rw [hz, getD_set_eq _ _ _ (by rw [List.length_set]; exact q0)]
    have z1 : z.getD (i + 1) 0 = x.getD (i + 1) 0 + x.getD i 0 / 65536 := by rw [hz, getD_set_ne _ _ _ _ (by clear hv; omega), getD_set_eq _ _ _ q1]
    have z2 : ∀ m, m ≠ i → m ≠ i + 1 → z.getD m 0 = x.getD m 0 := fun m ha hb => by rw [hz, getD_set_ne _ _ _ _ (Ne.symm ha), getD_set_ne _ _ _ _ (Ne.symm hb)]
    have zv : MN.val z = V := by
      rw [hz, MN.val_set (by rw [List.length_set]; exact q0), g1, MN.val_set q1, hv, MN.pw_succ]; exact algC _ _ _ _
    clear hz
    obtain ⟨y, g1', g⟩ := ih k z (i + 1) (by clear hv zv; omega) hzl
      (fun m hm => by
        by_cases c : m = i
        · subst c; rw [z0]; clear hv zv; omega
        · rw [z2 m c (by clear hv zv; omega)]; exact h1 m (by clear hv zv; omega))
      (by rw [z1]; clear hv zv; omega)
      (fun m hm => by rw [z2 m (by clear hv zv; omega) (by clear hv zv; omega)]; exact h3 m (by clear hv zv; omega))
      (by
        by_cases c : N - 1 = i + 1
        · rw [c, z1, ← c, h5 (by clear hv zv; omega)]; clear hv zv; omega
        · rw [z2 _ (by clear hv zv; omega) c]; exact h4)
      (fun hi2 => by rw [z2 _ (by clear hv zv; omega) (by clear hv zv; omega)]; exact h5 (by clear hv zv; omega)) zv
    exact ⟨y, (show k + (d + 1) + 1 = (k + d + 1) + 1 from rfl) ▸ st.trans g1', g⟩
theorem getD_app (a : List Int) (n m : Nat) : (a ++ List.replicate n 0).getD m 0 = a.getD m 0 := by
  rw [List.getD_eq_getElem?_getD, List.getD_eq_getElem?_getD, List.getElem?_append]
  split
  · rfl
  · rw [List.getElem?_replicate, List.getElem?_eq_none (by omega)]; split <;> rfl
theorem e_iAdd (k : Nat) (a b : List Int) (ha : MN.DOk a) (hb : MN.DOk b) (la : a.length ≤ 1024) (lb : b.length ≤ 1024) (hk : 6000 ≤ k) :
    ∃ y, impl_natAdd.f k a b = some (MN.trimD y) ∧ y.length ≤ 1025 ∧ MN.DOk y ∧ MN.val y = MN.val a + MN.val b := by
  obtain ⟨M, hM⟩ : ∃ M : Nat, mx (a.length : Int) (b.length : Int) = (M : Int) ∧ a.length ≤ M ∧ b.length ≤ M ∧ M ≤ 1024 := by
    unfold mx; split
    · exact ⟨b.length, rfl, by omega, by omega, by omega⟩
    · exact ⟨a.length, rfl, by omega, by omega, by omega⟩
  obtain ⟨hM0, hM1, hM2, hM3⟩ := hM
  have e1 : wrap64 ((M : Int) + 1) = ((M + 1 : Nat) : Int) := by unfold wrap64; omega
  obtain ⟨K, hK⟩ : ∃ K, k = (K + M + 1) + b.length + 1 := ⟨k - M - b.length - 2, by omega⟩
  have ra := fun m => ha.getD m
  obtain ⟨x0, hx0⟩ : ∃ x0, x0 = a ++ List.replicate (M + 1 - a.length) (0 : Int) := ⟨_, rfl⟩
  have g0 : ∀ m, x0.getD m 0 = a.getD m 0 := fun m => by rw [hx0]; exact getD_app a _ m
  have l0 : x0.length = M + 1 := by rw [hx0, List.length_append, List.length_replicate]; omega
  have v0 : MN.val x0 = MN.val a := by rw [hx0, MN.val_append, MN.val_replicate]; simp
  obtain ⟨x, f1, f2, f3, f4, f5⟩ := e_iAdd_1 b hb (M + 1) (by omega) (by omega) (MN.val a) b.length (K + M + 1) x0 0 (by omega) l0 (fun m => by rw [g0]; have := ra m; omega) (fun m _ => by rw [g0]; have := ra m; omega)
    (by rw [g0, List.getD_eq_getElem?_getD, List.getElem?_eq_none (by omega)]; rfl) (by rw [v0]; simp [MN.val])
  obtain ⟨y, g1, g2, g3, g4⟩ := e_iAdd_2 (M + 1) (by omega) (by omega) (MN.val a + MN.val b) M K x 0 (by omega) f2 (fun m hm => absurd hm (Nat.not_lt_zero m)) ⟨(f4 0).1, Int.le_trans (f4 0).2 (by decide)⟩ (fun m _ => f4 m) (by rw [f5]; decide) (fun _ => f5) f3
  refine ⟨y, ?_, by omega, g3, g4⟩
  unfold impl_natAdd.f impl_natAdd.g
  have e3 : wrap64 ((x.length : Int) - 1) = ((M + 1 - 1 : Nat) : Int) := by clear f3 g4 v0; unfold wrap64; omega
  rw [show ((0 : Nat) : Int) = 0 from rfl] at f1 g1
  have e4 : a ++ (List.replicate (M + 1) (0 : Int)).drop a.length = x0 := by rw [hx0, List.drop_replicate]
  rw [hM0, e1, if_pos (by clear f3 g4 v0; omega), if_pos (by clear f3 g4 v0; omega), Int.toNat_natCast, if_pos (by rw [List.length_replicate]; clear f3 g4 v0; omega), e4, hK, f1, e3, g1, e_iTrim K y (by clear f3 g4 v0; omega) (by clear f3 g4 v0; omega)]; rfl
theorem e_mainNatAdd (l0 l1 : List Int) : ∃ (v : List Int) (ok : Bool), v.length ≤ 256 ∧ (∀ k, 1000000 ≤ k → spec_NatAdd.f k l0 l1 = some (v, ok)) ∧ (∀ k, 1000000 ≤ k → impl_NatAdd.f k l0 l1 = some (v, ok)) := by
  by_cases a : natOk l0 = true
  · by_cases b : natOk l1 = true
    · obtain ⟨la, ca⟩ := natOk_iff.mp a
      obtain ⟨lb, cb⟩ := natOk_iff.mp b
      obtain ⟨ys, s1, s2, s3, s4⟩ := e_sAdd 1000000 l0 l1 ca cb (by omega) (by omega) (by omega)
      refine ⟨(toldOf ys).1, (toldOf ys).2, toldOf_len ys, fun k hk => ?_, fun k hk => ?_⟩
      · obtain ⟨k, rfl⟩ : ∃ q, k = q + 1 := ⟨k - 1, by omega⟩
        obtain ⟨y, f1, f2, f3, f4⟩ := e_sAdd k l0 l1 ca cb (by omega) (by omega) (by omega)
        have ey : y = MN.trimD y := (MN.trimD_can f3).symm
        unfold spec_NatAdd.f
        simp only [e_sNatOk (k + 1) _ (show 256 < k + 1 by omega), Option.bind_some, a, b, if_true, Bool.not_true, spec_NatAdd.j0, Bool.false_eq_true, if_false, f1]
        rw [ey, e_sFits, Option.bind_some, toldOf_eq f3.1 s3.1 (by rw [f4, s4])]
      · obtain ⟨y, f1, f2, f3, f4⟩ := e_iAdd k l0 l1 ca.1 cb.1 (by omega) (by omega) (by omega)
        unfold impl_NatAdd.f impl_nats.f
        simp only [List.all_cons, List.all_nil, a, b, Bool.and_true, Option.bind_some, if_true, f1]
        have hl := MN.trimD_length y
        rw [e_iTold k _ (by omega) (by omega), Option.bind_some, toldOf_eq (MN.Can.trimD f3).1 s3.1 (by rw [MN.val_trimD, f4, s4])]
    · refine ⟨[], false, by simp, fun k hk => ?_, fun k hk => ?_⟩
      · obtain ⟨k, rfl⟩ : ∃ q, k = q + 1 := ⟨k - 1, by omega⟩
        unfold spec_NatAdd.f
        simp only [e_sNatOk (k + 1) _ (show 256 < k + 1 by omega), Option.bind_some, a, if_true, spec_NatAdd.j0]
        rw [if_pos (by simp [b])]
      · unfold impl_NatAdd.f impl_nats.f
        simp only [List.all_cons, List.all_nil, Bool.and_true, Option.bind_some]
        rw [if_neg (by simp [b])]
  · refine ⟨[], false, by simp, fun k hk => ?_, fun k hk => ?_⟩
    · obtain ⟨k, rfl⟩ : ∃ q, k = q + 1 := ⟨k - 1, by omega⟩
      unfold spec_NatAdd.f
      simp only [e_sNatOk (k + 1) _ (show 256 < k + 1 by omega), Option.bind_some, spec_NatAdd.j0]
      rw [if_neg a]; first | rw [if_pos rfl] | rw [if_pos trivial]
    · unfold impl_NatAdd.f impl_nats.f
      simp only [List.all_cons, List.all_nil, Bool.and_true, Option.bind_some]
      rw [if_neg (by simp [a])]
theorem FnExactNatAdd : laws_FnExactNatAdd.Pure := by
  intro l0 l1 _ _ _ _ _ _
  refine ⟨2000000, ?_⟩
  unfold laws_FnExactNatAdd.f
  by_cases h : (l0.length : Int) > 1048576
  · rw [if_pos h]
  · rw [if_neg h]
    by_cases h' : (l1.length : Int) > 1048576
    · rw [if_pos h']
    · rw [if_neg h']
      have t0 := fun k hk => e_toIntS k l0 (by omega) hk
      have t1 := fun k hk => e_toIntS k l1 (by omega) hk
      have q0 := fun k hk => e_eqIntS k l0 (by omega) hk
      have q1 := fun k hk => e_eqIntS k l1 (by omega) hk
      have m0 := fun k hk => e_mark k l0 1 hk (by omega) (by omega)
      have m1 := fun k hk => e_mark k l1 (1 + l0.length) hk (by omega) (by omega)
      obtain ⟨v, ok, hv, es, ei⟩ := e_mainNatAdd l0 l1
      have qv := fun k hk => e_eqIntS k v (by omega) hk
      have mv := fun k hk => e_mark k v 1 hk (by omega) (by omega)
      have hd := fun k hk => e_held k v.length 1 hk (by omega) (by omega)
      rw [t0 2000000 (by omega), Option.bind_some, t1 2000000 (by omega), Option.bind_some, es 2000000 (by omega)]
      simp only [Option.bind_some, ei 2000000 (by omega), qv 2000000 (by omega), if_true, bne_self_eq_false]
      simp only [laws_FnExactNatAdd.j0, laws_FnExactNatAdd.j1, laws_FnExactNatAdd.j2, Bool.false_eq_true, if_false, t0 1999999 (by omega), t1 1999999 (by omega), q0 1999999 (by omega), q1 1999999 (by omega), m0 1999999 (by omega), m1 1999999 (by omega), qv 1999999 (by omega), Option.bind_some, if_true, bne_self_eq_false,
        t0 1999998 (by omega), t1 1999998 (by omega), mv 1999998 (by omega), hd 1999998 (by omega), ei 1999998 (by omega), qv 1999998 (by omega), hd 1999997 (by omega)]
      rw [if_neg (by omega), if_neg (by omega), if_neg (by omega)]
end Go.Proofs.Ytaachpcidikagaa.Pure
