/- NatRead of the program and of the reference agree for every text; what is told is the caller's own.
   Conditions: none beyond those of the given row (each number is of its kind). -/
import Derived.Test.YtaachpcidikagaaQFnExactNatReadx6
import Derived.Test.YtaachpcidikagaaMB
import Derived.Test.YtaachpcidikagaaMN
namespace Go.Proofs.Ytaachpcidikagaa.Pure
open Go.RowKit Go.Proofs.Ytaachpcidikagaa.QFnExactNatRead Go.Proofs.YtaachpcidikagaaW.PrintWords Go.Proofs.YtaachpcidikagaaW.PrintLast Go.Proofs.YtaachpcidikagaaW.PrintMore Go.Proofs.Ytaachpcidikagaa.M Go.Proofs.Ytaachpcidikagaa.MN
set_option linter.unusedVariables false
set_option linter.unusedSimpArgs false
theorem w64i (i : Nat) (h : i ≤ 1048576) : wrap64 ((i : Int) + 1) = ((i + 1 : Nat) : Int) := by unfold wrap64; omega
theorem e_rd (l : List Int) (i : Nat) (h : i < l.length) : rd l (i : Int) = l[i] := by simp [rd, List.getD_eq_getElem?_getD, List.getElem?_eq_getElem h]
theorem e_eqIntS_l (l : List Int) (hl : l.length ≤ 1048576) (d : Nat) : ∀ (i k : Nat), i + d = l.length → d < k → laws_eqIntS.l0 k l l (i : Int) = some true := by
  induction d with
  | zero =>
    intro i k hi hk
    obtain ⟨k, rfl⟩ : ∃ m, k = m + 1 := ⟨k - 1, by omega⟩
    simp only [laws_eqIntS.l0]; rw [if_neg (by omega)]
  | succ d ih =>
    intro i k hi hk
    obtain ⟨k, rfl⟩ : ∃ m, k = m + 1 := ⟨k - 1, by omega⟩
    simp only [laws_eqIntS.l0]
    rw [if_pos (by omega), if_pos (by omega), if_pos (by omega), if_pos trivial, w64i i (by omega)]
    exact ih (i + 1) k (by omega) (by omega)
theorem e_eqIntS (k : Nat) (l : List Int) (hl : l.length ≤ 1048576) (hk : l.length < k) : laws_eqIntS.f k l l = some true := by
  unfold laws_eqIntS.f; rw [if_pos rfl]; exact e_eqIntS_l l hl l.length 0 k (by omega) hk
def marks : Int → Nat → List Int
  | _, 0 => []
  | a, n + 1 => a :: marks (a + 1) n
theorem marks_length : ∀ (n : Nat) (a : Int), (marks a n).length = n := by
  intro n; induction n with
  | zero => intro a; rfl
  | succ n ih => intro a; simp [marks, ih]
theorem e_mark_l : ∀ (suf pre : List Int) (a : Int) (k : Nat), suf.length < k → pre.length + suf.length ≤ 1048576 → 0 ≤ a ∧ a + suf.length ≤ 9000000 → laws_markIntS.l0 k (pre ++ suf) a (pre.length : Int) = some (a + suf.length, pre ++ marks a suf.length) := by
  intro suf; induction suf with
  | nil =>
    intro pre a k hk hl ha
    obtain ⟨k, rfl⟩ : ∃ m, k = m + 1 := ⟨k - 1, by simp at hk; omega⟩
    simp only [laws_markIntS.l0]
    rw [if_neg (by simp)]; simp [marks]
  | cons s suf ih =>
    intro pre a k hk hl ha
    simp only [List.length_cons] at hk hl ha
    obtain ⟨k, rfl⟩ : ∃ m, k = m + 1 := ⟨k - 1, by omega⟩
    simp only [laws_markIntS.l0]
    rw [if_pos (by simp; omega), if_pos (by omega)]
    have e1 : (pre ++ s :: suf).set ((pre.length : Int)).toNat a = (pre ++ [a]) ++ suf := by
      rw [Int.toNat_natCast, List.set_append_right _ _ (Nat.le_refl _), Nat.sub_self, List.set_cons_zero, List.append_assoc]; rfl
    have e2 : wrap64 (a + 1) = a + 1 := by unfold wrap64; omega
    have e3 : wrap64 ((pre.length : Int) + 1) = ((pre ++ [a]).length : Int) := by rw [List.length_append]; simp; unfold wrap64; omega
    rw [e1, e2, e3, ih (pre ++ [a]) (a + 1) k (by omega) (by rw [List.length_append]; simp; omega) (by omega)]
    simp [marks]; omega
theorem e_mark (k : Nat) (l : List Int) (a : Int) (hk : l.length < k) (hl : l.length ≤ 1048576) (ha : 0 ≤ a ∧ a ≤ 7000000) : laws_markIntS.f k l a = some (a + l.length, marks a l.length) := by
  have := e_mark_l l [] a k hk (by simpa using hl) (by omega)
  simpa [laws_markIntS.f] using this
theorem e_held_l : ∀ (n : Nat) (pre : List Int) (a : Int) (k : Nat), n < k → pre.length + n ≤ 1048576 → 0 ≤ a ∧ a + n ≤ 9000000 → laws_heldIntS.l0 k (pre ++ marks a n) a (pre.length : Int) = some (a + n) := by
  intro n; induction n with
  | zero =>
    intro pre a k hk hl ha
    obtain ⟨k, rfl⟩ : ∃ m, k = m + 1 := ⟨k - 1, by omega⟩
    simp only [laws_heldIntS.l0]
    rw [if_neg (by simp [marks])]; simp
  | succ n ih =>
    intro pre a k hk hl ha
    obtain ⟨k, rfl⟩ : ∃ m, k = m + 1 := ⟨k - 1, by omega⟩
    simp only [laws_heldIntS.l0]
    have e0 : rd (pre ++ marks a (n + 1)) (pre.length : Int) = a := by
      rw [e_rd _ _ (by rw [List.length_append, marks_length]; omega)]; simp [marks]
    have e2 : wrap64 (a + 1) = a + 1 := by unfold wrap64; omega
    have e3 : wrap64 ((pre.length : Int) + 1) = ((pre ++ [a]).length : Int) := by rw [List.length_append]; simp; unfold wrap64; omega
    have e1 : pre ++ marks a (n + 1) = (pre ++ [a]) ++ marks (a + 1) n := by simp [marks]
    rw [if_pos (by rw [List.length_append, marks_length]; omega), if_pos (by omega), if_pos e0, e2, e3, e1, ih (pre ++ [a]) (a + 1) k (by omega) (by rw [List.length_append]; simp; omega) (by omega), Option.some.injEq]
    omega
theorem e_held (k : Nat) (n : Nat) (a : Int) (hk : n < k) (hl : n ≤ 1048576) (ha : 0 ≤ a ∧ a ≤ 7000000) : laws_heldIntS.f k (marks a n) a = some (a + n) := by
  have := e_held_l n [] a k hk (by simpa using hl) (by omega)
  simpa [laws_heldIntS.f] using this
theorem u64_mask16 (n : Int) (h0 : 0 ≤ n) (h1 : n < 18446744073709551616) : Go.bits .and .u64 n 65535 = n % 65536 := by
  rw [u64_and _ _ h0 h1 (by decide) (by decide)]
  have := Nat.and_two_pow_sub_one_eq_mod n.toNat 16
  rw [show (65535 : Int).toNat = 2 ^ 16 - 1 by decide, this]; omega
theorem e_sNatOf_l : ∀ (d k : Nat) (x : Int) (acc : List Int), d < k → 0 ≤ x → x < 65536 ^ d → x < 18446744073709551616 → acc.length + d ≤ 1000 →
    ∃ v, spec_NatOf.l0 k x acc = some v ∧ v.length ≤ acc.length + d ∧ ∃ s, v = acc ++ s ∧ MN.Can s ∧ MN.val s = x := by
  intro d; induction d with
  | zero =>
    intro k x acc hk h0 h1 h2 hl
    obtain ⟨k, rfl⟩ : ∃ m, k = m + 1 := ⟨k - 1, by omega⟩
    have : x = 0 := by simp at h1; omega
    subst this
    refine ⟨acc, by simp only [spec_NatOf.l0]; rw [if_neg (by decide)], by omega, [], by simp, MN.Can.nil, rfl⟩
  | succ d ih =>
    intro k x acc hk h0 h1 h2 hl
    obtain ⟨k, rfl⟩ : ∃ m, k = m + 1 := ⟨k - 1, by omega⟩
    simp only [spec_NatOf.l0]
    by_cases c : x > 0
    · rw [if_pos c, if_pos (by omega)]
      have e1 : IntKind.u64.wrap (Int.tdiv x 65536) = x / 65536 := by rw [Int.tdiv_eq_ediv_of_nonneg h0]; simp [IntKind.wrap, IntKind.signed, IntKind.bits]; omega
      have e2 : wrap64 (Int.tmod x 65536) = x % 65536 := by rw [Int.tmod_eq_emod_of_nonneg h0]; unfold wrap64; omega
      rw [e1, e2]
      have h3 : x / 65536 < 65536 ^ d := by rw [Int.pow_succ] at h1; omega
      obtain ⟨v, hv, hl2, s, hs, hc, hval⟩ := ih k (x / 65536) (acc ++ [x % 65536]) (by omega) (by omega) h3 (by omega) (by rw [List.length_append]; simp; omega)
      refine ⟨v, hv, by rw [List.length_append] at hl2; simp at hl2; omega, x % 65536 :: s, by rw [hs]; simp, ?_, ?_⟩
      · refine ⟨MN.DOk.cons (by omega) (by omega) hc.1, ?_⟩
        by_cases z : s = []
        · subst z; have : x / 65536 = 0 := by rw [← hval]; rfl
          simp; omega
        · rw [MN.getLast?_cons_ne z]; exact hc.2
      · simp only [MN.val, hval]; omega
    · rw [if_neg c]
      exact ⟨acc, rfl, by omega, [], by simp, MN.Can.nil, by simp [MN.val]; omega⟩
theorem e_sNatOf (k : Nat) (x : Int) (hk : 4 < k) (h0 : 0 ≤ x) (h2 : x < 18446744073709551616) : ∃ v, spec_NatOf.f k x = some v ∧ v.length ≤ 4 ∧ MN.Can v ∧ MN.val v = x := by
  obtain ⟨v, h, hl, s, hs, hc, hv⟩ := e_sNatOf_l 4 k x [] hk h0 (by omega) h2 (by simp)
  have : v = s := by simpa using hs
  subst this
  exact ⟨v, h, by simpa using hl, hc, hv⟩
theorem e_iNatOf_l : ∀ (k : Nat) (x : Int) (acc : List Int), 0 ≤ x → x < 18446744073709551616 → impl_natOf.l0 k x acc = spec_NatOf.l0 k x acc := by
  intro k; induction k with
  | zero => intro x acc _ _; rfl
  | succ k ih =>
    intro x acc h0 h2
    simp only [spec_NatOf.l0, impl_natOf.l0]
    have e1 : IntKind.u64.wrap (Int.tdiv x 65536) = x / 65536 := by rw [Int.tdiv_eq_ediv_of_nonneg h0]; simp [IntKind.wrap, IntKind.signed, IntKind.bits]; omega
    have e2 : Int.tmod x 65536 = x % 65536 := Int.tmod_eq_emod_of_nonneg h0
    rw [e1, e2, u64_mask16 x h0 h2, ih (x / 65536) _ (by omega) (by omega)]
theorem e_clone (l : List Int) (h : l.length ≤ 17592186044416) : impl_clone_int.f l = some l := by
  unfold impl_clone_int.f slices_Clone_int_int.f; rw [if_pos h]
theorem e_rd0 (l : List Int) (i : Nat) : rd l (i : Int) = l.getD i 0 := by simp [rd]
theorem e_sTrim_copy (y : List Int) (hl : y.length ≤ 2000) (m : Nat) (hm : m ≤ y.length) : ∀ (d k j : Nat), j + d = m → d < k → spec_l5Trim.l1 k y (m : Int) (y.take j) (j : Int) = some (y.take m) := by
  intro d
  induction d with
  | zero =>
    intro k j hj hk
    obtain ⟨k, rfl⟩ : ∃ q, k = q + 1 := ⟨k - 1, by omega⟩
    have : j = m := by omega
    subst this
    simp only [spec_l5Trim.l1]
    rw [if_neg (by omega)]
  | succ d ih =>
    intro k j hj hk
    obtain ⟨k, rfl⟩ : ∃ q, k = q + 1 := ⟨k - 1, by omega⟩
    simp only [spec_l5Trim.l1]
    have e1 : wrap64 ((j : Int) + 1) = ((j + 1 : Nat) : Int) := by unfold wrap64; omega
    have e2 : y.take j ++ [rd y (j : Int)] = y.take (j + 1) := by
      rw [e_rd0, List.getD_eq_getElem?_getD, List.getElem?_eq_getElem (by omega), Option.getD_some, List.take_succ_eq_append_getElem (by omega)]
    rw [if_pos (by omega), if_pos (by omega), if_pos (by omega), if_pos (by rw [List.length_take]; omega), e1, e2]
    exact ih k (j + 1) (by omega) (by omega)
theorem e_sTrim_l (y : List Int) (hl : y.length ≤ 2000) : ∀ (m k : Nat), m ≤ y.length → 2 * m + 5 ≤ k → spec_l5Trim.l0 k y (m : Int) = some (MN.trimD (y.take m)) := by
  intro m
  induction m with
  | zero =>
    intro k hm hk
    obtain ⟨k, rfl⟩ : ∃ q, k = q + 2 := ⟨k - 2, by omega⟩
    simp only [spec_l5Trim.l0, spec_l5Trim.j1]
    rw [if_neg (by omega)]
    have := e_sTrim_copy y hl 0 (by omega) 0 k 0 rfl (by omega)
    simpa [MN.trimD] using this
  | succ m ih =>
    intro k hm hk
    obtain ⟨k, rfl⟩ : ∃ q, k = q + 2 := ⟨k - 2, by omega⟩
    have e1 : wrap64 (((m + 1 : Nat) : Int) - 1) = (m : Int) := by unfold wrap64; omega
    have e2 : y.take (m + 1) = y.take m ++ [y.getD m 0] := by
      rw [List.getD_eq_getElem?_getD, List.getElem?_eq_getElem (by omega), Option.getD_some, List.take_succ_eq_append_getElem (by omega)]
    rw [show k + 2 = (k + 1) + 1 from rfl]
    simp only [spec_l5Trim.l0]
    rw [e1, if_pos (by omega), if_pos (by omega), if_pos (by omega), e_rd0]
    by_cases c : y.getD m 0 = 0
    · have := ih (k + 1) (by omega) (by omega)
      simp only [spec_l5Trim.l0] at this
      rw [if_pos c, e2, c, MN.trimD_snoc_zero]
      (try simp only [spec_l5Trim.l0])
      exact this
    · rw [if_neg c]
      simp only [spec_l5Trim.j1]
      have := e_sTrim_copy y hl (m + 1) hm (m + 1) k 0 (by omega) (by omega)
      rw [e2, MN.trimD_snoc_ne _ c, ← e2]
      simpa using this
theorem e_sTrim (k : Nat) (y : List Int) (hl : y.length ≤ 2000) (hk : 4005 ≤ k) : spec_l5Trim.f k y = some (MN.trimD y) := by
  unfold spec_l5Trim.f
  rw [e_sTrim_l y hl y.length k (Nat.le_refl _) (by omega), List.take_length]
theorem e_iTrim_l (y : List Int) (hl : y.length ≤ 2000) : ∀ (m k : Nat), m ≤ y.length → m < k → impl_trim.l0 k (y.take m) = some (MN.trimD (y.take m)) := by
  intro m
  induction m with
  | zero =>
    intro k hm hk
    obtain ⟨k, rfl⟩ : ∃ q, k = q + 1 := ⟨k - 1, by omega⟩
    simp only [impl_trim.l0]
    rw [if_neg (by simp)]; simp [MN.trimD]
  | succ m ih =>
    intro k hm hk
    obtain ⟨k, rfl⟩ : ∃ q, k = q + 1 := ⟨k - 1, by omega⟩
    have hlen : (y.take (m + 1)).length = m + 1 := by rw [List.length_take]; omega
    have e1 : wrap64 (((m + 1 : Nat) : Int) - 1) = (m : Int) := by unfold wrap64; omega
    have e2 : y.take (m + 1) = y.take m ++ [y.getD m 0] := by
      rw [List.getD_eq_getElem?_getD, List.getElem?_eq_getElem (by omega), Option.getD_some, List.take_succ_eq_append_getElem (by omega)]
    have e3 : (y.take (m + 1)).getD m 0 = y.getD m 0 := by
      rw [List.getD_eq_getElem?_getD, List.getD_eq_getElem?_getD, List.getElem?_take_of_lt (by omega)]
    have e4 : (y.take (m + 1)).take m = y.take m := by rw [List.take_take, Nat.min_eq_left (by omega)]
    simp only [impl_trim.l0]
    rw [hlen, e1, if_pos (by omega), if_pos (by omega), if_pos (by omega), e_rd0, e3]
    by_cases c : y.getD m 0 = 0
    · rw [if_pos c, if_pos (by omega), Int.toNat_natCast, e4, ih k (by omega) (by omega), e2, c, MN.trimD_snoc_zero]
    · rw [if_neg c, e2, MN.trimD_snoc_ne _ c]
theorem e_iTrim (k : Nat) (y : List Int) (hl : y.length ≤ 2000) (hk : 2000 < k) : impl_trim.f k y = some (MN.trimD y) := by
  unfold impl_trim.f
  have := e_iTrim_l y hl y.length k (Nat.le_refl _) (by omega)
  rwa [List.take_length] at this
def toldOf (y : List Int) : List Int × Bool := if (MN.trimD y).length ≤ 256 then (MN.trimD y, true) else ([], false)
theorem toldOf_len (y : List Int) : (toldOf y).1.length ≤ 256 := by unfold toldOf; split <;> simp_all
theorem e_iTold (k : Nat) (y : List Int) (hl : y.length ≤ 2000) (hk : 2000 < k) : impl_told.f k y true = some (toldOf y) := by
  unfold impl_told.f toldOf
  have h1 := MN.trimD_length y
  rw [e_iTrim k y hl hk, Option.bind_some, if_pos rfl]
  by_cases c : (MN.trimD y).length ≤ 256
  · rw [if_neg (by omega), if_pos c, e_clone _ (by omega)]; rfl
  · rw [if_pos (by omega), if_neg c]
theorem e_sFits (y : List Int) : spec_l5Fits.f (MN.trimD y) = some (toldOf y) := by
  unfold spec_l5Fits.f toldOf
  by_cases c : (MN.trimD y).length ≤ 256
  · rw [if_neg (by omega), if_pos c]
  · rw [if_pos (by omega), if_neg c]
theorem i64_mask16 (n : Int) (h0 : 0 ≤ n) (h1 : n < 9223372036854775808) : Go.bits .and .i64 n 65535 = n % 65536 := by
  have := bits_mask .i64 63 (by decide) (fun n h0 h1 => by rw [IntKind.wrap_i64]; omega) 16 (by decide) n h0 (by omega)
  exact this
theorem mul_bound {a b : Int} (ha : 0 ≤ a ∧ a < 65536) (hb : 0 ≤ b ∧ b < 65536) : 0 ≤ a * b ∧ a * b ≤ 4294836225 := by
  refine ⟨Int.mul_nonneg ha.1 hb.1, ?_⟩
  have := Int.mul_le_mul (show a ≤ 65535 by omega) (show b ≤ 65535 by omega) hb.1 (by decide)
  omega
theorem drop_val (b : List Int) (j : Nat) (hj : j < b.length) : MN.val (b.drop j) = b.getD j 0 + 65536 * MN.val (b.drop (j + 1)) := by
  rw [List.drop_eq_getElem_cons hj, List.getD_eq_getElem?_getD, List.getElem?_eq_getElem hj]; rfl
theorem take_val (a : List Int) (i : Nat) (hi : i < a.length) : MN.val (a.take (i + 1)) = MN.val (a.take i) + MN.pw i * a.getD i 0 := by
  rw [List.take_succ_eq_append_getElem hi, MN.val_append, List.length_take, Nat.min_eq_left (by omega), List.getD_eq_getElem?_getD, List.getElem?_eq_getElem hi]
  simp [MN.val]
theorem getD_set_ne (x : List Int) (i m : Nat) (v : Int) (h : i ≠ m) : (x.set i v).getD m 0 = x.getD m 0 := by
  rw [List.getD_eq_getElem?_getD, List.getD_eq_getElem?_getD, List.getElem?_set_ne h]
theorem step_val (vx P xd a bj c s vb : Int) (hs : s = xd + a * bj + c) : vx + P * (s % 65536 - xd) + s / 65536 * (65536 * P) + a * vb * (65536 * P) = vx + c * P + a * (bj + 65536 * vb) * P := by
  have h : s = 65536 * (s / 65536) + s % 65536 := (Int.mul_ediv_add_emod s 65536).symm
  generalize s / 65536 = q at *
  generalize s % 65536 = r at *
  grind
theorem e_sMul_in (a b : List Int) (ha : MN.DOk a) (hb : MN.DOk b) (la : a.length ≤ 1024) (lb : b.length ≤ 256) (i n : Nat) (hi : i < a.length) (hn : i + b.length < n ∧ n ≤ 1300) : ∀ (d k : Nat) (x : List Int) (c : Int) (j : Nat), j + d = b.length → x.length = n → MN.DOk x → 0 ≤ c ∧ c < 65536 → (∀ m, i + b.length ≤ m → x.getD m 0 = 0) →
    ∃ x' c', spec_l5Mul.l1 (k + d + 1) a b x (i : Int) c (j : Int) = spec_l5Mul.l0 k a b (x'.set (i + b.length) c') ((i + 1 : Nat) : Int) ∧ x'.length = n ∧ MN.DOk x' ∧ (0 ≤ c' ∧ c' < 65536) ∧
      MN.val x' + c' * MN.pw (i + b.length) = MN.val x + c * MN.pw (i + j) + a.getD i 0 * MN.val (b.drop j) * MN.pw (i + j) ∧ ∀ m, i + b.length ≤ m → x'.getD m 0 = 0 := by
  intro d
  induction d with
  | zero =>
    intro k x c j hj hx hd hc hz
    have : j = b.length := by omega
    subst this
    have e1 : wrap64 ((i : Int) + (b.length : Int)) = ((i + b.length : Nat) : Int) := by unfold wrap64; omega
    have e2 : wrap64 ((i : Int) + 1) = ((i + 1 : Nat) : Int) := by unfold wrap64; omega
    refine ⟨x, c, ?_, hx, hd, hc, by simp [MN.val], hz⟩
    rw [show k + 0 + 1 = k + 1 from rfl]
    simp only [spec_l5Mul.l1]
    rw [if_neg (by omega), e1, e2, if_pos (by omega), if_pos (by omega), Int.toNat_natCast]
  | succ d ih =>
    intro k x c j hj hx hd hc hz
    have e1 : wrap64 ((i : Int) + (j : Int)) = ((i + j : Nat) : Int) := by unfold wrap64; omega
    have e2 : wrap64 ((j : Int) + 1) = ((j + 1 : Nat) : Int) := by unfold wrap64; omega
    have ra := ha.getD i
    have rb := hb.getD j
    have rx := hd.getD (i + j)
    have mb := mul_bound ra rb
    have hs : ∃ s, s = x.getD (i + j) 0 + a.getD i 0 * b.getD j 0 + c := ⟨_, rfl⟩
    obtain ⟨s, hs⟩ := hs
    have bs : 0 ≤ s ∧ s ≤ 4294967295 := by omega
    have w1 : wrap64 (a.getD i 0 * b.getD j 0) = a.getD i 0 * b.getD j 0 := by generalize a.getD i 0 * b.getD j 0 = z at *; unfold wrap64; omega
    have w2 : wrap64 (wrap64 (x.getD (i + j) 0 + a.getD i 0 * b.getD j 0) + c) = s := by generalize a.getD i 0 * b.getD j 0 = z at *; unfold wrap64; omega
    have w3 : Int.tmod s 65536 = s % 65536 := Int.tmod_eq_emod_of_nonneg bs.1
    have w4 : wrap64 (Int.tdiv s 65536) = s / 65536 := by rw [Int.tdiv_eq_ediv_of_nonneg bs.1]; unfold wrap64; omega
    obtain ⟨x', c', f1, f2, f3, f4, f5, f6⟩ := ih k (x.set (i + j) (s % 65536)) (s / 65536) (j + 1) (by omega) (by rw [List.length_set]; exact hx) (hd.set _ (by omega) (by omega)) (by omega)
      (fun m hm => by rw [getD_set_ne _ _ _ _ (by omega)]; exact hz m hm)
    refine ⟨x', c', ?_, f2, f3, f4, ?_, f6⟩
    · rw [← f1, show k + (d + 1) + 1 = (k + d + 1) + 1 by omega]
      obtain ⟨K, hK⟩ : ∃ K, K = k + d + 1 := ⟨_, rfl⟩
      rw [← hK]
      conv => lhs; rw [spec_l5Mul.l1]
      rw [e1, e2, if_pos (by omega), if_pos (by omega), if_pos (by omega), if_pos (by omega), if_pos (by omega), if_pos (by omega), e_rd0, e_rd0, e_rd0, w1, w2, w3, w4, Int.toNat_natCast]
    · rw [f5, MN.val_set (by omega), drop_val b j (by omega), show i + (j + 1) = (i + j) + 1 by omega, MN.pw_succ]
      exact step_val _ _ _ _ _ _ _ _ hs
theorem e_iMul_in (a b : List Int) (ha : MN.DOk a) (hb : MN.DOk b) (la : a.length ≤ 1024) (lb : b.length ≤ 256) (i n : Nat) (hi : i < a.length) (hn : i + b.length < n ∧ n ≤ 1300) : ∀ (d k : Nat) (x : List Int) (c : Int) (j : Nat), j + d = b.length → x.length = n → MN.DOk x → 0 ≤ c ∧ c < 65536 → (∀ m, i + b.length ≤ m → x.getD m 0 = 0) →
    ∃ x' c', impl_natMul.l1 (k + d + 1) b x (i : Int) (a.getD i 0) c a (a.length : Int) (i : Int) b (b.length : Int) (j : Int) = impl_natMul.l0 k b (x'.set (i + b.length) c') a (a.length : Int) ((i + 1 : Nat) : Int) ∧ x'.length = n ∧ MN.DOk x' ∧ (0 ≤ c' ∧ c' < 65536) ∧
      MN.val x' + c' * MN.pw (i + b.length) = MN.val x + c * MN.pw (i + j) + a.getD i 0 * MN.val (b.drop j) * MN.pw (i + j) ∧ ∀ m, i + b.length ≤ m → x'.getD m 0 = 0 := by
  intro d
  induction d with
  | zero =>
    intro k x c j hj hx hd hc hz
    have : j = b.length := by omega
    subst this
    have e1 : wrap64 ((i : Int) + (b.length : Int)) = ((i + b.length : Nat) : Int) := by unfold wrap64; omega
    have e2 : wrap64 ((i : Int) + 1) = ((i + 1 : Nat) : Int) := by unfold wrap64; omega
    refine ⟨x, c, ?_, hx, hd, hc, by simp [MN.val], hz⟩
    rw [show k + 0 + 1 = k + 1 from rfl]
    simp only [impl_natMul.l1]
    have w0 : wrap64 (0 + c) = c := by unfold wrap64; omega
    rw [if_neg (by omega), e1, e2, if_pos (by omega), if_pos (by omega), Int.toNat_natCast, e_rd0, hz _ (Nat.le_refl _), w0]
  | succ d ih =>
    intro k x c j hj hx hd hc hz
    have e1 : wrap64 ((i : Int) + (j : Int)) = ((i + j : Nat) : Int) := by unfold wrap64; omega
    have e2 : wrap64 ((j : Int) + 1) = ((j + 1 : Nat) : Int) := by unfold wrap64; omega
    have ra := ha.getD i
    have rb := hb.getD j
    have rx := hd.getD (i + j)
    have mb := mul_bound ra rb
    have hs : ∃ s, s = x.getD (i + j) 0 + a.getD i 0 * b.getD j 0 + c := ⟨_, rfl⟩
    obtain ⟨s, hs⟩ := hs
    have bs : 0 ≤ s ∧ s ≤ 4294967295 := by omega
    have w1 : wrap64 (a.getD i 0 * b.getD j 0) = a.getD i 0 * b.getD j 0 := by generalize a.getD i 0 * b.getD j 0 = z at *; unfold wrap64; omega
    have w2 : wrap64 (wrap64 (x.getD (i + j) 0 + a.getD i 0 * b.getD j 0) + c) = s := by generalize a.getD i 0 * b.getD j 0 = z at *; unfold wrap64; omega
    have w3 : Go.bits .and .i64 s 65535 = s % 65536 := i64_mask16 s bs.1 (by omega)
    obtain ⟨x', c', f1, f2, f3, f4, f5, f6⟩ := ih k (x.set (i + j) (s % 65536)) (s / 65536) (j + 1) (by omega) (by rw [List.length_set]; exact hx) (hd.set _ (by omega) (by omega)) (by omega)
      (fun m hm => by rw [getD_set_ne _ _ _ _ (by omega)]; exact hz m hm)
    refine ⟨x', c', ?_, f2, f3, f4, ?_, f6⟩
    · rw [← f1, show k + (d + 1) + 1 = (k + d + 1) + 1 by omega]
      obtain ⟨K, hK⟩ : ∃ K, K = k + d + 1 := ⟨_, rfl⟩
      rw [← hK]
      conv => lhs; rw [impl_natMul.l1]
      rw [e1, e2, if_pos (by omega), if_pos (by omega), if_pos (by omega), if_pos (by omega), if_pos (by omega), e_rd0, e_rd0, w1, w2, w3, Int.toNat_natCast]
    · rw [f5, MN.val_set (by omega), drop_val b j (by omega), show i + (j + 1) = (i + j) + 1 by omega, MN.pw_succ]
      exact step_val _ _ _ _ _ _ _ _ hs
theorem e_sMul_out (a b : List Int) (ha : MN.DOk a) (hb : MN.DOk b) (la : a.length ≤ 1024) (lb : b.length ≤ 256) (n : Nat) (hn : a.length + b.length ≤ n ∧ n ≤ 1300) : ∀ (d k : Nat) (x : List Int) (i : Nat), i + d = a.length → x.length = n → MN.DOk x → MN.val x = MN.val (a.take i) * MN.val b → (∀ m, i + b.length ≤ m → x.getD m 0 = 0) →
    ∃ y, spec_l5Mul.l0 (k + d * (b.length + 2) + 1) a b x (i : Int) = (spec_l5Trim.f k y).bind some ∧ y.length = n ∧ MN.DOk y ∧ MN.val y = MN.val a * MN.val b := by
  intro d
  induction d with
  | zero =>
    intro k x i hi hx hd hv hz
    have : i = a.length := by omega
    subst this
    rw [List.take_length] at hv
    refine ⟨x, ?_, hx, hd, hv⟩
    rw [show k + 0 * (b.length + 2) + 1 = k + 1 by omega]
    simp only [spec_l5Mul.l0]
    rw [if_neg (by omega)]
  | succ d ih =>
    intro k x i hi hx hd hv hz
    obtain ⟨x', c', f1, f2, f3, f4, f5, f6⟩ := e_sMul_in a b ha hb la lb i n (by omega) (by omega) b.length (k + d * (b.length + 2) + 1) x 0 0 (by omega) hx hd (by omega) hz
    have hv2 : MN.val (x'.set (i + b.length) c') = MN.val (a.take (i + 1)) * MN.val b := by
      rw [MN.val_set (by omega), f6 _ (Nat.le_refl _), take_val a i (by omega)]
      rw [hv, List.drop_zero] at f5
      simp only [Nat.add_zero] at f5
      grind
    obtain ⟨y, g1, g2, g3, g4⟩ := ih k (x'.set (i + b.length) c') (i + 1) (by omega) (by rw [List.length_set]; exact f2) (f3.set _ f4.1 f4.2) hv2
      (fun m hm => by rw [getD_set_ne _ _ _ _ (by omega)]; exact f6 m (by omega))
    refine ⟨y, ?_, g2, g3, g4⟩
    rw [← g1, ← f1, show k + (d + 1) * (b.length + 2) + 1 = (k + d * (b.length + 2) + 1 + b.length + 1) + 1 by rw [Nat.succ_mul]; omega]
    obtain ⟨K, hK⟩ : ∃ K, K = k + d * (b.length + 2) + 1 + b.length + 1 := ⟨_, rfl⟩
    rw [← hK]
    conv => lhs; rw [spec_l5Mul.l0]
    rw [if_pos (by omega)]; rfl
theorem e_iMul_out (a b : List Int) (ha : MN.DOk a) (hb : MN.DOk b) (la : a.length ≤ 1024) (lb : b.length ≤ 256) (n : Nat) (hn : a.length + b.length ≤ n ∧ n ≤ 1300) : ∀ (d k : Nat) (x : List Int) (i : Nat), i + d = a.length → x.length = n → MN.DOk x → MN.val x = MN.val (a.take i) * MN.val b → (∀ m, i + b.length ≤ m → x.getD m 0 = 0) →
    ∃ y, impl_natMul.l0 (k + d * (b.length + 2) + 1) b x a (a.length : Int) (i : Int) = (impl_trim.f k y).bind some ∧ y.length = n ∧ MN.DOk y ∧ MN.val y = MN.val a * MN.val b := by
  intro d
  induction d with
  | zero =>
    intro k x i hi hx hd hv hz
    have : i = a.length := by omega
    subst this
    rw [List.take_length] at hv
    refine ⟨x, ?_, hx, hd, hv⟩
    rw [show k + 0 * (b.length + 2) + 1 = k + 1 by omega]
    simp only [impl_natMul.l0]
    rw [if_neg (by omega)]
  | succ d ih =>
    intro k x i hi hx hd hv hz
    obtain ⟨x', c', f1, f2, f3, f4, f5, f6⟩ := e_iMul_in a b ha hb la lb i n (by omega) (by omega) b.length (k + d * (b.length + 2) + 1) x 0 0 (by omega) hx hd (by omega) hz
    have hv2 : MN.val (x'.set (i + b.length) c') = MN.val (a.take (i + 1)) * MN.val b := by
      rw [MN.val_set (by omega), f6 _ (Nat.le_refl _), take_val a i (by omega)]
      rw [hv, List.drop_zero] at f5
      simp only [Nat.add_zero] at f5
      grind
    obtain ⟨y, g1, g2, g3, g4⟩ := ih k (x'.set (i + b.length) c') (i + 1) (by omega) (by rw [List.length_set]; exact f2) (f3.set _ f4.1 f4.2) hv2
      (fun m hm => by rw [getD_set_ne _ _ _ _ (by omega)]; exact f6 m (by omega))
    refine ⟨y, ?_, g2, g3, g4⟩
    rw [← g1, ← f1, show k + (d + 1) * (b.length + 2) + 1 = (k + d * (b.length + 2) + 1 + b.length + 1) + 1 by rw [Nat.succ_mul]; omega]
    obtain ⟨K, hK⟩ : ∃ K, K = k + d * (b.length + 2) + 1 + b.length + 1 := ⟨_, rfl⟩
    rw [← hK]
    conv => lhs; rw [impl_natMul.l0]
    rw [if_pos (by omega), if_pos (by omega), if_pos (by omega), e_rd0]; rfl
theorem e_sMul (k : Nat) (a b : List Int) (ha : MN.DOk a) (hb : MN.DOk b) (la : a.length ≤ 1024) (lb : b.length ≤ 256) (hk : 300000 ≤ k) : ∃ y, spec_l5Mul.f k a b = some (MN.trimD y) ∧ y.length ≤ 1300 ∧ MN.DOk y ∧ MN.val y = MN.val a * MN.val b := by
  have e1 : wrap64 ((a.length : Int) + (b.length : Int)) = ((a.length + b.length : Nat) : Int) := by unfold wrap64; omega
  have hfu : a.length * (b.length + 2) ≤ 1024 * 258 := Nat.mul_le_mul la (by omega)
  obtain ⟨K, hK⟩ : ∃ K, k = K + a.length * (b.length + 2) + 1 := ⟨k - a.length * (b.length + 2) - 1, by omega⟩
  obtain ⟨y, g1, g2, g3, g4⟩ := e_sMul_out a b ha hb la lb (a.length + b.length) (by omega) a.length K (List.replicate (a.length + b.length) 0) 0 (by omega) (by simp) (MN.DOk.replicate _) (by rw [MN.val_replicate]; simp [MN.val])
    (fun m _ => by rw [List.getD_eq_getElem?_getD, List.getElem?_replicate]; split <;> rfl)
  refine ⟨y, ?_, by omega, g3, g4⟩
  unfold spec_l5Mul.f
  rw [e1, if_pos (by omega), if_pos (by omega), Int.toNat_natCast, hK]
  rw [show ((0 : Nat) : Int) = 0 from rfl] at g1
  rw [g1, e_sTrim K y (by omega) (by omega)]; rfl
theorem e_iMul (k : Nat) (a b : List Int) (ha : MN.DOk a) (hb : MN.DOk b) (la : a.length ≤ 1024) (lb : b.length ≤ 256) (hk : 300000 ≤ k) : ∃ y, impl_natMul.f k a b = some (MN.trimD y) ∧ y.length ≤ 1300 ∧ MN.DOk y ∧ MN.val y = MN.val a * MN.val b := by
  have e1 : wrap64 (wrap64 ((a.length : Int) + (b.length : Int)) + 1) = ((a.length + b.length + 1 : Nat) : Int) := by unfold wrap64; omega
  have hfu : a.length * (b.length + 2) ≤ 1024 * 258 := Nat.mul_le_mul la (by omega)
  obtain ⟨K, hK⟩ : ∃ K, k = K + a.length * (b.length + 2) + 1 := ⟨k - a.length * (b.length + 2) - 1, by omega⟩
  obtain ⟨y, g1, g2, g3, g4⟩ := e_iMul_out a b ha hb la lb (a.length + b.length + 1) (by omega) a.length K (List.replicate (a.length + b.length + 1) 0) 0 (by omega) (by simp) (MN.DOk.replicate _) (by rw [MN.val_replicate]; simp [MN.val])
    (fun m _ => by rw [List.getD_eq_getElem?_getD, List.getElem?_replicate]; split <;> rfl)
  refine ⟨y, ?_, by omega, g3, g4⟩
  unfold impl_natMul.f
  rw [e1, if_pos (by omega), if_pos (by omega), Int.toNat_natCast, hK]
  rw [show ((0 : Nat) : Int) = 0 from rfl] at g1
  rw [g1, e_iTrim K y (by omega) (by omega)]; rfl
theorem leO_add {α : Type} {f : Nat → Option α} (h : ∀ k, LeO (f k) (f (k + 1))) (k : Nat) : ∀ n, LeO (f k) (f (k + n)) := by
  intro n
  induction n with
  | zero => exact LeO.refl _
  | succ n ih => exact LeO.trans ih (h (k + n))
theorem take_val' (a : List Int) (i : Nat) : MN.val (a.take (i + 1)) = MN.val (a.take i) + MN.pw i * a.getD i 0 := by
  by_cases hi : i < a.length
  · exact take_val a i hi
  · rw [List.take_of_length_le (by omega), List.take_of_length_le (by omega), List.getD_eq_getElem?_getD, List.getElem?_eq_none (by omega)]; simp
theorem dok_of {x : List Int} (h : ∀ m, m < x.length → 0 ≤ x.getD m 0 ∧ x.getD m 0 < 65536) : MN.DOk x := by
  intro d hd
  obtain ⟨i, hi, rfl⟩ := List.getElem_of_mem hd
  have := h i hi
  rwa [List.getD_eq_getElem?_getD, List.getElem?_eq_getElem hi, Option.getD_some] at this
theorem getD_set_eq (x : List Int) (i : Nat) (v : Int) (h : i < x.length) : (x.set i v).getD i 0 = v := by
  rw [List.getD_eq_getElem?_getD, List.getElem?_set_self h]; rfl
theorem at_eat (b : List Int) (i : Nat) : spec_l5At.f b (i : Int) = some (b.getD i 0) := by
  unfold spec_l5At.f
  by_cases c : (i : Int) < b.length
  · rw [if_pos c, if_pos (by omega), e_rd0]
  · rw [if_neg c, List.getD_eq_getElem?_getD, List.getElem?_eq_none (by omega)]; rfl
theorem algA (A P x y c VA VB s : Int) (h : A + c * P = VA + VB) (hs : s = x + y + c) : A + P * (s % 65536 + 65536 * 0) + (s / 65536) * (65536 * P) = (VA + P * x) + (VB + P * y) := by
  have h2 : s = 65536 * (s / 65536) + s % 65536 := (Int.mul_ediv_add_emod s 65536).symm
  generalize s / 65536 = q at *
  generalize s % 65536 = r at *
  grind
theorem sAdd_w (x y c : Int) (hx : 0 ≤ x ∧ x < 65536) (hy : 0 ≤ y ∧ y < 65536) (hc : c = 0 ∨ c = 1) : ∃ s, s = x + y + c ∧ 0 ≤ s ∧ s ≤ 131071 ∧ wrap64 (wrap64 (x + y) + c) = s ∧ Int.tmod s 65536 = s % 65536 ∧ wrap64 (Int.tdiv s 65536) = s / 65536 ∧ (s / 65536 = 0 ∨ s / 65536 = 1) := by
  refine ⟨x + y + c, rfl, by omega, by omega, by unfold wrap64; omega, Int.tmod_eq_emod_of_nonneg (by omega), ?_, by omega⟩
  rw [Int.tdiv_eq_ediv_of_nonneg (by omega)]; unfold wrap64; omega
theorem e_sAdd_l (a b : List Int) (ha : MN.DOk a) (hb : MN.DOk b) (n : Nat) (hn : n ≤ 1024) : ∀ (d k : Nat) (acc : List Int) (c : Int) (i : Nat), i + d = n → acc.length = i → MN.DOk acc → (c = 0 ∨ c = 1) → MN.val acc + c * MN.pw i = MN.val (a.take i) + MN.val (b.take i) →
    ∃ (y : List Int) (c' : Int), spec_l5Add.l0 (k + d + 1) a b (n : Int) acc c (i : Int) = some (if c' > 0 then y ++ [c'] else y) ∧ y.length = n ∧ MN.DOk y ∧ (c' = 0 ∨ c' = 1) ∧ MN.val y + c' * MN.pw n = MN.val (a.take n) + MN.val (b.take n) := by
  intro d
  induction d with
  | zero =>
    intro k acc c i hi hl hd hc hv
    have : i = n := by omega
    subst this
    refine ⟨acc, c, ?_, hl, hd, hc, hv⟩
    rw [show k + 0 + 1 = k + 1 from rfl]
    simp only [spec_l5Add.l0]
    rw [if_neg (by omega)]
    by_cases h : c > 0
    · rw [if_pos h, if_pos h, if_pos (by omega)]
    · rw [if_neg h, if_neg h]
  | succ d ih =>
    intro k acc c i hi hl hd hc hv
    have e2 : wrap64 ((i : Int) + 1) = ((i + 1 : Nat) : Int) := by clear hv; unfold wrap64; omega
    obtain ⟨s, s1, s2, s3, s4, s5, s6, s7⟩ := sAdd_w (a.getD i 0) (b.getD i 0) c (ha.getD i) (hb.getD i) hc
    have st : spec_l5Add.l0 ((k + d + 1) + 1) a b (n : Int) acc c (i : Int) = spec_l5Add.l0 (k + d + 1) a b (n : Int) (acc ++ [s % 65536]) (s / 65536) ((i + 1 : Nat) : Int) := by
      obtain ⟨K, hK⟩ : ∃ K, K = k + d + 1 := ⟨_, rfl⟩
      rw [← hK]
      conv => lhs; rw [spec_l5Add.l0]
      rw [if_pos (by clear hv; omega), at_eat, Option.bind_some, at_eat, Option.bind_some, if_pos (by clear hv; omega), s4, s5, s6, e2]
    obtain ⟨y, c', g1, g⟩ := ih k (acc ++ [s % 65536]) (s / 65536) (i + 1) (by clear hv; omega) (by rw [List.length_append]; simp; clear hv; omega) (hd.append (MN.DOk.cons (by clear hv; omega) (by clear hv; omega) MN.DOk.nil)) s7 (by
      rw [MN.val_append, hl, MN.pw_succ, take_val' a i, take_val' b i]
      simp only [MN.val]
      exact algA _ _ _ _ _ _ _ _ hv s1)
    exact ⟨y, c', (show k + (d + 1) + 1 = (k + d + 1) + 1 from rfl) ▸ st.trans g1, g⟩
theorem can_last {y : List Int} (h : MN.DOk y) (hv : y ≠ [] → MN.pw (y.length - 1) ≤ MN.val y) : MN.Can y := by
  refine ⟨h, fun e => ?_⟩
  obtain ⟨z, rfl⟩ := List.getLast?_eq_some_iff.mp e
  have h1 := hv (by simp)
  rw [MN.val_append] at h1
  have h2 := MN.val_lt h.left
  have : (z ++ [0]).length - 1 = z.length := by simp
  rw [this] at h1
  simp [MN.val] at h1
  omega
theorem e_sAdd_n (k : Nat) (a b : List Int) (n : Nat) (ca : MN.Can a) (cb : MN.Can b) (la : a.length ≤ n) (lb : b.length ≤ n) (hn : n ≤ 1024) (hm : a.length = n ∨ b.length = n) (hk : 1100 ≤ k) :
    ∃ y, spec_l5Add.j0 k a b (n : Int) = some y ∧ y.length ≤ 1025 ∧ MN.Can y ∧ MN.val y = MN.val a + MN.val b := by
  obtain ⟨K, rfl⟩ : ∃ K, k = (K + n + 1) + 1 := ⟨k - n - 2, by omega⟩
  obtain ⟨y, c, g1, g2, g3, g4, g5⟩ := e_sAdd_l a b ca.1 cb.1 n hn n K [] 0 0 (by omega) rfl MN.DOk.nil (.inl rfl) (by simp [MN.val])
  rw [List.take_of_length_le la, List.take_of_length_le lb] at g5
  have va := MN.val_nonneg ca.1
  have vb := MN.val_nonneg cb.1
  have hp := MN.pw_pos n
  rw [spec_l5Add.j0]
  rcases g4 with h | h
  · subst h
    rw [if_neg (by omega)] at g1
    refine ⟨y, g1, by omega, can_last g3 (fun hne => ?_), by omega⟩
    have hne2 : y.length ≠ 0 := fun e => hne (List.eq_nil_of_length_eq_zero e)
    rw [g2] at hne2 ⊢
    rcases hm with h | h
    · have := ca.pos (by intro e; rw [e] at h; simp at h; omega)
      rw [h] at this; omega
    · have := cb.pos (by intro e; rw [e] at h; simp at h; omega)
      rw [h] at this; omega
  · subst h
    rw [if_pos (by omega)] at g1
    refine ⟨y ++ [1], g1, by rw [List.length_append]; simp; omega, ⟨g3.append (MN.DOk.cons (by omega) (by omega) MN.DOk.nil), by simp⟩, ?_⟩
    rw [MN.val_append, g2]
    simp only [MN.val]
    omega
theorem e_sAdd (k : Nat) (a b : List Int) (ca : MN.Can a) (cb : MN.Can b) (la : a.length ≤ 1024) (lb : b.length ≤ 1024) (hk : 1100 ≤ k) :
    ∃ y, spec_l5Add.f k a b = some y ∧ y.length ≤ 1025 ∧ MN.Can y ∧ MN.val y = MN.val a + MN.val b := by
  unfold spec_l5Add.f
  by_cases h : (b.length : Int) > (a.length : Int)
  · rw [if_pos h]
    exact e_sAdd_n k a b b.length ca cb (by omega) (by omega) lb (.inr rfl) hk
  · rw [if_neg h]
    exact e_sAdd_n k a b a.length ca cb (by omega) (by omega) la (.inl rfl) hk
theorem iAdd_eq0 (K : Nat) (x b : List Int) (n i : Int) (h0 : i < n) (h1 : 0 ≤ i) (h2 : i < (b.length : Int)) (h3 : i < (x.length : Int)) :
    impl_natAdd.l0 (K + 1) x b n i = impl_natAdd.l0 K (x.set i.toNat (wrap64 (rd x i + rd b i))) b n (wrap64 (i + 1)) := by
  conv => lhs; rw [impl_natAdd.l0]
  rw [if_pos h0, if_pos h1, if_pos h2, if_pos h3]
theorem iAdd_eq1 (K : Nat) (x : List Int) (n i : Int) (h0 : i < n) (h1 : 0 ≤ wrap64 (i + 1)) (h2 : wrap64 (i + 1) < (x.length : Int)) (h3 : 0 ≤ i) (h4 : i < (x.length : Int)) :
    impl_natAdd.l1 (K + 1) x n i = impl_natAdd.l1 K ((x.set (wrap64 (i + 1)).toNat (wrap64 (rd x (wrap64 (i + 1)) + rd x i / 65536))).set i.toNat (Go.bits .and .i64 (rd (x.set (wrap64 (i + 1)).toNat (wrap64 (rd x (wrap64 (i + 1)) + rd x i / 65536))) i) 65535)) n (wrap64 (i + 1)) := by
  conv => lhs; rw [impl_natAdd.l1]
  rw [if_pos h0, if_pos h1, if_pos h2, if_pos h3, if_pos h4, Option.bind_some]
theorem algB (VA VB P x y : Int) : VA + VB + P * (x + y - x) = VA + (VB + P * y) := by grind
theorem algC (V P x0 x1 : Int) : V + 65536 * P * (x1 + x0 / 65536 - x1) + P * (x0 % 65536 - x0) = V := by
  have h2 : x0 = 65536 * (x0 / 65536) + x0 % 65536 := (Int.mul_ediv_add_emod x0 65536).symm
  generalize x0 / 65536 = q at *
  generalize x0 % 65536 = r at *
  subst h2
  grind
theorem wr_ab (x y : Int) (hx : 0 ≤ x ∧ x ≤ 65535) (hy : 0 ≤ y ∧ y < 65536) : wrap64 (x + y) = x + y := by unfold wrap64; omega
theorem wr_c (x y : Int) (hx : 0 ≤ x ∧ x ≤ 131071) (hy : 0 ≤ y ∧ y ≤ 131071) : wrap64 (x + y / 65536) = x + y / 65536 := by unfold wrap64; omega
theorem e_iAdd_1 (b : List Int) (hb : MN.DOk b) (N : Nat) (hN : b.length < N) (hN2 : N ≤ 1025) (VA : Int) : ∀ (d k : Nat) (x : List Int) (i : Nat), i + d = b.length → x.length = N → (∀ m, 0 ≤ x.getD m 0 ∧ x.getD m 0 ≤ 131070) → (∀ m, i ≤ m → x.getD m 0 ≤ 65535) → x.getD (N - 1) 0 = 0 → MN.val x = VA + MN.val (b.take i) →
    ∃ y, impl_natAdd.l0 (k + d + 1) x b (b.length : Int) (i : Int) = impl_natAdd.l1 k y (wrap64 ((y.length : Int) - 1)) 0 ∧ y.length = N ∧ MN.val y = VA + MN.val b ∧ (∀ m, 0 ≤ y.getD m 0 ∧ y.getD m 0 ≤ 131070) ∧ y.getD (N - 1) 0 = 0 := by
  intro d
  induction d with
  | zero =>
    intro k x i hi hl hr hz h9 hv
    have : i = b.length := by clear hv; omega
    subst this
    refine ⟨x, ?_, hl, by rwa [List.take_length] at hv, hr, h9⟩
    rw [show k + 0 + 1 = k + 1 from rfl]
    simp only [impl_natAdd.l0]
    rw [if_neg (by clear hv; omega)]
  | succ d ih =>
    intro k x i hi hl hr hz h9 hv
    have e2 : wrap64 ((i : Int) + 1) = ((i + 1 : Nat) : Int) := by clear hv; unfold wrap64; omega
    have rx : 0 ≤ x.getD i 0 ∧ x.getD i 0 ≤ 65535 := ⟨(hr i).1, hz i (Nat.le_refl _)⟩
    have rb := hb.getD i
    have w1 := wr_ab _ _ rx rb
    have h4 : i < x.length := by clear hv; omega
    have st := iAdd_eq0 (k + d + 1) x b (b.length : Int) (i : Int) (by clear hv; omega) (Int.natCast_nonneg i) (by clear hv; omega) (by clear hv; omega)
    rw [e2, e_rd0, e_rd0, w1, Int.toNat_natCast] at st
    have hr2 : ∀ m, 0 ≤ (x.set i (x.getD i 0 + b.getD i 0)).getD m 0 ∧ (x.set i (x.getD i 0 + b.getD i 0)).getD m 0 ≤ 131070 := by
      intro m
      by_cases c : i = m
      · subst c; rw [getD_set_eq _ _ _ h4]; clear hv; omega
      · rw [getD_set_ne _ _ _ _ c]; exact hr m
    obtain ⟨y, g1, g⟩ := ih k (x.set i (x.getD i 0 + b.getD i 0)) (i + 1) (by clear hv; omega) (by rw [List.length_set]; exact hl) hr2
      (fun m hm => by rw [getD_set_ne _ _ _ _ (by clear hv; omega)]; exact hz m (by clear hv; omega))
      (by rw [getD_set_ne _ _ _ _ (by clear hv; omega)]; exact h9) (by
      rw [MN.val_set h4, hv, take_val' b i]; exact algB _ _ _ _ _)
    exact ⟨y, (show k + (d + 1) + 1 = (k + d + 1) + 1 from rfl) ▸ st.trans g1, g⟩
theorem e_iAdd_2 (N : Nat) (hN : 0 < N) (hN2 : N ≤ 1025) (V : Int) : ∀ (d k : Nat) (x : List Int) (i : Nat), i + d = N - 1 → x.length = N → (∀ m, m < i → 0 ≤ x.getD m 0 ∧ x.getD m 0 < 65536) → (0 ≤ x.getD i 0 ∧ x.getD i 0 ≤ 131071) → (∀ m, i < m → 0 ≤ x.getD m 0 ∧ x.getD m 0 ≤ 131070) → (x.getD (N - 1) 0 ≤ 1) → (i < N - 1 → x.getD (N - 1) 0 = 0) → MN.val x = V →
    ∃ y, impl_natAdd.l1 (k + d + 1) x ((N - 1 : Nat) : Int) (i : Int) = (impl_trim.f k y).bind some ∧ y.length = N ∧ MN.DOk y ∧ MN.val y = V := by
  intro d
  induction d with
  | zero =>
    intro k x i hi hl h1 h2 h3 h4 h5 hv
    have : i = N - 1 := by clear hv; omega
    subst this
    refine ⟨x, ?_, hl, dok_of (fun m hm => ?_), hv⟩
    · rw [show k + 0 + 1 = k + 1 from rfl]
      simp only [impl_natAdd.l1]
      rw [if_neg (by clear hv; omega)]
    · by_cases c : m < N - 1
      · exact h1 m c
      · have : m = N - 1 := by clear hv; omega
        subst this
        exact ⟨h2.1, by clear hv; omega⟩
  | succ d ih =>
    intro k x i hi hl h1 h2 h3 h4 h5 hv
    have e2 : wrap64 ((i : Int) + 1) = ((i + 1 : Nat) : Int) := by clear hv; unfold wrap64; omega
    have q1 : i + 1 < x.length := by clear hv; omega
    have q0 : i < x.length := by clear hv; omega
    have r1 := h3 (i + 1) (Nat.lt_succ_self i)
    have w1 := wr_c (x.getD (i + 1) 0) (x.getD i 0) ⟨r1.1, by clear hv; omega⟩ h2
    have g1 : (x.set (i + 1) (x.getD (i + 1) 0 + x.getD i 0 / 65536)).getD i 0 = x.getD i 0 := getD_set_ne _ _ _ _ (by clear hv; omega)
    have m1 : Go.bits .and .i64 (x.getD i 0) 65535 = x.getD i 0 % 65536 := i64_mask16 _ h2.1 (by clear hv; omega)
    have st := iAdd_eq1 (k + d + 1) x ((N - 1 : Nat) : Int) (i : Int) (by clear hv; omega) (by rw [e2]; exact Int.natCast_nonneg _) (by rw [e2]; clear hv; omega) (Int.natCast_nonneg i) (by clear hv; omega)
    rw [e2, e_rd0, e_rd0, w1, Int.toNat_natCast, Int.toNat_natCast, e_rd0, g1, m1] at st
    obtain ⟨z, hz⟩ : ∃ z, z = (x.set (i + 1) (x.getD (i + 1) 0 + x.getD i 0 / 65536)).set i (x.getD i 0 % 65536) := ⟨_, rfl⟩
    rw [← hz] at st
    have hzl : z.length = N := by rw [hz, List.length_set, List.length_set]; exact hl
    have z0 : z.getD i 0 = x.getD i 0 % 65536 := by rw [hz, getD_set_eq _ _ _ (by rw [List.length_set]; exact q0)]
    have z1 : z.getD (i + 1) 0 = x.getD (i + 1) 0 + x.getD i 0 / 65536 := by rw [hz, getD_set_ne _ _ _ _ (by clear hv; omega), getD_set_eq _ _ _ q1]
    have z2 : ∀ m, m ≠ i → m ≠ i + 1 → z.getD m 0 = x.getD m 0 := fun m ha hb => by rw [hz, getD_set_ne _ _ _ _ (Ne.symm ha), getD_set_ne _ _ _ _ (Ne.symm hb)]
    have zv : MN.val z = V := by
      rw [hz, MN.val_set (by rw [List.length_set]; exact q0), g1, MN.val_set q1, hv, MN.pw_succ]; exact algC _ _ _ _
    clear hz
    obtain ⟨y, g1', g⟩ := ih k z (i + 1) (by clear hv zv; omega) hzl
      (fun m hm => by
        by_cases c : m = i
        · subst c; rw [z0]; clear hv zv; omega
        · rw [z2 m c (by clear hv zv; omega)]; exact h1 m (by clear hv zv; omega))
      (by rw [z1]; clear hv zv; omega)
      (fun m hm => by rw [z2 m (by clear hv zv; omega) (by clear hv zv; omega)]; exact h3 m (by clear hv zv; omega))
      (by
        by_cases c : N - 1 = i + 1
        · rw [c, z1, ← c, h5 (by clear hv zv; omega)]; clear hv zv; omega
        · rw [z2 _ (by clear hv zv; omega) c]; exact h4)
      (fun hi2 => by rw [z2 _ (by clear hv zv; omega) (by clear hv zv; omega)]; exact h5 (by clear hv zv; omega)) zv
    exact ⟨y, (show k + (d + 1) + 1 = (k + d + 1) + 1 from rfl) ▸ st.trans g1', g⟩
theorem getD_app (a : List Int) (n m : Nat) : (a ++ List.replicate n 0).getD m 0 = a.getD m 0 := by
  rw [List.getD_eq_getElem?_getD, List.getD_eq_getElem?_getD, List.getElem?_append]
  split
  · rfl
  · rw [List.getElem?_replicate, List.getElem?_eq_none (by omega)]; split <;> rfl
theorem e_iAdd (k : Nat) (a b : List Int) (ha : MN.DOk a) (hb : MN.DOk b) (la : a.length ≤ 1024) (lb : b.length ≤ 1024) (hk : 6000 ≤ k) :
    ∃ y, impl_natAdd.f k a b = some (MN.trimD y) ∧ y.length ≤ 1025 ∧ MN.DOk y ∧ MN.val y = MN.val a + MN.val b := by
  obtain ⟨M, hM⟩ : ∃ M : Nat, mx (a.length : Int) (b.length : Int) = (M : Int) ∧ a.length ≤ M ∧ b.length ≤ M ∧ M ≤ 1024 := by
    unfold mx; split
    · exact ⟨b.length, rfl, by omega, by omega, by omega⟩
    · exact ⟨a.length, rfl, by omega, by omega, by omega⟩
  obtain ⟨hM0, hM1, hM2, hM3⟩ := hM
  have e1 : wrap64 ((M : Int) + 1) = ((M + 1 : Nat) : Int) := by unfold wrap64; omega
  obtain ⟨K, hK⟩ : ∃ K, k = (K + M + 1) + b.length + 1 := ⟨k - M - b.length - 2, by omega⟩
  have ra := fun m => ha.getD m
  obtain ⟨x0, hx0⟩ : ∃ x0, x0 = a ++ List.replicate (M + 1 - a.length) (0 : Int) := ⟨_, rfl⟩
  have g0 : ∀ m, x0.getD m 0 = a.getD m 0 := fun m => by rw [hx0]; exact getD_app a _ m
  have l0 : x0.length = M + 1 := by rw [hx0, List.length_append, List.length_replicate]; omega
  have v0 : MN.val x0 = MN.val a := by rw [hx0, MN.val_append, MN.val_replicate]; simp
  obtain ⟨x, f1, f2, f3, f4, f5⟩ := e_iAdd_1 b hb (M + 1) (by omega) (by omega) (MN.val a) b.length (K + M + 1) x0 0 (by omega) l0 (fun m => by rw [g0]; have := ra m; omega) (fun m _ => by rw [g0]; have := ra m; omega)
    (by rw [g0, List.getD_eq_getElem?_getD, List.getElem?_eq_none (by omega)]; rfl) (by rw [v0]; simp [MN.val])
  obtain ⟨y, g1, g2, g3, g4⟩ := e_iAdd_2 (M + 1) (by omega) (by omega) (MN.val a + MN.val b) M K x 0 (by omega) f2 (fun m hm => absurd hm (Nat.not_lt_zero m)) ⟨(f4 0).1, Int.le_trans (f4 0).2 (by decide)⟩ (fun m _ => f4 m) (by rw [f5]; decide) (fun _ => f5) f3
  refine ⟨y, ?_, by omega, g3, g4⟩
  unfold impl_natAdd.f impl_natAdd.g
  have e3 : wrap64 ((x.length : Int) - 1) = ((M + 1 - 1 : Nat) : Int) := by clear f3 g4 v0; unfold wrap64; omega
  rw [show ((0 : Nat) : Int) = 0 from rfl] at f1 g1
  have e4 : a ++ (List.replicate (M + 1) (0 : Int)).drop a.length = x0 := by rw [hx0, List.drop_replicate]
  rw [hM0, e1, if_pos (by clear f3 g4 v0; omega), if_pos (by clear f3 g4 v0; omega), Int.toNat_natCast, if_pos (by rw [List.length_replicate]; clear f3 g4 v0; omega), e4, hK, f1, e3, g1, e_iTrim K y (by clear f3 g4 v0; omega) (by clear f3 g4 v0; omega)]; rfl
theorem pw_nat (n : Nat) : MN.pw n = ((65536 ^ n : Nat) : Int) := by unfold MN.pw; rw [Int.natCast_pow]; rfl
theorem ten_nat (n : Nat) : (10 : Int) ^ n = ((10 ^ n : Nat) : Int) := by rw [Int.natCast_pow]; rfl
theorem ten_hundred : (10 : Nat) ^ 100 ≤ 65536 ^ 21 := by decide
theorem ten_many (m : Nat) : (10 : Nat) ^ (100 * m) ≤ 65536 ^ (21 * m) := by
  rw [Nat.pow_mul, Nat.pow_mul]
  exact Nat.pow_le_pow_left ten_hundred m
theorem ten_le (i : Nat) (h : i ≤ 1300) : (10 : Int) ^ i ≤ MN.pw 273 := by
  obtain ⟨m, hm⟩ : ∃ m, m = 13 := ⟨_, rfl⟩
  have h1 : (10 : Nat) ^ i ≤ 10 ^ (100 * m) := Nat.pow_le_pow_right (by decide) (by omega)
  rw [ten_nat i, pw_nat, show 273 = 21 * m by omega]
  exact Int.ofNat_le.mpr (Nat.le_trans h1 (ten_many m))
/-- A figure at a place. -/
def Dig (s : ByteArray) (m : Nat) : Prop := 48 ≤ bt s (m : Int) ∧ bt s (m : Int) ≤ 57
theorem can_ten : MN.Can [10] := ⟨MN.DOk.cons (by omega) (by omega) MN.DOk.nil, by simp⟩
theorem read_len {out : List Int} {i : Nat} (hc : MN.Can out) (hv : MN.val out < 10 ^ i) (hi : i ≤ 1300) : out.length ≤ 273 := hc.len_le (Int.lt_of_lt_of_le hv (ten_le i hi))
theorem read_step (s : ByteArray) (n i : Nat) (hn : s.size = n) (hn2 : n ≤ 1300) (hi : i < n) (hd : Dig s i) (out : List Int) (hc : MN.Can out) (hv : MN.val out < 10 ^ i) (k k' : Nat) (hk : 400000 ≤ k) (hk' : 400000 ≤ k') :
    ∃ z, MN.Can z ∧ MN.val z < 10 ^ (i + 1) ∧ spec_NatRead.l0 (k + 2) s out (i : Int) = spec_NatRead.l0 k s z ((i + 1 : Nat) : Int) ∧ impl_natRead.l0 (k' + 1) s out (n : Int) (i : Int) = impl_natRead.l0 k' s z (n : Int) ((i + 1 : Nat) : Int) := by
  have hl := read_len hc hv (by omega)
  obtain ⟨d1, d2⟩ := hd
  obtain ⟨c, hcv⟩ : ∃ c, c = bt s (i : Int) := ⟨_, rfl⟩
  rw [← hcv] at d1 d2
  have e2 : wrap64 ((i : Int) + 1) = ((i + 1 : Nat) : Int) := by clear hv; unfold wrap64; omega
  have em : (c - 48) % 256 = c - 48 := by clear hv; omega
  obtain ⟨ys, s1, s2, s3, s4⟩ := e_sMul k out [10] hc.1 can_ten.1 (by clear hv; omega) (by simp) (by clear hv; omega)
  obtain ⟨yi, i1, i2, i3, i4⟩ := e_iMul k' out [10] hc.1 can_ten.1 (by clear hv; omega) (by simp) (by clear hv; omega)
  have ey : MN.trimD ys = MN.trimD yi := (MN.Can.trimD s3).inj (MN.Can.trimD i3) (by rw [MN.val_trimD, MN.val_trimD, s4, i4])
  have cy := MN.Can.trimD i3
  have ly := MN.trimD_length yi
  have vy : MN.val (MN.trimD yi) = MN.val out * 10 := by rw [MN.val_trimD, i4]; simp [MN.val]
  have hv2 : MN.val (MN.trimD yi) < 10 ^ (i + 1) := by rw [vy, Int.pow_succ]; omega
  have ly2 := read_len cy hv2 (by clear hv hv2; omega)
  obtain ⟨v, n1, n2, n3, n4⟩ := e_sNatOf k (c - 48) (by clear hv hv2; omega) (by clear hv hv2; omega) (by clear hv hv2; omega)
  obtain ⟨v', m1, m2, m3, m4⟩ := e_sNatOf k' (c - 48) (by clear hv hv2; omega) (by clear hv hv2; omega) (by clear hv hv2; omega)
  have ev : v' = v := m3.inj n3 (by rw [m4, n4])
  subst ev
  have m1' : impl_natOf.f k' (c - 48) = some v' := by
    unfold impl_natOf.f; rw [e_iNatOf_l _ _ _ (by clear hv hv2; omega) (by clear hv hv2; omega)]; exact m1
  obtain ⟨z, a1, a2, a3, a4⟩ := e_sAdd k (MN.trimD yi) v' cy m3 (by clear hv hv2; omega) (by clear hv hv2; omega) (by clear hv hv2; omega)
  obtain ⟨z', b1, b2, b3, b4⟩ := e_iAdd k' (MN.trimD yi) v' cy.1 m3.1 (by clear hv hv2; omega) (by clear hv hv2; omega) (by clear hv hv2; omega)
  have ez : MN.trimD z' = z := (MN.Can.trimD b3).inj a3 (by rw [MN.val_trimD, b4, a4])
  refine ⟨z, a3, ?_, ?_, ?_⟩
  · rw [a4, vy, m4, Int.pow_succ]; omega
  · rw [show k + 2 = (k + 1) + 1 from rfl, spec_NatRead.l0, if_pos (by clear hv hv2; omega), if_pos (by clear hv hv2; omega), ← hcv, if_neg (by clear hv hv2; omega), decide_eq_false (by clear hv hv2; omega)]
    rw [spec_NatRead.j2, if_neg (by decide)]
    unfold spec_l5Times.f
    rw [if_neg (by decide), s1, Option.bind_some, Option.bind_some, if_pos (by clear hv hv2; omega), if_pos (by clear hv hv2; omega), ← hcv, em, n1, Option.bind_some, ey, a1, Option.bind_some,
      e_sTrim k z (by clear hv hv2; omega) (by clear hv hv2; omega), Option.bind_some, MN.trimD_can a3, e2]
  · rw [impl_natRead.l0, if_pos (by clear hv hv2; omega), i1, Option.bind_some, if_pos (by clear hv hv2; omega), if_pos (by clear hv hv2; omega), ← hcv, em, m1', Option.bind_some, b1, Option.bind_some, ez, e2]
theorem read_all (s : ByteArray) (n : Nat) (hn : s.size = n) (hn2 : n ≤ 1300) : ∀ (d k k' : Nat) (out : List Int) (i : Nat), i + d = n → MN.Can out → MN.val out < 10 ^ i → (∀ m, i ≤ m → m < n → Dig s m) → 400001 + 2 * d < k → 400001 + d < k' →
    ∃ v, spec_NatRead.l0 k s out (i : Int) = some (toldOf v) ∧ impl_natRead.l0 k' s out (n : Int) (i : Int) = some v ∧ MN.Can v ∧ v.length ≤ 273 := by
  intro d
  induction d with
  | zero =>
    intro k k' out i hi hc hv hd hk hk'
    obtain ⟨k, rfl⟩ : ∃ q, k = q + 1 := ⟨k - 1, by clear hv; omega⟩
    obtain ⟨k', rfl⟩ : ∃ q, k' = q + 1 := ⟨k' - 1, by clear hv; omega⟩
    refine ⟨out, ?_, ?_, hc, read_len hc hv (by clear hv; omega)⟩
    · rw [spec_NatRead.l0, if_neg (by clear hv; omega)]
      have := e_sFits out
      rw [MN.trimD_can hc] at this
      rw [this, Option.bind_some]
    · rw [impl_natRead.l0, if_neg (by clear hv; omega)]
  | succ d ih =>
    intro k k' out i hi hc hv hd hk hk'
    obtain ⟨k, rfl⟩ : ∃ q, k = q + 2 := ⟨k - 2, by clear hv; omega⟩
    obtain ⟨k', rfl⟩ : ∃ q, k' = q + 1 := ⟨k' - 1, by clear hv; omega⟩
    obtain ⟨z, z1, z2, z3, z4⟩ := read_step s n i hn hn2 (by clear hv; omega) (hd i (Nat.le_refl _) (by clear hv; omega)) out hc hv k k' (by clear hv; omega) (by clear hv; omega)
    obtain ⟨v, g1, g2, g⟩ := ih k k' z (i + 1) (by clear hv z2; omega) z1 z2 (fun m h1 h2 => hd m (by clear hv z2; omega) h2) (by clear hv z2; omega) (by clear hv z2; omega)
    exact ⟨v, z3.trans g1, z4.trans g2, g⟩
theorem read_no (s : ByteArray) (n : Nat) (hn : s.size = n) (hn2 : n ≤ 1300) : ∀ (d k : Nat) (out : List Int) (i : Nat), i + d = n → MN.Can out → MN.val out < 10 ^ i → (∃ m, i ≤ m ∧ m < n ∧ ¬ Dig s m) → 400001 + 2 * d < k →
    spec_NatRead.l0 k s out (i : Int) = some ([], false) := by
  intro d
  induction d with
  | zero =>
    intro k out i hi hc hv hd hk
    obtain ⟨m, h1, h2, _⟩ := hd
    exfalso; clear hv; omega
  | succ d ih =>
    intro k out i hi hc hv hd hk
    obtain ⟨k, rfl⟩ : ∃ q, k = q + 2 := ⟨k - 2, by clear hv; omega⟩
    by_cases c : Dig s i
    · obtain ⟨z, z1, z2, z3, z4⟩ := read_step s n i hn hn2 (by clear hv; omega) c out hc hv k 400000 (by clear hv; omega) (Nat.le_refl _)
      rw [z3]
      obtain ⟨m, h1, h2, h3⟩ := hd
      refine ih k z (i + 1) (by clear hv z2; omega) z1 z2 ⟨m, ?_, h2, h3⟩ (by clear hv z2; omega)
      rcases Nat.lt_or_ge i m with h | h
      · exact h
      · have : m = i := by clear hv z2; omega
        subst this; exact absurd c h3
    · rw [show k + 2 = (k + 1) + 1 from rfl, spec_NatRead.l0, if_pos (by clear hv; omega), if_pos (by clear hv; omega)]
      unfold Dig at c
      by_cases c1 : bt s (i : Int) < 48
      · rw [if_pos c1, spec_NatRead.j2]; rfl
      · rw [if_neg c1, decide_eq_true (by clear hv; omega), spec_NatRead.j2]; rfl
theorem isDig_all (s : ByteArray) (n : Nat) (hn : s.size = n) (hp : 0 < n) (hn2 : n ≤ 1300) : ∀ (d k : Nat) (i : Nat), i + d = n → d < k → (∀ m, i ≤ m → m < n → Dig s m) → impl_isDigits.l0 k s (n : Int) (i : Int) = some true := by
  intro d
  induction d with
  | zero =>
    intro k i hi hk hd
    obtain ⟨k, rfl⟩ : ∃ q, k = q + 1 := ⟨k - 1, by omega⟩
    rw [impl_isDigits.l0, if_neg (by omega)]
    have : s.toList ≠ [] := by
      rw [Lib.toList_data]
      intro e
      have := congrArg List.length e
      have h2 : s.data.size = s.size := rfl
      rw [Array.length_toList, h2, hn, List.length_nil] at this
      omega
    simp [this]
  | succ d ih =>
    intro k i hi hk hd
    obtain ⟨k, rfl⟩ : ∃ q, k = q + 1 := ⟨k - 1, by omega⟩
    have e2 : wrap64 ((i : Int) + 1) = ((i + 1 : Nat) : Int) := by unfold wrap64; omega
    have c := hd i (Nat.le_refl _) (by omega)
    unfold Dig at c
    rw [impl_isDigits.l0, if_pos (by omega), if_pos (by omega), if_pos (by omega), if_neg (by omega), if_neg (by omega), e2]
    exact ih k (i + 1) (by omega) (by omega) (fun m h1 h2 => hd m (by omega) h2)
theorem isDig_no (s : ByteArray) (n : Nat) (hn : s.size = n) (hn2 : n ≤ 1300) : ∀ (d k : Nat) (i : Nat), i + d = n → d < k → (∃ m, i ≤ m ∧ m < n ∧ ¬ Dig s m) → impl_isDigits.l0 k s (n : Int) (i : Int) = some false := by
  intro d
  induction d with
  | zero =>
    intro k i hi hk hd
    obtain ⟨m, h1, h2, _⟩ := hd
    omega
  | succ d ih =>
    intro k i hi hk hd
    obtain ⟨k, rfl⟩ : ∃ q, k = q + 1 := ⟨k - 1, by omega⟩
    have e2 : wrap64 ((i : Int) + 1) = ((i + 1 : Nat) : Int) := by unfold wrap64; omega
    rw [impl_isDigits.l0, if_pos (by omega), if_pos (by omega), if_pos (by omega)]
    by_cases c1 : bt s (i : Int) < 48
    · rw [if_pos c1]
    · by_cases c2 : bt s (i : Int) > 57
      · rw [if_neg c1, if_pos c2]
      · rw [if_neg c1, if_neg c2, e2]
        obtain ⟨m, h1, h2, h3⟩ := hd
        refine ih k (i + 1) (by omega) (by omega) ⟨m, ?_, h2, h3⟩
        rcases Nat.lt_or_ge i m with h | h
        · exact h
        · have : m = i := by omega
          subst this; exact absurd ⟨by omega, by omega⟩ h3
theorem e_readPair (s : ByteArray) (k : Nat) (hk : 500000 ≤ k) : ∃ (v : List Int) (ok : Bool), v.length ≤ 256 ∧ spec_NatRead.f k s = some (v, ok) ∧ impl_NatRead.f k s = some (v, ok) := by
  obtain ⟨k, rfl⟩ : ∃ q, k = q + 1 := ⟨k - 1, by omega⟩
  have sj : spec_NatRead.j0 (k + 1) s true = some ([], false) := by rw [spec_NatRead.j0]; rfl
  have ij : impl_NatRead.j0 (k + 1) s true = some ([], false) := by rw [impl_NatRead.j0]; rfl
  unfold spec_NatRead.f impl_NatRead.f impl_isDigits.f
  by_cases c0 : (s.size : Int) = 0
  · refine ⟨[], false, by simp, by rw [if_pos c0, sj], ?_⟩
    have : s.toList = [] := by
      rw [Lib.toList_data]
      have h2 : s.data.size = s.size := rfl
      exact List.eq_nil_of_length_eq_zero (by rw [Array.length_toList, h2]; omega)
    rw [if_neg (by omega), impl_isDigits.l0, if_neg (by omega), Option.bind_some, this]
    rw [if_neg (by simp), ij]
  · by_cases c1 : (s.size : Int) > 1300
    · exact ⟨[], false, by simp, by rw [if_neg c0, if_pos c1, sj], by rw [if_pos c1, ij]⟩
    · obtain ⟨n, hn⟩ : ∃ n, s.size = n := ⟨_, rfl⟩
      have hp : 0 < n := by omega
      have hn2 : n ≤ 1300 := by omega
      rw [if_neg c0, if_neg c1, if_neg c1, hn]
      by_cases al : ∀ m, 0 ≤ m → m < n → Dig s m
      · have h1 := isDig_all s n hn hp hn2 n (k + 1) 0 (by omega) (by omega) al
        obtain ⟨v, g1, g2, g3, g4⟩ := read_all s n hn hn2 n k k [] 0 (by omega) MN.Can.nil (by simp [MN.val]) al (by omega) (by omega)
        rw [show ((0 : Nat) : Int) = 0 from rfl] at h1 g1 g2
        have sok : spec_NatRead.j0 (k + 1) s false = some (toldOf v) := by
          rw [spec_NatRead.j0, if_neg (by decide), g1]
        have iok : impl_NatRead.j0 (k + 1) s false = some (toldOf v) := by
          rw [impl_NatRead.j0, if_neg (by decide)]
          unfold impl_natRead.f
          rw [hn, g2, Option.bind_some, e_iTold k v (by omega) (by omega), Option.bind_some]
        have hpos : 0 < (n : Int) := by omega
        rw [h1, Option.bind_some, if_pos rfl, if_pos hpos, if_pos hpos]
        by_cases c2 : bt s 0 = 48
        · by_cases c3 : (n : Int) > 1
          · refine ⟨[], false, by simp, ?_, ?_⟩
            · rw [if_pos c3, c2]; exact sj
            · rw [if_pos c2, decide_eq_true c3]; exact ij
          · refine ⟨(toldOf v).1, (toldOf v).2, toldOf_len v, ?_, ?_⟩
            · rw [if_neg c3]; exact sok
            · rw [if_pos c2, decide_eq_false c3]; exact iok
        · refine ⟨(toldOf v).1, (toldOf v).2, toldOf_len v, ?_, ?_⟩
          · have : (bt s 0 == 48) = false := by simp [c2]
            rw [this]
            split <;> exact sok
          · rw [if_neg c2]; exact iok
      · have al' : ∃ m, 0 ≤ m ∧ m < n ∧ ¬ Dig s m := by
          apply Classical.byContradiction
          intro h
          exact al (fun m h1 h2 => Classical.byContradiction (fun h3 => h ⟨m, h1, h2, h3⟩))
        have h1 := isDig_no s n hn hn2 n (k + 1) 0 (by omega) (by omega) al'
        have g1 := read_no s n hn hn2 n k [] 0 (by omega) MN.Can.nil (by simp [MN.val]) al' (by omega)
        rw [show ((0 : Nat) : Int) = 0 from rfl] at h1 g1
        have sno : ∀ b, spec_NatRead.j0 (k + 1) s b = some ([], false) := by
          intro b
          rw [spec_NatRead.j0]
          cases b with
          | true => rfl
          | false => rw [if_neg (by decide), g1]
        refine ⟨[], false, by simp, ?_, ?_⟩
        · rw [if_pos (show 0 < (n : Int) by omega)]
          split <;> exact sno _
        · rw [h1, Option.bind_some, if_neg (by decide), ij]
theorem e_mainNatRead (s : ByteArray) : ∃ (v : List Int) (ok : Bool), v.length ≤ 256 ∧ (∀ k, 500000 ≤ k → spec_NatRead.f k s = some (v, ok)) ∧ (∀ k, 500000 ≤ k → impl_NatRead.f k s = some (v, ok)) := by
  obtain ⟨v, ok, hv, h1, h2⟩ := e_readPair s 500000 (by omega)
  refine ⟨v, ok, hv, fun k hk => ?_, fun k hk => ?_⟩
  · obtain ⟨q, rfl⟩ : ∃ q, k = 500000 + q := ⟨k - 500000, by omega⟩
    exact leO_add (fun k => spec_NatRead.mono s k) 500000 q _ h1
  · obtain ⟨q, rfl⟩ : ∃ q, k = 500000 + q := ⟨k - 500000, by omega⟩
    exact leO_add (fun k => impl_NatRead.mono s k) 500000 q _ h2
theorem FnExactNatRead : laws_FnExactNatRead.Pure := by
  intro s _
  refine ⟨1000000, ?_⟩
  unfold laws_FnExactNatRead.f
  by_cases h : (s.size : Int) > 1048576
  · rw [if_pos h]
  · rw [if_neg h]
    obtain ⟨v, ok, hv, es, ei⟩ := e_mainNatRead s
    have qv := fun k hk => e_eqIntS k v (by omega) hk
    have mv := fun k hk => e_mark k v 1 hk (by omega) (by omega)
    have hd := fun k hk => e_held k v.length 1 hk (by omega) (by omega)
    rw [es 1000000 (by omega)]
    simp only [Option.bind_some, ei 1000000 (by omega), qv 1000000 (by omega), if_true, bne_self_eq_false]
    simp only [laws_FnExactNatRead.j0, laws_FnExactNatRead.j1, Bool.false_eq_true, if_false, Option.bind_some, if_true, bne_self_eq_false,
      mv 999999 (by omega), hd 999999 (by omega), ei 999999 (by omega), qv 999999 (by omega), hd 999998 (by omega)]
    rw [if_neg (by omega), if_neg (by omega)]
end Go.Proofs.Ytaachpcidikagaa.Pure
