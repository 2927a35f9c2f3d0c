/- A drawn power is so many products: for every two codes the power to a sum of exponents is the product of the powers.
   Conditions: none beyond those of the given row (each number is of its kind). -/
import Derived.Test.YtaachpcidikagaaQFnNatPowx6
import Derived.Test.YtaachpcidikagaaMB
import Derived.Test.YtaachpcidikagaaMG
import Derived.Test.YtaachpcidikagaaMN
namespace Go.Proofs.Ytaachpcidikagaa.Pure
open Go.RowKit Go.Proofs.Ytaachpcidikagaa.QFnNatPow Go.Proofs.YtaachpcidikagaaW.PrintWords Go.Proofs.YtaachpcidikagaaW.PrintLast Go.Proofs.YtaachpcidikagaaW.PrintMore Go.Proofs.Ytaachpcidikagaa.M Go.Proofs.Ytaachpcidikagaa.MG Go.Proofs.Ytaachpcidikagaa.MN
set_option linter.unusedVariables false
set_option linter.unusedSimpArgs false
theorem w64i (i : Nat) (h : i ≤ 1048576) : wrap64 ((i : Int) + 1) = ((i + 1 : Nat) : Int) := by unfold wrap64; omega
theorem e_rd (l : List Int) (i : Nat) (h : i < l.length) : rd l (i : Int) = l[i] := by simp [rd, List.getD_eq_getElem?_getD, List.getElem?_eq_getElem h]
theorem e_sNatOk_l (l : List Int) (hl : l.length ≤ 256) (d : Nat) : ∀ (i k : Nat), i + d = l.length → d < k → spec_NatOk.l0 k l (i : Int) = some ((l.drop i).all (fun d => decide (0 ≤ d ∧ d ≤ 65535)) && (l.getLast? != some 0)) := by
  induction d with
  | zero =>
    intro i k hi hk
    obtain ⟨k, rfl⟩ : ∃ m, k = m + 1 := ⟨k - 1, by omega⟩
    simp only [spec_NatOk.l0]; rw [if_neg (by omega), List.drop_of_length_le (by omega)]
    by_cases hz : l = []
    · subst hz; simp
    · have hp : 0 < l.length := List.length_pos_iff.mpr hz
      have ej : wrap64 ((l.length : Int) - 1) = ((l.length - 1 : Nat) : Int) := by unfold wrap64; omega
      rw [if_neg (by omega), ej, if_pos (by omega), if_pos (by omega), e_rd l _ (by omega), List.getLast?_eq_getElem?, List.getElem?_eq_getElem (by omega)]
      simp only [List.all_nil, Bool.true_and]; congr 1
  | succ d ih =>
    intro i k hi hk
    obtain ⟨k, rfl⟩ : ∃ m, k = m + 1 := ⟨k - 1, by omega⟩
    have hlt : i < l.length := by omega
    simp only [spec_NatOk.l0]
    rw [if_pos (by omega), if_pos (by omega), e_rd l i hlt, List.drop_eq_getElem_cons hlt, List.all_cons]
    by_cases h0 : l[i] < 0
    · rw [if_pos h0, decide_eq_false (by omega)]; rfl
    · rw [if_neg h0]
      by_cases h1 : l[i] ≥ 65536
      · rw [if_pos h1, decide_eq_false (by omega)]; rfl
      · rw [if_neg h1, w64i i (by omega), decide_eq_true (by omega), Bool.true_and]
        exact ih (i + 1) k (by omega) (by omega)
theorem e_sNatOk (k : Nat) (l : List Int) (hk : 256 < k) : spec_NatOk.f k l = some (natOk l) := by
  unfold spec_NatOk.f natOk
  by_cases h : l.length ≤ 256
  · have := e_sNatOk_l l h l.length 0 k (by omega) (by omega)
    rw [if_neg (by omega)]
    have e0 : ((0 : Nat) : Int) = 0 := rfl
    rw [e0] at this
    rw [this, decide_eq_true h, Bool.true_and, List.drop_zero, Bool.and_comm]
  · rw [if_pos (by omega), decide_eq_false h]; rfl
theorem e_sNatOf_l : ∀ (d k : Nat) (x : Int) (acc : List Int), d < k → 0 ≤ x → x < 65536 ^ d → x < 18446744073709551616 → acc.length + d ≤ 1000 →
    ∃ v, spec_NatOf.l0 k x acc = some v ∧ v.length ≤ acc.length + d ∧ ∃ s, v = acc ++ s ∧ MN.Can s ∧ MN.val s = x := by
  intro d; induction d with
  | zero =>
    intro k x acc hk h0 h1 h2 hl
    obtain ⟨k, rfl⟩ : ∃ m, k = m + 1 := ⟨k - 1, by omega⟩
    have : x = 0 := by simp at h1; omega
    subst this
    refine ⟨acc, by simp only [spec_NatOf.l0]; rw [if_neg (by decide)], by omega, [], by simp, MN.Can.nil, rfl⟩
  | succ d ih =>
    intro k x acc hk h0 h1 h2 hl
    obtain ⟨k, rfl⟩ : ∃ m, k = m + 1 := ⟨k - 1, by omega⟩
    simp only [spec_NatOf.l0]
    by_cases c : x > 0
    · rw [if_pos c, if_pos (by omega)]
      have e1 : IntKind.u64.wrap (Int.tdiv x 65536) = x / 65536 := by rw [Int.tdiv_eq_ediv_of_nonneg h0]; simp [IntKind.wrap, IntKind.signed, IntKind.bits]; omega
      have e2 : wrap64 (Int.tmod x 65536) = x % 65536 := by rw [Int.tmod_eq_emod_of_nonneg h0]; unfold wrap64; omega
      rw [e1, e2]
      have h3 : x / 65536 < 65536 ^ d := by rw [Int.pow_succ] at h1; omega
      obtain ⟨v, hv, hl2, s, hs, hc, hval⟩ := ih k (x / 65536) (acc ++ [x % 65536]) (by omega) (by omega) h3 (by omega) (by rw [List.length_append]; simp; omega)
      refine ⟨v, hv, by rw [List.length_append] at hl2; simp at hl2; omega, x % 65536 :: s, by rw [hs]; simp, ?_, ?_⟩
      · refine ⟨MN.DOk.cons (by omega) (by omega) hc.1, ?_⟩
        by_cases z : s = []
        · subst z; have : x / 65536 = 0 := by rw [← hval]; rfl
          simp; omega
        · rw [MN.getLast?_cons_ne z]; exact hc.2
      · simp only [MN.val, hval]; omega
    · rw [if_neg c]
      exact ⟨acc, rfl, by omega, [], by simp, MN.Can.nil, by simp [MN.val]; omega⟩
theorem e_sNatOf (k : Nat) (x : Int) (hk : 4 < k) (h0 : 0 ≤ x) (h2 : x < 18446744073709551616) : ∃ v, spec_NatOf.f k x = some v ∧ v.length ≤ 4 ∧ MN.Can v ∧ MN.val v = x := by
  obtain ⟨v, h, hl, s, hs, hc, hv⟩ := e_sNatOf_l 4 k x [] hk h0 (by omega) h2 (by simp)
  have : v = s := by simpa using hs
  subst this
  exact ⟨v, h, by simpa using hl, hc, hv⟩
theorem e_clone (l : List Int) (h : l.length ≤ 17592186044416) : impl_clone_int.f l = some l := by
  unfold impl_clone_int.f slices_Clone_int_int.f; rw [if_pos h]
theorem e_rd0 (l : List Int) (i : Nat) : rd l (i : Int) = l.getD i 0 := by simp [rd]
theorem e_sTrim_copy (y : List Int) (hl : y.length ≤ 2000) (m : Nat) (hm : m ≤ y.length) : ∀ (d k j : Nat), j + d = m → d < k → spec_l5Trim.l1 k y (m : Int) (y.take j) (j : Int) = some (y.take m) := by
  intro d
  induction d with
  | zero =>
    intro k j hj hk
    obtain ⟨k, rfl⟩ : ∃ q, k = q + 1 := ⟨k - 1, by omega⟩
    have : j = m := by omega
    subst this
    simp only [spec_l5Trim.l1]
    rw [if_neg (by omega)]
  | succ d ih =>
    intro k j hj hk
    obtain ⟨k, rfl⟩ : ∃ q, k = q + 1 := ⟨k - 1, by omega⟩
    simp only [spec_l5Trim.l1]
    have e1 : wrap64 ((j : Int) + 1) = ((j + 1 : Nat) : Int) := by unfold wrap64; omega
    have e2 : y.take j ++ [rd y (j : Int)] = y.take (j + 1) := by
      rw [e_rd0, List.getD_eq_getElem?_getD, List.getElem?_eq_getElem (by omega), Option.getD_some, List.take_succ_eq_append_getElem (by omega)]
    rw [if_pos (by omega), if_pos (by omega), if_pos (by omega), if_pos (by rw [List.length_take]; omega), e1, e2]
    exact ih k (j + 1) (by omega) (by omega)
theorem e_sTrim_l (y : List Int) (hl : y.length ≤ 2000) : ∀ (m k : Nat), m ≤ y.length → 2 * m + 5 ≤ k → spec_l5Trim.l0 k y (m : Int) = some (MN.trimD (y.take m)) := by
  intro m
  induction m with
  | zero =>
    intro k hm hk
    obtain ⟨k, rfl⟩ : ∃ q, k = q + 2 := ⟨k - 2, by omega⟩
    simp only [spec_l5Trim.l0, spec_l5Trim.j1]
    rw [if_neg (by omega)]
    have := e_sTrim_copy y hl 0 (by omega) 0 k 0 rfl (by omega)
    simpa [MN.trimD] using this
  | succ m ih =>
    intro k hm hk
    obtain ⟨k, rfl⟩ : ∃ q, k = q + 2 := ⟨k - 2, by omega⟩
    have e1 : wrap64 (((m + 1 : Nat) : Int) - 1) = (m : Int) := by unfold wrap64; omega
    have e2 : y.take (m + 1) = y.take m ++ [y.getD m 0] := by
      rw [List.getD_eq_getElem?_getD, List.getElem?_eq_getElem (by omega), Option.getD_some, List.take_succ_eq_append_getElem (by omega)]
    rw [show k + 2 = (k + 1) + 1 from rfl]
    simp only [spec_l5Trim.l0]
    rw [e1, if_pos (by omega), if_pos (by omega), if_pos (by omega), e_rd0]
    by_cases c : y.getD m 0 = 0
    · have := ih (k + 1) (by omega) (by omega)
      simp only [spec_l5Trim.l0] at this
      rw [if_pos c, e2, c, MN.trimD_snoc_zero]
      (try simp only [spec_l5Trim.l0])
      exact this
    · rw [if_neg c]
      simp only [spec_l5Trim.j1]
      have := e_sTrim_copy y hl (m + 1) hm (m + 1) k 0 (by omega) (by omega)
      rw [e2, MN.trimD_snoc_ne _ c, ← e2]
      simpa using this
theorem e_sTrim (k : Nat) (y : List Int) (hl : y.length ≤ 2000) (hk : 4005 ≤ k) : spec_l5Trim.f k y = some (MN.trimD y) := by
  unfold spec_l5Trim.f
  rw [e_sTrim_l y hl y.length k (Nat.le_refl _) (by omega), List.take_length]
theorem e_iTrim_l (y : List Int) (hl : y.length ≤ 2000) : ∀ (m k : Nat), m ≤ y.length → m < k → impl_trim.l0 k (y.take m) = some (MN.trimD (y.take m)) := by
  intro m
  induction m with
  | zero =>
    intro k hm hk
    obtain ⟨k, rfl⟩ : ∃ q, k = q + 1 := ⟨k - 1, by omega⟩
    simp only [impl_trim.l0]
    rw [if_neg (by simp)]; simp [MN.trimD]
  | succ m ih =>
    intro k hm hk
    obtain ⟨k, rfl⟩ : ∃ q, k = q + 1 := ⟨k - 1, by omega⟩
    have hlen : (y.take (m + 1)).length = m + 1 := by rw [List.length_take]; omega
    have e1 : wrap64 (((m + 1 : Nat) : Int) - 1) = (m : Int) := by unfold wrap64; omega
    have e2 : y.take (m + 1) = y.take m ++ [y.getD m 0] := by
      rw [List.getD_eq_getElem?_getD, List.getElem?_eq_getElem (by omega), Option.getD_some, List.take_succ_eq_append_getElem (by omega)]
    have e3 : (y.take (m + 1)).getD m 0 = y.getD m 0 := by
      rw [List.getD_eq_getElem?_getD, List.getD_eq_getElem?_getD, List.getElem?_take_of_lt (by omega)]
    have e4 : (y.take (m + 1)).take m = y.take m := by rw [List.take_take, Nat.min_eq_left (by omega)]
    simp only [impl_trim.l0]
    rw [hlen, e1, if_pos (by omega), if_pos (by omega), if_pos (by omega), e_rd0, e3]
    by_cases c : y.getD m 0 = 0
    · rw [if_pos c, if_pos (by omega), Int.toNat_natCast, e4, ih k (by omega) (by omega), e2, c, MN.trimD_snoc_zero]
    · rw [if_neg c, e2, MN.trimD_snoc_ne _ c]
theorem e_iTrim (k : Nat) (y : List Int) (hl : y.length ≤ 2000) (hk : 2000 < k) : impl_trim.f k y = some (MN.trimD y) := by
  unfold impl_trim.f
  have := e_iTrim_l y hl y.length k (Nat.le_refl _) (by omega)
  rwa [List.take_length] at this
def toldOf (y : List Int) : List Int × Bool := if (MN.trimD y).length ≤ 256 then (MN.trimD y, true) else ([], false)
theorem e_iTold (k : Nat) (y : List Int) (hl : y.length ≤ 2000) (hk : 2000 < k) : impl_told.f k y true = some (toldOf y) := by
  unfold impl_told.f toldOf
  have h1 := MN.trimD_length y
  rw [e_iTrim k y hl hk, Option.bind_some, if_pos rfl]
  by_cases c : (MN.trimD y).length ≤ 256
  · rw [if_neg (by omega), if_pos c, e_clone _ (by omega)]; rfl
  · rw [if_pos (by omega), if_neg c]
theorem i64_mask16 (n : Int) (h0 : 0 ≤ n) (h1 : n < 9223372036854775808) : Go.bits .and .i64 n 65535 = n % 65536 := by
  have := bits_mask .i64 63 (by decide) (fun n h0 h1 => by rw [IntKind.wrap_i64]; omega) 16 (by decide) n h0 (by omega)
  exact this
theorem mul_bound {a b : Int} (ha : 0 ≤ a ∧ a < 65536) (hb : 0 ≤ b ∧ b < 65536) : 0 ≤ a * b ∧ a * b ≤ 4294836225 := by
  refine ⟨Int.mul_nonneg ha.1 hb.1, ?_⟩
  have := Int.mul_le_mul (show a ≤ 65535 by omega) (show b ≤ 65535 by omega) hb.1 (by decide)
  omega
theorem drop_val (b : List Int) (j : Nat) (hj : j < b.length) : MN.val (b.drop j) = b.getD j 0 + 65536 * MN.val (b.drop (j + 1)) := by
  rw [List.drop_eq_getElem_cons hj, List.getD_eq_getElem?_getD, List.getElem?_eq_getElem hj]; rfl
theorem take_val (a : List Int) (i : Nat) (hi : i < a.length) : MN.val (a.take (i + 1)) = MN.val (a.take i) + MN.pw i * a.getD i 0 := by
  rw [List.take_succ_eq_append_getElem hi, MN.val_append, List.length_take, Nat.min_eq_left (by omega), List.getD_eq_getElem?_getD, List.getElem?_eq_getElem hi]
  simp [MN.val]
theorem getD_set_ne (x : List Int) (i m : Nat) (v : Int) (h : i ≠ m) : (x.set i v).getD m 0 = x.getD m 0 := by
  rw [List.getD_eq_getElem?_getD, List.getD_eq_getElem?_getD, List.getElem?_set_ne h]
theorem step_val (vx P xd a bj c s vb : Int) (hs : s = xd + a * bj + c) : vx + P * (s % 65536 - xd) + s / 65536 * (65536 * P) + a * vb * (65536 * P) = vx + c * P + a * (bj + 65536 * vb) * P := by
  have h : s = 65536 * (s / 65536) + s % 65536 := (Int.mul_ediv_add_emod s 65536).symm
  generalize s / 65536 = q at *
  generalize s % 65536 = r at *
  grind
theorem e_sMul_in (a b : List Int) (ha : MN.DOk a) (hb : MN.DOk b) (la : a.length ≤ 1024) (lb : b.length ≤ 256) (i n : Nat) (hi : i < a.length) (hn : i + b.length < n ∧ n ≤ 1300) : ∀ (d k : Nat) (x : List Int) (c : Int) (j : Nat), j + d = b.length → x.length = n → MN.DOk x → 0 ≤ c ∧ c < 65536 → (∀ m, i + b.length ≤ m → x.getD m 0 = 0) →
    ∃ x' c', spec_l5Mul.l1 (k + d + 1) a b x (i : Int) c (j : Int) = spec_l5Mul.l0 k a b (x'.set (i + b.length) c') ((i + 1 : Nat) : Int) ∧ x'.length = n ∧ MN.DOk x' ∧ (0 ≤ c' ∧ c' < 65536) ∧
      MN.val x' + c' * MN.pw (i + b.length) = MN.val x + c * MN.pw (i + j) + a.getD i 0 * MN.val (b.drop j) * MN.pw (i + j) ∧ ∀ m, i + b.length ≤ m → x'.getD m 0 = 0 := by
  intro d
  induction d with
  | zero =>
    intro k x c j hj hx hd hc hz
    have : j = b.length := by omega
    subst this
    have e1 : wrap64 ((i : Int) + (b.length : Int)) = ((i + b.length : Nat) : Int) := by unfold wrap64; omega
    have e2 : wrap64 ((i : Int) + 1) = ((i + 1 : Nat) : Int) := by unfold wrap64; omega
    refine ⟨x, c, ?_, hx, hd, hc, by simp [MN.val], hz⟩
    rw [show k + 0 + 1 = k + 1 from rfl]
    simp only [spec_l5Mul.l1]
    rw [if_neg (by omega), e1, e2, if_pos (by omega), if_pos (by omega), Int.toNat_natCast]
  | succ d ih =>
    intro k x c j hj hx hd hc hz
    have e1 : wrap64 ((i : Int) + (j : Int)) = ((i + j : Nat) : Int) := by unfold wrap64; omega
    have e2 : wrap64 ((j : Int) + 1) = ((j + 1 : Nat) : Int) := by unfold wrap64; omega
    have ra := ha.getD i
    have rb := hb.getD j
    have rx := hd.getD (i + j)
    have mb := mul_bound ra rb
    have hs : ∃ s, s = x.getD (i + j) 0 + a.getD i 0 * b.getD j 0 + c := ⟨_, rfl⟩
    obtain ⟨s, hs⟩ := hs
    have bs : 0 ≤ s ∧ s ≤ 4294967295 := by omega
    have w1 : wrap64 (a.getD i 0 * b.getD j 0) = a.getD i 0 * b.getD j 0 := by generalize a.getD i 0 * b.getD j 0 = z at *; unfold wrap64; omega
    have w2 : wrap64 (wrap64 (x.getD (i + j) 0 + a.getD i 0 * b.getD j 0) + c) = s := by generalize a.getD i 0 * b.getD j 0 = z at *; unfold wrap64; omega
    have w3 : Int.tmod s 65536 = s % 65536 := Int.tmod_eq_emod_of_nonneg bs.1
    have w4 : wrap64 (Int.tdiv s 65536) = s / 65536 := by rw [Int.tdiv_eq_ediv_of_nonneg bs.1]; unfold wrap64; omega
    obtain ⟨x', c', f1, f2, f3, f4, f5, f6⟩ := ih k (x.set (i + j) (s % 65536)) (s / 65536) (j + 1) (by omega) (by rw [List.length_set]; exact hx) (hd.set _ (by omega) (by omega)) (by omega)
      (fun m hm => by rw [getD_set_ne _ _ _ _ (by omega)]; exact hz m hm)
    refine ⟨x', c', ?_, f2, f3, f4, ?_, f6⟩
    · rw [← f1, show k + (d + 1) + 1 = (k + d + 1) + 1 by omega]
      obtain ⟨K, hK⟩ : ∃ K, K = k + d + 1 := ⟨_, rfl⟩
      rw [← hK]
      conv => lhs; rw [spec_l5Mul.l1]
      rw [e1, e2, if_pos (by omega), if_pos (by omega), if_pos (by omega), if_pos (by omega), if_pos (by omega), if_pos (by omega), e_rd0, e_rd0, e_rd0, w1, w2, w3, w4, Int.toNat_natCast]
    · rw [f5, MN.val_set (by omega), drop_val b j (by omega), show i + (j + 1) = (i + j) + 1 by omega, MN.pw_succ]
      exact step_val _ _ _ _ _ _ _ _ hs
theorem e_iMul_in (a b : List Int) (ha : MN.DOk a) (hb : MN.DOk b) (la : a.length ≤ 1024) (lb : b.length ≤ 256) (i n : Nat) (hi : i < a.length) (hn : i + b.length < n ∧ n ≤ 1300) : ∀ (d k : Nat) (x : List Int) (c : Int) (j : Nat), j + d = b.length → x.length = n → MN.DOk x → 0 ≤ c ∧ c < 65536 → (∀ m, i + b.length ≤ m → x.getD m 0 = 0) →
    ∃ x' c', impl_natMul.l1 (k + d + 1) b x (i : Int) (a.getD i 0) c a (a.length : Int) (i : Int) b (b.length : Int) (j : Int) = impl_natMul.l0 k b (x'.set (i + b.length) c') a (a.length : Int) ((i + 1 : Nat) : Int) ∧ x'.length = n ∧ MN.DOk x' ∧ (0 ≤ c' ∧ c' < 65536) ∧
      MN.val x' + c' * MN.pw (i + b.length) = MN.val x + c * MN.pw (i + j) + a.getD i 0 * MN.val (b.drop j) * MN.pw (i + j) ∧ ∀ m, i + b.length ≤ m → x'.getD m 0 = 0 := by
  intro d
  induction d with
  | zero =>
    intro k x c j hj hx hd hc hz
    have : j = b.length := by omega
    subst this
    have e1 : wrap64 ((i : Int) + (b.length : Int)) = ((i + b.length : Nat) : Int) := by unfold wrap64; omega
    have e2 : wrap64 ((i : Int) + 1) = ((i + 1 : Nat) : Int) := by unfold wrap64; omega
    refine ⟨x, c, ?_, hx, hd, hc, by simp [MN.val], hz⟩
    rw [show k + 0 + 1 = k + 1 from rfl]
    simp only [impl_natMul.l1]
    have w0 : wrap64 (0 + c) = c := by unfold wrap64; omega
    rw [if_neg (by omega), e1, e2, if_pos (by omega), if_pos (by omega), Int.toNat_natCast, e_rd0, hz _ (Nat.le_refl _), w0]
  | succ d ih =>
    intro k x c j hj hx hd hc hz
    have e1 : wrap64 ((i : Int) + (j : Int)) = ((i + j : Nat) : Int) := by unfold wrap64; omega
    have e2 : wrap64 ((j : Int) + 1) = ((j + 1 : Nat) : Int) := by unfold wrap64; omega
    have ra := ha.getD i
    have rb := hb.getD j
    have rx := hd.getD (i + j)
    have mb := mul_bound ra rb
    have hs : ∃ s, s = x.getD (i + j) 0 + a.getD i 0 * b.getD j 0 + c := ⟨_, rfl⟩
    obtain ⟨s, hs⟩ := hs
    have bs : 0 ≤ s ∧ s ≤ 4294967295 := by omega
    have w1 : wrap64 (a.getD i 0 * b.getD j 0) = a.getD i 0 * b.getD j 0 := by generalize a.getD i 0 * b.getD j 0 = z at *; unfold wrap64; omega
    have w2 : wrap64 (wrap64 (x.getD (i + j) 0 + a.getD i 0 * b.getD j 0) + c) = s := by generalize a.getD i 0 * b.getD j 0 = z at *; unfold wrap64; omega
    have w3 : Go.bits .and .i64 s 65535 = s % 65536 := i64_mask16 s bs.1 (by omega)
    obtain ⟨x', c', f1, f2, f3, f4, f5, f6⟩ := ih k (x.set (i + j) (s % 65536)) (s / 65536) (j + 1) (by omega) (by rw [List.length_set]; exact hx) (hd.set _ (by omega) (by omega)) (by omega)
      (fun m hm => by rw [getD_set_ne _ _ _ _ (by omega)]; exact hz m hm)
    refine ⟨x', c', ?_, f2, f3, f4, ?_, f6⟩
    · rw [← f1, show k + (d + 1) + 1 = (k + d + 1) + 1 by omega]
      obtain ⟨K, hK⟩ : ∃ K, K = k + d + 1 := ⟨_, rfl⟩
      rw [← hK]
      conv => lhs; rw [impl_natMul.l1]
      rw [e1, e2, if_pos (by omega), if_pos (by omega), if_pos (by omega), if_pos (by omega), if_pos (by omega), e_rd0, e_rd0, w1, w2, w3, Int.toNat_natCast]
    · rw [f5, MN.val_set (by omega), drop_val b j (by omega), show i + (j + 1) = (i + j) + 1 by omega, MN.pw_succ]
      exact step_val _ _ _ _ _ _ _ _ hs
theorem e_sMul_out (a b : List Int) (ha : MN.DOk a) (hb : MN.DOk b) (la : a.length ≤ 1024) (lb : b.length ≤ 256) (n : Nat) (hn : a.length + b.length ≤ n ∧ n ≤ 1300) : ∀ (d k : Nat) (x : List Int) (i : Nat), i + d = a.length → x.length = n → MN.DOk x → MN.val x = MN.val (a.take i) * MN.val b → (∀ m, i + b.length ≤ m → x.getD m 0 = 0) →
    ∃ y, spec_l5Mul.l0 (k + d * (b.length + 2) + 1) a b x (i : Int) = (spec_l5Trim.f k y).bind some ∧ y.length = n ∧ MN.DOk y ∧ MN.val y = MN.val a * MN.val b := by
  intro d
  induction d with
  | zero =>
    intro k x i hi hx hd hv hz
    have : i = a.length := by omega
    subst this
    rw [List.take_length] at hv
    refine ⟨x, ?_, hx, hd, hv⟩
    rw [show k + 0 * (b.length + 2) + 1 = k + 1 by omega]
    simp only [spec_l5Mul.l0]
    rw [if_neg (by omega)]
  | succ d ih =>
    intro k x i hi hx hd hv hz
    obtain ⟨x', c', f1, f2, f3, f4, f5, f6⟩ := e_sMul_in a b ha hb la lb i n (by omega) (by omega) b.length (k + d * (b.length + 2) + 1) x 0 0 (by omega) hx hd (by omega) hz
    have hv2 : MN.val (x'.set (i + b.length) c') = MN.val (a.take (i + 1)) * MN.val b := by
      rw [MN.val_set (by omega), f6 _ (Nat.le_refl _), take_val a i (by omega)]
      rw [hv, List.drop_zero] at f5
      simp only [Nat.add_zero] at f5
      grind
    obtain ⟨y, g1, g2, g3, g4⟩ := ih k (x'.set (i + b.length) c') (i + 1) (by omega) (by rw [List.length_set]; exact f2) (f3.set _ f4.1 f4.2) hv2
      (fun m hm => by rw [getD_set_ne _ _ _ _ (by omega)]; exact f6 m (by omega))
    refine ⟨y, ?_, g2, g3, g4⟩
    rw [← g1, ← f1, show k + (d + 1) * (b.length + 2) + 1 = (k + d * (b.length + 2) + 1 + b.length + 1) + 1 by rw [Nat.succ_mul]; omega]
    obtain ⟨K, hK⟩ : ∃ K, K = k + d * (b.length + 2) + 1 + b.length + 1 := ⟨_, rfl⟩
    rw [← hK]
    conv => lhs; rw [spec_l5Mul.l0]
    rw [if_pos (by omega)]; rfl
theorem e_iMul_out (a b : List Int) (ha : MN.DOk a) (hb : MN.DOk b) (la : a.length ≤ 1024) (lb : b.length ≤ 256) (n : Nat) (hn : a.length + b.length ≤ n ∧ n ≤ 1300) : ∀ (d k : Nat) (x : List Int) (i : Nat), i + d = a.length → x.length = n → MN.DOk x → MN.val x = MN.val (a.take i) * MN.val b → (∀ m, i + b.length ≤ m → x.getD m 0 = 0) →
    ∃ y, impl_natMul.l0 (k + d * (b.length + 2) + 1) b x a (a.length : Int) (i : Int) = (impl_trim.f k y).bind some ∧ y.length = n ∧ MN.DOk y ∧ MN.val y = MN.val a * MN.val b := by
  intro d
  induction d with
  | zero =>
    intro k x i hi hx hd hv hz
    have : i = a.length := by omega
    subst this
    rw [List.take_length] at hv
    refine ⟨x, ?_, hx, hd, hv⟩
    rw [show k + 0 * (b.length + 2) + 1 = k + 1 by omega]
    simp only [impl_natMul.l0]
    rw [if_neg (by omega)]
  | succ d ih =>
    intro k x i hi hx hd hv hz
    obtain ⟨x', c', f1, f2, f3, f4, f5, f6⟩ := e_iMul_in a b ha hb la lb i n (by omega) (by omega) b.length (k + d * (b.length + 2) + 1) x 0 0 (by omega) hx hd (by omega) hz
    have hv2 : MN.val (x'.set (i + b.length) c') = MN.val (a.take (i + 1)) * MN.val b := by
      rw [MN.val_set (by omega), f6 _ (Nat.le_refl _), take_val a i (by omega)]
      rw [hv, List.drop_zero] at f5
      simp only [Nat.add_zero] at f5
      grind
    obtain ⟨y, g1, g2, g3, g4⟩ := ih k (x'.set (i + b.length) c') (i + 1) (by omega) (by rw [List.length_set]; exact f2) (f3.set _ f4.1 f4.2) hv2
      (fun m hm => by rw [getD_set_ne _ _ _ _ (by omega)]; exact f6 m (by omega))
    refine ⟨y, ?_, g2, g3, g4⟩
    rw [← g1, ← f1, show k + (d + 1) * (b.length + 2) + 1 = (k + d * (b.length + 2) + 1 + b.length + 1) + 1 by rw [Nat.succ_mul]; omega]
    obtain ⟨K, hK⟩ : ∃ K, K = k + d * (b.length + 2) + 1 + b.length + 1 := ⟨_, rfl⟩
    rw [← hK]
    conv => lhs; rw [impl_natMul.l0]
    rw [if_pos (by omega), if_pos (by omega), if_pos (by omega), e_rd0]; rfl
theorem e_sMul (k : Nat) (a b : List Int) (ha : MN.DOk a) (hb : MN.DOk b) (la : a.length ≤ 1024) (lb : b.length ≤ 256) (hk : 300000 ≤ k) : ∃ y, spec_l5Mul.f k a b = some (MN.trimD y) ∧ y.length ≤ 1300 ∧ MN.DOk y ∧ MN.val y = MN.val a * MN.val b := by
  have e1 : wrap64 ((a.length : Int) + (b.length : Int)) = ((a.length + b.length : Nat) : Int) := by unfold wrap64; omega
  have hfu : a.length * (b.length + 2) ≤ 1024 * 258 := Nat.mul_le_mul la (by omega)
  obtain ⟨K, hK⟩ : ∃ K, k = K + a.length * (b.length + 2) + 1 := ⟨k - a.length * (b.length + 2) - 1, by omega⟩
  obtain ⟨y, g1, g2, g3, g4⟩ := e_sMul_out a b ha hb la lb (a.length + b.length) (by omega) a.length K (List.replicate (a.length + b.length) 0) 0 (by omega) (by simp) (MN.DOk.replicate _) (by rw [MN.val_replicate]; simp [MN.val])
    (fun m _ => by rw [List.getD_eq_getElem?_getD, List.getElem?_replicate]; split <;> rfl)
  refine ⟨y, ?_, by omega, g3, g4⟩
  unfold spec_l5Mul.f
  rw [e1, if_pos (by omega), if_pos (by omega), Int.toNat_natCast, hK]
  rw [show ((0 : Nat) : Int) = 0 from rfl] at g1
  rw [g1, e_sTrim K y (by omega) (by omega)]; rfl
theorem e_iMul (k : Nat) (a b : List Int) (ha : MN.DOk a) (hb : MN.DOk b) (la : a.length ≤ 1024) (lb : b.length ≤ 256) (hk : 300000 ≤ k) : ∃ y, impl_natMul.f k a b = some (MN.trimD y) ∧ y.length ≤ 1300 ∧ MN.DOk y ∧ MN.val y = MN.val a * MN.val b := by
  have e1 : wrap64 (wrap64 ((a.length : Int) + (b.length : Int)) + 1) = ((a.length + b.length + 1 : Nat) : Int) := by unfold wrap64; omega
  have hfu : a.length * (b.length + 2) ≤ 1024 * 258 := Nat.mul_le_mul la (by omega)
  obtain ⟨K, hK⟩ : ∃ K, k = K + a.length * (b.length + 2) + 1 := ⟨k - a.length * (b.length + 2) - 1, by omega⟩
  obtain ⟨y, g1, g2, g3, g4⟩ := e_iMul_out a b ha hb la lb (a.length + b.length + 1) (by omega) a.length K (List.replicate (a.length + b.length + 1) 0) 0 (by omega) (by simp) (MN.DOk.replicate _) (by rw [MN.val_replicate]; simp [MN.val])
    (fun m _ => by rw [List.getD_eq_getElem?_getD, List.getElem?_replicate]; split <;> rfl)
  refine ⟨y, ?_, by omega, g3, g4⟩
  unfold impl_natMul.f
  rw [e1, if_pos (by omega), if_pos (by omega), Int.toNat_natCast, hK]
  rw [show ((0 : Nat) : Int) = 0 from rfl] at g1
  rw [g1, e_iTrim K y (by omega) (by omega)]; rfl
theorem mul_len {a b y : List Int} (ha : MN.Can a) (hb : MN.Can b) (hne : b ≠ []) (hy : MN.DOk y) (hv : MN.val y = MN.val a * MN.val b) : a.length ≤ (MN.trimD y).length := by
  by_cases e : a = []
  · subst e; exact Nat.zero_le _
  · have h1 := ha.pos e
    have h2 := hb.pos hne
    have h3 := MN.pw_pos (b.length - 1)
    have h4 := MN.pw_pos (a.length - 1)
    have h5 : MN.val a * 1 ≤ MN.val a * MN.val b := Int.mul_le_mul_of_nonneg_left (by omega) (by omega)
    have h6 := MN.val_lt (MN.Can.trimD hy).1
    rw [MN.val_trimD, hv] at h6
    rcases Nat.lt_or_ge (MN.trimD y).length a.length with h | h
    · have h7 := MN.pw_le (show (MN.trimD y).length ≤ a.length - 1 by omega)
      generalize MN.val a * MN.val b = z at *
      omega
    · exact h
theorem e_powBig (l0 : List Int) (ca : MN.Can l0) (la : l0.length ≤ 256) (hne : l0 ≠ []) (n : Nat) (hn : n ≤ 64) : ∀ (d k : Nat) (out : List Int) (i : Nat), i + d = n → MN.Can out → 256 < out.length → out.length ≤ 1024 → 300000 + d < k →
    ∃ v, impl_natPow.l0 k l0 out (n : Int) (i : Int) = some v ∧ MN.Can v ∧ 256 < v.length ∧ v.length ≤ 1300 := by
  intro d
  induction d with
  | zero =>
    intro k out i hi hc h1 h2 hk
    obtain ⟨k, rfl⟩ : ∃ q, k = q + 1 := ⟨k - 1, by omega⟩
    refine ⟨out, ?_, hc, h1, by omega⟩
    simp only [impl_natPow.l0]
    rw [if_neg (by omega)]
  | succ d ih =>
    intro k out i hi hc h1 h2 hk
    obtain ⟨k, rfl⟩ : ∃ q, k = q + 1 := ⟨k - 1, by omega⟩
    obtain ⟨y, f1, f2, f3, f4⟩ := e_iMul k out l0 hc.1 ca.1 h2 la (by omega)
    have hl := mul_len hc ca hne f3 f4
    have hl2 := MN.trimD_length y
    have cy := MN.Can.trimD f3
    have e2 : wrap64 ((i : Int) + 1) = ((i + 1 : Nat) : Int) := by unfold wrap64; omega
    by_cases c : (MN.trimD y).length ≤ 1024
    · obtain ⟨v, g1, g⟩ := ih k (MN.trimD y) (i + 1) (by omega) cy (by omega) c (by omega)
      refine ⟨v, ?_, g⟩
      simp only [impl_natPow.l0]
      rw [if_pos (by omega), f1, Option.bind_some, if_neg (by omega), e2, g1]
    · refine ⟨MN.trimD y, ?_, cy, by omega, by omega⟩
      simp only [impl_natPow.l0]
      rw [if_pos (by omega), f1, Option.bind_some, if_pos (by omega)]
theorem e_powl (l0 : List Int) (ca : MN.Can l0) (la : l0.length ≤ 256) (n : Nat) (hn : n ≤ 64) : ∀ (d k : Nat) (out : List Int) (i : Nat), i + d = n → MN.Can out → out.length ≤ 256 → 300000 + d < k →
    (∃ v, spec_NatPow.l0 k l0 (n : Int) out (i : Int) = some (v, true) ∧ impl_natPow.l0 k l0 out (n : Int) (i : Int) = some v ∧ MN.Can v ∧ v.length ≤ 256 ∧ MN.val v = MN.val out * MN.val l0 ^ d) ∨
    (∃ v, spec_NatPow.l0 k l0 (n : Int) out (i : Int) = some ([], false) ∧ impl_natPow.l0 k l0 out (n : Int) (i : Int) = some v ∧ MN.Can v ∧ 256 < v.length ∧ v.length ≤ 1300 ∧ MN.pw 256 ≤ MN.val out * MN.val l0 ^ d) := by
  intro d
  induction d with
  | zero =>
    intro k out i hi hc h1 hk
    obtain ⟨k, rfl⟩ : ∃ q, k = q + 1 := ⟨k - 1, by omega⟩
    refine .inl ⟨out, ?_, ?_, hc, h1, by simp⟩
    · simp only [spec_NatPow.l0]
      rw [if_neg (by omega)]
    · simp only [impl_natPow.l0]
      rw [if_neg (by omega)]
  | succ d ih =>
    intro k out i hi hc h1 hk
    obtain ⟨k, rfl⟩ : ∃ q, k = q + 1 := ⟨k - 1, by omega⟩
    obtain ⟨y, f1, f2, f3, f4⟩ := e_iMul k out l0 hc.1 ca.1 (by omega) la (by omega)
    obtain ⟨z, s1, s2, s3, s4⟩ := e_sMul k out l0 hc.1 ca.1 (by omega) la (by omega)
    have cy := MN.Can.trimD f3
    have cz := MN.Can.trimD s3
    have ez : MN.trimD z = MN.trimD y := cz.inj cy (by rw [MN.val_trimD, MN.val_trimD, f4, s4])
    have hl2 := MN.trimD_length y
    have e2 : wrap64 ((i : Int) + 1) = ((i + 1 : Nat) : Int) := by unfold wrap64; omega
    by_cases c : (MN.trimD y).length ≤ 256
    · have r := ih k (MN.trimD y) (i + 1) (by omega) cy c (by omega)
      have g1 : spec_NatPow.l0 (k + 1) l0 (n : Int) out (i : Int) = spec_NatPow.l0 k l0 (n : Int) (MN.trimD y) ((i + 1 : Nat) : Int) := by
        simp only [spec_NatPow.l0]
        rw [if_pos (by omega), s1, Option.bind_some, ez, if_neg (by omega), e2]
      have g2 : impl_natPow.l0 (k + 1) l0 out (n : Int) (i : Int) = impl_natPow.l0 k l0 (MN.trimD y) (n : Int) ((i + 1 : Nat) : Int) := by
        simp only [impl_natPow.l0]
        rw [if_pos (by omega), f1, Option.bind_some, if_neg (by omega), e2]
      rw [g1, g2]
      rcases r with ⟨v, r1, r2, r3, r4, r5⟩ | r
      · refine .inl ⟨v, r1, r2, r3, r4, ?_⟩
        rw [r5, MN.val_trimD, f4, Int.pow_succ, Int.mul_assoc, Int.mul_comm (MN.val l0)]
      · refine .inr ?_
        obtain ⟨v, r1, r2, r3, r4, r5, r6⟩ := r
        refine ⟨v, r1, r2, r3, r4, r5, ?_⟩
        rw [MN.val_trimD, f4] at r6
        rw [Int.pow_succ, Int.mul_comm (MN.val l0 ^ d), ← Int.mul_assoc]; exact r6
    · have hne : l0 ≠ [] := by
        intro e
        subst e
        have : MN.trimD y = [] := cy.zero (by rw [MN.val_trimD, f4]; simp [MN.val])
        rw [this] at c; simp at c
      have g1 : spec_NatPow.l0 (k + 1) l0 (n : Int) out (i : Int) = some ([], false) := by
        simp only [spec_NatPow.l0]
        rw [if_pos (by omega), s1, Option.bind_some, ez, if_pos (by omega)]
      have hbig : MN.pw 256 ≤ MN.val out * MN.val l0 ^ (d + 1) := by
        have p1 := cy.pos (by intro e; rw [e] at c; simp at c)
        have p2 := MN.pw_le (show 256 ≤ (MN.trimD y).length - 1 by omega)
        have p3 : 0 < MN.val l0 := by have := ca.pos hne; have := MN.pw_pos (l0.length - 1); omega
        have p4 : 0 < MN.val l0 ^ d := Int.pow_pos p3
        rw [MN.val_trimD, f4] at p1
        rw [Int.pow_succ, Int.mul_comm (MN.val l0 ^ d), ← Int.mul_assoc]
        have p5 : MN.val out * MN.val l0 * 1 ≤ MN.val out * MN.val l0 * MN.val l0 ^ d := Int.mul_le_mul_of_nonneg_left (by omega) (by have := MN.pw_pos 256; omega)
        omega
      by_cases c2 : (MN.trimD y).length ≤ 1024
      · obtain ⟨v, v1, v2⟩ := e_powBig l0 ca la hne n hn d k (MN.trimD y) (i + 1) (by omega) cy (by omega) c2 (by omega)
        refine .inr ⟨v, g1, ?_, v2.1, v2.2.1, v2.2.2, hbig⟩
        simp only [impl_natPow.l0]
        rw [if_pos (by omega), f1, Option.bind_some, if_neg (by omega), e2, v1]
      · refine .inr ⟨MN.trimD y, g1, ?_, cy, by omega, by omega, hbig⟩
        simp only [impl_natPow.l0]
        rw [if_pos (by omega), f1, Option.bind_some, if_pos (by omega)]
theorem can_one : MN.Can [1] := by
  refine ⟨MN.DOk.cons (by omega) (by omega) MN.DOk.nil, by simp⟩
theorem e_powPair (k : Nat) (l0 : List Int) (a1 : Int) (hk : 400000 ≤ k) : ∃ (v : List Int) (ok : Bool), v.length ≤ 256 ∧ spec_NatPow.f k l0 a1 = some (v, ok) ∧ impl_NatPow.f k l0 a1 = some (v, ok) ∧ (ok = true ↔ natOk l0 = true ∧ (0 ≤ a1 ∧ a1 ≤ 64) ∧ MN.val l0 ^ a1.toNat < MN.pw 256) ∧ (ok = true → MN.Can v ∧ MN.val v = MN.val l0 ^ a1.toNat) ∧ (ok = false → v = []) := by
  obtain ⟨k, rfl⟩ : ∃ q, k = q + 1 := ⟨k - 1, by omega⟩
  unfold spec_NatPow.f impl_NatPow.f impl_NatOk.f impl_in.f
  simp only [e_sNatOk (k + 1) _ (show 256 < k + 1 by omega), Option.bind_some]
  by_cases a : natOk l0 = true
  · by_cases b : 0 ≤ a1 ∧ a1 ≤ 64
    · obtain ⟨la, ca⟩ := natOk_iff.mp a
      obtain ⟨n, rfl⟩ : ∃ n : Nat, a1 = (n : Int) := ⟨a1.toNat, by omega⟩
      have hn : n ≤ 64 := by omega
      have r := e_powl l0 ca la n hn n k [1] 0 (by omega) can_one (by simp) (by omega)
      rw [if_pos a, if_neg (by omega), if_pos a, if_pos (by omega), Option.bind_some, decide_eq_false (by omega), decide_eq_true (by omega)]
      simp only [spec_NatPow.j0, impl_NatPow.j0, Bool.not_true, Bool.false_eq_true, if_false, impl_natPow.f]
      rw [show ((0 : Nat) : Int) = 0 from rfl] at r
      rcases r with ⟨v, r1, r2, r3, r4, r5⟩ | ⟨v, r1, r2, r3, r4, r5, r6⟩
      · have hval : MN.val v = MN.val l0 ^ ((n : Int)).toNat := by rw [r5, Int.toNat_natCast]; simp [MN.val]
        have hlt : MN.val v < MN.pw 256 := MN.Can.lt_of_len r3.1 r4
        refine ⟨v, true, r4, r1, ?_, ⟨fun _ => ⟨a, b, by rw [← hval]; exact hlt⟩, fun _ => rfl⟩, fun _ => ⟨r3, hval⟩, fun h => by cases h⟩
        · rw [r2, Option.bind_some, e_iTold k v (by omega) (by omega), Option.bind_some]
          unfold toldOf
          rw [MN.trimD_can r3, if_pos r4]
      · refine ⟨[], false, by simp, r1, ?_, ⟨fun h => (by cases h), fun h => ?_⟩, fun h => (by cases h), fun _ => rfl⟩
        rotate_left
        · exfalso
          have h1 := h.2.2
          rw [Int.toNat_natCast] at h1
          simp only [MN.val] at r6
          rw [show (1 : Int) + 65536 * 0 = 1 from rfl, Int.one_mul] at r6
          omega
        rw [r2, Option.bind_some, e_iTold k v (by omega) (by omega), Option.bind_some]
        unfold toldOf
        rw [MN.trimD_can r3, if_neg (by omega)]
    · refine ⟨[], false, by simp, ?_, ?_, ⟨fun h => (by cases h), fun h => absurd h.2.1 b⟩, fun h => (by cases h), fun _ => rfl⟩
      · rw [if_pos a]
        by_cases c : a1 < 0
        · rw [if_pos c]; simp only [spec_NatPow.j0, if_true]
        · rw [if_neg c, decide_eq_true (by omega)]; simp only [spec_NatPow.j0, if_true]
      · rw [if_pos a]
        by_cases c : a1 ≥ 0
        · rw [if_pos c, decide_eq_false (by omega), Option.bind_some]; simp only [impl_NatPow.j0, Bool.not_false, if_true]
        · rw [if_neg c, Option.bind_some]; simp only [impl_NatPow.j0, Bool.not_false, if_true]
  · refine ⟨[], false, by simp, ?_, ?_, ⟨fun h => (by cases h), fun h => absurd h.1 a⟩, fun h => (by cases h), fun _ => rfl⟩
    · rw [if_neg a]; simp only [spec_NatPow.j0, if_true]
    · rw [if_neg a]; simp only [impl_NatPow.j0, if_true]
theorem e_pick32 (k : Nat) (l : List Int) (p n : Int) (hb : Bytes l) (hl : l.length ≤ 2000) (hp : 0 ≤ p ∧ p ≤ 4000) (hn : 1 ≤ n) :
    DR (p + 1) (spec_l32Rd_pick.f (k + 1) l p n) (fun v => 0 ≤ v ∧ v < n) := by
  have hw : wrap64 (p + 1) = p + 1 := by unfold wrap64; omega
  unfold spec_l32Rd_pick.f
  rw [if_neg (by omega), hw]
  simp only [spec_l32Rd_pick.j0]
  have hw2 : wrap64 (p + 1 - 1) = p := by unfold wrap64; omega
  rw [hw2]
  refine DR.ite (fun _ => DR.here (by omega) (by omega) ⟨by omega, by omega⟩) (fun h1 => ?_)
  have hL : 0 < (l.length : Int) := by
    rcases Nat.eq_zero_or_pos l.length with h | h
    · exact absurd (by simp [h]) h1
    · omega
  refine DR.ite (fun h2 => ?_) (fun h2 => ?_)
  · rw [if_pos hp.1, if_neg (by omega)]
    have := byte_range hb p
    have e : wrap64 (rd l p) = rd l p := by unfold wrap64; omega
    rw [e]
    exact DR.here (by omega) (by omega) ⟨Int.tmod_nonneg _ this.1, Int.tmod_lt_of_pos _ (by omega)⟩
  · have e7 : (wrap64 ((wrap64 (p * 7)) + 3)) = p * 7 + 3 := by unfold wrap64; omega
    rw [if_neg (by omega), if_pos (Int.tmod_nonneg _ hp.1), if_pos (Int.tmod_lt_of_pos _ hL), e7, if_pos (Int.tmod_nonneg _ (by omega)), if_pos (Int.tmod_lt_of_pos _ hL), if_neg (by omega)]
    have r1 := byte_range hb (Int.tmod p (l.length : Int))
    have r2 := byte_range hb (Int.tmod (p * 7 + 3) (l.length : Int))
    have w1 : wrap64 (rd l (Int.tmod p (l.length : Int))) = rd l (Int.tmod p (l.length : Int)) := by unfold wrap64; omega
    have w2 : wrap64 (rd l (Int.tmod (p * 7 + 3) (l.length : Int))) = rd l (Int.tmod (p * 7 + 3) (l.length : Int)) := by unfold wrap64; omega
    rw [w1, w2]
    exact DR.here (by omega) (by omega) (pick_core _ _ p _ r1 r2 ⟨hp.1, by omega⟩ hL n hn)
theorem e_open32 (l : List Int) (hb : Bytes l) : ∃ l' : List Int, spec_l32Open.f l = some (l', 0) ∧ Bytes l' ∧ l'.length ≤ 2000 := by
  unfold spec_l32Open.f
  by_cases h : (l.length : Int) > 2000
  · rw [if_pos h, if_pos (by omega)]
    exact ⟨_, rfl, hb.take _, by rw [List.length_take]; omega⟩
  · rw [if_neg h]
    exact ⟨_, rfl, hb, by omega⟩
theorem e_natl32 (l : List Int) (hb : Bytes l) (hl : l.length ≤ 2000) (x4 : Int) (n : Nat) (hn : n ≤ 256) : ∀ (d k : Nat) (x5 : List Int) (i : Nat) (p : Int), i + d = n → x5.length = i → 0 ≤ p ∧ p + 2 * d ≤ 3000 →
    DR (p + 2 * d + 1) (spec_l32Rd_nat.l0 (k + d + 2) (n : Int) x4 x5 (i : Int) l p) (fun v => v.length ≤ 256) := by
  intro d
  induction d with
  | zero =>
    intro k x5 i p hi hx hp
    rw [show k + 0 + 2 = (k + 1) + 1 from rfl]
    simp only [spec_l32Rd_nat.l0]
    rw [if_neg (by omega)]
    refine DR.ite (fun h => ?_) (fun h => DR.here (by omega) (by omega) (by omega))
    have w : wrap64 ((n : Int) - 1) = (n : Int) - 1 := by unfold wrap64; omega
    rw [w, if_pos (by omega), if_pos (by omega)]
    refine DR.ite (fun _ => ?_) (fun _ => DR.here (by omega) (by omega) (by omega))
    refine DR.bind (e_pick32 k l p 16 hb hl (by omega) (by omega)) ?_
    intro v j h0 h1 hv
    dsimp only
    rw [if_pos (by rw [u64w]; omega)]
    exact DR.here h0 (by omega) (by rw [List.length_set]; omega)
  | succ d ih =>
    intro k x5 i p hi hx hp
    rw [show k + (d + 1) + 2 = (k + d + 2) + 1 by omega]
    have w : wrap64 ((i : Int) + 1) = ((i + 1 : Nat) : Int) := by unfold wrap64; omega
    obtain ⟨K, hK⟩ : ∃ K, K = k + d + 1 := ⟨_, rfl⟩
    have go : ∀ (y : Int) (j : Int), 0 ≤ j → j ≤ p + 2 → DR (p + 2 * ((d + 1 : Nat) : Int) + 1) (spec_l32Rd_nat.l0 (k + d + 2) (n : Int) x4 (x5 ++ [y]) ((i + 1 : Nat) : Int) l j) (fun v => v.length ≤ 256) := by
      intro y j h0 h1
      exact (ih k (x5 ++ [y]) (i + 1) j (by omega) (by simp; omega) (by omega)).mono (by omega) (fun _ h => h)
    rw [show k + d + 2 = K + 1 by omega] at go ⊢
    rw [spec_l32Rd_nat.l0, if_pos (by omega)]
    refine DR.bind (e_pick32 K l p 256 hb hl (by omega) (by omega)) ?_
    intro v j h0 h1 hv
    dsimp only
    refine DR.bind (e_pick32 K l j 256 hb hl (by omega) (by omega)) ?_
    intro v2 j2 h02 h12 hv2
    dsimp only
    rw [w]
    refine DR.ite (fun _ => DR.ite (fun _ => ?_) (fun _ => ?_)) (fun _ => DR.ite (fun _ => ?_) (fun _ => ?_))
    all_goals (rw [if_pos (by omega)]; exact go _ j2 h02 (by omega))
theorem e_nat32 (k : Nat) (l : List Int) (p : Int) (hb : Bytes l) (hl : l.length ≤ 2000) (hp : 0 ≤ p ∧ p ≤ 1000) :
    DR (p + 600) (spec_l32Rd_nat.f (k + 300) l p) (fun v => v.length ≤ 256) := by
  have j0 : ∀ (n : Int) (j : Int), 0 ≤ n → n ≤ 256 → 0 ≤ j → j ≤ p + 10 → DR (p + 600) (spec_l32Rd_nat.j0 (k + 300) n l j) (fun v => v.length ≤ 256) := by
    intro n j hn hn2 h0 h1
    obtain ⟨m, rfl⟩ : ∃ m : Nat, n = (m : Int) := ⟨n.toNat, by omega⟩
    rw [show k + 300 = (k + 299) + 1 from rfl, spec_l32Rd_nat.j0]
    refine DR.bind (e_pick32 (k + 298) l j 5 hb hl (by omega) (by omega)) ?_
    intro v j1 h01 h11 hv
    dsimp only
    have := e_natl32 l hb hl v m (by omega) m (k + 299 - m - 2) [] 0 j1 (by omega) rfl (by omega)
    rw [show k + 299 - m - 2 + m + 2 = k + 299 by omega] at this
    exact this.mono (by omega) (fun _ h => h)
  unfold spec_l32Rd_nat.f
  refine DR.bind (e_pick32 (k + 299) l p 4 hb hl (by omega) (by omega)) ?_
  intro v1 j1 h01 h11 hv1
  dsimp only
  refine DR.bind (e_pick32 (k + 299) l j1 16 hb hl (by omega) (by omega)) ?_
  intro v2 j2 h02 h12 hv2
  dsimp only
  refine DR.ite (fun _ => ?_) (fun _ => DR.ite (fun _ => ?_) (fun _ => DR.ite (fun _ => ?_) (fun _ => ?_)))
  · refine DR.bind (e_pick32 (k + 299) l j2 24 hb hl (by omega) (by omega)) ?_
    intro v3 j3 h03 h13 hv3
    exact j0 v3 j3 (by omega) (by omega) h03 (by omega)
  · refine DR.bind (e_pick32 (k + 299) l j2 6 hb hl (by omega) (by omega)) ?_
    intro v3 j3 h03 h13 hv3
    dsimp only
    refine DR.ite (fun _ => ?_) (fun _ => j0 v1 j3 (by omega) (by omega) h03 (by omega))
    refine DR.bind (e_pick32 (k + 299) l j3 3 hb hl (by omega) (by omega)) ?_
    intro v4 j4 h04 h14 hv4
    dsimp only
    have w : wrap64 (256 - v4) = 256 - v4 := by unfold wrap64; omega
    rw [w]
    exact j0 _ j4 (by omega) (by omega) h04 (by omega)
  · refine DR.bind (e_pick32 (k + 299) l j2 12 hb hl (by omega) (by omega)) ?_
    intro v3 j3 h03 h13 hv3
    dsimp only
    obtain ⟨v, e1, e2, _⟩ := e_sNatOf (k + 300) (IntKind.u64.wrap v3) (by omega) (by rw [u64w]; omega) (by rw [u64w]; omega)
    rw [e1, Option.bind_some]
    exact DR.here h03 (by omega) (by omega)
  · exact j0 v1 j2 (by omega) (by omega) h02 (by omega)
theorem e_rawl32 (l : List Int) : ∀ (d k : Nat) (x : List Int) (p : Int), 257 ≤ x.length + d → x.length ≤ 257 → d < k → 0 ≤ p →
    DR p (spec_l32Rd_raw.l0 k x l p) (fun v => v.length ≤ 257) := by
  intro d
  induction d with
  | zero =>
    intro k x p h1 h2 hk hp
    obtain ⟨k, rfl⟩ : ∃ q, k = q + 1 := ⟨k - 1, by omega⟩
    simp only [spec_l32Rd_raw.l0]
    rw [if_neg (by omega)]
    exact DR.here hp (by omega) h2
  | succ d ih =>
    intro k x p h1 h2 hk hp
    obtain ⟨k, rfl⟩ : ∃ q, k = q + 1 := ⟨k - 1, by omega⟩
    simp only [spec_l32Rd_raw.l0]
    refine DR.ite (fun h => ?_) (fun _ => DR.here hp (by omega) h2)
    rw [if_pos (by omega)]
    exact ih k (x ++ [1]) p (by simp; omega) (by simp; omega) (by omega) hp
theorem e_raw32 (k : Nat) (l : List Int) (p : Int) (hb : Bytes l) (hl : l.length ≤ 2000) (hp : 0 ≤ p ∧ p ≤ 1000) :
    DR (p + 601) (spec_l32Rd_raw.f (k + 300) l p) (fun v => v.length ≤ 257) := by
  unfold spec_l32Rd_raw.f
  refine DR.bind (e_nat32 k l p hb hl hp) ?_
  intro v j h0 h1 hv
  dsimp only
  refine DR.bind (e_pick32 (k + 299) l j 80 hb hl (by omega) (by omega)) ?_
  intro v2 j2 h02 h12 hv2
  dsimp only
  refine DR.ite (fun _ => ?_) (fun _ => DR.ite (fun _ => ?_) (fun _ => DR.ite (fun _ => ?_) (fun _ => DR.ite (fun _ => ?_) (fun _ => ?_))))
  · rw [if_pos (by omega)]; exact DR.here h02 (by omega) (by simp; omega)
  · rw [if_pos (by omega)]; exact DR.here h02 (by omega) (by simp; omega)
  · rw [if_pos (by omega)]; exact DR.here h02 (by omega) (by simp; omega)
  · exact (e_rawl32 l 257 (k + 300) v j2 (by omega) (by omega) (by omega) h02).mono (by omega) (fun _ h => h)
  · exact DR.here h02 (by omega) (by omega)
theorem rd8 (x i : Int) (hx : 0 ≤ x ∧ x < 30) (hi : 0 ≤ i ∧ i < 8) : -1 ≤ rd [0, 1, 2, 3, x, 64, 65, -1] i ∧ rd [0, 1, 2, 3, x, 64, 65, -1] i ≤ 65 := by
  have : i = 0 ∨ i = 1 ∨ i = 2 ∨ i = 3 ∨ i = 4 ∨ i = 5 ∨ i = 6 ∨ i = 7 := by omega
  rcases this with rfl | rfl | rfl | rfl | rfl | rfl | rfl | rfl <;> simp [rd] <;> omega
theorem e_drawPow (k : Nat) (l0 : List Int) (hb0 : Bytes l0) : ∃ a m, spec_DrawNatPow.f (k + 300) l0 = some (a, m) ∧ -1 ≤ m ∧ m ≤ 65 := by
  obtain ⟨l, e, hb, hl⟩ := e_open32 l0 hb0
  unfold spec_DrawNatPow.f
  rw [e, Option.bind_some]
  dsimp only
  obtain ⟨v1, j1, e1, h01, h11, hv1⟩ := e_raw32 k l 0 hb hl (by omega)
  rw [e1, Option.bind_some]
  dsimp only
  obtain ⟨v2, j2, e2, h02, h12, hv2⟩ := e_pick32 (k + 299) l j1 3 hb hl (by omega) (by omega)
  rw [e2, Option.bind_some]
  dsimp only
  by_cases c : v2 > 0
  · rw [if_pos c]
    obtain ⟨v3, j3, e3, h03, h13, hv3⟩ := e_pick32 (k + 299) l j2 30 hb hl (by omega) (by omega)
    rw [e3, Option.bind_some]
    dsimp only
    obtain ⟨v, f1, f2, _⟩ := e_sNatOf (k + 300) (IntKind.u64.wrap v3) (by omega) (by rw [u64w]; omega) (by rw [u64w]; omega)
    rw [f1, Option.bind_some]
    obtain ⟨v4, j4, e4, h04, h14, hv4⟩ := e_pick32 (k + 299) l j3 30 hb hl (by omega) (by omega)
    rw [e4, Option.bind_some]
    dsimp only
    rw [Option.bind_some]
    obtain ⟨v5, j5, e5, h05, h15, hv5⟩ := e_pick32 (k + 299) l j4 8 hb hl (by omega) (by omega)
    rw [e5, Option.bind_some]
    dsimp only
    rw [if_pos hv5.1, if_pos (by simp; omega)]
    exact ⟨_, _, rfl, rd8 v4 v5 hv4 hv5⟩
  · rw [if_neg c]
    obtain ⟨v4, j4, e4, h04, h14, hv4⟩ := e_pick32 (k + 299) l j2 30 hb hl (by omega) (by omega)
    rw [e4, Option.bind_some]
    dsimp only
    rw [Option.bind_some]
    obtain ⟨v5, j5, e5, h05, h15, hv5⟩ := e_pick32 (k + 299) l j4 8 hb hl (by omega) (by omega)
    rw [e5, Option.bind_some]
    dsimp only
    rw [if_pos hv5.1, if_pos (by simp; omega)]
    exact ⟨_, _, rfl, rd8 v4 v5 hv4 hv5⟩
theorem e_pwSame_l (l : List Int) (hl : l.length ≤ 1048576) (d : Nat) : ∀ (i k : Nat), i + d = l.length → d < k → laws_pwSame.l0 k l l (i : Int) = some true := by
  induction d with
  | zero =>
    intro i k hi hk
    obtain ⟨k, rfl⟩ : ∃ q, k = q + 1 := ⟨k - 1, by omega⟩
    simp only [laws_pwSame.l0]
    rw [if_neg (by omega)]
  | succ d ih =>
    intro i k hi hk
    obtain ⟨k, rfl⟩ : ∃ q, k = q + 1 := ⟨k - 1, by omega⟩
    have e := w64i i (by omega)
    simp only [laws_pwSame.l0]
    rw [if_pos (by omega), if_pos (by omega), if_pos (by omega), e]
    simp only [if_true]
    exact ih (i + 1) k (by omega) (by omega)
theorem e_pwSame (k : Nat) (l : List Int) (hl : l.length ≤ 256) (hk : 256 < k) : laws_pwSame.f k l l = some true := by
  unfold laws_pwSame.f
  rw [if_pos rfl]
  exact e_pwSame_l l (by omega) l.length 0 k (by omega) (by omega)
theorem e_mulPair (k : Nat) (x y : List Int) (cx : MN.Can x) (cy : MN.Can y) (lx : x.length ≤ 256) (ly : y.length ≤ 256) (hk : 400000 ≤ k) :
    ∃ (v : List Int) (ok : Bool), v.length ≤ 256 ∧ impl_NatMul.f k x y = some (v, ok) ∧ (ok = true ↔ MN.val x * MN.val y < MN.pw 256) ∧ (ok = true → MN.Can v ∧ MN.val v = MN.val x * MN.val y) ∧ (ok = false → v = []) := by
  obtain ⟨z, f1, f2, f3, f4⟩ := e_iMul k x y cx.1 cy.1 (by omega) ly (by omega)
  have a : natOk x = true := natOk_iff.mpr ⟨lx, cx⟩
  have b : natOk y = true := natOk_iff.mpr ⟨ly, cy⟩
  have hl := MN.trimD_length z
  have cz := MN.Can.trimD f3
  have e : impl_NatMul.f k x y = some (toldOf z) := by
    unfold impl_NatMul.f impl_nats.f
    simp only [List.all_cons, List.all_nil, a, b, Bool.and_true, Option.bind_some, if_true, f1]
    rw [e_iTold k _ (by omega) (by omega), Option.bind_some]
    unfold toldOf; rw [MN.trimD_can cz]
  by_cases c : (MN.trimD z).length ≤ 256
  · refine ⟨MN.trimD z, true, c, ?_, ⟨fun _ => ?_, fun _ => rfl⟩, fun _ => ⟨cz, by rw [MN.val_trimD, f4]⟩, fun h => by cases h⟩
    · rw [e]; unfold toldOf; rw [if_pos c]
    · rw [← f4, ← MN.val_trimD z]; exact MN.Can.lt_of_len cz.1 c
  · refine ⟨[], false, by simp, ?_, ⟨fun h => (by cases h), fun h => ?_⟩, fun h => (by cases h), fun _ => rfl⟩
    · rw [e]; unfold toldOf; rw [if_neg c]
    · exfalso
      rw [← f4, ← MN.val_trimD z] at h
      exact c (cz.len_le h)
theorem FnNatPow : laws_FnNatPow.Pure := by
  intro l0 l1 _ _ hb0 _ _ hb1
  refine ⟨400302, ?_⟩
  have j0 : ∀ b, laws_FnNatPow.j0 400302 l0 l1 b = some true := by
    intro b
    rw [show (400302 : Nat) = 400301 + 1 from rfl, laws_FnNatPow.j0]
    cases b with
    | true => rfl
    | false =>
      rw [if_neg (by decide)]
      obtain ⟨a, m, d1, d2, d3⟩ := e_drawPow 400001 l0 hb0
      obtain ⟨a', n, d4, d5, d6⟩ := e_drawPow 400001 l1 hb1
      rw [show (400301 : Nat) = 400001 + 300 from rfl, d1, Option.bind_some, d4, Option.bind_some]
      dsimp only
      rw [show (400001 + 300 : Nat) = 400300 + 1 from rfl]
      obtain ⟨x, u, lx, s1, i1, iu, xu, _⟩ := e_powPair (400300 + 1) a m (by omega)
      obtain ⟨y, v, ly, s2, i2, iv, yv, _⟩ := e_powPair (400300 + 1) a n (by omega)
      rw [i1, Option.bind_some, i2, Option.bind_some, s1, Option.bind_some]
      simp only [bne_self_eq_false, Bool.false_eq_true, if_false]
      have j1 : ∀ c, (c = false → u = true ∧ v = true ∧ ¬ wrap64 (m + n) > 64) → laws_FnNatPow.j1 (400300 + 1) a m n x y c = some true := by
        intro c hc
        rw [laws_FnNatPow.j1]
        cases c with
        | true => rfl
        | false =>
          rw [if_neg (by decide)]
          obtain ⟨hu, hv, hs⟩ := hc rfl
          obtain ⟨ka, km, kl⟩ := iu.mp hu
          obtain ⟨_, kn, kl2⟩ := iv.mp hv
          have w : wrap64 (m + n) = m + n := by unfold wrap64; omega
          rw [w] at hs ⊢
          obtain ⟨cx, vx⟩ := xu hu
          obtain ⟨cy, vy⟩ := yv hv
          obtain ⟨z, t, lz, _, i3, it, zt, z0⟩ := e_powPair 400300 a (m + n) (by omega)
          obtain ⟨p, ok, lp, i4, iok, pok, p0⟩ := e_mulPair 400300 x y cx cy lx ly (by omega)
          have hval : MN.val x * MN.val y = MN.val a ^ (m + n).toNat := by
            rw [vx, vy, ← Int.pow_add]; congr 1; omega
          have ht : t = ok := by
            rw [Bool.eq_iff_iff, it, iok, hval]
            exact ⟨fun h => h.2.2, fun h => ⟨ka, by omega, h⟩⟩
          subst ht
          have hz : z = p := by
            cases t with
            | true =>
              obtain ⟨c1, v1⟩ := zt rfl
              obtain ⟨c2, v2⟩ := pok rfl
              exact c1.inj c2 (by rw [v1, v2, hval])
            | false => rw [z0 rfl, p0 rfl]
          subst hz
          rw [i3, Option.bind_some, i4, Option.bind_some]
          simp only [beq_self_eq_true, if_true]
          rw [e_pwSame 400300 z lz (by omega)]; rfl
      by_cases hu : u = true
      · rw [if_pos hu]
        by_cases hv : v = true
        · rw [if_pos hv]; exact j1 _ (fun h => ⟨hu, hv, of_decide_eq_false h⟩)
        · rw [if_neg hv]; exact j1 _ (fun h => by cases h)
      · rw [if_neg hu]; exact j1 _ (fun h => by cases h)
  unfold laws_FnNatPow.f
  by_cases h : (l0.length : Int) > 1048576
  · rw [if_pos h]; exact j0 _
  · rw [if_neg h]; exact j0 _
end Go.Proofs.Ytaachpcidikagaa.Pure
