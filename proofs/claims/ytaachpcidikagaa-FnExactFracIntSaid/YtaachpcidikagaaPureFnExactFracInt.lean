/- FracInt of the program and of the reference agree for every whole number; what is told is the caller's own.
   Conditions: none beyond those of the given row (each number is of its kind). -/
import Derived.Test.YtaachpcidikagaaQFnExactFracIntx2
import Derived.Test.YtaachpcidikagaaMB
import Derived.Test.YtaachpcidikagaaMN
namespace Go.Proofs.Ytaachpcidikagaa.Pure
open Go.RowKit Go.Proofs.Ytaachpcidikagaa.QFnExactFracInt Go.Proofs.YtaachpcidikagaaW.PrintWords Go.Proofs.YtaachpcidikagaaW.PrintLast Go.Proofs.YtaachpcidikagaaW.PrintMore Go.Proofs.Ytaachpcidikagaa.M Go.Proofs.Ytaachpcidikagaa.MN
set_option linter.unusedVariables false
set_option linter.unusedSimpArgs false
theorem w64i (i : Nat) (h : i ≤ 1048576) : wrap64 ((i : Int) + 1) = ((i + 1 : Nat) : Int) := by unfold wrap64; omega
theorem e_rd (l : List Int) (i : Nat) (h : i < l.length) : rd l (i : Int) = l[i] := by simp [rd, List.getD_eq_getElem?_getD, List.getElem?_eq_getElem h]
theorem e_eqIntS_l (l : List Int) (hl : l.length ≤ 1048576) (d : Nat) : ∀ (i k : Nat), i + d = l.length → d < k → laws_eqIntS.l0 k l l (i : Int) = some true := by
  induction d with
  | zero =>
    intro i k hi hk
    obtain ⟨k, rfl⟩ : ∃ m, k = m + 1 := ⟨k - 1, by omega⟩
    simp only [laws_eqIntS.l0]; rw [if_neg (by omega)]
  | succ d ih =>
    intro i k hi hk
    obtain ⟨k, rfl⟩ : ∃ m, k = m + 1 := ⟨k - 1, by omega⟩
    simp only [laws_eqIntS.l0]
    rw [if_pos (by omega), if_pos (by omega), if_pos (by omega), if_pos trivial, w64i i (by omega)]
    exact ih (i + 1) k (by omega) (by omega)
theorem e_eqIntS (k : Nat) (l : List Int) (hl : l.length ≤ 1048576) (hk : l.length < k) : laws_eqIntS.f k l l = some true := by
  unfold laws_eqIntS.f; rw [if_pos rfl]; exact e_eqIntS_l l hl l.length 0 k (by omega) hk
def marks : Int → Nat → List Int
  | _, 0 => []
  | a, n + 1 => a :: marks (a + 1) n
theorem marks_length : ∀ (n : Nat) (a : Int), (marks a n).length = n := by
  intro n; induction n with
  | zero => intro a; rfl
  | succ n ih => intro a; simp [marks, ih]
theorem e_mark_l : ∀ (suf pre : List Int) (a : Int) (k : Nat), suf.length < k → pre.length + suf.length ≤ 1048576 → 0 ≤ a ∧ a + suf.length ≤ 9000000 → laws_markIntS.l0 k (pre ++ suf) a (pre.length : Int) = some (a + suf.length, pre ++ marks a suf.length) := by
  intro suf; induction suf with
  | nil =>
    intro pre a k hk hl ha
    obtain ⟨k, rfl⟩ : ∃ m, k = m + 1 := ⟨k - 1, by simp at hk; omega⟩
    simp only [laws_markIntS.l0]
    rw [if_neg (by simp)]; simp [marks]
  | cons s suf ih =>
    intro pre a k hk hl ha
    simp only [List.length_cons] at hk hl ha
    obtain ⟨k, rfl⟩ : ∃ m, k = m + 1 := ⟨k - 1, by omega⟩
    simp only [laws_markIntS.l0]
    rw [if_pos (by simp; omega), if_pos (by omega)]
    have e1 : (pre ++ s :: suf).set ((pre.length : Int)).toNat a = (pre ++ [a]) ++ suf := by
      rw [Int.toNat_natCast, List.set_append_right _ _ (Nat.le_refl _), Nat.sub_self, List.set_cons_zero, List.append_assoc]; rfl
    have e2 : wrap64 (a + 1) = a + 1 := by unfold wrap64; omega
    have e3 : wrap64 ((pre.length : Int) + 1) = ((pre ++ [a]).length : Int) := by rw [List.length_append]; simp; unfold wrap64; omega
    rw [e1, e2, e3, ih (pre ++ [a]) (a + 1) k (by omega) (by rw [List.length_append]; simp; omega) (by omega)]
    simp [marks]; omega
theorem e_mark (k : Nat) (l : List Int) (a : Int) (hk : l.length < k) (hl : l.length ≤ 1048576) (ha : 0 ≤ a ∧ a ≤ 7000000) : laws_markIntS.f k l a = some (a + l.length, marks a l.length) := by
  have := e_mark_l l [] a k hk (by simpa using hl) (by omega)
  simpa [laws_markIntS.f] using this
theorem e_held_l : ∀ (n : Nat) (pre : List Int) (a : Int) (k : Nat), n < k → pre.length + n ≤ 1048576 → 0 ≤ a ∧ a + n ≤ 9000000 → laws_heldIntS.l0 k (pre ++ marks a n) a (pre.length : Int) = some (a + n) := by
  intro n; induction n with
  | zero =>
    intro pre a k hk hl ha
    obtain ⟨k, rfl⟩ : ∃ m, k = m + 1 := ⟨k - 1, by omega⟩
    simp only [laws_heldIntS.l0]
    rw [if_neg (by simp [marks])]; simp
  | succ n ih =>
    intro pre a k hk hl ha
    obtain ⟨k, rfl⟩ : ∃ m, k = m + 1 := ⟨k - 1, by omega⟩
    simp only [laws_heldIntS.l0]
    have e0 : rd (pre ++ marks a (n + 1)) (pre.length : Int) = a := by
      rw [e_rd _ _ (by rw [List.length_append, marks_length]; omega)]; simp [marks]
    have e2 : wrap64 (a + 1) = a + 1 := by unfold wrap64; omega
    have e3 : wrap64 ((pre.length : Int) + 1) = ((pre ++ [a]).length : Int) := by rw [List.length_append]; simp; unfold wrap64; omega
    have e1 : pre ++ marks a (n + 1) = (pre ++ [a]) ++ marks (a + 1) n := by simp [marks]
    rw [if_pos (by rw [List.length_append, marks_length]; omega), if_pos (by omega), if_pos e0, e2, e3, e1, ih (pre ++ [a]) (a + 1) k (by omega) (by rw [List.length_append]; simp; omega) (by omega), Option.some.injEq]
    omega
theorem e_held (k : Nat) (n : Nat) (a : Int) (hk : n < k) (hl : n ≤ 1048576) (ha : 0 ≤ a ∧ a ≤ 7000000) : laws_heldIntS.f k (marks a n) a = some (a + n) := by
  have := e_held_l n [] a k hk (by simpa using hl) (by omega)
  simpa [laws_heldIntS.f] using this
theorem u64_mask16 (n : Int) (h0 : 0 ≤ n) (h1 : n < 18446744073709551616) : Go.bits .and .u64 n 65535 = n % 65536 := by
  rw [u64_and _ _ h0 h1 (by decide) (by decide)]
  have := Nat.and_two_pow_sub_one_eq_mod n.toNat 16
  rw [show (65535 : Int).toNat = 2 ^ 16 - 1 by decide, this]; omega
theorem e_sNatOf_l : ∀ (d k : Nat) (x : Int) (acc : List Int), d < k → 0 ≤ x → x < 65536 ^ d → x < 18446744073709551616 → acc.length + d ≤ 1000 →
    ∃ v, spec_NatOf.l0 k x acc = some v ∧ v.length ≤ acc.length + d ∧ ∃ s, v = acc ++ s ∧ MN.Can s ∧ MN.val s = x := by
  intro d; induction d with
  | zero =>
    intro k x acc hk h0 h1 h2 hl
    obtain ⟨k, rfl⟩ : ∃ m, k = m + 1 := ⟨k - 1, by omega⟩
    have : x = 0 := by simp at h1; omega
    subst this
    refine ⟨acc, by simp only [spec_NatOf.l0]; rw [if_neg (by decide)], by omega, [], by simp, MN.Can.nil, rfl⟩
  | succ d ih =>
    intro k x acc hk h0 h1 h2 hl
    obtain ⟨k, rfl⟩ : ∃ m, k = m + 1 := ⟨k - 1, by omega⟩
    simp only [spec_NatOf.l0]
    by_cases c : x > 0
    · rw [if_pos c, if_pos (by omega)]
      have e1 : IntKind.u64.wrap (Int.tdiv x 65536) = x / 65536 := by rw [Int.tdiv_eq_ediv_of_nonneg h0]; simp [IntKind.wrap, IntKind.signed, IntKind.bits]; omega
      have e2 : wrap64 (Int.tmod x 65536) = x % 65536 := by rw [Int.tmod_eq_emod_of_nonneg h0]; unfold wrap64; omega
      rw [e1, e2]
      have h3 : x / 65536 < 65536 ^ d := by rw [Int.pow_succ] at h1; omega
      obtain ⟨v, hv, hl2, s, hs, hc, hval⟩ := ih k (x / 65536) (acc ++ [x % 65536]) (by omega) (by omega) h3 (by omega) (by rw [List.length_append]; simp; omega)
      refine ⟨v, hv, by rw [List.length_append] at hl2; simp at hl2; omega, x % 65536 :: s, by rw [hs]; simp, ?_, ?_⟩
      · refine ⟨MN.DOk.cons (by omega) (by omega) hc.1, ?_⟩
        by_cases z : s = []
        · subst z; have : x / 65536 = 0 := by rw [← hval]; rfl
          simp; omega
        · rw [MN.getLast?_cons_ne z]; exact hc.2
      · simp only [MN.val, hval]; omega
    · rw [if_neg c]
      exact ⟨acc, rfl, by omega, [], by simp, MN.Can.nil, by simp [MN.val]; omega⟩
theorem e_sNatOf (k : Nat) (x : Int) (hk : 4 < k) (h0 : 0 ≤ x) (h2 : x < 18446744073709551616) : ∃ v, spec_NatOf.f k x = some v ∧ v.length ≤ 4 ∧ MN.Can v ∧ MN.val v = x := by
  obtain ⟨v, h, hl, s, hs, hc, hv⟩ := e_sNatOf_l 4 k x [] hk h0 (by omega) h2 (by simp)
  have : v = s := by simpa using hs
  subst this
  exact ⟨v, h, by simpa using hl, hc, hv⟩
theorem e_iNatOf_l : ∀ (k : Nat) (x : Int) (acc : List Int), 0 ≤ x → x < 18446744073709551616 → impl_natOf.l0 k x acc = spec_NatOf.l0 k x acc := by
  intro k; induction k with
  | zero => intro x acc _ _; rfl
  | succ k ih =>
    intro x acc h0 h2
    simp only [spec_NatOf.l0, impl_natOf.l0]
    have e1 : IntKind.u64.wrap (Int.tdiv x 65536) = x / 65536 := by rw [Int.tdiv_eq_ediv_of_nonneg h0]; simp [IntKind.wrap, IntKind.signed, IntKind.bits]; omega
    have e2 : Int.tmod x 65536 = x % 65536 := Int.tmod_eq_emod_of_nonneg h0
    rw [e1, e2, u64_mask16 x h0 h2, ih (x / 65536) _ (by omega) (by omega)]
theorem e_clone (l : List Int) (h : l.length ≤ 17592186044416) : impl_clone_int.f l = some l := by
  unfold impl_clone_int.f slices_Clone_int_int.f; rw [if_pos h]
theorem FnExactFracInt : laws_FnExactFracInt.Pure := by
  intro a0 hw
  have hb := wf64 hw
  refine ⟨1000, ?_⟩
  obtain ⟨m, hm⟩ : ∃ m, m = if a0 < 0 then IntKind.u64.wrap (-(IntKind.u64.wrap a0)) else IntKind.u64.wrap a0 := ⟨_, rfl⟩
  have r : 0 ≤ m ∧ m < 18446744073709551616 := by
    rw [hm]; split
    · rw [u64w]; omega
    · rw [u64w]; omega
  have hp : a0 < 0 → 0 < m := by
    intro h; rw [hm, if_pos h, u64w, u64w]; omega
  obtain ⟨v, s1, s2, s3, s4⟩ := e_sNatOf 1000 m (by omega) r.1 r.2
  have i1 : impl_natOf.f 1000 m = some v := by
    unfold impl_natOf.f; rw [e_iNatOf_l _ _ _ r.1 r.2]; exact s1
  have hv : a0 < 0 → (v.length : Int) > 0 := by
    intro h
    have := hp h
    rcases Nat.eq_zero_or_pos v.length with e | e
    · have : v = [] := List.eq_nil_of_length_eq_zero e
      subst this
      simp [MN.val] at s4; omega
    · omega
  have g1 : ∀ b, impl_given.f 1000 b v [1] = some (b, v, [1], true) := by
    intro b
    unfold impl_given.f
    rw [if_neg (by omega), decide_eq_false (by simp)]
    simp only [impl_given.j0, Bool.false_eq_true, if_false, e_clone v (by omega), e_clone [1] (by simp), Option.bind_some]
  have e1 : spec_FracInt.f 1000 a0 = some (decide (a0 < 0), v, [1]) := by
    unfold spec_FracInt.f
    simp only [Option.bind_some]
    by_cases h : a0 < 0
    · rw [if_pos h] at hm
      rw [if_pos h, ← hm, s1]; rfl
    · rw [if_neg h] at hm
      rw [if_neg h, ← hm, s1]; rfl
  have e2 : impl_FracInt.f 1000 a0 = some (decide (a0 < 0), v, [1]) := by
    unfold impl_FracInt.f impl_whole.f
    by_cases h : a0 < 0
    · rw [if_pos h] at hm
      rw [if_pos h, ← hm, i1]
      simp only [Option.bind_some, decide_eq_true h, if_true, decide_eq_true (hv h), g1]
    · rw [if_neg h] at hm
      rw [if_neg h, ← hm, i1]
      simp only [Option.bind_some, decide_eq_false h, Bool.false_eq_true, if_false, g1]
  have q1 := e_eqIntS 1000 v (by omega) (by omega)
  have q2 := e_eqIntS 1000 [1] (by simp) (by simp)
  have f1 : laws_eqFrac.f 1000 (decide (a0 < 0)) v [1] (decide (a0 < 0)) v [1] = some true := by
    unfold laws_eqFrac.f
    simp [q1, q2]
  have m1 := e_mark 1000 v 1 (by omega) (by omega) (by omega)
  have m2 := e_mark 1000 [1] (1 + v.length) (by simp) (by simp) (by omega)
  have h1 := e_held 1000 v.length 1 (by omega) (by omega) (by omega)
  have h2 := e_held 1000 1 (1 + v.length) (by omega) (by omega) (by omega)
  have f2 : laws_markFrac.f 1000 (decide (a0 < 0)) v [1] 1 = some (1 + (v.length : Int) + 1, marks 1 v.length, marks (1 + (v.length : Int)) 1) := by
    unfold laws_markFrac.f
    rw [m1, Option.bind_some, m2, Option.bind_some]
    rfl
  have f3 : laws_heldFrac.f 1000 (decide (a0 < 0)) (marks 1 v.length) (marks (1 + (v.length : Int)) 1) 1 = some (1 + (v.length : Int) + 1) := by
    unfold laws_heldFrac.f
    rw [h1, Option.bind_some, if_neg (by omega), h2, Option.bind_some, if_neg (by omega)]
    rfl
  unfold laws_FnExactFracInt.f
  simp only [e1, e2, Option.bind_some, f1, if_true, f2, f3]
  rw [if_neg (by omega), if_neg (by omega)]
end Go.Proofs.Ytaachpcidikagaa.Pure
