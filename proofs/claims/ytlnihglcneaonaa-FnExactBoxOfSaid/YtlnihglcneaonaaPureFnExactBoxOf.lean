/- BoxOf of the program and of the reference agree for every width and list of patterns.
   Conditions: none beyond those of the given row (each number is of its kind). -/
import Derived.Test.YtlnihglcneaonaaQFnExactBoxOfx6
import Derived.Test.YtlnihglcneaonaaMB
namespace Go.Proofs.Ytlnihglcneaonaa.Pure
open Go.RowKit Go.Proofs.Ytlnihglcneaonaa.QFnExactBoxOf Go.Proofs.YtlnihglcneaonaaW.PrintWords Go.Proofs.YtlnihglcneaonaaW.PrintLast Go.Proofs.YtlnihglcneaonaaW.PrintMore Go.Proofs.Ytlnihglcneaonaa.M
set_option linter.unusedVariables false
set_option linter.unusedSimpArgs false
theorem e_sBitTop (w : Int) : spec_BitTop.f w = some (top w) := by
  unfold spec_BitTop.f top; split
  · rfl
  · split <;> rfl
theorem e_formatOf (w : Int) : impl_formatOf.f w = some (if w = 32 then (23, -149, 127, top w, true) else if w = 64 then (52, -1074, 1023, top w, true) else (0, 0, 0, top w, false)) := by
  unfold impl_formatOf.f top
  by_cases h : w = 32
  · simp [h]
  · by_cases h' : w = 64
    · simp [h']
    · simp [h, h']
theorem e_iBitTop (w : Int) : impl_BitTop.f w = some (top w) := by
  unfold impl_BitTop.f; rw [e_formatOf]
  by_cases h : w = 32
  · simp [h]
  · by_cases h' : w = 64
    · simp [h']
    · simp [h, h']
theorem e_sBitOk (w n : Int) : spec_BitOk.f w n = some (bitOk w n) := by
  unfold spec_BitOk.f spec_l1Width.f
  simp only [e_sBitTop, Option.bind_some, top_neg, bitOk]
  by_cases h : w = 32
  · subst h; simp; split <;> simp_all; omega
  · by_cases h' : w = 64
    · subst h'; simp; split <;> simp_all; omega
    · simp [h, h']
theorem e_in (n a b : Int) : impl_in.f n a b = some (decide (a ≤ n ∧ n ≤ b)) := by
  unfold impl_in.f; split
  · simp_all
  · simp; omega
theorem e_iBitOk (w n : Int) : impl_BitOk.f w n = some (bitOk w n) := by
  unfold impl_BitOk.f
  simp only [e_formatOf, Option.bind_some, e_in]
  by_cases h : w = 32
  · subst h; simp [bitOk, top_neg]
  · by_cases h' : w = 64
    · subst h'; simp [bitOk, top_neg]
    · simp [h, h', bitOk]
theorem e_sPairOk (w a b : Int) : spec_PairOk.f w a b = some (pairOk w a b) := by
  unfold spec_PairOk.f
  simp only [e_sBitTop, e_sBitOk, Option.bind_some, top_neg]
  have no : ∀ h : ¬ ((w = 32 ∨ w = 64) ∧ -top w ≤ a ∧ a ≤ b ∧ b ≤ top w ∧ a ≠ top w ∧ b ≠ -top w), some false = some (pairOk w a b) := fun h => by rw [pairOk, decide_eq_false h]
  by_cases h1 : bitOk w a = true
  · by_cases h2 : bitOk w b = true
    · have q1 := bitOk_iff.mp h1
      have q2 := bitOk_iff.mp h2
      rw [if_pos h1, if_pos h2]
      by_cases c1 : a ≤ b
      · rw [if_pos c1]
        by_cases c2 : a < top w
        · rw [if_pos c2, pairOk]; congr 1; rw [decide_eq_decide]; omega
        · rw [if_neg c2]; exact no (by omega)
      · rw [if_neg c1]; exact no (by omega)
    · rw [if_pos h1, if_neg h2]; exact no (fun q => h2 (bitOk_iff.mpr (by omega)))
  · rw [if_neg h1]; exact no (fun q => h1 (bitOk_iff.mpr (by omega)))
theorem e_iPairOk (w a b : Int) : impl_PairOk.f w a b = some (pairOk w a b) := by
  unfold impl_PairOk.f
  simp only [e_iBitTop, e_iBitOk, Option.bind_some, top_neg]
  have no : ∀ h : ¬ ((w = 32 ∨ w = 64) ∧ -top w ≤ a ∧ a ≤ b ∧ b ≤ top w ∧ a ≠ top w ∧ b ≠ -top w), some false = some (pairOk w a b) := fun h => by rw [pairOk, decide_eq_false h]
  by_cases h1 : bitOk w a = true
  · by_cases h2 : bitOk w b = true
    · have q1 := bitOk_iff.mp h1
      have q2 := bitOk_iff.mp h2
      rw [if_pos h1, if_pos h2]
      by_cases c1 : a ≤ b
      · rw [if_pos c1]
        by_cases c2 : a = top w
        · rw [if_pos c2]; exact no (by omega)
        · rw [if_neg c2]; congr 1; rw [Bool.eq_iff_iff, bne_iff_ne, pairOk_iff]; omega
      · rw [if_neg c1]; exact no (by omega)
    · rw [if_pos h1, if_neg h2]; exact no (fun q => h2 (bitOk_iff.mpr (by omega)))
  · rw [if_neg h1]; exact no (fun q => h1 (bitOk_iff.mpr (by omega)))
theorem bx_w (x : Int) (h0 : 0 ≤ x) (h1 : x ≤ 140737488351232) : wrap64 (x + 1) = x + 1 := by
  unfold wrap64; omega
theorem bx_eql (a : List S64) (ha : a.length ≤ 1048576) : ∀ (m i k : Nat), i + m = a.length → m < k → laws_eqPairS.l0 k a a (i : Int) = some true := by
  intro m
  induction m with
  | zero =>
    intro i k hi hk
    obtain ⟨k, rfl⟩ : ∃ q, k = q + 1 := ⟨k - 1, by omega⟩
    rw [laws_eqPairS.l0, if_neg (by omega)]
  | succ m ih =>
    intro i k hi hk
    obtain ⟨k, rfl⟩ : ∃ q, k = q + 1 := ⟨k - 1, by omega⟩
    have hn : laws_eqPairS.l0 k a a ((i : Int) + 1) = some true := ih (i + 1) k (by omega) (by omega)
    rw [laws_eqPairS.l0, if_pos (by omega), if_pos (by omega), if_pos (by omega), laws_eqPair.f, if_pos rfl, if_pos rfl, Option.bind_some, if_pos rfl, bx_w i (by omega) (by omega)]
    exact hn
theorem bx_eq (a : List S64) (ha : a.length ≤ 1048576) (k : Nat) (hk : a.length < k) : laws_eqBox.f k a a = some true := by
  unfold laws_eqBox.f laws_eqPairS.f
  rw [if_pos rfl, show laws_eqPairS.l0 k a a 0 = some true from bx_eql a ha a.length 0 k (by omega) hk]
  rfl
theorem bk_sl (w : Int) (l : List S64) (hl : l.length ≤ 6) : ∀ (m i k : Nat), i + m = l.length → m < k → spec_BoxOk.l0 k w (i : Int) l = some ((l.drop i).all fun x => pairOk w x.f0 x.f1) := by
  intro m
  induction m with
  | zero =>
    intro i k hi hk
    obtain ⟨k, rfl⟩ : ∃ q, k = q + 1 := ⟨k - 1, by omega⟩
    rw [spec_BoxOk.l0, if_neg (by omega), List.drop_eq_nil_of_le (by omega)]
    rfl
  | succ m ih =>
    intro i k hi hk
    obtain ⟨k, rfl⟩ : ∃ q, k = q + 1 := ⟨k - 1, by omega⟩
    have hn : spec_BoxOk.l0 k w ((i : Int) + 1) l = some ((l.drop (i + 1)).all fun x => pairOk w x.f0 x.f1) := ih (i + 1) k (by omega) (by omega)
    have hlt : i < l.length := by omega
    have hr : rd_T64 l (i : Int) = l[i] := by
      unfold rd_T64
      rw [Int.toNat_natCast, List.getD_eq_getElem?_getD, List.getElem?_eq_getElem hlt]
      rfl
    rw [spec_BoxOk.l0, if_pos (by omega), if_pos (by omega), e_sPairOk, hr, bx_w i (by omega) (by omega), hn, List.drop_eq_getElem_cons hlt, List.all_cons, Option.bind_some]
    cases pairOk w l[i].f0 l[i].f1 <;> simp
def boxOk (w : Int) (l : List S64) : Bool := decide (1 ≤ l.length ∧ l.length ≤ 6) && l.all fun x => pairOk w x.f0 x.f1
theorem bk_s (w : Int) (l : List S64) (k : Nat) (hk : 8 ≤ k) : spec_BoxOk.f k w l = some (boxOk w l) := by
  obtain ⟨k, rfl⟩ : ∃ q, k = q + 1 := ⟨k - 1, by omega⟩
  unfold spec_BoxOk.f boxOk
  by_cases h1 : (l.length : Int) < 1
  · rw [if_pos h1, spec_BoxOk.j0, if_pos rfl, decide_eq_false (show ¬ (1 ≤ l.length ∧ l.length ≤ 6) by omega)]; rfl
  · by_cases h6 : (l.length : Int) > 6
    · rw [if_neg h1, decide_eq_true h6, spec_BoxOk.j0, if_pos rfl, decide_eq_false (show ¬ (1 ≤ l.length ∧ l.length ≤ 6) by omega)]; rfl
    · rw [if_neg h1, decide_eq_false h6, spec_BoxOk.j0, if_neg (by decide), decide_eq_true (show 1 ≤ l.length ∧ l.length ≤ 6 by omega)]
      exact bk_sl w l (by omega) l.length 0 k (by omega) (by omega)
theorem bk_i (w : Int) (l : List S64) : impl_BoxOk.f w l = some (boxOk w l) := by
  unfold impl_BoxOk.f bokIn boxOk
  have hb : ∀ x, bokBad w x = !(pairOk w x.f0 x.f1) := fun x => by
    unfold bokBad
    rw [e_iPairOk]
    cases pairOk w x.f0 x.f1 <;> rfl
  rw [if_pos (by simp [e_iPairOk])]
  congr 2
  rw [List.not_any_eq_all_not]
  congr 1
  funext x
  rw [hb, Bool.not_not]
theorem bo_ord3 (w x : Int) (h1 : 0 ≤ x ∧ x ≤ 18446744073709551615) (k : Nat) : ∃ r, spec_BitOrd.f (k + 1) w x = some r ∧ impl_BitOrd.f (k + 1) w x = some r ∧ spec_BitOrd.f 1 w x = some r := by
  unfold spec_BitOrd.f impl_BitOrd.f
  simp only [e_formatOf, Option.bind_some, spec_l1Width.f]
  by_cases h : w = 32
  · subst h
    have q0 : wrap64 (32 - 1) = 31 := by decide +kernel
    have q1 : shl .u64 1 (IntKind.u64.wrap 31) = 2147483648 := by decide +kernel
    have q2 : shl .u64 1 31 = 2147483648 := by decide +kernel
    have q3 : 0 ≤ IntKind.u64.wrap 31 := by decide +kernel
    have q4 : IntKind.u64.wrap 2139095040 = 2139095040 := by decide +kernel
    simp only [if_true, spec_BitOrd.j0, impl_BitOrd.j0, q0, q1, q2, q3, q4, e_sBitTop, top_32, Option.bind_some]
    by_cases c : x < 4294967296
    · rw [and_31 x h1.1 c, clear_31 x h1.1 c, Int.tmod_eq_emod_of_nonneg h1.1]
      have c1 : ¬ (x / 4294967296 > 0) := by omega
      have c2 : ¬ (x ≥ 4294967296) := by omega
      simp only [c1, c2, decide_false, Bool.false_eq_true, if_false, show ¬ ((2147483648 : Int) = 0) by decide, show (0 : Int) ≤ 31 by decide, if_true]
      by_cases d : x % 2147483648 > 2139095040
      · simp [d]
      · simp only [d, if_false]
        by_cases g : x ≥ 2147483648
        · rw [if_pos g, if_neg (by omega)]; exact ⟨_, rfl, rfl, rfl⟩
        · rw [if_neg g, if_pos (by omega)]; exact ⟨_, rfl, rfl, rfl⟩
    · have c1 : x / 4294967296 > 0 := by omega
      have c2 : x ≥ 4294967296 := by omega
      simp [c1, c2]
  · by_cases h' : w = 64
    · subst h'
      have q0 : wrap64 (64 - 1) = 63 := by decide +kernel
      have q1 : shl .u64 1 (IntKind.u64.wrap 63) = 9223372036854775808 := by decide +kernel
      have q2 : shl .u64 1 63 = 9223372036854775808 := by decide +kernel
      have q3 : 0 ≤ IntKind.u64.wrap 63 := by decide +kernel
      have q4 : IntKind.u64.wrap 9218868437227405312 = 9218868437227405312 := by decide +kernel
      simp only [if_true, spec_BitOrd.j0, impl_BitOrd.j0, q0, q1, q2, q3, q4, e_sBitTop, top_64, Option.bind_some, show ¬ (64 : Int) = 32 by decide, if_false, BEq.rfl]
      rw [and_top x h1.1 (by omega), clear_top x h1.1 (by omega), Int.tmod_eq_emod_of_nonneg h1.1]
      simp only [Bool.false_eq_true, if_false, show ¬ ((9223372036854775808 : Int) = 0) by decide, show (0 : Int) ≤ 63 by decide, if_true]
      by_cases d : x % 9223372036854775808 > 9218868437227405312
      · simp [d]
      · simp only [d, if_false]
        by_cases g : x ≥ 9223372036854775808
        · rw [if_pos g, if_neg (by omega)]; exact ⟨_, rfl, rfl, rfl⟩
        · rw [if_neg g, if_pos (by omega)]; exact ⟨_, rfl, rfl, rfl⟩
    · simp [h, h', spec_BitOrd.j0, impl_BitOrd.j0]
def ordOf (w x : Int) : Int × Bool := (spec_BitOrd.f 1 w x).getD (0, false)
theorem bo_ord (w x : Int) (h1 : 0 ≤ x ∧ x ≤ 18446744073709551615) (k : Nat) (hk : 1 ≤ k) : spec_BitOrd.f k w x = some (ordOf w x) ∧ impl_BitOrd.f k w x = some (ordOf w x) := by
  obtain ⟨k, rfl⟩ : ∃ q, k = q + 1 := ⟨k - 1, by omega⟩
  obtain ⟨r, a, b, c⟩ := bo_ord3 w x h1 k
  unfold ordOf
  rw [a, b, c]
  exact ⟨rfl, rfl⟩
def pmarks (a : Int) : Nat → List S64
  | 0 => []
  | n + 1 => ⟨a, a + 1⟩ :: pmarks (a + 2) n
theorem pmarks_length (n : Nat) : ∀ a, (pmarks a n).length = n := by
  induction n with
  | zero => intro a; rfl
  | succ n ih => intro a; simp [pmarks, ih]
theorem bx_rd (l : List S64) (i : Nat) (h : i < l.length) : rd_T64 l (i : Int) = l[i] := by
  unfold rd_T64
  rw [Int.toNat_natCast, List.getD_eq_getElem?_getD, List.getElem?_eq_getElem h]
  rfl
theorem bx_mark_l : ∀ (suf pre : List S64) (a : Int) (k : Nat), suf.length < k → pre.length + suf.length ≤ 1048576 → 0 ≤ a ∧ a + 2 * suf.length ≤ 9000000 → laws_markPairS.l0 k (pre ++ suf) a (pre.length : Int) = some (a + 2 * suf.length, pre ++ pmarks a suf.length) := by
  intro suf; induction suf with
  | nil =>
    intro pre a k hk hl ha
    obtain ⟨k, rfl⟩ : ∃ m, k = m + 1 := ⟨k - 1, by simp at hk; omega⟩
    simp only [laws_markPairS.l0]
    rw [if_neg (by simp)]; simp [pmarks]
  | cons s suf ih =>
    intro pre a k hk hl ha
    simp only [List.length_cons] at hk hl ha
    obtain ⟨k, rfl⟩ : ∃ m, k = m + 1 := ⟨k - 1, by omega⟩
    simp only [laws_markPairS.l0]
    rw [if_pos (by simp; omega), if_pos (by omega), Option.bind_some]
    have e0 : ∀ v : S64, (pre ++ s :: suf).set ((pre.length : Int)).toNat v = pre ++ v :: suf := fun v => by
      rw [Int.toNat_natCast, List.set_append_right _ _ (Nat.le_refl _), Nat.sub_self, List.set_cons_zero]
    have e1 : ∀ u v : S64, (pre ++ u :: suf).set ((pre.length : Int)).toNat v = pre ++ v :: suf := fun u v => by
      rw [Int.toNat_natCast, List.set_append_right _ _ (Nat.le_refl _), Nat.sub_self, List.set_cons_zero]
    have e4 : ∀ u : S64, rd_T64 (pre ++ u :: suf) (pre.length : Int) = u := fun u => by
      rw [bx_rd _ _ (by rw [List.length_append, List.length_cons]; omega)]; simp
    have e2 : wrap64 (a + 1) = a + 1 := by unfold wrap64; omega
    have e5 : wrap64 (a + 1 + 1) = a + 2 := by unfold wrap64; omega
    have e3 : wrap64 ((pre.length : Int) + 1) = ((pre ++ [(⟨a, a + 1⟩ : S64)]).length : Int) := by rw [List.length_append]; simp; unfold wrap64; omega
    have e6 : pre ++ (⟨a, a + 1⟩ : S64) :: suf = (pre ++ [⟨a, a + 1⟩]) ++ suf := by simp
    rw [e0, e4, e1, e4, e2, e5, e3, e6, ih (pre ++ [(⟨a, a + 1⟩ : S64)]) (a + 2) k (by omega) (by rw [List.length_append]; simp; omega) (by omega)]
    simp [pmarks]; omega
theorem bx_mark (k : Nat) (l : List S64) (hk : l.length < k) (hl : l.length ≤ 1048576) : laws_markBox.f k l 1 = some ((1 : Int) + 2 * (l.length : Int), pmarks 1 l.length) := by
  have := bx_mark_l l [] 1 k hk (by simpa using hl) (by omega)
  unfold laws_markBox.f laws_markPairS.f
  rw [show laws_markPairS.l0 k l 1 0 = _ from this]
  rfl
theorem bx_held_l : ∀ (n : Nat) (pre : List S64) (a : Int) (k : Nat), n < k → pre.length + n ≤ 1048576 → 0 ≤ a ∧ a + 2 * n ≤ 9000000 → laws_heldPairS.l0 k (pre ++ pmarks a n) a (pre.length : Int) = some (a + 2 * n) := by
  intro n; induction n with
  | zero =>
    intro pre a k hk hl ha
    obtain ⟨k, rfl⟩ : ∃ m, k = m + 1 := ⟨k - 1, by omega⟩
    simp only [laws_heldPairS.l0]
    rw [if_neg (by simp [pmarks])]; simp
  | succ n ih =>
    intro pre a k hk hl ha
    obtain ⟨k, rfl⟩ : ∃ m, k = m + 1 := ⟨k - 1, by omega⟩
    simp only [laws_heldPairS.l0]
    have e0 : rd_T64 (pre ++ pmarks a (n + 1)) (pre.length : Int) = ⟨a, a + 1⟩ := by
      rw [bx_rd _ _ (by rw [List.length_append, pmarks_length]; omega)]; simp [pmarks]
    have e2 : wrap64 (a + 1) = a + 1 := by unfold wrap64; omega
    have e5 : wrap64 (a + 1 + 1) = a + 2 := by unfold wrap64; omega
    have e3 : wrap64 ((pre.length : Int) + 1) = ((pre ++ [(⟨a, a + 1⟩ : S64)]).length : Int) := by rw [List.length_append]; simp; unfold wrap64; omega
    have e1 : pre ++ pmarks a (n + 1) = (pre ++ [⟨a, a + 1⟩]) ++ pmarks (a + 2) n := by simp [pmarks]
    rw [if_pos (by rw [List.length_append, pmarks_length]; omega), if_pos (by omega), e0, if_pos rfl, e2, if_pos rfl, e5, e3, e1, ih (pre ++ [(⟨a, a + 1⟩ : S64)]) (a + 2) k (by omega) (by rw [List.length_append]; simp; omega) (by omega), Option.some.injEq]
    omega
theorem bx_held (k n : Nat) (hk : n < k) (hl : n ≤ 1048576) : laws_heldBox.f k (pmarks 1 n) 1 = some ((1 : Int) + 2 * (n : Int)) := by
  have := bx_held_l n [] 1 k hk (by simpa using hl) (by omega)
  unfold laws_heldBox.f laws_heldPairS.f
  rw [show laws_heldPairS.l0 k (pmarks 1 n) 1 0 = _ from this, Option.bind_some, if_neg (by omega)]
def ordsOk (w : Int) (l : List Int) : Bool := l.all fun x => (ordOf w x).2
def ordV (w : Int) (l : List Int) : List Int := l.map fun x => (ordOf w x).1
def prs (L : List Int) (h : Nat) : List S64 := (List.range h).map fun j => ⟨L.getD (2 * j) 0, L.getD (2 * j + 1) 0⟩
def boFin (w : Int) (ps : List S64) : List S64 × Int := if boxOk w ps = true then (ps, 0) else ([], 3)
theorem prs_length (L : List Int) (h : Nat) : (prs L h).length = h := by simp [prs]
theorem prs_take (L : List Int) (h j : Nat) (hj : j < h) : (prs L h).take (j + 1) = (prs L h).take j ++ [⟨L.getD (2 * j) 0, L.getD (2 * j + 1) 0⟩] := by
  have hl : j < (prs L h).length := by rw [prs_length]; exact hj
  rw [List.take_succ_eq_append_getElem hl]
  congr 2
  simp [prs]
theorem bo_l1 (w : Int) (L : List Int) (h : Nat) (hh : 2 * h = L.length) (h6 : h ≤ 6) : ∀ (m j k : Nat), j + m = h → m < k → impl_BoxOf.l1 k w L (h : Int) (j : Int) ((prs L h).take j ++ List.replicate m z64) = some (boFin w (prs L h)) := by
  intro m
  induction m with
  | zero =>
    intro j k hj hk
    obtain ⟨k, rfl⟩ : ∃ q, k = q + 1 := ⟨k - 1, by omega⟩
    rw [impl_BoxOf.l1, if_neg (by omega), List.take_of_length_le (by rw [prs_length]; omega), List.replicate_zero, List.append_nil, bk_i, Option.bind_some]
    unfold boFin
    cases boxOk w (prs L h) <;> simp
  | succ m ih =>
    intro j k hj hk
    obtain ⟨k, rfl⟩ : ∃ q, k = q + 1 := ⟨k - 1, by omega⟩
    have hn := ih (j + 1) k (by omega) (by omega)
    have e1 : wrap64 (2 * (j : Int)) = 2 * j := by unfold wrap64; omega
    have e2 : wrap64 (2 * (j : Int) + 1) = 2 * j + 1 := by unfold wrap64; omega
    have e3 : wrap64 ((j : Int) + 1) = ((j + 1 : Nat) : Int) := by unfold wrap64; omega
    have hz : ((prs L h).take j).length = j := by rw [List.length_take, prs_length]; omega
    have r1 : rd L (2 * (j : Int)) = L.getD (2 * j) 0 := by unfold rd; rw [show (2 * (j : Int)).toNat = 2 * j by omega]
    have r2 : rd L (2 * (j : Int) + 1) = L.getD (2 * j + 1) 0 := by unfold rd; rw [show (2 * (j : Int) + 1).toNat = 2 * j + 1 by omega]
    rw [impl_BoxOf.l1, e1, e2, e3, r1, r2, if_pos (by omega), if_pos (by omega), if_pos (by omega), if_pos (by omega), if_pos (by omega), if_pos (by omega), if_pos (by rw [List.length_append, hz, List.length_replicate]; omega), Int.toNat_natCast, List.set_append_right _ _ (by omega), hz, Nat.sub_self, List.replicate_succ, List.set_cons_zero]
    rw [prs_take L h j (by omega)] at hn
    rw [← hn, List.append_assoc]
    rfl
theorem bo_il (w : Int) (l : List Int) (h : Nat) (hh : l.length = 2 * h) (h6 : h ≤ 6) (hl : ∀ x ∈ l, 0 ≤ x ∧ x ≤ 18446744073709551615) : ∀ (m i k : Nat), i + m = l.length → m + 20 < k → impl_BoxOf.l0 k w (ordV w (l.take i)) l (l.length : Int) (i : Int) = some (if ordsOk w (l.drop i) = true then boFin w (prs (ordV w l) h) else ([], 2)) := by
  intro m
  induction m with
  | zero =>
    intro i k hi hk
    obtain ⟨k, rfl⟩ : ∃ q, k = q + 1 := ⟨k - 1, by omega⟩
    have hv : (ordV w l).length = 2 * h := by unfold ordV; rw [List.length_map, hh]
    have e1 : wrap64 (((ordV w l).length : Int) / 2) = (h : Int) := by rw [hv]; unfold wrap64; omega
    have h1 := bo_l1 w (ordV w l) h hv.symm h6 h 0 k (by omega) (by omega)
    rw [List.take_zero, List.nil_append] at h1
    rw [impl_BoxOf.l0, if_neg (by omega), List.take_of_length_le (by omega), e1, if_pos (by omega), if_pos (by omega), Option.bind_some, Int.toNat_natCast, List.length_replicate, List.drop_eq_nil_of_le (by omega), if_pos (show ordsOk w [] = true from rfl)]
    exact h1
  | succ m ih =>
    intro i k hi hk
    obtain ⟨k, rfl⟩ : ∃ q, k = q + 1 := ⟨k - 1, by omega⟩
    have hlt : i < l.length := by omega
    have hn := ih (i + 1) k (by omega) (by omega)
    have e3 : wrap64 ((i : Int) + 1) = ((i + 1 : Nat) : Int) := by unfold wrap64; omega
    have r1 : rd l (i : Int) = l[i] := by unfold rd; rw [Int.toNat_natCast, List.getD_eq_getElem?_getD, List.getElem?_eq_getElem hlt]; rfl
    have hv : ordV w (l.take i) ++ [(ordOf w l[i]).1] = ordV w (l.take (i + 1)) := by
      unfold ordV
      rw [List.take_succ_eq_append_getElem hlt, List.map_append]; rfl
    rw [impl_BoxOf.l0, if_pos (by omega), if_pos (by omega), if_pos (by omega), r1, (bo_ord w l[i] (hl _ (List.getElem_mem hlt)) k (by omega)).2, Option.bind_some, e3, hv, hn, List.drop_eq_getElem_cons hlt]
    rw [if_pos (show (ordV w (l.take i)).length < 17592186044416 by unfold ordV; rw [List.length_map, List.length_take]; omega)]
    unfold ordsOk
    rw [List.all_cons]
    cases (ordOf w l[i]).2 <;> simp
theorem bo_sl (w : Int) (l : List Int) (h : Nat) (hh : l.length = 2 * h) (h6 : h ≤ 6) (hl : ∀ x ∈ l, 0 ≤ x ∧ x ≤ 18446744073709551615) : ∀ (m i k : Nat), i + m = h → m + 20 < k → spec_BoxOf.l0 k w l (2 * (i : Int)) ((prs (ordV w l) h).take i) = some (if ordsOk w (l.drop (2 * i)) = true then boFin w (prs (ordV w l) h) else ([], 2)) := by
  intro m
  induction m with
  | zero =>
    intro i k hi hk
    obtain ⟨k, rfl⟩ : ∃ q, k = q + 1 := ⟨k - 1, by omega⟩
    rw [spec_BoxOf.l0, if_neg (by omega), List.take_of_length_le (by rw [prs_length]; omega), bk_s _ _ _ (by omega), Option.bind_some, List.drop_eq_nil_of_le (by omega), if_pos (show ordsOk w [] = true from rfl)]
    unfold boFin
    cases boxOk w (prs (ordV w l) h) <;> simp
  | succ m ih =>
    intro i k hi hk
    obtain ⟨k, rfl⟩ : ∃ q, k = q + 1 := ⟨k - 1, by omega⟩
    have hlt : 2 * i < l.length := by omega
    have hlt1 : 2 * i + 1 < l.length := by omega
    have hn := ih (i + 1) k (by omega) (by omega)
    have e2 : wrap64 (2 * (i : Int) + 1) = 2 * i + 1 := by unfold wrap64; omega
    have e3 : wrap64 (2 * (i : Int) + 2) = 2 * ((i + 1 : Nat) : Int) := by unfold wrap64; omega
    have r1 : rd l (2 * (i : Int)) = l[2 * i] := by unfold rd; rw [show (2 * (i : Int)).toNat = 2 * i by omega, List.getD_eq_getElem?_getD, List.getElem?_eq_getElem hlt]; rfl
    have r2 : rd l (2 * (i : Int) + 1) = l[2 * i + 1] := by unfold rd; rw [show (2 * (i : Int) + 1).toNat = 2 * i + 1 by omega, List.getD_eq_getElem?_getD, List.getElem?_eq_getElem hlt1]; rfl
    have v1 : (ordV w l).getD (2 * i) 0 = (ordOf w l[2 * i]).1 := by unfold ordV; rw [List.getD_eq_getElem?_getD, List.getElem?_map, List.getElem?_eq_getElem hlt]; rfl
    have v2 : (ordV w l).getD (2 * i + 1) 0 = (ordOf w l[2 * i + 1]).1 := by unfold ordV; rw [List.getD_eq_getElem?_getD, List.getElem?_map, List.getElem?_eq_getElem hlt1]; rfl
    have hp := prs_take (ordV w l) h i (by omega)
    rw [v1, v2] at hp
    rw [show 2 * (i + 1) = 2 * i + 1 + 1 by omega] at hn
    rw [spec_BoxOf.l0, e2, e3, r1, r2, if_pos (by omega), if_pos (by omega), (bo_ord w l[2 * i] (hl _ (List.getElem_mem hlt)) k (by omega)).1, (bo_ord w l[2 * i + 1] (hl _ (List.getElem_mem hlt1)) k (by omega)).1, Option.bind_some, if_pos (by omega), if_pos (by omega), Option.bind_some, ← hp, hn, List.drop_eq_getElem_cons hlt, List.drop_eq_getElem_cons hlt1]
    rw [if_pos (show ((prs (ordV w l) h).take i).length < 8796093022208 by rw [List.length_take, prs_length]; omega)]
    unfold ordsOk
    rw [List.all_cons, List.all_cons]
    cases (ordOf w l[2 * i]).2 <;> cases (ordOf w l[2 * i + 1]).2 <;> simp
def boxOf (w : Int) (l : List Int) : List S64 × Int := if (w = 32 ∨ w = 64) ∧ 2 ≤ l.length ∧ l.length ≤ 12 ∧ l.length % 2 = 0 then (if ordsOk w l = true then boFin w (prs (ordV w l) (l.length / 2)) else ([], 2)) else ([], 1)
theorem bo_s (w : Int) (l : List Int) (hl : ∀ x ∈ l, 0 ≤ x ∧ x ≤ 18446744073709551615) (k : Nat) (hk : 40 ≤ k) : spec_BoxOf.f k w l = some (boxOf w l) := by
  obtain ⟨k, rfl⟩ : ∃ q, k = q + 1 := ⟨k - 1, by omega⟩
  have hw : spec_l1Width.f w = some (decide (w = 32 ∨ w = 64)) := by
    unfold spec_l1Width.f
    by_cases h : w = 32
    · simp [h]
    · by_cases h' : w = 64 <;> simp [h, h']
  unfold spec_BoxOf.f boxOf
  rw [hw, Option.bind_some]
  have bad : spec_BoxOf.j0 (k + 1) w l true = some ([], 1) := by rw [spec_BoxOf.j0, if_pos rfl]
  by_cases h0 : w = 32 ∨ w = 64
  · rw [decide_eq_true h0, if_pos rfl]
    by_cases h1 : (l.length : Int) < 2
    · rw [if_pos h1, bad, if_neg (by omega)]
    · rw [if_neg h1]
      by_cases h2 : (l.length : Int) > 12
      · rw [if_pos h2, bad, if_neg (by omega)]
      · rw [if_neg h2]
        by_cases h3 : l.length % 2 = 0
        · have e : (((l.length : Int) % 2) == 1) = false := beq_eq_false_iff_ne.mpr (by omega)
          rw [e, spec_BoxOf.j0, if_neg (by decide), if_pos ⟨h0, by omega, by omega, h3⟩]
          have := bo_sl w l (l.length / 2) (by omega) (by omega) hl (l.length / 2) 0 k (by omega) (by omega)
          exact this
        · have e : (((l.length : Int) % 2) == 1) = true := beq_iff_eq.mpr (by omega)
          rw [e, bad, if_neg (fun q => h3 q.2.2.2)]
  · rw [decide_eq_false h0, if_neg (by decide), bad, if_neg (fun q => h0 q.1)]
theorem bo_i (w : Int) (l : List Int) (hl : ∀ x ∈ l, 0 ≤ x ∧ x ≤ 18446744073709551615) (k : Nat) (hk : 60 ≤ k) : impl_BoxOf.f k w l = some (boxOf w l) := by
  obtain ⟨k, rfl⟩ : ∃ q, k = q + 1 := ⟨k - 1, by omega⟩
  have hw : ∃ a b c d, impl_formatOf.f w = some (a, b, c, d, decide (w = 32 ∨ w = 64)) := by
    unfold impl_formatOf.f
    by_cases h : w = 32
    · simp [h]
    · by_cases h' : w = 64 <;> simp [h, h']
  obtain ⟨a, b, c, d, hw⟩ := hw
  unfold impl_BoxOf.f boxOf
  rw [hw, Option.bind_some]
  have bad : impl_BoxOf.j0 (k + 1) w l true = some ([], 1) := by rw [impl_BoxOf.j0, if_pos rfl]
  by_cases h0 : w = 32 ∨ w = 64
  · rw [if_pos (decide_eq_true h0)]
    unfold impl_in.f
    by_cases h1 : (l.length : Int) ≥ 2
    · rw [if_pos h1, Option.bind_some]
      by_cases h2 : (l.length : Int) ≤ 12
      · rw [decide_eq_true h2, if_pos rfl]
        by_cases h3 : l.length % 2 = 0
        · have e : (((l.length : Int) % 2) != 0) = false := bne_eq_false_iff_eq.mpr (by omega)
          rw [e, impl_BoxOf.j0, if_neg (by decide), if_pos ⟨h0, by omega, by omega, h3⟩]
          have := bo_il w l (l.length / 2) (by omega) (by omega) hl l.length 0 k (by omega) (by omega)
          exact this
        · have e : (((l.length : Int) % 2) != 0) = true := bne_iff_ne.mpr (by omega)
          rw [e, bad, if_neg (fun q => h3 q.2.2.2)]
      · rw [decide_eq_false h2, if_neg (by decide), bad, if_neg (by omega)]
    · rw [if_neg h1, Option.bind_some, if_neg (by decide), bad, if_neg (by omega)]
  · rw [if_neg (by rw [decide_eq_false h0]; exact Bool.false_ne_true), bad, if_neg (fun q => h0 q.1)]
theorem boxOf_length (w : Int) (l : List Int) : (boxOf w l).1.length ≤ 6 := by
  unfold boxOf boFin
  split
  · split
    · split
      · rw [prs_length]; omega
      · simp
    · simp
  · simp
theorem bu_to_l (l : List Int) (hl : l.length ≤ 1048576) (d : Nat) : ∀ (i k : Nat), i + d = l.length → d < k → laws_toUint64S.l0 k l (l.take i ++ List.replicate d 0) (i : Int) = some l := by
  induction d with
  | zero =>
    intro i k hi hk
    obtain ⟨k, rfl⟩ : ∃ m, k = m + 1 := ⟨k - 1, by omega⟩
    simp only [laws_toUint64S.l0]; rw [if_neg (by omega), List.take_of_length_le (by omega)]; simp
  | succ d ih =>
    intro i k hi hk
    obtain ⟨k, rfl⟩ : ∃ m, k = m + 1 := ⟨k - 1, by omega⟩
    have hlt : i < l.length := by omega
    have r1 : rd l (i : Int) = l[i] := by unfold rd; rw [Int.toNat_natCast, List.getD_eq_getElem?_getD, List.getElem?_eq_getElem hlt]; rfl
    have e3 : wrap64 ((i : Int) + 1) = ((i + 1 : Nat) : Int) := by unfold wrap64; omega
    simp only [laws_toUint64S.l0]
    rw [if_pos (by omega), if_pos (by omega), if_pos (by simp; omega), r1, e3, Int.toNat_natCast]
    have e : (l.take i ++ List.replicate (d + 1) 0).set i l[i] = l.take (i + 1) ++ List.replicate d 0 := by
      rw [List.set_append_right _ _ (by simp; omega), List.take_succ_eq_append_getElem hlt, List.length_take, Nat.min_eq_left (Nat.le_of_lt hlt), Nat.sub_self, List.replicate_succ, List.set_cons_zero, List.append_assoc]
      rfl
    rw [e]; exact ih (i + 1) k (by omega) (by omega)
theorem bu_to (k : Nat) (l : List Int) (hl : l.length ≤ 1048576) (hk : l.length < k) : laws_toUint64S.f k l = some l := by
  unfold laws_toUint64S.f
  rw [if_pos (by omega), if_pos (by omega), Int.toNat_natCast]
  have := bu_to_l l hl l.length 0 k (by omega) hk
  simpa using this
theorem bu_eq_l (l : List Int) (hl : l.length ≤ 1048576) (d : Nat) : ∀ (i k : Nat), i + d = l.length → d < k → laws_eqUint64S.l0 k l l (i : Int) = some true := by
  induction d with
  | zero =>
    intro i k hi hk
    obtain ⟨k, rfl⟩ : ∃ m, k = m + 1 := ⟨k - 1, by omega⟩
    simp only [laws_eqUint64S.l0]; rw [if_neg (by omega)]
  | succ d ih =>
    intro i k hi hk
    obtain ⟨k, rfl⟩ : ∃ m, k = m + 1 := ⟨k - 1, by omega⟩
    have e3 : wrap64 ((i : Int) + 1) = ((i + 1 : Nat) : Int) := by unfold wrap64; omega
    simp only [laws_eqUint64S.l0]
    rw [if_pos (by omega), if_pos (by omega), if_pos (by omega), if_pos trivial, e3]
    exact ih (i + 1) k (by omega) (by omega)
theorem bu_eq (k : Nat) (l : List Int) (hl : l.length ≤ 1048576) (hk : l.length < k) : laws_eqUint64S.f k l l = some true := by
  unfold laws_eqUint64S.f; rw [if_pos rfl]; exact bu_eq_l l hl l.length 0 k (by omega) hk
theorem bu_mark_l : ∀ (d : Nat) (l : List Int) (a : Int) (i k : Nat), i + d = l.length → d < k → l.length ≤ 1048576 → 0 ≤ a ∧ a + d ≤ 9000000 → ∃ z, laws_markUint64S.l0 k l a (i : Int) = some (a + d, z) := by
  intro d; induction d with
  | zero =>
    intro l a i k hi hk hl ha
    obtain ⟨k, rfl⟩ : ∃ m, k = m + 1 := ⟨k - 1, by omega⟩
    rw [laws_markUint64S.l0, if_neg (by omega)]
    exact ⟨l, by simp⟩
  | succ d ih =>
    intro l a i k hi hk hl ha
    obtain ⟨k, rfl⟩ : ∃ m, k = m + 1 := ⟨k - 1, by omega⟩
    have e3 : wrap64 ((i : Int) + 1) = ((i + 1 : Nat) : Int) := by unfold wrap64; omega
    have e2 : wrap64 (a + 1) = a + 1 := by unfold wrap64; omega
    rw [laws_markUint64S.l0, if_pos (by omega), if_pos (by omega), e2, e3]
    obtain ⟨z, hz⟩ := ih (l.set ((i : Int)).toNat (IntKind.u64.wrap a)) (a + 1) (i + 1) k (by rw [List.length_set]; omega) (by omega) (by rw [List.length_set]; omega) (by omega)
    refine ⟨z, hz.trans ?_⟩
    congr 2
    omega
theorem bu_mark (k : Nat) (l : List Int) (hl : l.length ≤ 1048576) (hk : l.length < k) : ∃ z, laws_markUint64S.f k l 1 = some (1 + (l.length : Int), z) :=
  bu_mark_l l.length l 1 0 k (by omega) hk hl (by omega)
theorem FnExactBoxOf : laws_FnExactBoxOf.Pure := by
  intro w l
  intros
  rename_i h1 h2 h3
  have hl : ∀ x ∈ l, 0 ≤ x ∧ x ≤ 18446744073709551615 := fun x hx => wfu64 (by first | exact h1 x hx | exact h2 x hx | exact h3 x hx)
  refine ⟨l.length + 70, ?_⟩
  unfold laws_FnExactBoxOf.f
  by_cases c : (l.length : Int) > 1048576
  · rw [if_pos c]
  · rw [if_neg c]
    have q := boxOf_length w l
    have H := fun (k : Nat) (hk : l.length + 60 ≤ k) => And.intro (bu_to k l (by omega) (by omega)) (And.intro (bu_eq k l (by omega) (by omega)) (And.intro (bo_s w l hl k (by omega)) (And.intro (bo_i w l hl k (by omega)) (And.intro (bx_eq (boxOf w l).1 (by omega) k (by omega)) (And.intro (bx_mark k (boxOf w l).1 (by omega) (by omega)) (bx_held k (boxOf w l).1.length (by omega) (by omega)))))))
    obtain ⟨t0, _, s0, i0, b0, _, _⟩ := H (l.length + 70) (by omega)
    obtain ⟨t1, e1, s1, i1, b1, _, _⟩ := H (l.length + 69) (by omega)
    obtain ⟨t2, e2, s2, i2, b2, m2, d2⟩ := H (l.length + 68) (by omega)
    obtain ⟨_, _, _, _, _, m3, d3⟩ := H (l.length + 67) (by omega)
    obtain ⟨z, hz⟩ := bu_mark (l.length + 69) l (by omega) (by omega)
    rw [t0, Option.bind_some, s0, Option.bind_some, Option.bind_some, i0, Option.bind_some, b0, Option.bind_some, if_pos rfl]
    rw [show ((boxOf w l).2 != (boxOf w l).2) = false by simp]
    rw [laws_FnExactBoxOf.j0, if_neg (by decide), t1, Option.bind_some, e1, Option.bind_some, if_pos rfl, hz, Option.bind_some, if_neg (by omega), b1, Option.bind_some, if_pos rfl]
    rw [show ((boxOf w l).2 != (boxOf w l).2) = false by simp]
    rw [laws_FnExactBoxOf.j1, if_neg (by decide), m2, Option.bind_some, d2, Option.bind_some, if_neg (by omega), if_pos rfl, t2, Option.bind_some, i2, Option.bind_some, b2, Option.bind_some, if_pos rfl]
    rw [show ((boxOf w l).2 != (boxOf w l).2) = false by simp]
    rw [laws_FnExactBoxOf.j2, if_neg (by decide), d3, Option.bind_some, if_neg (by omega), if_pos rfl]
end Go.Proofs.Ytlnihglcneaonaa.Pure
