/- BoxMeet of the program and of the reference agree for every width and two boxes.
   Conditions: none beyond those of the given row (each number is of its kind). -/
import Derived.Test.YtlnihglcneaonaaQFnExactBoxMeetx8
import Derived.Test.YtlnihglcneaonaaMB
namespace Go.Proofs.Ytlnihglcneaonaa.Pure
open Go.RowKit Go.Proofs.Ytlnihglcneaonaa.QFnExactBoxMeet Go.Proofs.YtlnihglcneaonaaW.PrintWords Go.Proofs.YtlnihglcneaonaaW.PrintLast Go.Proofs.YtlnihglcneaonaaW.PrintMore Go.Proofs.Ytlnihglcneaonaa.M
set_option linter.unusedVariables false
set_option linter.unusedSimpArgs false
theorem e_sBitTop (w : Int) : spec_BitTop.f w = some (top w) := by
  unfold spec_BitTop.f top; split
  · rfl
  · split <;> rfl
theorem e_formatOf (w : Int) : impl_formatOf.f w = some (if w = 32 then (23, -149, 127, top w, true) else if w = 64 then (52, -1074, 1023, top w, true) else (0, 0, 0, top w, false)) := by
  unfold impl_formatOf.f top
  by_cases h : w = 32
  · simp [h]
  · by_cases h' : w = 64
    · simp [h']
    · simp [h, h']
theorem e_iBitTop (w : Int) : impl_BitTop.f w = some (top w) := by
  unfold impl_BitTop.f; rw [e_formatOf]
  by_cases h : w = 32
  · simp [h]
  · by_cases h' : w = 64
    · simp [h']
    · simp [h, h']
theorem e_sBitOk (w n : Int) : spec_BitOk.f w n = some (bitOk w n) := by
  unfold spec_BitOk.f spec_l1Width.f
  simp only [e_sBitTop, Option.bind_some, top_neg, bitOk]
  by_cases h : w = 32
  · subst h; simp; split <;> simp_all; omega
  · by_cases h' : w = 64
    · subst h'; simp; split <;> simp_all; omega
    · simp [h, h']
theorem e_in (n a b : Int) : impl_in.f n a b = some (decide (a ≤ n ∧ n ≤ b)) := by
  unfold impl_in.f; split
  · simp_all
  · simp; omega
theorem e_iBitOk (w n : Int) : impl_BitOk.f w n = some (bitOk w n) := by
  unfold impl_BitOk.f
  simp only [e_formatOf, Option.bind_some, e_in]
  by_cases h : w = 32
  · subst h; simp [bitOk, top_neg]
  · by_cases h' : w = 64
    · subst h'; simp [bitOk, top_neg]
    · simp [h, h', bitOk]
theorem e_sPairOk (w a b : Int) : spec_PairOk.f w a b = some (pairOk w a b) := by
  unfold spec_PairOk.f
  simp only [e_sBitTop, e_sBitOk, Option.bind_some, top_neg]
  have no : ∀ h : ¬ ((w = 32 ∨ w = 64) ∧ -top w ≤ a ∧ a ≤ b ∧ b ≤ top w ∧ a ≠ top w ∧ b ≠ -top w), some false = some (pairOk w a b) := fun h => by rw [pairOk, decide_eq_false h]
  by_cases h1 : bitOk w a = true
  · by_cases h2 : bitOk w b = true
    · have q1 := bitOk_iff.mp h1
      have q2 := bitOk_iff.mp h2
      rw [if_pos h1, if_pos h2]
      by_cases c1 : a ≤ b
      · rw [if_pos c1]
        by_cases c2 : a < top w
        · rw [if_pos c2, pairOk]; congr 1; rw [decide_eq_decide]; omega
        · rw [if_neg c2]; exact no (by omega)
      · rw [if_neg c1]; exact no (by omega)
    · rw [if_pos h1, if_neg h2]; exact no (fun q => h2 (bitOk_iff.mpr (by omega)))
  · rw [if_neg h1]; exact no (fun q => h1 (bitOk_iff.mpr (by omega)))
theorem e_iPairOk (w a b : Int) : impl_PairOk.f w a b = some (pairOk w a b) := by
  unfold impl_PairOk.f
  simp only [e_iBitTop, e_iBitOk, Option.bind_some, top_neg]
  have no : ∀ h : ¬ ((w = 32 ∨ w = 64) ∧ -top w ≤ a ∧ a ≤ b ∧ b ≤ top w ∧ a ≠ top w ∧ b ≠ -top w), some false = some (pairOk w a b) := fun h => by rw [pairOk, decide_eq_false h]
  by_cases h1 : bitOk w a = true
  · by_cases h2 : bitOk w b = true
    · have q1 := bitOk_iff.mp h1
      have q2 := bitOk_iff.mp h2
      rw [if_pos h1, if_pos h2]
      by_cases c1 : a ≤ b
      · rw [if_pos c1]
        by_cases c2 : a = top w
        · rw [if_pos c2]; exact no (by omega)
        · rw [if_neg c2]; congr 1; rw [Bool.eq_iff_iff, bne_iff_ne, pairOk_iff]; omega
      · rw [if_neg c1]; exact no (by omega)
    · rw [if_pos h1, if_neg h2]; exact no (fun q => h2 (bitOk_iff.mpr (by omega)))
  · rw [if_neg h1]; exact no (fun q => h1 (bitOk_iff.mpr (by omega)))
theorem e_sMax (a b : Int) : spec_l3Max.f a b = some (mx a b) := by
  unfold spec_l3Max.f mx; by_cases h : a > b
  · rw [if_pos h, if_neg (by omega)]
  · rw [if_neg h]; by_cases h2 : a < b
    · rw [if_pos h2]
    · rw [if_neg h2]; congr 1; omega
theorem e_sMin (a b : Int) : spec_l3Min.f a b = some (mn a b) := by
  unfold spec_l3Min.f mn; by_cases h : a < b
  · rw [if_pos h, if_neg (by omega)]
  · rw [if_neg h]; by_cases h2 : b < a
    · rw [if_pos h2]
    · rw [if_neg h2]; congr 1; omega
theorem e_sPairMeet (w a b c d : Int) : spec_PairMeet.f w a b c d = some (if pairOk w a b = true ∧ pairOk w c d = true ∧ mx a c ≤ mn b d then (mx a c, mn b d, true) else (0, 0, false)) := by
  unfold spec_PairMeet.f
  simp only [e_sMax, e_sMin, e_sPairOk, Option.bind_some]
  by_cases h : pairOk w a b = true
  · by_cases h' : pairOk w c d = true
    · simp only [h, h', if_true, true_and]
      by_cases q : mx a c ≤ mn b d
      · rw [if_pos q, if_neg (by omega)]
      · rw [if_neg q, if_pos (by omega)]
    · simp [h, h']
  · simp [h]
def bxc (x : S87) : S64 := ⟨x.f0, x.f1⟩
theorem bx_w (x : Int) (h0 : 0 ≤ x) (h1 : x ≤ 140737488351232) : wrap64 (x + 1) = x + 1 := by
  unfold wrap64; omega
theorem bx_tol (l : List S87) (hl : l.length ≤ 140737488351232) : ∀ (m i k : Nat), i + m = l.length → m < k → laws_toPairS.l0 k l ((l.take i).map bxc ++ List.replicate m z64) (i : Int) = some (l.map bxc) := by
  intro m
  induction m with
  | zero =>
    intro i k hi hk
    obtain ⟨k, rfl⟩ : ∃ q, k = q + 1 := ⟨k - 1, by omega⟩
    rw [laws_toPairS.l0, if_neg (by omega), List.take_of_length_le (by omega)]
    simp
  | succ m ih =>
    intro i k hi hk
    obtain ⟨k, rfl⟩ : ∃ q, k = q + 1 := ⟨k - 1, by omega⟩
    have hn := ih (i + 1) k (by omega) (by omega)
    have hlt : i < l.length := by omega
    have hz : ((l.take i).map bxc).length = i := by simp; omega
    have hs : ((l.take i).map bxc ++ List.replicate (m + 1) z64).set i (bxc l[i]) = (l.take (i + 1)).map bxc ++ List.replicate m z64 := by
      rw [List.set_append_right _ _ (by omega), hz, Nat.sub_self, List.replicate_succ, List.set_cons_zero, List.take_succ_eq_append_getElem hlt, List.map_append, List.append_assoc]
      rfl
    have hr : rd_T87 l (i : Int) = l[i] := by
      unfold rd_T87
      rw [Int.toNat_natCast, List.getD_eq_getElem?_getD, List.getElem?_eq_getElem hlt]
      rfl
    rw [laws_toPairS.l0, if_pos (by omega), if_pos (by omega), laws_toPair.f, Option.bind_some, if_pos (by rw [List.length_append, hz, List.length_replicate]; omega), Int.toNat_natCast, hr, bx_w i (by omega) (by omega)]
    exact (congrArg (fun x => laws_toPairS.l0 k l x ((i : Int) + 1)) hs).trans hn
theorem bx_to (l : List S87) (hl : l.length ≤ 1048576) (k : Nat) (hk : l.length < k) : laws_toBox.f k l = some (l.map bxc) := by
  have h := bx_tol l (by omega) l.length 0 k (by omega) hk
  unfold laws_toBox.f laws_toPairS.f
  rw [if_pos (by omega), if_pos (by omega), Int.toNat_natCast]
  rw [List.take_zero, List.map_nil, List.nil_append] at h
  rw [show laws_toPairS.l0 k l (List.replicate l.length z64) 0 = some (l.map bxc) from h]
  rfl
theorem bx_eql (a : List S64) (ha : a.length ≤ 1048576) : ∀ (m i k : Nat), i + m = a.length → m < k → laws_eqPairS.l0 k a a (i : Int) = some true := by
  intro m
  induction m with
  | zero =>
    intro i k hi hk
    obtain ⟨k, rfl⟩ : ∃ q, k = q + 1 := ⟨k - 1, by omega⟩
    rw [laws_eqPairS.l0, if_neg (by omega)]
  | succ m ih =>
    intro i k hi hk
    obtain ⟨k, rfl⟩ : ∃ q, k = q + 1 := ⟨k - 1, by omega⟩
    have hn : laws_eqPairS.l0 k a a ((i : Int) + 1) = some true := ih (i + 1) k (by omega) (by omega)
    rw [laws_eqPairS.l0, if_pos (by omega), if_pos (by omega), if_pos (by omega), laws_eqPair.f, if_pos rfl, if_pos rfl, Option.bind_some, if_pos rfl, bx_w i (by omega) (by omega)]
    exact hn
theorem bx_eq (a : List S64) (ha : a.length ≤ 1048576) (k : Nat) (hk : a.length < k) : laws_eqBox.f k a a = some true := by
  unfold laws_eqBox.f laws_eqPairS.f
  rw [if_pos rfl, show laws_eqPairS.l0 k a a 0 = some true from bx_eql a ha a.length 0 k (by omega) hk]
  rfl
theorem bx_sz (l : List S87) (x : Int) (hx : 0 ≤ x ∧ x ≤ 1048576) (hl : l.length ≤ 140737488351232) : laws_szBox.f l x = some (if x - l.length < 0 then -1 else x - l.length) := by
  unfold laws_szBox.f laws_szPairS.f
  have e : wrap64 (x - (l.length : Int)) = x - (l.length : Int) := by unfold wrap64; omega
  rw [e]
  by_cases c : x - (l.length : Int) < 0
  · rw [if_pos c, if_pos c]; rfl
  · rw [if_neg c, if_neg c, Option.bind_some, if_neg c]
theorem bk_sl (w : Int) (l : List S64) (hl : l.length ≤ 6) : ∀ (m i k : Nat), i + m = l.length → m < k → spec_BoxOk.l0 k w (i : Int) l = some ((l.drop i).all fun x => pairOk w x.f0 x.f1) := by
  intro m
  induction m with
  | zero =>
    intro i k hi hk
    obtain ⟨k, rfl⟩ : ∃ q, k = q + 1 := ⟨k - 1, by omega⟩
    rw [spec_BoxOk.l0, if_neg (by omega), List.drop_eq_nil_of_le (by omega)]
    rfl
  | succ m ih =>
    intro i k hi hk
    obtain ⟨k, rfl⟩ : ∃ q, k = q + 1 := ⟨k - 1, by omega⟩
    have hn : spec_BoxOk.l0 k w ((i : Int) + 1) l = some ((l.drop (i + 1)).all fun x => pairOk w x.f0 x.f1) := ih (i + 1) k (by omega) (by omega)
    have hlt : i < l.length := by omega
    have hr : rd_T64 l (i : Int) = l[i] := by
      unfold rd_T64
      rw [Int.toNat_natCast, List.getD_eq_getElem?_getD, List.getElem?_eq_getElem hlt]
      rfl
    rw [spec_BoxOk.l0, if_pos (by omega), if_pos (by omega), e_sPairOk, hr, bx_w i (by omega) (by omega), hn, List.drop_eq_getElem_cons hlt, List.all_cons, Option.bind_some]
    cases pairOk w l[i].f0 l[i].f1 <;> simp
def boxOk (w : Int) (l : List S64) : Bool := decide (1 ≤ l.length ∧ l.length ≤ 6) && l.all fun x => pairOk w x.f0 x.f1
theorem bk_s (w : Int) (l : List S64) (k : Nat) (hk : 8 ≤ k) : spec_BoxOk.f k w l = some (boxOk w l) := by
  obtain ⟨k, rfl⟩ : ∃ q, k = q + 1 := ⟨k - 1, by omega⟩
  unfold spec_BoxOk.f boxOk
  by_cases h1 : (l.length : Int) < 1
  · rw [if_pos h1, spec_BoxOk.j0, if_pos rfl, decide_eq_false (show ¬ (1 ≤ l.length ∧ l.length ≤ 6) by omega)]; rfl
  · by_cases h6 : (l.length : Int) > 6
    · rw [if_neg h1, decide_eq_true h6, spec_BoxOk.j0, if_pos rfl, decide_eq_false (show ¬ (1 ≤ l.length ∧ l.length ≤ 6) by omega)]; rfl
    · rw [if_neg h1, decide_eq_false h6, spec_BoxOk.j0, if_neg (by decide), decide_eq_true (show 1 ≤ l.length ∧ l.length ≤ 6 by omega)]
      exact bk_sl w l (by omega) l.length 0 k (by omega) (by omega)
theorem bk_i (w : Int) (l : List S64) : impl_BoxOk.f w l = some (boxOk w l) := by
  unfold impl_BoxOk.f bokIn boxOk
  have hb : ∀ x, bokBad w x = !(pairOk w x.f0 x.f1) := fun x => by
    unfold bokBad
    rw [e_iPairOk]
    cases pairOk w x.f0 x.f1 <;> rfl
  rw [if_pos (by simp [e_iPairOk])]
  congr 2
  rw [List.not_any_eq_all_not]
  congr 1
  funext x
  rw [hb, Bool.not_not]
def pmarks (a : Int) : Nat → List S64
  | 0 => []
  | n + 1 => ⟨a, a + 1⟩ :: pmarks (a + 2) n
theorem pmarks_length (n : Nat) : ∀ a, (pmarks a n).length = n := by
  induction n with
  | zero => intro a; rfl
  | succ n ih => intro a; simp [pmarks, ih]
theorem bx_rd (l : List S64) (i : Nat) (h : i < l.length) : rd_T64 l (i : Int) = l[i] := by
  unfold rd_T64
  rw [Int.toNat_natCast, List.getD_eq_getElem?_getD, List.getElem?_eq_getElem h]
  rfl
theorem bx_mark_l : ∀ (suf pre : List S64) (a : Int) (k : Nat), suf.length < k → pre.length + suf.length ≤ 1048576 → 0 ≤ a ∧ a + 2 * suf.length ≤ 9000000 → laws_markPairS.l0 k (pre ++ suf) a (pre.length : Int) = some (a + 2 * suf.length, pre ++ pmarks a suf.length) := by
  intro suf; induction suf with
  | nil =>
    intro pre a k hk hl ha
    obtain ⟨k, rfl⟩ : ∃ m, k = m + 1 := ⟨k - 1, by simp at hk; omega⟩
    simp only [laws_markPairS.l0]
    rw [if_neg (by simp)]; simp [pmarks]
  | cons s suf ih =>
    intro pre a k hk hl ha
    simp only [List.length_cons] at hk hl ha
    obtain ⟨k, rfl⟩ : ∃ m, k = m + 1 := ⟨k - 1, by omega⟩
    simp only [laws_markPairS.l0]
    rw [if_pos (by simp; omega), if_pos (by omega), Option.bind_some]
    have e0 : ∀ v : S64, (pre ++ s :: suf).set ((pre.length : Int)).toNat v = pre ++ v :: suf := fun v => by
      rw [Int.toNat_natCast, List.set_append_right _ _ (Nat.le_refl _), Nat.sub_self, List.set_cons_zero]
    have e1 : ∀ u v : S64, (pre ++ u :: suf).set ((pre.length : Int)).toNat v = pre ++ v :: suf := fun u v => by
      rw [Int.toNat_natCast, List.set_append_right _ _ (Nat.le_refl _), Nat.sub_self, List.set_cons_zero]
    have e4 : ∀ u : S64, rd_T64 (pre ++ u :: suf) (pre.length : Int) = u := fun u => by
      rw [bx_rd _ _ (by rw [List.length_append, List.length_cons]; omega)]; simp
    have e2 : wrap64 (a + 1) = a + 1 := by unfold wrap64; omega
    have e5 : wrap64 (a + 1 + 1) = a + 2 := by unfold wrap64; omega
    have e3 : wrap64 ((pre.length : Int) + 1) = ((pre ++ [(⟨a, a + 1⟩ : S64)]).length : Int) := by rw [List.length_append]; simp; unfold wrap64; omega
    have e6 : pre ++ (⟨a, a + 1⟩ : S64) :: suf = (pre ++ [⟨a, a + 1⟩]) ++ suf := by simp
    rw [e0, e4, e1, e4, e2, e5, e3, e6, ih (pre ++ [(⟨a, a + 1⟩ : S64)]) (a + 2) k (by omega) (by rw [List.length_append]; simp; omega) (by omega)]
    simp [pmarks]; omega
theorem bx_mark (k : Nat) (l : List S64) (hk : l.length < k) (hl : l.length ≤ 1048576) : laws_markBox.f k l 1 = some ((1 : Int) + 2 * (l.length : Int), pmarks 1 l.length) := by
  have := bx_mark_l l [] 1 k hk (by simpa using hl) (by omega)
  unfold laws_markBox.f laws_markPairS.f
  rw [show laws_markPairS.l0 k l 1 0 = _ from this]
  rfl
theorem bx_held_l : ∀ (n : Nat) (pre : List S64) (a : Int) (k : Nat), n < k → pre.length + n ≤ 1048576 → 0 ≤ a ∧ a + 2 * n ≤ 9000000 → laws_heldPairS.l0 k (pre ++ pmarks a n) a (pre.length : Int) = some (a + 2 * n) := by
  intro n; induction n with
  | zero =>
    intro pre a k hk hl ha
    obtain ⟨k, rfl⟩ : ∃ m, k = m + 1 := ⟨k - 1, by omega⟩
    simp only [laws_heldPairS.l0]
    rw [if_neg (by simp [pmarks])]; simp
  | succ n ih =>
    intro pre a k hk hl ha
    obtain ⟨k, rfl⟩ : ∃ m, k = m + 1 := ⟨k - 1, by omega⟩
    simp only [laws_heldPairS.l0]
    have e0 : rd_T64 (pre ++ pmarks a (n + 1)) (pre.length : Int) = ⟨a, a + 1⟩ := by
      rw [bx_rd _ _ (by rw [List.length_append, pmarks_length]; omega)]; simp [pmarks]
    have e2 : wrap64 (a + 1) = a + 1 := by unfold wrap64; omega
    have e5 : wrap64 (a + 1 + 1) = a + 2 := by unfold wrap64; omega
    have e3 : wrap64 ((pre.length : Int) + 1) = ((pre ++ [(⟨a, a + 1⟩ : S64)]).length : Int) := by rw [List.length_append]; simp; unfold wrap64; omega
    have e1 : pre ++ pmarks a (n + 1) = (pre ++ [⟨a, a + 1⟩]) ++ pmarks (a + 2) n := by simp [pmarks]
    rw [if_pos (by rw [List.length_append, pmarks_length]; omega), if_pos (by omega), e0, if_pos rfl, e2, if_pos rfl, e5, e3, e1, ih (pre ++ [(⟨a, a + 1⟩ : S64)]) (a + 2) k (by omega) (by rw [List.length_append]; simp; omega) (by omega), Option.some.injEq]
    omega
theorem bx_held (k n : Nat) (hk : n < k) (hl : n ≤ 1048576) : laws_heldBox.f k (pmarks 1 n) 1 = some ((1 : Int) + 2 * (n : Int)) := by
  have := bx_held_l n [] 1 k hk (by simpa using hl) (by omega)
  unfold laws_heldBox.f laws_heldPairS.f
  rw [show laws_heldPairS.l0 k (pmarks 1 n) 1 0 = _ from this, Option.bind_some, if_neg (by omega)]
theorem bm_iPairMeet (w a b c d : Int) : impl_PairMeet.f w a b c d = some (if pairOk w a b = true ∧ pairOk w c d = true ∧ mx a c ≤ mn b d then (mx a c, mn b d, true) else (0, 0, false)) := by
  unfold impl_PairMeet.f
  simp only [e_iPairOk, Option.bind_some]
  by_cases h : pairOk w a b = true <;> by_cases h' : pairOk w c d = true <;> simp [h, h']
  by_cases q : mx a c ≤ mn b d <;> simp [q, pairOk_meet h h']
theorem bm_il (w : Int) (a b : List S64) (ha : a.length ≤ 6) (hab : a.length = b.length) : ∀ (m i k : Nat) (acc : List S64), i + m = a.length → m < k → acc.length = i → ∃ r, spec_BoxMeet.l0 k w (i : Int) a b acc = some r ∧ impl_BoxMeet.l0 k w (a.length : Int) (i : Int) a b (acc ++ List.replicate m z64) = some r ∧ r.1.length ≤ 6 := by
  intro m
  induction m with
  | zero =>
    intro i k acc hi hk hc
    obtain ⟨k, rfl⟩ : ∃ q, k = q + 1 := ⟨k - 1, by omega⟩
    rw [spec_BoxMeet.l0, impl_BoxMeet.l0, if_neg (by omega), if_neg (by omega), List.replicate_zero, List.append_nil]
    exact ⟨_, rfl, rfl, by show acc.length ≤ 6; omega⟩
  | succ m ih =>
    intro i k acc hi hk hc
    obtain ⟨k, rfl⟩ : ∃ q, k = q + 1 := ⟨k - 1, by omega⟩
    have e3 : wrap64 ((i : Int) + 1) = ((i + 1 : Nat) : Int) := by unfold wrap64; omega
    have q1 : (i : Int) < (a.length : Int) := by omega
    have q2 : (0 : Int) ≤ (i : Int) := by omega
    have q3 : (i : Int) < (b.length : Int) := by omega
    rw [spec_BoxMeet.l0, impl_BoxMeet.l0, e3, e_sPairMeet, bm_iPairMeet, if_pos q1, if_pos q2, if_pos q3]
    simp only [q1, q2, q3, if_true, Option.bind_some]
    generalize (if pairOk w (rd_T64 a (i : Int)).f0 (rd_T64 a (i : Int)).f1 = true ∧ pairOk w (rd_T64 b (i : Int)).f0 (rd_T64 b (i : Int)).f1 = true ∧ mx (rd_T64 a (i : Int)).f0 (rd_T64 b (i : Int)).f0 ≤ mn (rd_T64 a (i : Int)).f1 (rd_T64 b (i : Int)).f1 then (mx (rd_T64 a (i : Int)).f0 (rd_T64 b (i : Int)).f0, mn (rd_T64 a (i : Int)).f1 (rd_T64 b (i : Int)).f1, true) else ((0 : Int), (0 : Int), false)) = v
    obtain ⟨p, q, o⟩ := v
    cases o with
    | true =>
      obtain ⟨r, h1, h2, h3⟩ := ih (i + 1) k (acc ++ [⟨p, q⟩]) (by omega) (by omega) (by rw [List.length_append, hc]; rfl)
      refine ⟨r, ?_, ?_, h3⟩
      · simp only [if_true]; rw [if_pos (by omega)]; exact h1
      · simp only [if_true]; rw [if_pos (show (i : Int) < ((acc ++ List.replicate (m + 1) z64).length : Int) by rw [List.length_append, List.length_replicate]; omega), Int.toNat_natCast, List.set_append_right _ _ (by omega), hc, Nat.sub_self, List.replicate_succ, List.set_cons_zero]
        rw [List.append_assoc] at h2
        exact h2
    | false => exact ⟨([], false), rfl, rfl, by simp⟩
theorem bm_b (w : Int) (a b : List S64) (k : Nat) (hk : 60 ≤ k) : ∃ r, spec_BoxMeet.f k w a b = some r ∧ impl_BoxMeet.f k w a b = some r ∧ r.1.length ≤ 6 := by
  obtain ⟨k, rfl⟩ : ∃ q, k = q + 1 := ⟨k - 1, by omega⟩
  unfold spec_BoxMeet.f impl_BoxMeet.f
  rw [bk_s _ _ _ (by omega), bk_s _ _ _ (by omega), bk_i, bk_i]
  simp only [Option.bind_some]
  have bad : ∃ r, spec_BoxMeet.j0 (k + 1) w true a b = some r ∧ impl_BoxMeet.j0 (k + 1) w true a b = some r ∧ r.1.length ≤ 6 := by
    rw [spec_BoxMeet.j0, impl_BoxMeet.j0]
    exact ⟨([], false), rfl, rfl, by simp⟩
  cases h1 : boxOk w a with
  | false => exact bad
  | true =>
    cases h2 : boxOk w b with
    | false => exact bad
    | true =>
      by_cases c : a.length = b.length
      · have e : ((a.length : Int) != (b.length : Int)) = false := bne_eq_false_iff_eq.mpr (by omega)
        have ha : a.length ≤ 6 := by
          unfold boxOk at h1
          rw [Bool.and_eq_true, decide_eq_true_eq] at h1
          exact h1.1.2
        obtain ⟨r, q1, q2, q3⟩ := bm_il w a b ha c a.length 0 k [] (by omega) (by omega) rfl
        refine ⟨r, ?_, ?_, q3⟩
        · rw [if_pos rfl, if_pos rfl, e, spec_BoxMeet.j0, if_neg (by decide)]; exact q1
        · rw [if_pos rfl, if_pos rfl, e, impl_BoxMeet.j0, if_neg (by decide), if_pos (by omega), if_pos (by omega), Option.bind_some, Int.toNat_natCast, List.length_replicate]; exact q2
      · have e : ((a.length : Int) != (b.length : Int)) = true := bne_iff_ne.mpr (by omega)
        rw [e]; exact bad
theorem bm_mark (k : Nat) (l : List S64) (x : Int) (hk : l.length < k) (hl : l.length ≤ 1048576) (hx : 0 ≤ x ∧ x ≤ 2200000) : ∃ z, laws_markBox.f k l x = some (x + 2 * (l.length : Int), z) := by
  have := bx_mark_l l [] x k hk (by simpa using hl) (by omega)
  unfold laws_markBox.f laws_markPairS.f
  rw [show laws_markPairS.l0 k l x 0 = _ from this]
  exact ⟨_, rfl⟩
theorem FnExactBoxMeet : laws_FnExactBoxMeet.Pure := by
  intro w a b _ _ ya _ _ yb _
  refine ⟨a.length + b.length + 70, ?_⟩
  unfold laws_FnExactBoxMeet.f
  rw [bx_sz a 1048576 (by omega) (by omega), Option.bind_some]
  by_cases ca : (1048576 : Int) - a.length < 0
  · rw [if_pos ca, if_pos (by omega)]
  · rw [if_neg ca, if_neg ca, bx_sz b _ (by omega) (by omega), Option.bind_some]
    by_cases cb : (1048576 : Int) - a.length - b.length < 0
    · rw [if_pos cb, if_pos (by omega)]
    · rw [if_neg cb, if_neg cb]
      obtain ⟨r0, u0, _, v0⟩ := bm_b w (a.map bxc) (b.map bxc) 60 (by omega)
      have R : ∀ k, 60 ≤ k → spec_BoxMeet.f k w (a.map bxc) (b.map bxc) = some r0 ∧ impl_BoxMeet.f k w (a.map bxc) (b.map bxc) = some r0 := by
        intro k hk
        obtain ⟨r, u, v, _⟩ := bm_b w (a.map bxc) (b.map bxc) k hk
        obtain ⟨d, rfl⟩ : ∃ d, k = 60 + d := ⟨k - 60, by omega⟩
        have hm : ∀ d, spec_BoxMeet.f (60 + d) w (a.map bxc) (b.map bxc) = some r0 := by
          intro d
          induction d with
          | zero => exact u0
          | succ d ih => exact spec_BoxMeet.mono _ _ _ (60 + d) _ ih
        have e := (hm d).symm.trans u
        rw [Option.some.injEq] at e
        subst e
        exact ⟨u, v⟩
      have q := v0
      have la : (a.map bxc).length = a.length := List.length_map ..
      have lb : (b.map bxc).length = b.length := List.length_map ..
      have H := fun (k : Nat) (hk : a.length + b.length + 60 ≤ k) => And.intro (bx_to a (by omega) k (by omega)) (And.intro (bx_to b (by omega) k (by omega)) (And.intro (bx_eq (a.map bxc) (by omega) k (by omega)) (And.intro (bx_eq (b.map bxc) (by omega) k (by omega)) (And.intro (R k (by omega)) (And.intro (bx_eq r0.1 (by omega) k (by omega)) (And.intro (bx_mark k r0.1 (by omega) (by omega)) (bx_held k r0.1.length (by omega) (by omega))))))))
      obtain ⟨ta0, tb0, _, _, ⟨s0, i0⟩, b0, _, _⟩ := H (a.length + b.length + 70) (by omega)
      obtain ⟨ta1, tb1, ea1, eb1, _, b1, _, _⟩ := H (a.length + b.length + 69) (by omega)
      obtain ⟨ta2, tb2, _, _, ⟨_, i2⟩, b2, m2, d2⟩ := H (a.length + b.length + 68) (by omega)
      obtain ⟨_, _, _, _, _, _, _, d3⟩ := H (a.length + b.length + 67) (by omega)
      obtain ⟨z1, hz1⟩ := bm_mark (a.length + b.length + 69) (a.map bxc) 1 (by omega) (by omega) (by omega)
      obtain ⟨z2, hz2⟩ := bm_mark (a.length + b.length + 69) (b.map bxc) (1 + 2 * ((a.map bxc).length : Int)) (by omega) (by omega) (by omega)
      rw [ta0, tb0]
      simp only [Option.bind_some]
      rw [s0]
      simp only [Option.bind_some]
      rw [i0]
      simp only [Option.bind_some]
      rw [b0, Option.bind_some, if_pos rfl]
      rw [show (r0.2 != r0.2) = false by simp]
      rw [laws_FnExactBoxMeet.j0, if_neg (by decide), ta1, Option.bind_some, ea1, Option.bind_some, if_pos rfl, tb1, Option.bind_some, eb1, Option.bind_some, if_pos rfl, hz1, Option.bind_some, hz2, Option.bind_some, if_neg (by omega), b1, Option.bind_some, if_pos rfl]
      rw [show (r0.2 != r0.2) = false by simp]
      rw [laws_FnExactBoxMeet.j1, if_neg (by decide), m2, Option.bind_some, d2, Option.bind_some, if_neg (by omega), if_pos rfl, ta2, Option.bind_some, tb2, Option.bind_some, i2, Option.bind_some, b2, Option.bind_some, if_pos rfl]
      rw [show (r0.2 != r0.2) = false by simp]
      rw [laws_FnExactBoxMeet.j2, if_neg (by decide), d3, Option.bind_some, if_neg (by omega), if_pos rfl]
end Go.Proofs.Ytlnihglcneaonaa.Pure
