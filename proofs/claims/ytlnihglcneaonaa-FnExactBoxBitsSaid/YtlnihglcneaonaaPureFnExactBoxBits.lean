/- BoxBits of the program and of the reference agree for every width and every box.
   Conditions: none beyond those of the given row (each number is of its kind). -/
import Derived.Test.YtlnihglcneaonaaQFnExactBoxBitsx4
import Derived.Test.YtlnihglcneaonaaMB
namespace Go.Proofs.Ytlnihglcneaonaa.Pure
open Go.RowKit Go.Proofs.Ytlnihglcneaonaa.QFnExactBoxBits Go.Proofs.YtlnihglcneaonaaW.PrintWords Go.Proofs.YtlnihglcneaonaaW.PrintLast Go.Proofs.YtlnihglcneaonaaW.PrintMore Go.Proofs.Ytlnihglcneaonaa.M
set_option linter.unusedVariables false
set_option linter.unusedSimpArgs false
theorem e_sBitTop (w : Int) : spec_BitTop.f w = some (top w) := by
  unfold spec_BitTop.f top; split
  · rfl
  · split <;> rfl
theorem e_formatOf (w : Int) : impl_formatOf.f w = some (if w = 32 then (23, -149, 127, top w, true) else if w = 64 then (52, -1074, 1023, top w, true) else (0, 0, 0, top w, false)) := by
  unfold impl_formatOf.f top
  by_cases h : w = 32
  · simp [h]
  · by_cases h' : w = 64
    · simp [h']
    · simp [h, h']
theorem e_iBitTop (w : Int) : impl_BitTop.f w = some (top w) := by
  unfold impl_BitTop.f; rw [e_formatOf]
  by_cases h : w = 32
  · simp [h]
  · by_cases h' : w = 64
    · simp [h']
    · simp [h, h']
theorem e_sBitOk (w n : Int) : spec_BitOk.f w n = some (bitOk w n) := by
  unfold spec_BitOk.f spec_l1Width.f
  simp only [e_sBitTop, Option.bind_some, top_neg, bitOk]
  by_cases h : w = 32
  · subst h; simp; split <;> simp_all; omega
  · by_cases h' : w = 64
    · subst h'; simp; split <;> simp_all; omega
    · simp [h, h']
theorem e_in (n a b : Int) : impl_in.f n a b = some (decide (a ≤ n ∧ n ≤ b)) := by
  unfold impl_in.f; split
  · simp_all
  · simp; omega
theorem e_iBitOk (w n : Int) : impl_BitOk.f w n = some (bitOk w n) := by
  unfold impl_BitOk.f
  simp only [e_formatOf, Option.bind_some, e_in]
  by_cases h : w = 32
  · subst h; simp [bitOk, top_neg]
  · by_cases h' : w = 64
    · subst h'; simp [bitOk, top_neg]
    · simp [h, h', bitOk]
theorem e_sPairOk (w a b : Int) : spec_PairOk.f w a b = some (pairOk w a b) := by
  unfold spec_PairOk.f
  simp only [e_sBitTop, e_sBitOk, Option.bind_some, top_neg]
  have no : ∀ h : ¬ ((w = 32 ∨ w = 64) ∧ -top w ≤ a ∧ a ≤ b ∧ b ≤ top w ∧ a ≠ top w ∧ b ≠ -top w), some false = some (pairOk w a b) := fun h => by rw [pairOk, decide_eq_false h]
  by_cases h1 : bitOk w a = true
  · by_cases h2 : bitOk w b = true
    · have q1 := bitOk_iff.mp h1
      have q2 := bitOk_iff.mp h2
      rw [if_pos h1, if_pos h2]
      by_cases c1 : a ≤ b
      · rw [if_pos c1]
        by_cases c2 : a < top w
        · rw [if_pos c2, pairOk]; congr 1; rw [decide_eq_decide]; omega
        · rw [if_neg c2]; exact no (by omega)
      · rw [if_neg c1]; exact no (by omega)
    · rw [if_pos h1, if_neg h2]; exact no (fun q => h2 (bitOk_iff.mpr (by omega)))
  · rw [if_neg h1]; exact no (fun q => h1 (bitOk_iff.mpr (by omega)))
theorem e_iPairOk (w a b : Int) : impl_PairOk.f w a b = some (pairOk w a b) := by
  unfold impl_PairOk.f
  simp only [e_iBitTop, e_iBitOk, Option.bind_some, top_neg]
  have no : ∀ h : ¬ ((w = 32 ∨ w = 64) ∧ -top w ≤ a ∧ a ≤ b ∧ b ≤ top w ∧ a ≠ top w ∧ b ≠ -top w), some false = some (pairOk w a b) := fun h => by rw [pairOk, decide_eq_false h]
  by_cases h1 : bitOk w a = true
  · by_cases h2 : bitOk w b = true
    · have q1 := bitOk_iff.mp h1
      have q2 := bitOk_iff.mp h2
      rw [if_pos h1, if_pos h2]
      by_cases c1 : a ≤ b
      · rw [if_pos c1]
        by_cases c2 : a = top w
        · rw [if_pos c2]; exact no (by omega)
        · rw [if_neg c2]; congr 1; rw [Bool.eq_iff_iff, bne_iff_ne, pairOk_iff]; omega
      · rw [if_neg c1]; exact no (by omega)
    · rw [if_pos h1, if_neg h2]; exact no (fun q => h2 (bitOk_iff.mpr (by omega)))
  · rw [if_neg h1]; exact no (fun q => h1 (bitOk_iff.mpr (by omega)))
def bxc (x : S87) : S64 := ⟨x.f0, x.f1⟩
theorem bx_w (x : Int) (h0 : 0 ≤ x) (h1 : x ≤ 140737488351232) : wrap64 (x + 1) = x + 1 := by
  unfold wrap64; omega
theorem bx_tol (l : List S87) (hl : l.length ≤ 140737488351232) : ∀ (m i k : Nat), i + m = l.length → m < k → laws_toPairS.l0 k l ((l.take i).map bxc ++ List.replicate m z64) (i : Int) = some (l.map bxc) := by
  intro m
  induction m with
  | zero =>
    intro i k hi hk
    obtain ⟨k, rfl⟩ : ∃ q, k = q + 1 := ⟨k - 1, by omega⟩
    rw [laws_toPairS.l0, if_neg (by omega), List.take_of_length_le (by omega)]
    simp
  | succ m ih =>
    intro i k hi hk
    obtain ⟨k, rfl⟩ : ∃ q, k = q + 1 := ⟨k - 1, by omega⟩
    have hn := ih (i + 1) k (by omega) (by omega)
    have hlt : i < l.length := by omega
    have hz : ((l.take i).map bxc).length = i := by simp; omega
    have hs : ((l.take i).map bxc ++ List.replicate (m + 1) z64).set i (bxc l[i]) = (l.take (i + 1)).map bxc ++ List.replicate m z64 := by
      rw [List.set_append_right _ _ (by omega), hz, Nat.sub_self, List.replicate_succ, List.set_cons_zero, List.take_succ_eq_append_getElem hlt, List.map_append, List.append_assoc]
      rfl
    have hr : rd_T87 l (i : Int) = l[i] := by
      unfold rd_T87
      rw [Int.toNat_natCast, List.getD_eq_getElem?_getD, List.getElem?_eq_getElem hlt]
      rfl
    rw [laws_toPairS.l0, if_pos (by omega), if_pos (by omega), laws_toPair.f, Option.bind_some, if_pos (by rw [List.length_append, hz, List.length_replicate]; omega), Int.toNat_natCast, hr, bx_w i (by omega) (by omega)]
    exact (congrArg (fun x => laws_toPairS.l0 k l x ((i : Int) + 1)) hs).trans hn
theorem bx_to (l : List S87) (hl : l.length ≤ 1048576) (k : Nat) (hk : l.length < k) : laws_toBox.f k l = some (l.map bxc) := by
  have h := bx_tol l (by omega) l.length 0 k (by omega) hk
  unfold laws_toBox.f laws_toPairS.f
  rw [if_pos (by omega), if_pos (by omega), Int.toNat_natCast]
  rw [List.take_zero, List.map_nil, List.nil_append] at h
  rw [show laws_toPairS.l0 k l (List.replicate l.length z64) 0 = some (l.map bxc) from h]
  rfl
theorem bx_eql (a : List S64) (ha : a.length ≤ 1048576) : ∀ (m i k : Nat), i + m = a.length → m < k → laws_eqPairS.l0 k a a (i : Int) = some true := by
  intro m
  induction m with
  | zero =>
    intro i k hi hk
    obtain ⟨k, rfl⟩ : ∃ q, k = q + 1 := ⟨k - 1, by omega⟩
    rw [laws_eqPairS.l0, if_neg (by omega)]
  | succ m ih =>
    intro i k hi hk
    obtain ⟨k, rfl⟩ : ∃ q, k = q + 1 := ⟨k - 1, by omega⟩
    have hn : laws_eqPairS.l0 k a a ((i : Int) + 1) = some true := ih (i + 1) k (by omega) (by omega)
    rw [laws_eqPairS.l0, if_pos (by omega), if_pos (by omega), if_pos (by omega), laws_eqPair.f, if_pos rfl, if_pos rfl, Option.bind_some, if_pos rfl, bx_w i (by omega) (by omega)]
    exact hn
theorem bx_eq (a : List S64) (ha : a.length ≤ 1048576) (k : Nat) (hk : a.length < k) : laws_eqBox.f k a a = some true := by
  unfold laws_eqBox.f laws_eqPairS.f
  rw [if_pos rfl, show laws_eqPairS.l0 k a a 0 = some true from bx_eql a ha a.length 0 k (by omega) hk]
  rfl
theorem bx_sz (l : List S87) (x : Int) (hx : 0 ≤ x ∧ x ≤ 1048576) (hl : l.length ≤ 140737488351232) : laws_szBox.f l x = some (if x - l.length < 0 then -1 else x - l.length) := by
  unfold laws_szBox.f laws_szPairS.f
  have e : wrap64 (x - (l.length : Int)) = x - (l.length : Int) := by unfold wrap64; omega
  rw [e]
  by_cases c : x - (l.length : Int) < 0
  · rw [if_pos c, if_pos c]; rfl
  · rw [if_neg c, if_neg c, Option.bind_some, if_neg c]
theorem bk_sl (w : Int) (l : List S64) (hl : l.length ≤ 6) : ∀ (m i k : Nat), i + m = l.length → m < k → spec_BoxOk.l0 k w (i : Int) l = some ((l.drop i).all fun x => pairOk w x.f0 x.f1) := by
  intro m
  induction m with
  | zero =>
    intro i k hi hk
    obtain ⟨k, rfl⟩ : ∃ q, k = q + 1 := ⟨k - 1, by omega⟩
    rw [spec_BoxOk.l0, if_neg (by omega), List.drop_eq_nil_of_le (by omega)]
    rfl
  | succ m ih =>
    intro i k hi hk
    obtain ⟨k, rfl⟩ : ∃ q, k = q + 1 := ⟨k - 1, by omega⟩
    have hn : spec_BoxOk.l0 k w ((i : Int) + 1) l = some ((l.drop (i + 1)).all fun x => pairOk w x.f0 x.f1) := ih (i + 1) k (by omega) (by omega)
    have hlt : i < l.length := by omega
    have hr : rd_T64 l (i : Int) = l[i] := by
      unfold rd_T64
      rw [Int.toNat_natCast, List.getD_eq_getElem?_getD, List.getElem?_eq_getElem hlt]
      rfl
    rw [spec_BoxOk.l0, if_pos (by omega), if_pos (by omega), e_sPairOk, hr, bx_w i (by omega) (by omega), hn, List.drop_eq_getElem_cons hlt, List.all_cons, Option.bind_some]
    cases pairOk w l[i].f0 l[i].f1 <;> simp
def boxOk (w : Int) (l : List S64) : Bool := decide (1 ≤ l.length ∧ l.length ≤ 6) && l.all fun x => pairOk w x.f0 x.f1
theorem bk_s (w : Int) (l : List S64) (k : Nat) (hk : 8 ≤ k) : spec_BoxOk.f k w l = some (boxOk w l) := by
  obtain ⟨k, rfl⟩ : ∃ q, k = q + 1 := ⟨k - 1, by omega⟩
  unfold spec_BoxOk.f boxOk
  by_cases h1 : (l.length : Int) < 1
  · rw [if_pos h1, spec_BoxOk.j0, if_pos rfl, decide_eq_false (show ¬ (1 ≤ l.length ∧ l.length ≤ 6) by omega)]; rfl
  · by_cases h6 : (l.length : Int) > 6
    · rw [if_neg h1, decide_eq_true h6, spec_BoxOk.j0, if_pos rfl, decide_eq_false (show ¬ (1 ≤ l.length ∧ l.length ≤ 6) by omega)]; rfl
    · rw [if_neg h1, decide_eq_false h6, spec_BoxOk.j0, if_neg (by decide), decide_eq_true (show 1 ≤ l.length ∧ l.length ≤ 6 by omega)]
      exact bk_sl w l (by omega) l.length 0 k (by omega) (by omega)
theorem bk_i (w : Int) (l : List S64) : impl_BoxOk.f w l = some (boxOk w l) := by
  unfold impl_BoxOk.f bokIn boxOk
  have hb : ∀ x, bokBad w x = !(pairOk w x.f0 x.f1) := fun x => by
    unfold bokBad
    rw [e_iPairOk]
    cases pairOk w x.f0 x.f1 <;> rfl
  rw [if_pos (by simp [e_iPairOk])]
  congr 2
  rw [List.not_any_eq_all_not]
  congr 1
  funext x
  rw [hb, Bool.not_not]
def pmarks (a : Int) : Nat → List S64
  | 0 => []
  | n + 1 => ⟨a, a + 1⟩ :: pmarks (a + 2) n
theorem bx_rd (l : List S64) (i : Nat) (h : i < l.length) : rd_T64 l (i : Int) = l[i] := by
  unfold rd_T64
  rw [Int.toNat_natCast, List.getD_eq_getElem?_getD, List.getElem?_eq_getElem h]
  rfl
theorem bx_mark_l : ∀ (suf pre : List S64) (a : Int) (k : Nat), suf.length < k → pre.length + suf.length ≤ 1048576 → 0 ≤ a ∧ a + 2 * suf.length ≤ 9000000 → laws_markPairS.l0 k (pre ++ suf) a (pre.length : Int) = some (a + 2 * suf.length, pre ++ pmarks a suf.length) := by
  intro suf; induction suf with
  | nil =>
    intro pre a k hk hl ha
    obtain ⟨k, rfl⟩ : ∃ m, k = m + 1 := ⟨k - 1, by simp at hk; omega⟩
    simp only [laws_markPairS.l0]
    rw [if_neg (by simp)]; simp [pmarks]
  | cons s suf ih =>
    intro pre a k hk hl ha
    simp only [List.length_cons] at hk hl ha
    obtain ⟨k, rfl⟩ : ∃ m, k = m + 1 := ⟨k - 1, by omega⟩
    simp only [laws_markPairS.l0]
    rw [if_pos (by simp; omega), if_pos (by omega), Option.bind_some]
    have e0 : ∀ v : S64, (pre ++ s :: suf).set ((pre.length : Int)).toNat v = pre ++ v :: suf := fun v => by
      rw [Int.toNat_natCast, List.set_append_right _ _ (Nat.le_refl _), Nat.sub_self, List.set_cons_zero]
    have e1 : ∀ u v : S64, (pre ++ u :: suf).set ((pre.length : Int)).toNat v = pre ++ v :: suf := fun u v => by
      rw [Int.toNat_natCast, List.set_append_right _ _ (Nat.le_refl _), Nat.sub_self, List.set_cons_zero]
    have e4 : ∀ u : S64, rd_T64 (pre ++ u :: suf) (pre.length : Int) = u := fun u => by
      rw [bx_rd _ _ (by rw [List.length_append, List.length_cons]; omega)]; simp
    have e2 : wrap64 (a + 1) = a + 1 := by unfold wrap64; omega
    have e5 : wrap64 (a + 1 + 1) = a + 2 := by unfold wrap64; omega
    have e3 : wrap64 ((pre.length : Int) + 1) = ((pre ++ [(⟨a, a + 1⟩ : S64)]).length : Int) := by rw [List.length_append]; simp; unfold wrap64; omega
    have e6 : pre ++ (⟨a, a + 1⟩ : S64) :: suf = (pre ++ [⟨a, a + 1⟩]) ++ suf := by simp
    rw [e0, e4, e1, e4, e2, e5, e3, e6, ih (pre ++ [(⟨a, a + 1⟩ : S64)]) (a + 2) k (by omega) (by rw [List.length_append]; simp; omega) (by omega)]
    simp [pmarks]; omega
theorem bx_mark (k : Nat) (l : List S64) (hk : l.length < k) (hl : l.length ≤ 1048576) : laws_markBox.f k l 1 = some ((1 : Int) + 2 * (l.length : Int), pmarks 1 l.length) := by
  have := bx_mark_l l [] 1 k hk (by simpa using hl) (by omega)
  unfold laws_markBox.f laws_markPairS.f
  rw [show laws_markPairS.l0 k l 1 0 = _ from this]
  rfl
theorem bu_eq_l (l : List Int) (hl : l.length ≤ 1048576) (d : Nat) : ∀ (i k : Nat), i + d = l.length → d < k → laws_eqUint64S.l0 k l l (i : Int) = some true := by
  induction d with
  | zero =>
    intro i k hi hk
    obtain ⟨k, rfl⟩ : ∃ m, k = m + 1 := ⟨k - 1, by omega⟩
    simp only [laws_eqUint64S.l0]; rw [if_neg (by omega)]
  | succ d ih =>
    intro i k hi hk
    obtain ⟨k, rfl⟩ : ∃ m, k = m + 1 := ⟨k - 1, by omega⟩
    have e3 : wrap64 ((i : Int) + 1) = ((i + 1 : Nat) : Int) := by unfold wrap64; omega
    simp only [laws_eqUint64S.l0]
    rw [if_pos (by omega), if_pos (by omega), if_pos (by omega), if_pos trivial, e3]
    exact ih (i + 1) k (by omega) (by omega)
theorem bu_eq (k : Nat) (l : List Int) (hl : l.length ≤ 1048576) (hk : l.length < k) : laws_eqUint64S.f k l l = some true := by
  unfold laws_eqUint64S.f; rw [if_pos rfl]; exact bu_eq_l l hl l.length 0 k (by omega) hk
theorem bb_both (a0 a1 : Int) : ∃ v, spec_BitBits.f a0 a1 = some v ∧ impl_BitBits.f a0 a1 = some v := by
  unfold spec_BitBits.f impl_BitBits.f
  simp only [e_sBitOk, e_iBitOk, Option.bind_some]
  by_cases h : bitOk a0 a1 = true
  · have r := bitOk_iff.mp h
    simp only [h, if_true]
    by_cases n : a1 < 0
    · simp only [n, if_true]
      rcases r.1 with rfl | rfl
      · rw [top_32] at r
        have q0 : wrap64 (32 - 1) = 31 := by decide +kernel
        have q1 : shl .u64 1 (IntKind.u64.wrap 31) = 2147483648 := by decide +kernel
        have q2 : shl .u64 1 31 = 2147483648 := by decide +kernel
        have q3 : 0 ≤ IntKind.u64.wrap 31 := by decide +kernel
        have q5 : IntKind.u64.wrap (wrap64 (-a1)) = -a1 := by rw [u64w]; unfold wrap64; omega
        simp only [q0, q1, q2, q3, q5, if_true, show (0 : Int) ≤ 31 by decide]
        refine ⟨_, rfl, ?_⟩
        rw [u64_or _ _ (by omega) (by omega) (by decide) (by decide), Nat.or_comm, nat_join 31 _ _ (by decide) (by omega), Option.some.injEq, u64w]; omega
      · rw [top_64] at r
        have q0 : wrap64 (64 - 1) = 63 := by decide +kernel
        have q1 : shl .u64 1 (IntKind.u64.wrap 63) = 9223372036854775808 := by decide +kernel
        have q2 : shl .u64 1 63 = 9223372036854775808 := by decide +kernel
        have q3 : 0 ≤ IntKind.u64.wrap 63 := by decide +kernel
        have q5 : IntKind.u64.wrap (wrap64 (-a1)) = -a1 := by rw [u64w]; unfold wrap64; omega
        simp only [q0, q1, q2, q3, q5, if_true, show (0 : Int) ≤ 63 by decide]
        refine ⟨_, rfl, ?_⟩
        rw [u64_or _ _ (by omega) (by omega) (by decide) (by decide), Nat.or_comm, nat_join 63 _ _ (by decide) (by omega), Option.some.injEq, u64w]; omega
    · simp [n]
  · simp [h]
def bbV (w x : Int) : Int := (spec_BitBits.f w x).getD 0
theorem bb_s (w x : Int) : spec_BitBits.f w x = some (bbV w x) := by
  obtain ⟨v, h, _⟩ := bb_both w x
  unfold bbV; rw [h]; rfl
theorem bb_i (w x : Int) : impl_BitBits.f w x = some (bbV w x) := by
  obtain ⟨v, h, h'⟩ := bb_both w x
  unfold bbV; rw [h', h]; rfl
def bbL (w : Int) : List S64 → List Int
  | [] => []
  | x :: l => bbV w x.f0 :: bbV w x.f1 :: bbL w l
theorem bbL_length (w : Int) (l : List S64) : (bbL w l).length = 2 * l.length := by
  induction l with
  | nil => rfl
  | cons x l ih => simp only [bbL, List.length_cons, ih]; omega
theorem bb_l (w : Int) (l : List S64) (hl : l.length ≤ 6) : ∀ (m i k : Nat) (acc : List Int), i + m = l.length → m < k → acc.length = 2 * i → spec_BoxBits.l0 k w acc (i : Int) l = some (acc ++ bbL w (l.drop i)) ∧ impl_BoxBits.l0 k w acc l (l.length : Int) (i : Int) = some (acc ++ bbL w (l.drop i)) := by
  intro m
  induction m with
  | zero =>
    intro i k acc hi hk hc
    obtain ⟨k, rfl⟩ : ∃ q, k = q + 1 := ⟨k - 1, by omega⟩
    rw [spec_BoxBits.l0, impl_BoxBits.l0, if_neg (by omega), if_neg (by omega), List.drop_eq_nil_of_le (by omega), bbL, List.append_nil]
    exact ⟨rfl, rfl⟩
  | succ m ih =>
    intro i k acc hi hk hc
    obtain ⟨k, rfl⟩ : ∃ q, k = q + 1 := ⟨k - 1, by omega⟩
    have hlt : i < l.length := by omega
    have q1 : (i : Int) < (l.length : Int) := by omega
    have q2 : (0 : Int) ≤ (i : Int) := by omega
    have e3 : wrap64 ((i : Int) + 1) = ((i + 1 : Nat) : Int) := by unfold wrap64; omega
    have hr : rd_T64 l (i : Int) = l[i] := bx_rd l i hlt
    have hn : ∀ u v : Int, acc.length + ([u, v] : List Int).length < 17592186044416 := fun u v => by simp only [List.length_cons, List.length_nil]; omega
    obtain ⟨h1, h2⟩ := ih (i + 1) k (acc ++ [bbV w l[i].f0, bbV w l[i].f1]) (by omega) (by omega) (by simp only [List.length_append, List.length_cons, List.length_nil]; omega)
    rw [spec_BoxBits.l0, impl_BoxBits.l0, if_pos q1, if_pos q1, if_pos q2, if_pos q2, if_pos q1, hr, e3, bb_s, bb_s, bb_i, bb_i]
    simp only [Option.bind_some]
    rw [if_pos (hn _ _), if_pos (hn _ _), h1, h2, List.drop_eq_getElem_cons hlt, bbL, List.append_assoc]
    exact ⟨rfl, rfl⟩
def bbOf (w : Int) (l : List S64) : List Int := if boxOk w l = true then bbL w l else []
theorem bb_b (w : Int) (l : List S64) (k : Nat) (hk : 20 ≤ k) : spec_BoxBits.f k w l = some (bbOf w l) ∧ impl_BoxBits.f k w l = some (bbOf w l) := by
  unfold spec_BoxBits.f impl_BoxBits.f bbOf
  rw [bk_s _ _ _ (by omega), bk_i]
  simp only [Option.bind_some]
  cases h1 : boxOk w l with
  | false => exact ⟨rfl, rfl⟩
  | true =>
    have hl : l.length ≤ 6 := by
      unfold boxOk at h1
      rw [Bool.and_eq_true, decide_eq_true_eq] at h1
      exact h1.1.2
    obtain ⟨u, v⟩ := bb_l w l hl l.length 0 k [] (by omega) (by omega) rfl
    rw [if_pos rfl, if_pos rfl, if_pos rfl, if_pos (by omega)]
    exact ⟨u, v⟩
theorem bbOf_length (w : Int) (l : List S64) : (bbOf w l).length ≤ 12 := by
  unfold bbOf
  by_cases h1 : boxOk w l = true
  · rw [if_pos h1, bbL_length]
    unfold boxOk at h1
    rw [Bool.and_eq_true, decide_eq_true_eq] at h1
    omega
  · rw [if_neg h1]; simp
def umarks (a : Int) : Nat → List Int
  | 0 => []
  | n + 1 => a :: umarks (a + 1) n
theorem umarks_length (n : Nat) : ∀ a, (umarks a n).length = n := by
  induction n with
  | zero => intro a; rfl
  | succ n ih => intro a; simp [umarks, ih]
theorem bv_rd (l : List Int) (i : Nat) (h : i < l.length) : rd l (i : Int) = l[i] := by
  unfold rd
  rw [Int.toNat_natCast, List.getD_eq_getElem?_getD, List.getElem?_eq_getElem h]
  rfl
theorem bv_mark_l : ∀ (suf pre : List Int) (a : Int) (k : Nat), suf.length < k → pre.length + suf.length ≤ 1048576 → 0 ≤ a ∧ a + suf.length ≤ 9000000 → laws_markUint64S.l0 k (pre ++ suf) a (pre.length : Int) = some (a + suf.length, pre ++ umarks a suf.length) := by
  intro suf; induction suf with
  | nil =>
    intro pre a k hk hl ha
    obtain ⟨k, rfl⟩ : ∃ m, k = m + 1 := ⟨k - 1, by simp at hk; omega⟩
    simp only [laws_markUint64S.l0]
    rw [if_neg (by simp)]; simp [umarks]
  | cons s suf ih =>
    intro pre a k hk hl ha
    simp only [List.length_cons] at hk hl ha
    obtain ⟨k, rfl⟩ : ∃ m, k = m + 1 := ⟨k - 1, by omega⟩
    simp only [laws_markUint64S.l0]
    rw [if_pos (by simp; omega), if_pos (by omega)]
    have e0 : ∀ v : Int, (pre ++ s :: suf).set ((pre.length : Int)).toNat v = pre ++ v :: suf := fun v => by
      rw [Int.toNat_natCast, List.set_append_right _ _ (Nat.le_refl _), Nat.sub_self, List.set_cons_zero]
    have e1 : IntKind.u64.wrap a = a := by rw [u64w]; omega
    have e2 : wrap64 (a + 1) = a + 1 := by unfold wrap64; omega
    have e3 : wrap64 ((pre.length : Int) + 1) = ((pre ++ [a]).length : Int) := by rw [List.length_append]; simp; unfold wrap64; omega
    have e6 : pre ++ a :: suf = (pre ++ [a]) ++ suf := by simp
    rw [e0, e1, e2, e3, e6, ih (pre ++ [a]) (a + 1) k (by omega) (by rw [List.length_append]; simp; omega) (by omega)]
    simp [umarks]; omega
theorem bv_mark (k : Nat) (l : List Int) (hk : l.length < k) (hl : l.length ≤ 1048576) : laws_markUint64S.f k l 1 = some ((1 : Int) + (l.length : Int), umarks 1 l.length) := by
  have := bv_mark_l l [] 1 k hk (by simpa using hl) (by omega)
  unfold laws_markUint64S.f
  rw [show laws_markUint64S.l0 k l 1 0 = _ from this]
  rfl
theorem bv_held_l : ∀ (n : Nat) (pre : List Int) (a : Int) (k : Nat), n < k → pre.length + n ≤ 1048576 → 0 ≤ a ∧ a + n ≤ 9000000 → laws_heldUint64S.l0 k (pre ++ umarks a n) a (pre.length : Int) = some (a + n) := by
  intro n; induction n with
  | zero =>
    intro pre a k hk hl ha
    obtain ⟨k, rfl⟩ : ∃ m, k = m + 1 := ⟨k - 1, by omega⟩
    simp only [laws_heldUint64S.l0]
    rw [if_neg (by simp [umarks])]; simp
  | succ n ih =>
    intro pre a k hk hl ha
    obtain ⟨k, rfl⟩ : ∃ m, k = m + 1 := ⟨k - 1, by omega⟩
    simp only [laws_heldUint64S.l0]
    have e0 : rd (pre ++ umarks a (n + 1)) (pre.length : Int) = a := by
      rw [bv_rd _ _ (by rw [List.length_append, umarks_length]; omega)]; simp [umarks]
    have e1 : IntKind.u64.wrap a = a := by rw [u64w]; omega
    have e2 : wrap64 (a + 1) = a + 1 := by unfold wrap64; omega
    have e3 : wrap64 ((pre.length : Int) + 1) = ((pre ++ [a]).length : Int) := by rw [List.length_append]; simp; unfold wrap64; omega
    have e4 : pre ++ umarks a (n + 1) = (pre ++ [a]) ++ umarks (a + 1) n := by simp [umarks]
    rw [if_pos (by rw [List.length_append, umarks_length]; omega), if_pos (by omega), e0, e1, if_pos rfl, e2, e3, e4, ih (pre ++ [a]) (a + 1) k (by omega) (by rw [List.length_append]; simp; omega) (by omega), Option.some.injEq]
    omega
theorem bv_held (k n : Nat) (hk : n < k) (hl : n ≤ 1048576) : laws_heldUint64S.f k (umarks 1 n) 1 = some ((1 : Int) + (n : Int)) := by
  have := bv_held_l n [] 1 k hk (by simpa using hl) (by omega)
  unfold laws_heldUint64S.f
  rw [show laws_heldUint64S.l0 k (umarks 1 n) 1 0 = _ from this]
theorem FnExactBoxBits : laws_FnExactBoxBits.Pure := by
  intro w a _ _ ya _
  refine ⟨a.length + 70, ?_⟩
  unfold laws_FnExactBoxBits.f
  rw [bx_sz a 1048576 (by omega) (by omega), Option.bind_some]
  by_cases ca : (1048576 : Int) - a.length < 0
  · rw [if_pos ca, if_pos (by omega)]
  · rw [if_neg ca, if_neg ca]
    have la : (a.map bxc).length = a.length := List.length_map ..
    have q := bbOf_length w (a.map bxc)
    have H := fun (k : Nat) (hk : a.length + 60 ≤ k) => And.intro (bx_to a (by omega) k (by omega)) (And.intro (bx_eq (a.map bxc) (by omega) k (by omega)) (And.intro (bb_b w (a.map bxc) k (by omega)) (And.intro (bu_eq k (bbOf w (a.map bxc)) (by omega) (by omega)) (And.intro (bx_mark k (a.map bxc) (by omega) (by omega)) (And.intro (bv_mark k (bbOf w (a.map bxc)) (by omega) (by omega)) (bv_held k (bbOf w (a.map bxc)).length (by omega) (by omega)))))))
    obtain ⟨t0, b0, ⟨s0, i0⟩, u0, m0, _, _⟩ := H (a.length + 70) (by omega)
    obtain ⟨t1, _, ⟨_, i1⟩, u1, _, v1, d1⟩ := H (a.length + 69) (by omega)
    rw [t0]
    simp only [Option.bind_some]
    rw [s0]
    simp only [Option.bind_some]
    rw [i0]
    simp only [Option.bind_some]
    rw [u0, Option.bind_some, if_pos rfl, b0, Option.bind_some, if_pos rfl, m0, Option.bind_some, if_neg (by simp only [la]; omega), Option.bind_some]
    rw [laws_FnExactBoxBits.j0, if_neg (by decide), v1]
    simp only [Option.bind_some]
    rw [d1, Option.bind_some, if_neg (by omega), if_pos rfl, t1, Option.bind_some, i1, Option.bind_some, u1, Option.bind_some, if_pos rfl, Option.bind_some, if_neg (by omega), if_pos rfl]
end Go.Proofs.Ytlnihglcneaonaa.Pure
