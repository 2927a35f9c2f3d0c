/- BoxOk of the program and of the reference agree for every width and box.
   Conditions: none beyond those of the given row (each number is of its kind). -/
import Derived.Test.YtlnihglcneaonaaQFnExactBoxOkx3
import Derived.Test.YtlnihglcneaonaaMB
namespace Go.Proofs.Ytlnihglcneaonaa.Pure
open Go.RowKit Go.Proofs.Ytlnihglcneaonaa.QFnExactBoxOk Go.Proofs.YtlnihglcneaonaaW.PrintWords Go.Proofs.YtlnihglcneaonaaW.PrintLast Go.Proofs.YtlnihglcneaonaaW.PrintMore Go.Proofs.Ytlnihglcneaonaa.M
set_option linter.unusedVariables false
set_option linter.unusedSimpArgs false
theorem e_sBitTop (w : Int) : spec_BitTop.f w = some (top w) := by
  unfold spec_BitTop.f top; split
  · rfl
  · split <;> rfl
theorem e_formatOf (w : Int) : impl_formatOf.f w = some (if w = 32 then (23, -149, 127, top w, true) else if w = 64 then (52, -1074, 1023, top w, true) else (0, 0, 0, top w, false)) := by
  unfold impl_formatOf.f top
  by_cases h : w = 32
  · simp [h]
  · by_cases h' : w = 64
    · simp [h']
    · simp [h, h']
theorem e_iBitTop (w : Int) : impl_BitTop.f w = some (top w) := by
  unfold impl_BitTop.f; rw [e_formatOf]
  by_cases h : w = 32
  · simp [h]
  · by_cases h' : w = 64
    · simp [h']
    · simp [h, h']
theorem e_sBitOk (w n : Int) : spec_BitOk.f w n = some (bitOk w n) := by
  unfold spec_BitOk.f spec_l1Width.f
  simp only [e_sBitTop, Option.bind_some, top_neg, bitOk]
  by_cases h : w = 32
  · subst h; simp; split <;> simp_all; omega
  · by_cases h' : w = 64
    · subst h'; simp; split <;> simp_all; omega
    · simp [h, h']
theorem e_in (n a b : Int) : impl_in.f n a b = some (decide (a ≤ n ∧ n ≤ b)) := by
  unfold impl_in.f; split
  · simp_all
  · simp; omega
theorem e_iBitOk (w n : Int) : impl_BitOk.f w n = some (bitOk w n) := by
  unfold impl_BitOk.f
  simp only [e_formatOf, Option.bind_some, e_in]
  by_cases h : w = 32
  · subst h; simp [bitOk, top_neg]
  · by_cases h' : w = 64
    · subst h'; simp [bitOk, top_neg]
    · simp [h, h', bitOk]
theorem e_sPairOk (w a b : Int) : spec_PairOk.f w a b = some (pairOk w a b) := by
  unfold spec_PairOk.f
  simp only [e_sBitTop, e_sBitOk, Option.bind_some, top_neg]
  have no : ∀ h : ¬ ((w = 32 ∨ w = 64) ∧ -top w ≤ a ∧ a ≤ b ∧ b ≤ top w ∧ a ≠ top w ∧ b ≠ -top w), some false = some (pairOk w a b) := fun h => by rw [pairOk, decide_eq_false h]
  by_cases h1 : bitOk w a = true
  · by_cases h2 : bitOk w b = true
    · have q1 := bitOk_iff.mp h1
      have q2 := bitOk_iff.mp h2
      rw [if_pos h1, if_pos h2]
      by_cases c1 : a ≤ b
      · rw [if_pos c1]
        by_cases c2 : a < top w
        · rw [if_pos c2, pairOk]; congr 1; rw [decide_eq_decide]; omega
        · rw [if_neg c2]; exact no (by omega)
      · rw [if_neg c1]; exact no (by omega)
    · rw [if_pos h1, if_neg h2]; exact no (fun q => h2 (bitOk_iff.mpr (by omega)))
  · rw [if_neg h1]; exact no (fun q => h1 (bitOk_iff.mpr (by omega)))
theorem e_iPairOk (w a b : Int) : impl_PairOk.f w a b = some (pairOk w a b) := by
  unfold impl_PairOk.f
  simp only [e_iBitTop, e_iBitOk, Option.bind_some, top_neg]
  have no : ∀ h : ¬ ((w = 32 ∨ w = 64) ∧ -top w ≤ a ∧ a ≤ b ∧ b ≤ top w ∧ a ≠ top w ∧ b ≠ -top w), some false = some (pairOk w a b) := fun h => by rw [pairOk, decide_eq_false h]
  by_cases h1 : bitOk w a = true
  · by_cases h2 : bitOk w b = true
    · have q1 := bitOk_iff.mp h1
      have q2 := bitOk_iff.mp h2
      rw [if_pos h1, if_pos h2]
      by_cases c1 : a ≤ b
      · rw [if_pos c1]
        by_cases c2 : a = top w
        · rw [if_pos c2]; exact no (by omega)
        · rw [if_neg c2]; congr 1; rw [Bool.eq_iff_iff, bne_iff_ne, pairOk_iff]; omega
      · rw [if_neg c1]; exact no (by omega)
    · rw [if_pos h1, if_neg h2]; exact no (fun q => h2 (bitOk_iff.mpr (by omega)))
  · rw [if_neg h1]; exact no (fun q => h1 (bitOk_iff.mpr (by omega)))
def bxc (x : S87) : S64 := ⟨x.f0, x.f1⟩
theorem bx_w (x : Int) (h0 : 0 ≤ x) (h1 : x ≤ 140737488351232) : wrap64 (x + 1) = x + 1 := by
  unfold wrap64; omega
theorem bx_tol (l : List S87) (hl : l.length ≤ 140737488351232) : ∀ (m i k : Nat), i + m = l.length → m < k → laws_toPairS.l0 k l ((l.take i).map bxc ++ List.replicate m z64) (i : Int) = some (l.map bxc) := by
  intro m
  induction m with
  | zero =>
    intro i k hi hk
    obtain ⟨k, rfl⟩ : ∃ q, k = q + 1 := ⟨k - 1, by omega⟩
    rw [laws_toPairS.l0, if_neg (by omega), List.take_of_length_le (by omega)]
    simp
  | succ m ih =>
    intro i k hi hk
    obtain ⟨k, rfl⟩ : ∃ q, k = q + 1 := ⟨k - 1, by omega⟩
    have hn := ih (i + 1) k (by omega) (by omega)
    have hlt : i < l.length := by omega
    have hz : ((l.take i).map bxc).length = i := by simp; omega
    have hs : ((l.take i).map bxc ++ List.replicate (m + 1) z64).set i (bxc l[i]) = (l.take (i + 1)).map bxc ++ List.replicate m z64 := by
      rw [List.set_append_right _ _ (by omega), hz, Nat.sub_self, List.replicate_succ, List.set_cons_zero, List.take_succ_eq_append_getElem hlt, List.map_append, List.append_assoc]
      rfl
    have hr : rd_T87 l (i : Int) = l[i] := by
      unfold rd_T87
      rw [Int.toNat_natCast, List.getD_eq_getElem?_getD, List.getElem?_eq_getElem hlt]
      rfl
    rw [laws_toPairS.l0, if_pos (by omega), if_pos (by omega), laws_toPair.f, Option.bind_some, if_pos (by rw [List.length_append, hz, List.length_replicate]; omega), Int.toNat_natCast, hr, bx_w i (by omega) (by omega)]
    exact (congrArg (fun x => laws_toPairS.l0 k l x ((i : Int) + 1)) hs).trans hn
theorem bx_to (l : List S87) (hl : l.length ≤ 1048576) (k : Nat) (hk : l.length < k) : laws_toBox.f k l = some (l.map bxc) := by
  have h := bx_tol l (by omega) l.length 0 k (by omega) hk
  unfold laws_toBox.f laws_toPairS.f
  rw [if_pos (by omega), if_pos (by omega), Int.toNat_natCast]
  rw [List.take_zero, List.map_nil, List.nil_append] at h
  rw [show laws_toPairS.l0 k l (List.replicate l.length z64) 0 = some (l.map bxc) from h]
  rfl
theorem bx_eql (a : List S64) (ha : a.length ≤ 1048576) : ∀ (m i k : Nat), i + m = a.length → m < k → laws_eqPairS.l0 k a a (i : Int) = some true := by
  intro m
  induction m with
  | zero =>
    intro i k hi hk
    obtain ⟨k, rfl⟩ : ∃ q, k = q + 1 := ⟨k - 1, by omega⟩
    rw [laws_eqPairS.l0, if_neg (by omega)]
  | succ m ih =>
    intro i k hi hk
    obtain ⟨k, rfl⟩ : ∃ q, k = q + 1 := ⟨k - 1, by omega⟩
    have hn : laws_eqPairS.l0 k a a ((i : Int) + 1) = some true := ih (i + 1) k (by omega) (by omega)
    rw [laws_eqPairS.l0, if_pos (by omega), if_pos (by omega), if_pos (by omega), laws_eqPair.f, if_pos rfl, if_pos rfl, Option.bind_some, if_pos rfl, bx_w i (by omega) (by omega)]
    exact hn
theorem bx_eq (a : List S64) (ha : a.length ≤ 1048576) (k : Nat) (hk : a.length < k) : laws_eqBox.f k a a = some true := by
  unfold laws_eqBox.f laws_eqPairS.f
  rw [if_pos rfl, show laws_eqPairS.l0 k a a 0 = some true from bx_eql a ha a.length 0 k (by omega) hk]
  rfl
theorem bx_sz (l : List S87) (x : Int) (hx : 0 ≤ x ∧ x ≤ 1048576) (hl : l.length ≤ 140737488351232) : laws_szBox.f l x = some (if x - l.length < 0 then -1 else x - l.length) := by
  unfold laws_szBox.f laws_szPairS.f
  have e : wrap64 (x - (l.length : Int)) = x - (l.length : Int) := by unfold wrap64; omega
  rw [e]
  by_cases c : x - (l.length : Int) < 0
  · rw [if_pos c, if_pos c]; rfl
  · rw [if_neg c, if_neg c, Option.bind_some, if_neg c]
theorem bk_sl (w : Int) (l : List S64) (hl : l.length ≤ 6) : ∀ (m i k : Nat), i + m = l.length → m < k → spec_BoxOk.l0 k w (i : Int) l = some ((l.drop i).all fun x => pairOk w x.f0 x.f1) := by
  intro m
  induction m with
  | zero =>
    intro i k hi hk
    obtain ⟨k, rfl⟩ : ∃ q, k = q + 1 := ⟨k - 1, by omega⟩
    rw [spec_BoxOk.l0, if_neg (by omega), List.drop_eq_nil_of_le (by omega)]
    rfl
  | succ m ih =>
    intro i k hi hk
    obtain ⟨k, rfl⟩ : ∃ q, k = q + 1 := ⟨k - 1, by omega⟩
    have hn : spec_BoxOk.l0 k w ((i : Int) + 1) l = some ((l.drop (i + 1)).all fun x => pairOk w x.f0 x.f1) := ih (i + 1) k (by omega) (by omega)
    have hlt : i < l.length := by omega
    have hr : rd_T64 l (i : Int) = l[i] := by
      unfold rd_T64
      rw [Int.toNat_natCast, List.getD_eq_getElem?_getD, List.getElem?_eq_getElem hlt]
      rfl
    rw [spec_BoxOk.l0, if_pos (by omega), if_pos (by omega), e_sPairOk, hr, bx_w i (by omega) (by omega), hn, List.drop_eq_getElem_cons hlt, List.all_cons, Option.bind_some]
    cases pairOk w l[i].f0 l[i].f1 <;> simp
def boxOk (w : Int) (l : List S64) : Bool := decide (1 ≤ l.length ∧ l.length ≤ 6) && l.all fun x => pairOk w x.f0 x.f1
theorem bk_s (w : Int) (l : List S64) (k : Nat) (hk : 8 ≤ k) : spec_BoxOk.f k w l = some (boxOk w l) := by
  obtain ⟨k, rfl⟩ : ∃ q, k = q + 1 := ⟨k - 1, by omega⟩
  unfold spec_BoxOk.f boxOk
  by_cases h1 : (l.length : Int) < 1
  · rw [if_pos h1, spec_BoxOk.j0, if_pos rfl, decide_eq_false (show ¬ (1 ≤ l.length ∧ l.length ≤ 6) by omega)]; rfl
  · by_cases h6 : (l.length : Int) > 6
    · rw [if_neg h1, decide_eq_true h6, spec_BoxOk.j0, if_pos rfl, decide_eq_false (show ¬ (1 ≤ l.length ∧ l.length ≤ 6) by omega)]; rfl
    · rw [if_neg h1, decide_eq_false h6, spec_BoxOk.j0, if_neg (by decide), decide_eq_true (show 1 ≤ l.length ∧ l.length ≤ 6 by omega)]
      exact bk_sl w l (by omega) l.length 0 k (by omega) (by omega)
theorem bk_i (w : Int) (l : List S64) : impl_BoxOk.f w l = some (boxOk w l) := by
  unfold impl_BoxOk.f bokIn boxOk
  have hb : ∀ x, bokBad w x = !(pairOk w x.f0 x.f1) := fun x => by
    unfold bokBad
    rw [e_iPairOk]
    cases pairOk w x.f0 x.f1 <;> rfl
  rw [if_pos (by simp [e_iPairOk])]
  congr 2
  rw [List.not_any_eq_all_not]
  congr 1
  funext x
  rw [hb, Bool.not_not]
theorem FnExactBoxOk : laws_FnExactBoxOk.Pure := by
  intro w b _ _ yb _
  refine ⟨b.length + 9, ?_⟩
  unfold laws_FnExactBoxOk.f
  rw [bx_sz b 1048576 (by omega) (by omega), Option.bind_some]
  by_cases cb : (1048576 : Int) - b.length < 0
  · rw [if_pos cb, if_pos (by omega)]
  · rw [if_neg cb, if_neg cb]
    have tb := bx_to b (by omega) (b.length + 9) (by omega)
    have eb := bx_eq (b.map bxc) (by rw [List.length_map]; omega) (b.length + 9) (by rw [List.length_map]; omega)
    rw [tb]
    simp only [Option.bind_some]
    rw [bk_s _ _ _ (by omega), bk_i]
    simp only [Option.bind_some]
    rw [eb]
    simp
end Go.Proofs.Ytlnihglcneaonaa.Pure
