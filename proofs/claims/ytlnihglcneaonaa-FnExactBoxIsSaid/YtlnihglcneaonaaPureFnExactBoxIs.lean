/- BoxIs of the program and of the reference agree for all boxes.
   Conditions: none beyond those of the given row (each number is of its kind). -/
import Derived.Test.YtlnihglcneaonaaQFnExactBoxIsx3
import Derived.Test.YtlnihglcneaonaaMB
namespace Go.Proofs.Ytlnihglcneaonaa.Pure
open Go.RowKit Go.Proofs.Ytlnihglcneaonaa.QFnExactBoxIs Go.Proofs.YtlnihglcneaonaaW.PrintWords Go.Proofs.YtlnihglcneaonaaW.PrintLast Go.Proofs.YtlnihglcneaonaaW.PrintMore Go.Proofs.Ytlnihglcneaonaa.M
set_option linter.unusedVariables false
set_option linter.unusedSimpArgs false
def bxc (x : S87) : S64 := ⟨x.f0, x.f1⟩
theorem bx_w (x : Int) (h0 : 0 ≤ x) (h1 : x ≤ 140737488351232) : wrap64 (x + 1) = x + 1 := by
  unfold wrap64; omega
theorem bx_tol (l : List S87) (hl : l.length ≤ 140737488351232) : ∀ (m i k : Nat), i + m = l.length → m < k → laws_toPairS.l0 k l ((l.take i).map bxc ++ List.replicate m z64) (i : Int) = some (l.map bxc) := by
  intro m
  induction m with
  | zero =>
    intro i k hi hk
    obtain ⟨k, rfl⟩ : ∃ q, k = q + 1 := ⟨k - 1, by omega⟩
    rw [laws_toPairS.l0, if_neg (by omega), List.take_of_length_le (by omega)]
    simp
  | succ m ih =>
    intro i k hi hk
    obtain ⟨k, rfl⟩ : ∃ q, k = q + 1 := ⟨k - 1, by omega⟩
    have hn := ih (i + 1) k (by omega) (by omega)
    have hlt : i < l.length := by omega
    have hz : ((l.take i).map bxc).length = i := by simp; omega
    have hs : ((l.take i).map bxc ++ List.replicate (m + 1) z64).set i (bxc l[i]) = (l.take (i + 1)).map bxc ++ List.replicate m z64 := by
      rw [List.set_append_right _ _ (by omega), hz, Nat.sub_self, List.replicate_succ, List.set_cons_zero, List.take_succ_eq_append_getElem hlt, List.map_append, List.append_assoc]
      rfl
    have hr : rd_T87 l (i : Int) = l[i] := by
      unfold rd_T87
      rw [Int.toNat_natCast, List.getD_eq_getElem?_getD, List.getElem?_eq_getElem hlt]
      rfl
    rw [laws_toPairS.l0, if_pos (by omega), if_pos (by omega), laws_toPair.f, Option.bind_some, if_pos (by rw [List.length_append, hz, List.length_replicate]; omega), Int.toNat_natCast, hr, bx_w i (by omega) (by omega)]
    exact (congrArg (fun x => laws_toPairS.l0 k l x ((i : Int) + 1)) hs).trans hn
theorem bx_to (l : List S87) (hl : l.length ≤ 1048576) (k : Nat) (hk : l.length < k) : laws_toBox.f k l = some (l.map bxc) := by
  have h := bx_tol l (by omega) l.length 0 k (by omega) hk
  unfold laws_toBox.f laws_toPairS.f
  rw [if_pos (by omega), if_pos (by omega), Int.toNat_natCast]
  rw [List.take_zero, List.map_nil, List.nil_append] at h
  rw [show laws_toPairS.l0 k l (List.replicate l.length z64) 0 = some (l.map bxc) from h]
  rfl
theorem bx_eql (a : List S64) (ha : a.length ≤ 1048576) : ∀ (m i k : Nat), i + m = a.length → m < k → laws_eqPairS.l0 k a a (i : Int) = some true := by
  intro m
  induction m with
  | zero =>
    intro i k hi hk
    obtain ⟨k, rfl⟩ : ∃ q, k = q + 1 := ⟨k - 1, by omega⟩
    rw [laws_eqPairS.l0, if_neg (by omega)]
  | succ m ih =>
    intro i k hi hk
    obtain ⟨k, rfl⟩ : ∃ q, k = q + 1 := ⟨k - 1, by omega⟩
    have hn : laws_eqPairS.l0 k a a ((i : Int) + 1) = some true := ih (i + 1) k (by omega) (by omega)
    rw [laws_eqPairS.l0, if_pos (by omega), if_pos (by omega), if_pos (by omega), laws_eqPair.f, if_pos rfl, if_pos rfl, Option.bind_some, if_pos rfl, bx_w i (by omega) (by omega)]
    exact hn
theorem bx_eq (a : List S64) (ha : a.length ≤ 1048576) (k : Nat) (hk : a.length < k) : laws_eqBox.f k a a = some true := by
  unfold laws_eqBox.f laws_eqPairS.f
  rw [if_pos rfl, show laws_eqPairS.l0 k a a 0 = some true from bx_eql a ha a.length 0 k (by omega) hk]
  rfl
theorem bx_isl (a b : List S64) (ha : a.length ≤ 1048576) (hab : a.length = b.length) : ∀ (m i k : Nat), i + m = a.length → m < k → ∃ r, spec_BoxIs.l0 k (i : Int) a b = some r ∧ impl_Pair.l0 k b a (a.length : Int) (i : Int) = some r := by
  intro m
  induction m with
  | zero =>
    intro i k hi hk
    obtain ⟨k, rfl⟩ : ∃ q, k = q + 1 := ⟨k - 1, by omega⟩
    rw [spec_BoxIs.l0, impl_Pair.l0, if_neg (by omega), if_neg (by omega)]
    exact ⟨_, rfl, rfl⟩
  | succ m ih =>
    intro i k hi hk
    obtain ⟨k, rfl⟩ : ∃ q, k = q + 1 := ⟨k - 1, by omega⟩
    obtain ⟨r, h1, h2⟩ := ih (i + 1) k (by omega) (by omega)
    replace h1 : spec_BoxIs.l0 k ((i : Int) + 1) a b = some r := h1
    replace h2 : impl_Pair.l0 k b a (a.length : Int) ((i : Int) + 1) = some r := h2
    rw [spec_BoxIs.l0, impl_Pair.l0, if_pos (by omega), if_pos (by omega), if_pos (by omega), if_pos (by omega), if_pos (by omega), if_pos (by omega), if_pos (by omega), bx_w i (by omega) (by omega), h1, h2]
    unfold spec_PairIs.f impl_PairIs.f
    by_cases c : (rd_T64 b (i : Int)).f0 ≤ (rd_T64 a (i : Int)).f0
    · rw [if_pos c, Option.bind_some]
      split
      · exact ⟨_, rfl, rfl⟩
      · exact ⟨_, rfl, rfl⟩
    · rw [if_neg c]
      exact ⟨false, rfl, rfl⟩
theorem bx_is (a b : List S64) (ha : a.length ≤ 1048576) (k : Nat) (hk : a.length < k) : ∃ r, spec_BoxIs.f k a b = some r ∧ impl_BoxIs.f k a b = some r := by
  unfold spec_BoxIs.f impl_BoxIs.f impl_Pair.f
  by_cases c : (a.length : Int) = (b.length : Int)
  · obtain ⟨r, h1, h2⟩ := bx_isl a b ha (by omega) a.length 0 k (by omega) hk
    refine ⟨r, ?_, ?_⟩
    · rw [if_pos c]; exact h1
    · rw [if_pos c]
      rw [show impl_Pair.l0 k b a (a.length : Int) 0 = some r from h2]
      rfl
  · rw [if_neg c, if_neg c]
    exact ⟨false, rfl, rfl⟩
theorem bx_sz (l : List S87) (x : Int) (hx : 0 ≤ x ∧ x ≤ 1048576) (hl : l.length ≤ 140737488351232) : laws_szBox.f l x = some (if x - l.length < 0 then -1 else x - l.length) := by
  unfold laws_szBox.f laws_szPairS.f
  have e : wrap64 (x - (l.length : Int)) = x - (l.length : Int) := by unfold wrap64; omega
  rw [e]
  by_cases c : x - (l.length : Int) < 0
  · rw [if_pos c, if_pos c]; rfl
  · rw [if_neg c, if_neg c, Option.bind_some, if_neg c]
theorem FnExactBoxIs : laws_FnExactBoxIs.Pure := by
  intro a b _ ya _ _ yb _
  refine ⟨a.length + b.length + 2, ?_⟩
  unfold laws_FnExactBoxIs.f
  rw [bx_sz a 1048576 (by omega) (by omega), Option.bind_some]
  by_cases ca : (1048576 : Int) - a.length < 0
  · rw [if_pos ca, if_pos (by omega)]
  · rw [if_neg ca, if_neg ca, bx_sz b _ (by omega) (by omega), Option.bind_some]
    by_cases cb : (1048576 : Int) - a.length - b.length < 0
    · rw [if_pos cb, if_pos (by omega)]
    · rw [if_neg cb, if_neg cb]
      have ta := bx_to a (by omega) (a.length + b.length + 2) (by omega)
      have tb := bx_to b (by omega) (a.length + b.length + 2) (by omega)
      obtain ⟨r, h1, h2⟩ := bx_is (a.map bxc) (b.map bxc) (by rw [List.length_map]; omega) (a.length + b.length + 2) (by rw [List.length_map]; omega)
      have ea := bx_eq (a.map bxc) (by rw [List.length_map]; omega) (a.length + b.length + 2) (by rw [List.length_map]; omega)
      have eb := bx_eq (b.map bxc) (by rw [List.length_map]; omega) (a.length + b.length + 2) (by rw [List.length_map]; omega)
      rw [ta, tb]
      simp only [Option.bind_some]
      rw [h1, h2]
      simp only [Option.bind_some]
      rw [ea, eb]
      simp
end Go.Proofs.Ytlnihglcneaonaa.Pure
