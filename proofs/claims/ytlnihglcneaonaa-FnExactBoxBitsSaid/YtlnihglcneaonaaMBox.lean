/- A struct of one slice of structs of two whole numbers, by value, opened: what its cells hold. No condition. -/
import Derived.Deep.SlicePairs
import Derived.Lib.SmallJoins
import Derived.SizedLaws
namespace Go.Proofs.Ytlnihglcneaonaa.MBox
open Go Go.ChangeShapes Go.WideShapes Go.ChangeAt Go.Deep
def numOf : Value → Int
  | .int _ n => n
  | _ => 0
theorem open_box {H : Type} {enc : TypeId × Value → H} {P : Program} {w : World} {base : Nat} {spare : Nat → Bool} {held : Bool} {r : Reach} {b0 : Nat} {t e : TypeId} {g f0 f1 : Field} {v : Value} {d : DataW H} {p : List MemPlace}
    (ht : P.underlying t = some (.struct #[g])) (hg : P.underlying g.type = some (.slice e)) (he : P.underlying e = some (.struct #[f0, f1]))
    (og : g.offset = 0) (cg : P.cellsOf g.type = 1) (ct : P.cellsOf t = 1) (ce : P.cellsOf e = 2) (o0 : f0.offset = 0) (o1 : f1.offset = 1) (c0 : P.cellsOf f0.type = 1) (c1 : P.cellsOf f1.type = 1)
    (i0 : P.underlying f0.type = some (.int .i64)) (i1 : P.underlying f1.type = some (.int .i64)) (be : P.bytesOf e = 16)
    (hv : Value.okWide P w r b0 t v) (h : DataW.Trod enc P w base spare held t v d p) (hs : ∀ n ∈ d.weights P t, n ≤ reachBytes) :
    ∃ (A : Option Addr) (len cap : Nat) (X Y : Nat → Int), v = .agg #[.slice A len cap] ∧ len ≤ cap ∧ cap ≤ maxLen ∧ len * 16 ≤ 140737488351232 ∧
      (0 < len → ∃ a, A = some a ∧ ∀ i, i < len → w.cell? (a.add (i * 2)) = some (.int .i64 (X i)) ∧ w.cell? (a.add (i * 2 + 1)) = some (.int .i64 (Y i))) ∧
      ∀ i, i < len → (Lit.int .i64 (X i)).wf = true ∧ (Lit.int .i64 (Y i)).wf = true := by
  obtain ⟨cs, rfl, hsz⟩ := okWide_struct ht hv
  obtain ⟨c, rfl⟩ : ∃ c, cs = #[c] := by
    obtain ⟨l⟩ := cs
    match l, hsz.trans ct with
    | [c], _ => exact ⟨c, rfl⟩
  obtain ⟨fuel, hf⟩ := h
  obtain ⟨xs, n, _, hxe, _, hlen, hfs⟩ := DataW.trod_struct ht hf
  match xs, hlen with
  | [y0], _ =>
    have h0 := hfs 0 g rfl
    simp [og, cg, Value.cells] at h0
    rcases open_slice_pairs hg he ce o0 o1 c0 c1 h0 with ⟨hc, hx⟩ | ⟨a, len, cap, m, k, V0, V1, D0, D1, P0, P1, hc, _, hl, hm, hmm, hx, hall⟩
    · simp at hc
      subst hc
      exact ⟨none, 0, 0, fun _ => 0, fun _ => 0, rfl, Nat.le_refl _, Nat.zero_le _, by omega, fun h => absurd h (Nat.lt_irrefl _), fun i hi => absurd hi (Nat.not_lt_zero _)⟩
    · simp at hc
      subst hc
      have hlm : len ≤ m := by rw [hmm]; split <;> omega
      have hd : d = .agg [y0.1] := by simpa using congrArg Prod.fst hxe
      have hw : (len + (m - len)) * 16 ≤ reachBytes := by
        refine hs _ ?_
        rw [hd, hx]
        simp [DataW.weights, ht, DataW.weightsEach, hg, be]
      have rd : ∀ i, i < len → (V0 i = .int .i64 (numOf (V0 i)) ∧ (Lit.int .i64 (numOf (V0 i))).wf = true) ∧ V1 i = .int .i64 (numOf (V1 i)) ∧ (Lit.int .i64 (numOf (V1 i))).wf = true := by
        intro i hi
        obtain ⟨_, _, q0, q1⟩ := hall i (by omega)
        obtain ⟨n0, e0, _, w0⟩ := DataW.trod_int i0 q0
        obtain ⟨n1, e1, _, w1⟩ := DataW.trod_int i1 q1
        simp only [List.cons.injEq, and_true] at e0 e1
        rw [e0, e1]
        exact ⟨⟨rfl, w0⟩, rfl, w1⟩
      refine ⟨some a, len, cap, fun i => numOf (V0 i), fun i => numOf (V1 i), rfl, hl, hm, ?_, fun _ => ⟨a, rfl, fun i hi => ?_⟩, fun i hi => ⟨(rd i hi).1.2, (rd i hi).2.2⟩⟩
      · have : len * 16 ≤ (len + (m - len)) * 16 := Nat.mul_le_mul_right _ (Nat.le_add_right _ _)
        exact Nat.le_trans this hw
      · obtain ⟨q0, q1, _, _⟩ := hall i (by omega)
        rw [q0, q1]
        exact ⟨congrArg some (rd i hi).1.1, congrArg some (rd i hi).2.1⟩
end Go.Proofs.Ytlnihglcneaonaa.MBox
