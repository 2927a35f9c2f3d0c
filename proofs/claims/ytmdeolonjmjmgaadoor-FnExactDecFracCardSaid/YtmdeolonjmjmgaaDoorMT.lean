import Derived.Laws.Strings
namespace Go.Proofs.YtmdeolonjmjmgaaDoor.MT
open Go
theorem less_swap : ∀ (x y : List UInt8), (!(Op.bytesLess x y || x == y)) = Op.bytesLess y x := by
  intro x
  induction x with
  | nil => intro y; cases y <;> rfl
  | cons a x ih =>
    intro y
    cases y with
    | nil => rfl
    | cons b y =>
      rw [Op.bytesLess, Op.bytesLess, ← ih y, List.cons_beq_cons]
      by_cases e : a = b
      · subst e
        have h : ¬ a < a := by rw [UInt8.lt_iff_toNat_lt]; omega
        rw [decide_eq_false h, beq_self_eq_true]
        simp
      · have e1 : (a == b) = false := beq_eq_false_iff_ne.mpr e
        have e2 : (b == a) = false := beq_eq_false_iff_ne.mpr (Ne.symm e)
        have e3 : a.toNat ≠ b.toNat := fun h => e (UInt8.toNat.inj h)
        rw [e1, e2, Bool.false_and, Bool.false_and, Bool.or_false, Bool.false_and, Bool.or_false, Bool.or_false]
        by_cases h : a < b
        · rw [decide_eq_true h, decide_eq_false (by rw [UInt8.lt_iff_toNat_lt] at h ⊢; omega)]; rfl
        · rw [decide_eq_false h, decide_eq_true (by rw [UInt8.lt_iff_toNat_lt] at h ⊢; omega)]; rfl
theorem gtr (t : TypeId) (a b : ByteArray) : binOp .gtr t (.string a) (.string b) = pure (.bool (Op.bytesLess b.toList a.toList)) := by
  rw [← less_swap]
  simp [binOp, Op.stringOp]
theorem td (x : Int) : Int.tdiv 65536 x = 65536 / x := Int.tdiv_eq_ediv_of_nonneg (by decide)
end Go.Proofs.YtmdeolonjmjmgaaDoor.MT
