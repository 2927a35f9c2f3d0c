/- SpanAll of the program and of the reference agree for every width.
   Conditions: none beyond those of the given row (each number is of its kind). -/
import Derived.Test.YtjiaanjbgibciaaQFnExactSpanAllx1
import Derived.Test.YtjiaanjbgibciaaMB
namespace Go.Proofs.Ytjiaanjbgibciaa.Pure
open Go.RowKit Go.Proofs.Ytjiaanjbgibciaa.QFnExactSpanAll Go.Proofs.YtjiaanjbgibciaaW.PrintWords Go.Proofs.YtjiaanjbgibciaaW.PrintLast Go.Proofs.YtjiaanjbgibciaaW.PrintMore Go.Proofs.Ytjiaanjbgibciaa.M
set_option linter.unusedVariables false
set_option linter.unusedSimpArgs false
theorem e_sBitTop (w : Int) : spec_BitTop.f w = some (top w) := by
  unfold spec_BitTop.f top; split
  · rfl
  · split <;> rfl
theorem e_formatOf (w : Int) : impl_formatOf.f w = some (if w = 32 then (23, -149, 127, top w, true) else if w = 64 then (52, -1074, 1023, top w, true) else (0, 0, 0, top w, false)) := by
  unfold impl_formatOf.f top
  by_cases h : w = 32
  · simp [h]
  · by_cases h' : w = 64
    · simp [h']
    · simp [h, h']
theorem e_iBitTop (w : Int) : impl_BitTop.f w = some (top w) := by
  unfold impl_BitTop.f; rw [e_formatOf]
  by_cases h : w = 32
  · simp [h]
  · by_cases h' : w = 64
    · simp [h']
    · simp [h, h']
theorem FnExactSpanAll : laws_FnExactSpanAll.Pure := by
  intro a0 _
  unfold laws_FnExactSpanAll.f spec_SpanAll.f impl_SpanAll.f spec_l1Width.f spec_l9Of.f impl_some.f
  simp only [e_formatOf, e_sBitTop, e_iBitTop, Option.bind_some]
  by_cases h : a0 = 32
  · subst h; simp [laws_eqSpan.f]
  · by_cases h' : a0 = 64
    · subst h'; simp [laws_eqSpan.f]
    · simp [h, h', laws_eqSpan.f]
end Go.Proofs.Ytjiaanjbgibciaa.Pure
