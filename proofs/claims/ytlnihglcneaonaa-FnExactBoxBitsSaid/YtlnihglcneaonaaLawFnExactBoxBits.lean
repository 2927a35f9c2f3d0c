/- The machine side of one law: each function and the law itself walked once, written by a program of this session (wip/xprint.py) that runs the printer of the kit.
   Conditions: none. -/
import Derived.Test.YtlnihglcneaonaaRows
import Derived.Test.YtlnihglcneaonaaQFnExactBoxBitsx4
import Derived.Test.YtlnihglcneaonaaPureFnExactBoxBits
import Derived.WalkKit
import Derived.ProofKit
import Derived.OpenShut
import Derived.ShutString
import Derived.ChangeOld
import Derived.Below
import Derived.SizedLaws
import Derived.Lib.SmallJoins
import Derived.Test.YtlnihglcneaonaaMBox
namespace Go.Proofs.Ytlnihglcneaonaa.fnExactBoxBits
open Go.ChangeShapes Go.WideShapes Go.ChangeAt Go.RowKit Go.Joins Go.Proofs.Ytlnihglcneaonaa.MBox
open Go.ChangeMaps (open_string shut_string)
set_option linter.unusedVariables false
theorem own : ownKnob Try.prog.godebug = none := by kernel_rfl
theorem laidOut : laidOutB Try.prog = true := by kernel_rfl
open Go.Proofs.Ytlnihglcneaonaa.QFnExactBoxBits Go.Proofs.YtlnihglcneaonaaW.PrintWords Go.Proofs.YtlnihglcneaonaaW.PrintLast Go.Proofs.YtlnihglcneaonaaW.PrintMore in
theorem box_l87 {W : World} {A : Option Addr} {len : Nat} {X Y : Nat → Int} (hm : len ≤ maxLen)
    (hcell : 0 < len → ∃ a, A = some a ∧ ∀ i, i < len → W.cell? (a.add (i * 2)) = some (.int .i64 (X i)) ∧ W.cell? (a.add (i * 2 + 1)) = some (.int .i64 (Y i)))
    (hw : ∀ i, i < len → (Lit.int .i64 (X i)).wf = true ∧ (Lit.int .i64 (Y i)).wf = true) :
    ∃ l : List S87, l.length = len ∧ Kd.C k87 W A len l ∧ ∀ x ∈ l, (Lit.int .i64 x.f0).wf = true ∧ (Lit.int .i64 x.f1).wf = true := by
  refine ⟨(List.range len).map fun i => (⟨X i, Y i⟩ : S87), by simp, ⟨by simp, hm, fun h => ?_⟩, fun x hx => ?_⟩
  · obtain ⟨a, rfl, hc⟩ := hcell h
    refine ⟨a, rfl, fun j p hp => ?_⟩
    have hj : j < len := by
      have := (List.getElem?_eq_some_iff.1 hp).1
      simpa using this
    have e : p = ⟨X j, Y j⟩ := by
      rw [List.getElem?_map, List.getElem?_range hj] at hp
      simpa using hp.symm
    subst e
    refine ⟨_, rfl, k87_mk W _, fun i u hu => ?_⟩
    have := hc j hj
    match i, hu with
    | 0, hu => obtain rfl := Option.some.inj hu; exact this.1
    | 1, hu => obtain rfl := Option.some.inj hu; exact this.2
    | i + 2, hu => simp at hu
  · obtain ⟨i, hi, rfl⟩ := List.mem_map.1 hx
    exact hw i (List.mem_range.1 hi)
set_option maxRecDepth 100000 in
theorem lifted (os : Os) (started : os.Started) (H : Type) (enc : TypeId × Value → H) :
    ReturnsInHanded {} Try.checked os 6 .any (Rows.fnExactBoxBitsSpec.pre6 enc Try.prog Try.f6 Rows.fnExactBoxBitsRow.domain false) (Rows.fnExactBoxBitsSpec.post enc Try.prog Try.f6 false true false false) := by
  refine returnsInHanded_of_change_sized (C := Try.checked) own started (by kernel_rfl) Try.func6
    (ChangeSpec.witness6 (enc := enc) (C := Try.checked) false ⟨#[], #[.int .i64 0, .agg #[.slice none 0 0]], []⟩ 8 (by kernel_rfl) (by kernel_rfl) (by kernel_rfl) (by kernel_rfl)) ?_
  intro W base args ds gs before hval0 hW hcnd hsz0 _
  have hsz : (DataW.weightsEach Try.prog (Try.f6.params.toList ++ Rows.fnExactBoxBitsSpec.plain.varTypes Try.prog) (ds ++ gs)).all (· ≤ reachBytes) = true := hsz0
  have hval : ∀ (j : Nat) t v, Try.f6.params[j]? = some t → args[j]? = some v → Value.okWide Try.prog W .any base t v := hval0
  have hW' := hW
  obtain ⟨p, q, hA0, hV, rfl, hfz, hnd⟩ := hW
  have hA : DataW.TrodAll enc Try.prog W 0 (fun _ => true) true Try.f6.params.toList args.toList ds p := hA0
  rw [Try.params6] at hA hval hsz
  obtain ⟨v0, vs0, d0, ds0, p0, q0, hargs, rfl, rfl, h0, r0⟩ := trodAll_cons hA
  obtain ⟨v1, vs1, d1, ds1, p1, q1, rfl, rfl, rfl, h1, r1⟩ := trodAll_cons r0
  obtain ⟨rfl, rfl, rfl⟩ := trodAll_nil r1
  obtain rfl : args = #[v0, v1] := by cases args; simp_all
  obtain ⟨rfl, rfl⟩ := trodVars_none hV
  obtain ⟨a0, rfl, rfl, rfl, w0⟩ := open_int Try.underlying3 (hval 0 3 v0 rfl rfl) h0
  have k1 := h1
  have lt1 : ∀ x ∈ p1, x.block < W.heap.size := by obtain ⟨m, hm⟩ := k1; exact DataW.trod_lt m _ _ _ hm
  obtain ⟨A1_0, len1_0, c1_0, X1, Y1, rfl, hc1, hx1, y1, hcell1, hwf1⟩ := open_box Try.underlying32 Try.underlying30 Try.underlying87 rfl (by kernel_rfl) (by kernel_rfl) (by kernel_rfl) rfl rfl (by kernel_rfl) (by kernel_rfl) Try.underlying3 Try.underlying3 (by kernel_rfl) (hval 1 32 v1 rfl rfl) h1 (fun n hn => by simpa using List.all_eq_true.1 hsz n (DataW.weights_mem_each (j := 1) rfl rfl n hn))
  obtain ⟨l1, hl1, hr1, hw1⟩ := box_l87 (Nat.le_trans hc1 hx1) hcell1 hwf1
  subst hl1
  clear hA0 hval0 hsz0 hsz
  refine (QFnExactBoxBits.laws_FnExactBoxBits.walk Pure.FnExactBoxBits a0 A1_0 c1_0 l1 W w0 hr1 hc1 (Nat.le_trans hc1 hx1) y1 hw1).mono fun e W' ⟨he, bel⟩ => ?_
  subst he
  exact ⟨_, rfl, _, _, _, [], _, [], hW', trodAll_mk1 (shut_bool Try.underlying4 _), (trodAll_cons_mk (shut_int Try.underlying3 w0) (trodAll_cons_mk (Below.trod laidOut (by kernel_rfl) (of_decide_eq_true (by kernel_rfl)) k1 bel lt1) trodAll_mk0)), rfl, bel.frame _, fun h => by cases h⟩
theorem over : Rows.fnExactBoxBitsRow.holds Try.pinned (OpenSpec.ofChange Rows.fnExactBoxBitsSpec) :=
  OpenClaim.holds_of_wide 6 Try.f6 rfl rfl rfl rfl rfl rfl rfl ⟨rfl, rfl, rfl, rfl, rfl⟩ rfl rfl rfl rfl rfl (by kernel_rfl) Try.func6 (by kernel_rfl)
    (of_decide_eq_true (by kernel_rfl)) (by unfold Func.isWrapper; first | (rw [if_pos (by decide +kernel)]; kernel_rfl) | (rw [if_neg (by decide +kernel)]; exact ⟨rfl, rfl⟩))
    (fun os started H enc _ => lifted os started H enc)
theorem proved : Rows.FnExactBoxBitsSaid := over
#print axioms proved
end Go.Proofs.Ytlnihglcneaonaa.fnExactBoxBits
namespace Go.Proofs.Ytlnihglcneaonaa
/-- The row, under a short name, for the claim. -/
theorem fnExactBoxBits_holds : Rows.FnExactBoxBitsSaid := fnExactBoxBits.proved
end Go.Proofs.Ytlnihglcneaonaa
