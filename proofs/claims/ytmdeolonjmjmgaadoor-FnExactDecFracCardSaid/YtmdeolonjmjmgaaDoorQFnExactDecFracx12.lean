/- The machine side of one law: each function and the law itself walked once, written by a program of this session (wip/xprint.py) that runs the printer of the kit.
   Conditions: none. -/
import Derived.Test.YtmdeolonjmjmgaaDoorQFnExactDecFracx0
import Derived.Test.YtmdeolonjmjmgaaDoorQFnExactDecFracx7
import Derived.Test.YtmdeolonjmjmgaaDoorQFnExactDecFracx9
import Derived.Test.YtmdeolonjmjmgaaDoorQFnExactDecFracx10
import Derived.Test.YtmdeolonjmjmgaaDoorQFnExactDecFracx11
namespace Go.Proofs.YtmdeolonjmjmgaaDoor.QFnExactDecFrac
open Go.RowKit Go.Proofs.YtmdeolonjmjmgaaDoorW.PrintWords Go.Proofs.YtmdeolonjmjmgaaDoorW.PrintLast Go.Proofs.YtmdeolonjmjmgaaDoorW.PrintMore Go.Proofs.YtmdeolonjmjmgaaDoor.MX
attribute [local go_sem] Go.Instr.field Go.asAgg Go.Proofs.YtmdeolonjmjmgaaDoor.MS.isSome_setCell Go.Proofs.YtmdeolonjmjmgaaDoor.MT.gtr Go.Proofs.YtmdeolonjmjmgaaDoor.MT.td
attribute [local go_sem] max2_int min2_int max_two min_two max_three min_three max_four min_four   -- for this text's walks alone
set_option linter.unusedVariables false
set_option linter.unusedSimpArgs false

/-! ### impl_natDiv: function 50 -/
mutual
def impl_natDiv.l0 : Nat → List Int → List Int → List Int → Int → Int → Option (List Int × List Int)
 | 0, _, _, _, _, _ => none
 | k + 1, x0, x1, x6, x7, x8 => if x8 ≥ 0 then (if 0 ≤ x8 then (if x8 < (x0.length : Int) then (if 0 < (x1.length : Int) then (if (rd x1 0) = 0 then (none) else (if x8 < (x6.length : Int) then (impl_natDiv.l0 k x0 x1 (x6.set (x8 : Int).toNat (wrap64 (Int.tdiv (Go.bits .or .i64 (wrap64 (x7 * 65536)) (rd x0 x8)) (rd x1 0)))) (Int.tmod (Go.bits .or .i64 (wrap64 (x7 * 65536)) (rd x0 x8)) (rd x1 0)) (wrap64 (x8 - 1))) else (none))) else (none)) else (none)) else (none)) else ((impl_trim.f k x6).bind fun t417 => ((impl_trim.f k (([x7] : List Int))).bind fun t423 => (some (t417, t423))))
def impl_natDiv.l1 : Nat → List Int → Int → List Int → List Int → Int → Option (List Int × List Int)
 | 0, _, _, _, _, _ => none
 | k + 1, x0, x10, x11, x12, x13 => if (x12.length : Int) < (wrap64 ((x0.length : Int) + 1)) then (if x12.length < 17592186044416 then (impl_natDiv.l1 k x0 x10 x11 (x12 ++ [0]) x13) else (none)) else (if 0 ≤ (wrap64 ((x12.length : Int) - x13)) then (if (wrap64 ((x12.length : Int) - x13) : Int).toNat ≤ 35184372088832 then (impl_natDiv.l2 k x10 x11 x12 x13 (List.replicate (wrap64 ((x12.length : Int) - x13) : Int).toNat 0) (wrap64 ((wrap64 ((x12.length : Int) - x13)) - 1))) else (none)) else (none))
def impl_natDiv.l2 : Nat → Int → List Int → List Int → Int → List Int → Int → Option (List Int × List Int)
 | 0, _, _, _, _, _, _ => none
 | k + 1, x10, x11, x12, x13, x14, x15 => if x15 ≥ 0 then (if 0 ≤ (wrap64 (x15 + x13)) then (if (wrap64 (x15 + x13)) < (x12.length : Int) then (if 0 ≤ (wrap64 ((wrap64 (x15 + x13)) - 1)) then (if (wrap64 ((wrap64 (x15 + x13)) - 1)) < (x12.length : Int) then (if 0 ≤ (wrap64 (x13 - 1)) then (if (wrap64 (x13 - 1)) < (x11.length : Int) then (if (rd x11 (wrap64 (x13 - 1))) = 0 then (none) else (impl_natDiv.l3 k x10 x11 x12 x13 x14 x15 (wrap64 (Int.tdiv (Go.bits .or .i64 (wrap64 ((rd x12 (wrap64 (x15 + x13))) * 65536)) (rd x12 (wrap64 ((wrap64 (x15 + x13)) - 1)))) (rd x11 (wrap64 (x13 - 1))))) (Int.tmod (Go.bits .or .i64 (wrap64 ((rd x12 (wrap64 (x15 + x13))) * 65536)) (rd x12 (wrap64 ((wrap64 (x15 + x13)) - 1)))) (rd x11 (wrap64 (x13 - 1)))))) else (none)) else (none)) else (none)) else (none)) else (none)) else (none)) else ((impl_trim.f k x14).bind fun t446 => ((impl_trim.f k x12).bind fun t449 => ((impl_natShift.f k t449 (wrap64 (-x10))).bind fun t452 => (some (t446, t452)))))
def impl_natDiv.j5 : Nat → Int → List Int → List Int → Int → List Int → Int → Int → Option (List Int × List Int)
 | 0, _, _, _, _, _, _, _ => none
 | k + 1, x10, x11, x12, x13, x14, x15, x17 => impl_natDiv.l4 k x10 x11 x12 x13 x14 x15 x17 0 x11 (x11.length : Int) 0
def impl_natDiv.l4 : Nat → Int → List Int → List Int → Int → List Int → Int → Int → Int → List Int → Int → Int → Option (List Int × List Int)
 | 0, _, _, _, _, _, _, _, _, _, _, _ => none
 | k + 1, x10, x11, x12, x13, x14, x15, x17, x19, x175, x176, x177 => if x177 < x176 then (if 0 ≤ x177 then (if x177 < (x175.length : Int) then (if 0 ≤ (wrap64 (x15 + x177)) then (if (wrap64 (x15 + x177)) < (x12.length : Int) then (if (wrap64 ((wrap64 ((rd x12 (wrap64 (x15 + x177))) - x19)) - (wrap64 (x17 * (rd x175 x177))))) < 0 then (impl_natDiv.l4 k x10 x11 (x12.set ((wrap64 (x15 + x177)) : Int).toNat (wrap64 ((wrap64 ((wrap64 ((rd x12 (wrap64 (x15 + x177))) - x19)) - (wrap64 (x17 * (rd x175 x177))))) + (wrap64 ((wrap64 (Int.tdiv (wrap64 ((wrap64 ((wrap64 (-(wrap64 ((wrap64 ((rd x12 (wrap64 (x15 + x177))) - x19)) - (wrap64 (x17 * (rd x175 x177))))))) + 65536)) - 1)) 65536)) * 65536))))) x13 x14 x15 x17 (wrap64 (Int.tdiv (wrap64 ((wrap64 ((wrap64 (-(wrap64 ((wrap64 ((rd x12 (wrap64 (x15 + x177))) - x19)) - (wrap64 (x17 * (rd x175 x177))))))) + 65536)) - 1)) 65536)) x175 x176 (wrap64 (x177 + 1))) else (impl_natDiv.l4 k x10 x11 (x12.set ((wrap64 (x15 + x177)) : Int).toNat (wrap64 ((wrap64 ((rd x12 (wrap64 (x15 + x177))) - x19)) - (wrap64 (x17 * (rd x175 x177)))))) x13 x14 x15 x17 0 x175 x176 (wrap64 (x177 + 1)))) else (none)) else (none)) else (none)) else (none)) else (if 0 ≤ (wrap64 (x15 + x13)) then (if (wrap64 (x15 + x13)) < (x12.length : Int) then ((some (x12.set ((wrap64 (x15 + x13)) : Int).toNat (wrap64 ((rd x12 (wrap64 (x15 + x13))) - x19)) : List Int)).bind fun y467 => (if (rd y467 (wrap64 (x15 + x13))) < 0 then (impl_natDiv.l5 k x10 x11 y467 x13 x14 x15 (wrap64 (x17 - 1)) 0 x11 (x11.length : Int) 0) else (if 0 ≤ x15 then (if x15 < (x14.length : Int) then (impl_natDiv.l2 k x10 x11 y467 x13 (x14.set (x15 : Int).toNat x17) (wrap64 (x15 - 1))) else (none)) else (none)))) else (none)) else (none))
def impl_natDiv.l5 : Nat → Int → List Int → List Int → Int → List Int → Int → Int → Int → List Int → Int → Int → Option (List Int × List Int)
 | 0, _, _, _, _, _, _, _, _, _, _, _ => none
 | k + 1, x10, x11, x12, x13, x14, x15, x17, x23, x230, x231, x232 => if x232 < x231 then (if 0 ≤ x232 then (if x232 < (x230.length : Int) then (if 0 ≤ (wrap64 (x15 + x232)) then (if (wrap64 (x15 + x232)) < (x12.length : Int) then (impl_natDiv.l5 k x10 x11 (x12.set ((wrap64 (x15 + x232)) : Int).toNat (Go.bits .and .i64 (wrap64 ((wrap64 ((rd x12 (wrap64 (x15 + x232))) + (rd x230 x232))) + x23)) 65535)) x13 x14 x15 x17 ((wrap64 ((wrap64 ((rd x12 (wrap64 (x15 + x232))) + (rd x230 x232))) + x23)) / 65536) x230 x231 (wrap64 (x232 + 1))) else (none)) else (none)) else (none)) else (none)) else (if 0 ≤ (wrap64 (x15 + x13)) then (if (wrap64 (x15 + x13)) < (x12.length : Int) then (if 0 ≤ x15 then (if x15 < (x14.length : Int) then (impl_natDiv.l2 k x10 x11 (x12.set ((wrap64 (x15 + x13)) : Int).toNat (wrap64 ((rd x12 (wrap64 (x15 + x13))) + x23))) x13 (x14.set (x15 : Int).toNat x17) (wrap64 (x15 - 1))) else (none)) else (none)) else (none)) else (none))
def impl_natDiv.l3 : Nat → Int → List Int → List Int → Int → List Int → Int → Int → Int → Option (List Int × List Int)
 | 0, _, _, _, _, _, _, _, _ => none
 | k + 1, x10, x11, x12, x13, x14, x15, x17, x18 => if x17 ≥ 65536 then (impl_natDiv.j4 k x10 x11 x12 x13 x14 x15 x17 x18 true) else (if 0 ≤ (wrap64 (x13 - 2)) then (if (wrap64 (x13 - 2)) < (x11.length : Int) then (if 0 ≤ (wrap64 ((wrap64 (x15 + x13)) - 2)) then (if (wrap64 ((wrap64 (x15 + x13)) - 2)) < (x12.length : Int) then (impl_natDiv.j4 k x10 x11 x12 x13 x14 x15 x17 x18 (decide ((wrap64 (x17 * (rd x11 (wrap64 (x13 - 2))))) > (Go.bits .or .i64 (wrap64 (x18 * 65536)) (rd x12 (wrap64 ((wrap64 (x15 + x13)) - 2))))))) else (none)) else (none)) else (none)) else (none))
def impl_natDiv.j4 : Nat → Int → List Int → List Int → Int → List Int → Int → Int → Int → Bool → Option (List Int × List Int)
 | 0, _, _, _, _, _, _, _, _, _ => none
 | k + 1, x10, x11, x12, x13, x14, x15, x17, x18, x163 => if x163 = true then (if 0 ≤ (wrap64 (x13 - 1)) then (if (wrap64 (x13 - 1)) < (x11.length : Int) then (if (wrap64 (x18 + (rd x11 (wrap64 (x13 - 1))))) ≥ 65536 then (impl_natDiv.j5 k x10 x11 x12 x13 x14 x15 (wrap64 (x17 - 1))) else (impl_natDiv.l3 k x10 x11 x12 x13 x14 x15 (wrap64 (x17 - 1)) (wrap64 (x18 + (rd x11 (wrap64 (x13 - 1))))))) else (none)) else (none)) else (impl_natDiv.j5 k x10 x11 x12 x13 x14 x15 x17)
end
def impl_natDiv.f (k : Nat) (l0 : List Int) (l1 : List Int) : Option (List Int × List Int) := (impl_natCmp.f k l0 l1).bind fun t409 => (if t409 < 0 then (some (([] : List Int), l0)) else (if (l1.length : Int) = 1 then (if 0 ≤ (l0.length : Int) then (if ((l0.length : Int) : Int).toNat ≤ 35184372088832 then (impl_natDiv.l0 k l0 l1 (List.replicate ((l0.length : Int) : Int).toNat 0) 0 (wrap64 ((l0.length : Int) - 1))) else (none)) else (none)) else (if 0 ≤ (wrap64 ((l1.length : Int) - 1)) then (if (wrap64 ((l1.length : Int) - 1)) < (l1.length : Int) then ((bits_Len.f (IntKind.u64.wrap (rd l1 (wrap64 ((l1.length : Int) - 1))))).bind fun t427 => ((impl_natShift.f k l1 (wrap64 (16 - t427))).bind fun t428 => ((impl_natShift.f k l0 (wrap64 (16 - t427))).bind fun t431 => ((slices_Clone_int_int.f t431).bind fun t434 => (if t434.length < 17592186044416 then (impl_natDiv.l1 k l0 (wrap64 (16 - t427)) t428 (t434 ++ [0]) (t428.length : Int)) else (none)))))) else (none)) else (none))))
def impl_natDiv.T10 : Bool × List (List Nat × List Nat) := (true, [([], []), ([], []), ([], []), ([], []), ([3], [3]), ([4], [4]), ([2, 5], [2, 5]), ([], []), ([], []), ([8], [8]), ([9], [9]), ([7, 10], [7, 10]), ([0, 1, 0, 1, 2, 3, 4, 5, 6, 10], [0, 1]), ([12, 6, 0, 1, 2, 3, 4, 5, 6, 10], [6, 12]), ([11, 13, 0, 1, 2, 3, 4, 5, 6, 7, 8, 9, 10, 11, 12, 13], [11])])
def impl_natDiv.B10 : List Nat := [0, 0, 0, 0, 8, 24, 60, 0, 0, 256, 768, 1920, 1919, 6015, 16383]
theorem impl_natDiv.tab10 : rtab .any (opsOf Tryd.f50 10) = impl_natDiv.T10 := by kernel_rfl
theorem impl_natDiv.bits10 : waitsOk impl_natDiv.T10.2 impl_natDiv.B10 = true := by kernel_rfl
def impl_natDiv.T22 : Bool × List (List Nat × List Nat) := (true, [([], []), ([], []), ([], []), ([1, 2], [1, 2]), ([0, 3], [0, 3]), ([4], [4]), ([5], [5]), ([], []), ([], []), ([], []), ([8, 9], [8, 9]), ([10], [10]), ([7, 11], [7, 11]), ([12], [12]), ([6, 13], [6, 13]), ([14, 0, 1, 2, 3, 4, 5, 6, 7, 8, 9, 10, 11, 12, 13, 14], [14])])
def impl_natDiv.B22 : List Nat := [0, 0, 0, 6, 15, 31, 63, 0, 0, 0, 768, 1792, 3968, 8064, 16383, 32767]
theorem impl_natDiv.tab22 : rtab .any (opsOf Tryd.f50 22) = impl_natDiv.T22 := by kernel_rfl
theorem impl_natDiv.bits22 : waitsOk impl_natDiv.T22.2 impl_natDiv.B22 = true := by kernel_rfl
def impl_natDiv.T23 : Bool × List (List Nat × List Nat) := (true, [([], []), ([], []), ([], []), ([2], [2]), ([1, 3], [1, 3]), ([4], [4]), ([0, 5], [0, 5]), ([], []), ([], []), ([], []), ([9], [9]), ([8, 10], [8, 10]), ([11], [11]), ([7, 12], [7, 12]), ([6, 0, 1, 2, 3, 4, 5, 6], [6]), ([13, 14, 0, 1, 2, 3, 4, 5, 6, 7, 8, 9, 10, 11, 12, 13, 14], [13])])
def impl_natDiv.B23 : List Nat := [0, 0, 0, 4, 14, 30, 63, 0, 0, 0, 512, 1792, 3840, 8064, 127, 32767]
theorem impl_natDiv.tab23 : rtab .any (opsOf Tryd.f50 23) = impl_natDiv.T23 := by kernel_rfl
theorem impl_natDiv.bits23 : waitsOk impl_natDiv.T23.2 impl_natDiv.B23 = true := by kernel_rfl
def impl_natDiv.T24 : Bool × List (List Nat × List Nat) := (true, [([], []), ([0], [0]), ([1], [1]), ([2], [2]), ([2], [2]), ([2], [2]), ([5, 2], [2, 5]), ([4, 6, 2], [2, 4, 6]), ([7, 2], [2, 7]), ([3, 8, 2], [2, 3, 8]), ([2], [2]), ([10, 2], [2, 10]), ([2], [2]), ([2], [2]), ([2], [2]), ([13, 14, 2], [2, 13, 14]), ([15, 2], [2, 15]), ([12, 16, 2], [2, 12, 16]), ([17, 2], [2, 17]), ([11, 18, 2], [2, 11, 18]), ([9, 19, 2], [2, 9, 19]), ([2, 20], [2, 20])])
def impl_natDiv.B24 : List Nat := [0, 1, 3, 7, 7, 7, 39, 119, 247, 511, 7, 1031, 7, 7, 7, 24583, 57351, 126983, 258055, 523271, 1048575, 2097151]
theorem impl_natDiv.tab24 : rtab .any (opsOf Tryd.f50 24) = impl_natDiv.T24 := by kernel_rfl
theorem impl_natDiv.bits24 : waitsOk impl_natDiv.T24.2 impl_natDiv.B24 = true := by kernel_rfl
set_option maxHeartbeats 8000000 in
set_option maxRecDepth 100000 in
theorem impl_natDiv.calls (k : Nat) (A0 : Option Addr) (c0 : Nat) (l0 : List Int) (A1 : Option Addr) (c1 : Nat) (l1 : List Int) (r1 : List Int) (r2 : List Int) (w : World) (hr0 : Kd.C (Kd.int .i64) w A0 l0.length l0) (hc0 : l0.length ≤ c0) (hr1 : Kd.C (Kd.int .i64) w A1 l1.length l1) (hc1 : l1.length ≤ c1) (h : impl_natDiv.f k l0 l1 = some (r1, r2)) :
  Calls Tryd.prog 50 #[.slice A0 l0.length c0, .slice A1 l1.length c1] w fun e w' => (∃ v0_ v1_ : Value, e = .returned (.tuple #[v0_, v1_]) ∧ Kd.V (Kd.int .i64) 3 w' w.heap.size (fun k_ => (w.heap.size ≤ k_)) v0_ r1 ∧ Kd.V (Kd.int .i64) 3 w' w.heap.size (fun k_ => (w.heap.size ≤ k_)) v1_ r2 ∧ Below w.heap.size w w') ∨ (e = .returned (.tuple #[.slice none 0 0, .slice A0 l0.length c0]) ∧ r1 = [] ∧ r2 = l0 ∧ Below w.heap.size w w') := by
 have HR0 := A_ hr0
 have HC0 := A_ hc0
 clear hr0 hc0
 have HR1 := A_ hr1
 have HC1 := A_ hc1
 clear hr1 hc1
 have HB := A_ (Below.refl w.heap.size w)
 have H : ((impl_natCmp.f k l0 l1).bind fun t409 => (if t409 < 0 then (some (([] : List Int), l0)) else (if (l1.length : Int) = 1 then (if 0 ≤ (l0.length : Int) then (if ((l0.length : Int) : Int).toNat ≤ 35184372088832 then (impl_natDiv.l0 k l0 l1 (List.replicate ((l0.length : Int) : Int).toNat 0) 0 (wrap64 ((l0.length : Int) - 1))) else (none)) else (none)) else (if 0 ≤ (wrap64 ((l1.length : Int) - 1)) then (if (wrap64 ((l1.length : Int) - 1)) < (l1.length : Int) then ((bits_Len.f (IntKind.u64.wrap (rd l1 (wrap64 ((l1.length : Int) - 1))))).bind fun t427 => ((impl_natShift.f k l1 (wrap64 (16 - t427))).bind fun t428 => ((impl_natShift.f k l0 (wrap64 (16 - t427))).bind fun t431 => ((slices_Clone_int_int.f t431).bind fun t434 => (if t434.length < 17592186044416 then (impl_natDiv.l1 k l0 (wrap64 (16 - t427)) t428 (t434 ++ [0]) (t428.length : Int)) else (none)))))) else (none)) else (none))))) = some (r1, r2) := h
 clear h
 replace H := Option.bind_eq_some_iff.mp H
 obtain ⟨t409, A30, H⟩ := H
 replace H : (if t409 < 0 then (some (([] : List Int), l0)) else (if (l1.length : Int) = 1 then (if 0 ≤ (l0.length : Int) then (if ((l0.length : Int) : Int).toNat ≤ 35184372088832 then (impl_natDiv.l0 k l0 l1 (List.replicate ((l0.length : Int) : Int).toNat 0) 0 (wrap64 ((l0.length : Int) - 1))) else (none)) else (none)) else (if 0 ≤ (wrap64 ((l1.length : Int) - 1)) then (if (wrap64 ((l1.length : Int) - 1)) < (l1.length : Int) then ((bits_Len.f (IntKind.u64.wrap (rd l1 (wrap64 ((l1.length : Int) - 1))))).bind fun t427 => ((impl_natShift.f k l1 (wrap64 (16 - t427))).bind fun t428 => ((impl_natShift.f k l0 (wrap64 (16 - t427))).bind fun t431 => ((slices_Clone_int_int.f t431).bind fun t434 => (if t434.length < 17592186044416 then (impl_natDiv.l1 k l0 (wrap64 (16 - t427)) t428 (t434 ++ [0]) (t428.length : Int)) else (none)))))) else (none)) else (none)))) = some (r1, r2) := H
 have A3 := A_ A30
 clear A30
 by_cases c4 : t409 < 0
 ·rw [if_pos c4] at H
  have c4b0 : decide (t409 < 0) = true := decide_eq_true c4
  clear c4
  simp only [Option.some.injEq, Prod.mk.injEq] at H
  obtain ⟨rfl, rfl⟩ := H
  go_enter Tryd.func50, Tryd.ntmps50
  go_wp2_with (first | ((with_reducible refine gate_callee (f := 49) rfl ?_); refine goesL_ (some 29) rfl rfl Tryd.func49 (by kernel_rfl) rfl #[.slice A0 l0.length c0, .slice A1 l1.length c1] rfl (by (try simp only [List.map_toArray, List.map_cons, List.map_nil]); first | done | rfl) ?_; (with_reducible refine (impl_natCmp.calls k _ _ l0 _ _ l1 t409 _ ?side1 ?side2 ?side3 ?side4 A3.out).mono ?_); (case side1 => repeat (first | exact HR0.out | (with_reducible refine Kd.C_alloc ?_ _) | (with_reducible refine Kd.C_drewN ?_ _) | (with_reducible refine Kd.C_drew ?_))); (case side2 => exact HC0.out); (case side3 => repeat (first | exact HR1.out | (with_reducible refine Kd.C_alloc ?_ _) | (with_reducible refine Kd.C_drewN ?_ _) | (with_reducible refine Kd.C_drew ?_))); (case side4 => exact HC1.out); rintro e w5 ⟨rfl, hb⟩; refine ⟨_, rfl, ?_⟩; have n0_ := A_ (below_step hB_ hb); clear HB; have HB := n0_; clear n0_; (try clear hb); (try clear hb2); (try clear hk); (try clear hi)))
  go_ret2
  exact .inr ⟨by first | rfl | trivial, by first | rfl | trivial, by first | rfl | trivial, hB_⟩
 ·rw [if_neg c4] at H
  have c4b0 : decide (t409 < 0) = false := decide_eq_false c4
  clear c4
  by_cases c6 : (l1.length : Int) = 1
  ·rw [if_pos c6] at H
   have c6b0 : ((l1.length : Int) == 1) = true := beq_iff_eq.mpr c6
   have c6b1 : ((l1.length : Int) != 1) = false := bne_eq_false_iff_eq.mpr c6
   clear c6
   by_cases c7 : 0 ≤ (l0.length : Int)
   ·rw [if_pos c7] at H
    have c7b0 := eq_true c7
    have c7b1 : decide (0 ≤ (l0.length : Int)) = true := decide_eq_true c7
    clear c7
    by_cases c8 : ((l0.length : Int) : Int).toNat ≤ 35184372088832
    ·rw [if_pos c8] at H
     have c8b0 := eq_true c8
     have c8b1 : decide (((l0.length : Int) : Int).toNat ≤ 35184372088832) = true := decide_eq_true c8
     clear c8
     obtain ⟨y410, hy410⟩ : ∃ y_ : List Int, y_ = (List.replicate ((l0.length : Int) : Int).toNat 0) := ⟨_, rfl⟩
     replace H : (impl_natDiv.l0 k l0 l1 y410 0 (wrap64 ((l0.length : Int) - 1))) = some (r1, r2) := by first | (rw [hy410]; with_reducible exact H) | (have H2_ := (Option.bind_some _ _).symm.trans H; rw [hy410]; with_reducible exact H2_) | (have H2_ := (Option.bind_some _ _).symm.trans H; with_reducible exact H2_) | with_reducible exact H | (rw [hy410]; exact H) | exact H
     have Ny410 := A_ hy410
     clear hy410
     have H' := A_ H
     clear H
     go_enter Tryd.func50, Tryd.ntmps50
     go_wp2_with (first | ((with_reducible refine gate_callee (f := 49) rfl ?_); refine goesL_ (some 29) rfl rfl Tryd.func49 (by kernel_rfl) rfl #[.slice A0 l0.length c0, .slice A1 l1.length c1] rfl (by (try simp only [List.map_toArray, List.map_cons, List.map_nil]); first | done | rfl) ?_; (with_reducible refine (impl_natCmp.calls k _ _ l0 _ _ l1 t409 _ ?side1 ?side2 ?side3 ?side4 A3.out).mono ?_); (case side1 => repeat (first | exact HR0.out | (with_reducible refine Kd.C_alloc ?_ _) | (with_reducible refine Kd.C_drewN ?_ _) | (with_reducible refine Kd.C_drew ?_))); (case side2 => exact HC0.out); (case side3 => repeat (first | exact HR1.out | (with_reducible refine Kd.C_alloc ?_ _) | (with_reducible refine Kd.C_drewN ?_ _) | (with_reducible refine Kd.C_drew ?_))); (case side4 => exact HC1.out); rintro e w9 ⟨rfl, hb⟩; refine ⟨_, rfl, ?_⟩; have n0_ := A_ (below_step hB_ hb); clear HB; have HB := n0_; clear n0_; (try clear hb); (try clear hb2); (try clear hk); (try clear hi)) | ((with_reducible refine gate_dst (N := 37) rfl ?_); refine Kd.R_make (Kd.int .i64) _ 3 rfl (N := 37) rfl 23 _ _ rfl (l0.length : Int) rfl rfl Tryd.underlying23 (.int .i64 0) 8 info3 rfl (by decide) (by omega) 0 (ok := fun _ => True) (okp := fun _ => True) rfl (fun _ hk => hk) trivial (of_decide_eq_true as_) (Nat.le_trans (Nat.mul_le_mul_right _ (of_decide_eq_true as_ : (l0.length : Int).toNat ≤ 35184372088832)) (by omega)) (Below.refl _ _) (Nat.le_refl _) ?_; intro v411 w10 ho11 hb hg_ hnew_; clear hg_ hnew_; (first | rw [← Ny410.out] at ho11 | (simp only [Int.reduceToNat] at ho11; rw [← Ny410.out] at ho11)); have n0_ := A_ (Kd.R_lower (Kd.R_newM (M := fun k_ => (w.heap.size ≤ k_)) ho11 (below_size hB_) (fun k_ h_ => h_)) (below_size hB_)); have n1_ := A_ (below_step hB_ hb); clear HB; have HO412 := n0_; have HB := n1_; clear n0_ n1_; clear hb ho11))
     go_loopg [7, 8] k (fun kq v7 v8 w' => ∃ (x6_1 : List Int) (x7_1 : Int) (x8_1 : Int), v7 = .int .i64 x7_1 ∧ v8 = .int .i64 x8_1 ∧ Aside0 (impl_natDiv.l0 kq l0 l1 x6_1 x7_1 x8_1 = some (r1, r2)) ∧ Aside0 (kq ≤ k) ∧ Aside0 (Kd.R (Kd.int .i64) 3 w' w.heap.size (fun k_ => (w.heap.size ≤ k_)) v411 x6_1) ∧ Aside0 (Below w.heap.size w w'))
     case atStart => exact ⟨(y410), (0), (wrap64 ((l0.length : Int) - 1)), (by first | rfl | (simp; done) | (simp [*]; done)), (by first | rfl | (simp; done) | (simp [*]; done)), H', ⟨Nat.le_refl _⟩, ⟨by (with_reducible repeat (first | apply Kd.R_alloc | apply Kd.R_drewN | apply Kd.R_drew)); exact Kd.R_mono HO412.out (fun _ hk => hk.1)⟩, ⟨hB_⟩⟩
     case round =>
      clear H'
      (try clear c1); (try clear p2); (try clear c4); (try clear c4b0); (try clear c5); (try clear c6); (try clear c6b0); (try clear c6b1); (try clear p6); (try clear c7); (try clear c7b0); (try clear c7b1); (try clear c8); (try clear c8b0); (try clear c8b1)
      obtain ⟨x6_1, x7_1, x8_1, rfl, rfl, HA, HK1, HO_6, HB⟩ := hrel
      cases gk with
      | zero => exact absurd HA.out (by simp [impl_natDiv.l0])
      | succ k1 =>
       have H := HA.out
       clear HA
       simp only [impl_natDiv.l0] at H
       by_cases c12 : x8_1 ≥ 0
       ·rw [if_pos c12] at H
        have c12b0 : decide (0 ≤ x8_1) = true := decide_eq_true c12
        clear c12
        by_cases c13 : 0 ≤ x8_1
        ·rw [if_pos c13] at H
         have c13b0 : decide (0 ≤ x8_1) = true := decide_eq_true c13
         clear c13
         by_cases c14 : x8_1 < (l0.length : Int)
         ·rw [if_pos c14] at H
          have c14b0 : decide (x8_1 < (l0.length : Int)) = true := decide_eq_true c14
          clear c14
          by_cases c15 : 0 < (l1.length : Int)
          ·rw [if_pos c15] at H
           have c15b0 : decide (0 < (l1.length : Int)) = true := decide_eq_true c15
           have c15b1 : decide (0 < l1.length) = true := decide_eq_true (by omega)
           clear c15
           by_cases c16 : (rd l1 0) = 0
           ·rw [if_pos c16] at H
            exact absurd H (by simp)
           ·rw [if_neg c16] at H
            have c16b0 : ((rd l1 0) == 0) = false := beq_eq_false_iff_ne.mpr c16
            have c16b1 : ((rd l1 0) != 0) = true := bne_iff_ne.mpr c16
            by_cases c17 : x8_1 < (x6_1.length : Int)
            ·rw [if_pos c17] at H
             have c17b0 : decide (x8_1 < (x6_1.length : Int)) = true := decide_eq_true c17
             clear c17
             obtain ⟨y416, hy416⟩ : ∃ y_ : List Int, y_ = (x6_1.set (x8_1 : Int).toNat (wrap64 (Int.tdiv (Go.bits .or .i64 (wrap64 (x7_1 * 65536)) (rd l0 x8_1)) (rd l1 0)))) := ⟨_, rfl⟩
             replace H : (impl_natDiv.l0 k1 l0 l1 y416 (Int.tmod (Go.bits .or .i64 (wrap64 (x7_1 * 65536)) (rd l0 x8_1)) (rd l1 0)) (wrap64 (x8_1 - 1))) = some (r1, r2) := by first | (rw [hy416]; with_reducible exact H) | (have H2_ := (Option.bind_some _ _).symm.trans H; rw [hy416]; with_reducible exact H2_) | (have H2_ := (Option.bind_some _ _).symm.trans H; with_reducible exact H2_) | with_reducible exact H | (rw [hy416]; exact H) | exact H
             have Ny416 := A_ hy416
             clear hy416
             have H' := A_ H
             clear H
             have p413 : 0 ≤ (x8_1 : Int) := of_decide_eq_true as_
             have q413 : x8_1 < (l0.length : Int) := of_decide_eq_true as_
             obtain ⟨ad413, e413, hx413_0⟩ := Kd.at_int HR0.out x8_1 p413 q413
             cases e413
             replace hx413_0 := (HB.out.cell (World.block_lt_of_cell? w _ hx413_0)).trans hx413_0
             replace p413 := eq_true p413
             replace q413 := eq_true q413
             try go_wp2
             have n0_ := A_ (Kd.R_drew HO_6.out)
             have n1_ := A_ (below_drew1 HB.out)
             clear HO_6 HB
             have HO_6 := n0_
             have HB := n1_
             clear n0_ n1_
             have p414 : 0 ≤ (0 : Int) := (by omega)
             have q414 : 0 < (l1.length : Int) := of_decide_eq_true as_
             obtain ⟨ad414, e414, hx414_0⟩ := Kd.at_int HR1.out 0 p414 q414
             have hw414_0 := hx414_0
             (try rw [show ((0 : Int)).toNat = 0 from rfl] at hw414_0)
             (try rw [show 0 * 1 = 0 from rfl] at hw414_0)
             (try rw [Addr.add_zero'] at hw414_0)
             cases e414
             have qi414 : (0 < l1.length) = True := eq_true (by omega)
             (try rw [show ((0 : Int)).toNat = 0 from rfl] at hx414_0)
             (try rw [Addr.add_zero'] at hx414_0)
             replace hx414_0 := (HB.out.cell (World.block_lt_of_cell? w _ hx414_0)).trans hx414_0
             replace p414 := eq_true p414
             replace q414 := eq_true q414
             have p415 : 0 ≤ (0 : Int) := (by omega)
             have q415 : 0 < (l1.length : Int) := of_decide_eq_true as_
             obtain ⟨ad415, e415, hx415_0⟩ := Kd.at_int HR1.out 0 p415 q415
             have hw415_0 := hx415_0
             (try rw [show ((0 : Int)).toNat = 0 from rfl] at hw415_0)
             (try rw [show 0 * 1 = 0 from rfl] at hw415_0)
             (try rw [Addr.add_zero'] at hw415_0)
             obtain rfl : ad414 = ad415 := (by injection e415)
             have qi415 : (0 < l1.length) = True := eq_true (by omega)
             (try rw [show ((0 : Int)).toNat = 0 from rfl] at hx415_0)
             (try rw [Addr.add_zero'] at hx415_0)
             replace hx415_0 := (HB.out.cell (World.block_lt_of_cell? w _ hx415_0)).trans hx415_0
             replace p415 := eq_true p415
             replace q415 := eq_true q415
             have p18 : 0 ≤ (x8_1 : Int) := of_decide_eq_true as_
             have q18 : (x8_1 : Int) < ((x6_1.length : Int) : Int) := of_decide_eq_true as_
             obtain ⟨go18, co18, eo18, gb18, gl18, cl18, HG18⟩ := Kd.R_form HO_6.out (by omega)
             (first | cases eo18 | (injection eo18 with ea_ en_ ec_; (first | subst ea_ | (injection ea_ with ea_; subst ea_)); subst ec_; clear en_))
             have GB18 := A_ gb18
             have GG18 := A_ HG18
             clear gb18 gl18 HG18
             obtain ⟨hx18_0, hf18_0⟩ := Kd.R_celln 0 HO_6.out (x8_1 : Int) p18 q18
             replace p18 := eq_true p18
             replace q18 := eq_true q18
             have HP20 := Kd.R_putn HO_6.out (x8_1 : Int) (wrap64 (Int.tdiv (Go.bits .or .i64 (wrap64 (x7_1 * 65536)) (rd l0 x8_1)) (rd l1 0)))
             rw [← Ny416.out] at HP20
             have HQ20 := A_ HP20
             clear HP20
             refine start_ (n := 15) (S := fun w' => w'.cell? ad414 = some (.int .i64 (rd l1 0)) ∧ w'.cell? ad414 = some (.int .i64 (rd l1 0))) (ds := [13]) #[false, false, false, false, false, false, false, false, false, false, false, false, false, false, false] (by kernel_rfl) rfl rfl ⟨((HB.out.cell (World.block_lt_of_cell? w _ hw414_0)).trans hw414_0), ((HB.out.cell (World.block_lt_of_cell? w _ hw415_0)).trans hw415_0)⟩ (fun hHeld => ?_); refine with_tabW impl_natDiv.tab10 impl_natDiv.bits10 (fun HT_ HW_ => ?_)
             generalize wr.drew = w19 at HO_6 HB GG18 HQ20 hf18_0 hx18_0 hx414_0 hx415_0 hHeld ⊢
             refine pure_ (i := 0) (N := some 52) (v := ?_) (a' := ?_) #[true, false, false, false, false, false, false, false, false, false, false, false, false, false, false] rfl rfl (any_of HT_.out (by kernel_rfl)) (fun _ _ _ h => h) (Or.inl ⟨by rfl, ?_⟩) ?_ ?_
             rotate_left
             ·intro w'
              go_simp
              with_reducible rfl
             rotate_left
             ·simp only [Act.put, List.setIfInBounds_toArray, List.set_cons_zero, List.set_cons_succ, i64_w, i32_w]
              rfl
             refine pure_ (i := 1) (N := some 53) (v := ?_) (a' := ?_) #[true, true, false, false, false, false, false, false, false, false, false, false, false, false, false] rfl rfl (any_of HT_.out (by kernel_rfl)) (fun _ _ _ h => h) (Or.inl ⟨by rfl, ?_⟩) ?_ ?_
             rotate_left
             ·intro w'
              go_simp
              with_reducible rfl
             rotate_left
             ·simp only [Act.put, List.setIfInBounds_toArray, List.set_cons_zero, List.set_cons_succ, i64_w, i32_w]
              rfl
             refine pure_ (i := 2) (N := some 54) (v := ?_) (a' := ?_) #[true, true, true, false, false, false, false, false, false, false, false, false, false, false, false] rfl rfl (any_of HT_.out (by kernel_rfl)) (fun _ _ _ h => h) (Or.inl ⟨by rfl, ?_⟩) ?_ ?_
             rotate_left
             ·intro w'
              go_simp
              with_reducible rfl
             rotate_left
             ·simp only [Act.put, List.setIfInBounds_toArray, List.set_cons_zero, List.set_cons_succ, i64_w, i32_w]
              rfl
             refine pure_ (i := 3) (N := some 55) (v := ?_) (a' := ?_) #[true, true, true, true, false, false, false, false, false, false, false, false, false, false, false] rfl rfl (any_of HT_.out (by kernel_rfl)) (fun _ _ _ h => h) (Or.inl ⟨by rfl, ?_⟩) ?_ ?_
             rotate_left
             ·intro w'
              go_simp
              with_reducible rfl
             rotate_left
             ·simp only [Act.put, List.setIfInBounds_toArray, List.set_cons_zero, List.set_cons_succ, i64_w, i32_w]
              rfl
             refine pure_ (i := 4) (N := some 56) (v := ?_) (a' := ?_) #[true, true, true, true, true, false, false, false, false, false, false, false, false, false, false] rfl rfl (any_of HT_.out (by kernel_rfl)) (fun _ _ _ h => h) (Or.inl ⟨by rfl, ?_⟩) ?_ ?_
             rotate_left
             ·intro w'
              go_simp
              with_reducible rfl
             rotate_left
             ·simp only [Act.put, List.setIfInBounds_toArray, List.set_cons_zero, List.set_cons_succ, i64_w, i32_w]
              rfl
             refine pure_ (i := 7) (N := some 59) (v := ?_) (a' := ?_) #[true, true, true, true, true, false, false, true, false, false, false, false, false, false, false] rfl rfl (any_of HT_.out (by kernel_rfl)) (fun _ _ _ h => h) (Or.inl ⟨by rfl, ?_⟩) ?_ ?_
             rotate_left
             ·intro w'
              go_simp
              with_reducible rfl
             rotate_left
             ·simp only [Act.put, List.setIfInBounds_toArray, List.set_cons_zero, List.set_cons_succ, i64_w, i32_w]
              rfl
             refine pure_ (i := 8) (N := some 60) (v := ?_) (a' := ?_) #[true, true, true, true, true, false, false, true, true, false, false, false, false, false, false] rfl rfl (any_of HT_.out (by kernel_rfl)) (fun _ _ _ h => h) (Or.inl ⟨by rfl, ?_⟩) ?_ ?_
             rotate_left
             ·intro w'
              go_simp
              with_reducible rfl
             rotate_left
             ·simp only [Act.put, List.setIfInBounds_toArray, List.set_cons_zero, List.set_cons_succ, i64_w, i32_w]
              rfl
             refine pure_ (i := 9) (N := some 61) (v := ?_) (a' := ?_) #[true, true, true, true, true, false, false, true, true, true, false, false, false, false, false] rfl rfl (any_of HT_.out (by kernel_rfl)) (fun _ _ _ h => h) (Or.inl ⟨by rfl, ?_⟩) ?_ ?_
             rotate_left
             ·intro w'
              go_simp
              with_reducible rfl
             rotate_left
             ·simp only [Act.put, List.setIfInBounds_toArray, List.set_cons_zero, List.set_cons_succ, i64_w, i32_w]
              rfl
             refine take_ (i := 5) (N := some 57) (v := ?_) (a' := ?_) #[true, true, true, true, true, true, false, true, true, true, false, false, false, false, false] rfl rfl (take_ofW HT_.out HW_.out (by kernel_rfl)) (fun _ _ _ h => h) (Or.inl ⟨by rfl, ?_⟩) hHeld ?_ ?_
             rotate_left
             ·rintro w' ⟨s0, s1⟩
              go_simp
              with_reducible rfl
             rotate_left
             ·simp only [Act.put, List.setIfInBounds_toArray, List.set_cons_zero, List.set_cons_succ, i64_w, i32_w]
              rfl
             refine pure_ (i := 6) (N := some 58) (v := ?_) (a' := ?_) #[true, true, true, true, true, true, true, true, true, true, false, false, false, false, false] rfl rfl (any_of HT_.out (by kernel_rfl)) (fun _ _ _ h => h) (Or.inl ⟨by rfl, ?_⟩) ?_ ?_
             rotate_left
             ·intro w'
              go_simp
              with_reducible rfl
             rotate_left
             ·simp only [Act.put, List.setIfInBounds_toArray, List.set_cons_zero, List.set_cons_succ, i64_w, i32_w]
              rfl
             refine take_ (i := 10) (N := some 62) (v := ?_) (a' := ?_) #[true, true, true, true, true, true, true, true, true, true, true, false, false, false, false] rfl rfl (take_ofW HT_.out HW_.out (by kernel_rfl)) (fun _ _ _ h => h) (Or.inl ⟨by rfl, ?_⟩) hHeld ?_ ?_
             rotate_left
             ·rintro w' ⟨s0, s1⟩
              go_simp
              with_reducible rfl
             rotate_left
             ·simp only [Act.put, List.setIfInBounds_toArray, List.set_cons_zero, List.set_cons_succ, i64_w, i32_w]
              rfl
             refine pure_ (i := 11) (N := some 63) (v := ?_) (a' := ?_) #[true, true, true, true, true, true, true, true, true, true, true, true, false, false, false] rfl rfl (any_of HT_.out (by kernel_rfl)) (fun _ _ _ h => h) (Or.inl ⟨by rfl, ?_⟩) ?_ ?_
             rotate_left
             ·intro w'
              go_simp
              with_reducible rfl
             rotate_left
             ·simp only [Act.put, List.setIfInBounds_toArray, List.set_cons_zero, List.set_cons_succ, i64_w, i32_w]
              rfl
             refine pure_ (i := 12) (N := some 64) (v := ?_) (a' := ?_) #[true, true, true, true, true, true, true, true, true, true, true, true, true, false, false] rfl rfl (any_of HT_.out (by kernel_rfl)) (fun _ _ _ h => h) (Or.inl ⟨by rfl, ?_⟩) ?_ ?_
             rotate_left
             ·intro w'
              go_simp
              with_reducible rfl
             rotate_left
             ·simp only [Act.put, List.setIfInBounds_toArray, List.set_cons_zero, List.set_cons_succ, i64_w, i32_w]
              rfl
             refine last_ (i := 13) (N := none) #[true, true, true, true, true, true, true, true, true, true, true, true, true, true, false] rfl rfl (one_of HT_.out (by kernel_rfl)) (by decide) (fun K hK => ?_)
             refine skip_ (w1 := ?_) (by rfl) rfl ?_ ?_
             rotate_left
             ·go_simp
              rfl
             refine hK.out _ _ ?_
             clear hK K
             refine pure_ (i := 14) (N := some 7) (v := ?_) (a' := ?_) #[true, true, true, true, true, true, true, true, true, true, true, true, true, true, true] rfl rfl (any_of HT_.out (by kernel_rfl)) (fun _ _ _ h => h) (Or.inl ⟨by rfl, ?_⟩) ?_ ?_
             rotate_left
             ·intro w'
              go_simp
              with_reducible rfl
             rotate_left
             ·simp only [Act.put, List.setIfInBounds_toArray, List.set_cons_zero, List.set_cons_succ, i64_w, i32_w]
              rfl
             refine done_ (done_of HT_.out (by kernel_rfl)) ?_
             try go_wp2
             go_roundg k1
             case measure => have := HK1.out; omega
             case rel => exact ⟨(y416), (Int.tmod (Go.bits .or .i64 (wrap64 (x7_1 * 65536)) (rd l0 x8_1)) (rd l1 0)), (wrap64 (x8_1 - 1)), (by first | rfl | (simp; done) | (simp [*]; done)), (by first | rfl | (simp; done) | (simp [*]; done)), H', ⟨by have := HK1.out; omega⟩, ⟨by (with_reducible repeat (first | apply Kd.R_alloc | apply Kd.R_drewN | apply Kd.R_drew)); exact HQ20.out⟩, ⟨by repeat (first | (with_reducible first | exact HB.out | apply b1_ | apply b2_ | apply b3_ | refine bs_ ?_ GB18.out) | exact HB.out)⟩⟩
            ·rw [if_neg c17] at H
             exact absurd H (by simp)
          ·rw [if_neg c15] at H
           exact absurd H (by simp)
         ·rw [if_neg c14] at H
          exact absurd H (by simp)
        ·rw [if_neg c13] at H
         exact absurd H (by simp)
       ·rw [if_neg c12] at H
        have c12b0 : decide (0 ≤ x8_1) = false := decide_eq_false c12
        clear c12
        replace H := Option.bind_eq_some_iff.mp H
        obtain ⟨t417, A210, H⟩ := H
        replace H : ((impl_trim.f k1 (([x7_1] : List Int))).bind fun t423 => (some (t417, t423))) = some (r1, r2) := H
        have A21 := A_ A210
        clear A210
        obtain ⟨y420, hy420⟩ : ∃ y_ : List Int, y_ = (([x7_1] : List Int)) := ⟨_, rfl⟩
        replace H : ((impl_trim.f k1 y420).bind fun t423 => (some (t417, t423))) = some (r1, r2) := by first | (rw [hy420]; with_reducible exact H) | (have H2_ := (Option.bind_some _ _).symm.trans H; rw [hy420]; with_reducible exact H2_) | (have H2_ := (Option.bind_some _ _).symm.trans H; with_reducible exact H2_) | with_reducible exact H | (rw [hy420]; exact H) | exact H
        have Ny420 := A_ hy420
        clear hy420
        replace H := Option.bind_eq_some_iff.mp H
        obtain ⟨t423, A220, H⟩ := H
        replace H : (some (t417, t423)) = some (r1, r2) := H
        have A22 := A_ A220
        clear A220
        simp only [Option.some.injEq, Prod.mk.injEq] at H
        obtain ⟨rfl, rfl⟩ := H
        obtain ⟨Ao23, co23, eo23⟩ := Kd.R_slice HO_6.out
        subst eo23
        go_wp2_with (first | ((with_reducible refine gate_callee (f := 47) rfl ?_); refine goesL_ (some 66) rfl rfl Tryd.func47 (by kernel_rfl) rfl #[.slice Ao23 x6_1.length co23] rfl (by (try simp only [List.map_toArray, List.map_cons, List.map_nil]); first | done | rfl) ?_; (with_reducible refine (impl_trim.calls k1 (fun k_ => some k_ = (.slice Ao23 x6_1.length co23 : Value).ownBlock) _ _ x6_1 t417 _ ?side1 A21.out).mono ?_); (case side1 => exact Kd.R_V (Kd.R_tight rfl (HO_6.out))); rintro e w24 ⟨v418, rfl, ho0, hb⟩; refine ⟨_, rfl, ?_⟩; have n0_ := A_ (Kd.R_below (rz_ HO_6.out) hb); have n1_ := A_ (Kd.V_lower (Kd.V_mono (ok' := fun k_ => (w.heap.size ≤ k_)) ho0 (fun k_ hk_ => Or.elim hk_ (fun hs_ => ((HO_6.out).1 k_ hs_.symm)) (fun hn_ => (Nat.le_trans (below_size hB_) hn_)))) (below_size hB_)); have n2_ := A_ (below_step hB_ hb); clear HO_6 HB; have HO_6 := n0_; have HO419 := n1_; have HB := n2_; clear n0_ n1_ n2_; (try clear hb); (try clear hb2); (try clear hk); (try clear hi); (try clear ho0)) | ((with_reducible refine gate_dst (N := 68) rfl ?_); refine Kd.R_lit (Kd.int .i64) _ 3 ?hg (N := 68) ?hd (xs := ([x7_1] : List Int)) (inner := [.int .i64 x7_1]) (ok := fun _ => True) (okp := fun _ => True) ?hr ?hp (fun _ hk => hk) trivial (Below.refl _ _) (Nat.le_refl _) (by simp) ?_; (case hd => rfl); (case hg => rfl); (case hr => first | (go_simp; done) | (go_simp; rfl)); (case hp => exact (Reps.one (show Kd.M (Kd.int .i64) _ _ _ x7_1 [.int .i64 x7_1] from rfl) (Reps.none _ _))); intro v421 w25 ho26 hb hg_ hnew_; clear hg_ hnew_; (first | rw [← Ny420.out] at ho26 | (simp only [Int.reduceToNat] at ho26; rw [← Ny420.out] at ho26)); have n0_ := A_ (Kd.R_elder' (rz_ HO_6.out) (Kd.R_base ho26) hb); have n1_ := A_ (Kd.V_elder' (by (with_reducible repeat (first | apply Kd.V_alloc | apply Kd.V_drewN | apply Kd.V_drew)); exact HO419.out) (Kd.R_base ho26) hb); have n2_ := A_ (Kd.R_lower (Kd.R_new' (Kd.R_newM (M := fun k_ => (w.heap.size ≤ k_)) ho26 (below_size hB_) (fun k_ h_ => h_)) (Kd.R_lt (rz_ HO_6.out))) (below_size hB_)); have n3_ := A_ (below_step hB_ hb); clear HO_6 HO419 HB; have HO_6 := n0_; have HO419 := n1_; have HO422 := n2_; have HB := n3_; clear n0_ n1_ n2_ n3_; clear hb ho26; obtain ⟨Ao27, co27, eo27⟩ := Kd.R_slice HO422.out; subst eo27) | ((with_reducible refine gate_callee (f := 47) rfl ?_); refine goesL_ (some 69) rfl rfl Tryd.func47 (by kernel_rfl) rfl #[.slice Ao27 y420.length co27] rfl (by (try simp only [List.map_toArray, List.map_cons, List.map_nil]); first | done | rfl) ?_; (with_reducible refine (impl_trim.calls k1 (fun k_ => some k_ = (.slice Ao27 y420.length co27 : Value).ownBlock) _ _ y420 t423 _ ?side1 A22.out).mono ?_); (case side1 => exact Kd.R_V (Kd.R_tight rfl (HO422.out))); rintro e w28 ⟨v424, rfl, ho0, hb⟩; refine ⟨_, rfl, ?_⟩; have n0_ := A_ (Kd.R_below (rz_ HO_6.out) hb); have n1_ := A_ (Kd.V_below (by (with_reducible repeat (first | apply Kd.V_alloc | apply Kd.V_drewN | apply Kd.V_drew)); exact HO419.out) hb); have n2_ := A_ (Kd.R_below (rz_ HO422.out) hb); have n3_ := A_ (Kd.V_lower (Kd.V_mono (ok' := fun k_ => (w.heap.size ≤ k_) ∧ some k_ ≠ (.slice Ao23 x6_1.length co23 : Value).ownBlock) ho0 (fun k_ hk_ => ⟨Or.elim hk_ (fun hs_ => ((HO422.out).1 k_ hs_.symm).1.1) (fun hn_ => (Nat.le_trans (below_size hB_) hn_)), Or.elim hk_ (fun hs_ => ((HO422.out).1 k_ hs_.symm).2) (fun hn_ => (Kd.fresh' (Kd.R_lt (rz_ HO_6.out)) k_ hn_))⟩)) (below_size hB_)); have n4_ := A_ (below_step hB_ hb); clear HO_6 HO419 HO422 HB; have HO_6 := n0_; have HO419 := n1_; have HO422 := n2_; have HO425 := n3_; have HB := n4_; clear n0_ n1_ n2_ n3_ n4_; (try clear hb); (try clear hb2); (try clear hk); (try clear hi); (try clear ho0)))
        go_ret2
        exact .inl ⟨_, _, by first | rfl | (simp [errW_none, errW_some] <;> rfl) | (simp [*, errW_none, errW_some] <;> rfl), by (with_reducible repeat (first | apply Kd.V_alloc | apply Kd.V_drewN | apply Kd.V_drew)); exact Kd.V_mono HO419.out (fun _ hk => hk.1), by (with_reducible repeat (first | apply Kd.V_alloc | apply Kd.V_drewN | apply Kd.V_drew)); exact Kd.V_mono HO425.out (fun _ hk => hk.1), hB_⟩
    ·rw [if_neg c8] at H
     exact absurd H (by simp)
   ·rw [if_neg c7] at H
    exact absurd H (by simp)
  ·rw [if_neg c6] at H
   have c6b0 : ((l1.length : Int) == 1) = false := beq_eq_false_iff_ne.mpr c6
   have c6b1 : ((l1.length : Int) != 1) = true := bne_iff_ne.mpr c6
   obtain ⟨ji29, hji29⟩ : ∃ j_ : Int, (wrap64 ((l1.length : Int) - 1)) = j_ := ⟨_, rfl⟩
   replace H : (if 0 ≤ (ji29) then (if (ji29) < (l1.length : Int) then ((bits_Len.f (IntKind.u64.wrap (rd l1 (ji29)))).bind fun t427 => ((impl_natShift.f k l1 (wrap64 (16 - t427))).bind fun t428 => ((impl_natShift.f k l0 (wrap64 (16 - t427))).bind fun t431 => ((slices_Clone_int_int.f t431).bind fun t434 => (if t434.length < 17592186044416 then (impl_natDiv.l1 k l0 (wrap64 (16 - t427)) t428 (t434 ++ [0]) (t428.length : Int)) else (none)))))) else (none)) else (none)) = some (r1, r2) := by first | (rw [hji29] at H; exact H) | (simp only [hji29] at H ⊢; exact H) | (simp only [hji29] at H ⊢; exact H) | (simp only [hji29] at H; exact H) | exact H
   (try rw [hji29] at A3)
   have hji29w : (IntKind.i64.wrap ((l1.length : Int) - 1)) = ji29 := (i64_w _).trans hji29
   by_cases c30 : 0 ≤ (ji29)
   ·rw [if_pos c30] at H
    have c30b0 : decide (0 ≤ (ji29)) = true := decide_eq_true c30
    clear c30
    by_cases c31 : (ji29) < (l1.length : Int)
    ·rw [if_pos c31] at H
     have c31b0 : decide ((ji29) < (l1.length : Int)) = true := decide_eq_true c31
     clear c31
     replace H := Option.bind_eq_some_iff.mp H
     obtain ⟨t427, A320, H⟩ := H
     replace H : ((impl_natShift.f k l1 (wrap64 (16 - t427))).bind fun t428 => ((impl_natShift.f k l0 (wrap64 (16 - t427))).bind fun t431 => ((slices_Clone_int_int.f t431).bind fun t434 => (if t434.length < 17592186044416 then (impl_natDiv.l1 k l0 (wrap64 (16 - t427)) t428 (t434 ++ [0]) (t428.length : Int)) else (none))))) = some (r1, r2) := H
     have A32 := A_ A320
     clear A320
     replace H := Option.bind_eq_some_iff.mp H
     obtain ⟨t428, A330, H⟩ := H
     replace H : ((impl_natShift.f k l0 (wrap64 (16 - t427))).bind fun t431 => ((slices_Clone_int_int.f t431).bind fun t434 => (if t434.length < 17592186044416 then (impl_natDiv.l1 k l0 (wrap64 (16 - t427)) t428 (t434 ++ [0]) (t428.length : Int)) else (none)))) = some (r1, r2) := H
     have A33 := A_ A330
     clear A330
     replace H := Option.bind_eq_some_iff.mp H
     obtain ⟨t431, A340, H⟩ := H
     replace H : ((slices_Clone_int_int.f t431).bind fun t434 => (if t434.length < 17592186044416 then (impl_natDiv.l1 k l0 (wrap64 (16 - t427)) t428 (t434 ++ [0]) (t428.length : Int)) else (none))) = some (r1, r2) := H
     have A34 := A_ A340
     clear A340
     replace H := Option.bind_eq_some_iff.mp H
     obtain ⟨t434, A350, H⟩ := H
     replace H : (if t434.length < 17592186044416 then (impl_natDiv.l1 k l0 (wrap64 (16 - t427)) t428 (t434 ++ [0]) (t428.length : Int)) else (none)) = some (r1, r2) := H
     have A35 := A_ A350
     clear A350
     by_cases c36 : t434.length < 17592186044416
     ·rw [if_pos c36] at H
      have LMc36 := A_ c36
      clear c36
      obtain ⟨y437, hy437⟩ : ∃ y_ : List Int, y_ = (t434 ++ [0]) := ⟨_, rfl⟩
      replace H : (impl_natDiv.l1 k l0 (wrap64 (16 - t427)) t428 y437 (t428.length : Int)) = some (r1, r2) := by first | (rw [hy437]; with_reducible exact H) | (have H2_ := (Option.bind_some _ _).symm.trans H; rw [hy437]; with_reducible exact H2_) | (have H2_ := (Option.bind_some _ _).symm.trans H; with_reducible exact H2_) | with_reducible exact H | (rw [hy437]; exact H) | exact H
      have Ny437 := A_ hy437
      clear hy437
      have H' := A_ H
      clear H
      go_enter Tryd.func50, Tryd.ntmps50
      go_wp2_with (first | ((with_reducible refine gate_callee (f := 49) rfl ?_); refine goesL_ (some 29) rfl rfl Tryd.func49 (by kernel_rfl) rfl #[.slice A0 l0.length c0, .slice A1 l1.length c1] rfl (by (try simp only [List.map_toArray, List.map_cons, List.map_nil]); first | done | rfl) ?_; (with_reducible refine (impl_natCmp.calls k _ _ l0 _ _ l1 t409 _ ?side1 ?side2 ?side3 ?side4 A3.out).mono ?_); (case side1 => repeat (first | exact HR0.out | (with_reducible refine Kd.C_alloc ?_ _) | (with_reducible refine Kd.C_drewN ?_ _) | (with_reducible refine Kd.C_drew ?_))); (case side2 => exact HC0.out); (case side3 => repeat (first | exact HR1.out | (with_reducible refine Kd.C_alloc ?_ _) | (with_reducible refine Kd.C_drewN ?_ _) | (with_reducible refine Kd.C_drew ?_))); (case side4 => exact HC1.out); rintro e w37 ⟨rfl, hb⟩; refine ⟨_, rfl, ?_⟩; have n0_ := A_ (below_step hB_ hb); clear HB; have HB := n0_; clear n0_; (try clear hb); (try clear hb2); (try clear hk); (try clear hi); have p426 : 0 ≤ ((ji29) : Int) := of_decide_eq_true as_; have q426 : (ji29) < (l1.length : Int) := of_decide_eq_true as_; obtain ⟨ad426, e426, hx426_0⟩ := Kd.at_int HR1.out (ji29) p426 q426; cases e426; replace hx426_0 := (HB.out.cell (World.block_lt_of_cell? w _ hx426_0)).trans hx426_0; replace p426 := eq_true p426; replace q426 := eq_true q426) | ((with_reducible refine gate_callee (f := 62) rfl ?_); refine goesL_ (some 77) rfl rfl Tryd.func62 (by kernel_rfl) rfl #[.int .u64 (IntKind.u64.wrap (rd l1 (ji29)))] rfl (by (try simp only [List.map_toArray, List.map_cons, List.map_nil]); first | done | (simp only [hji29]; rfl) | rfl | (simp only [List.length_drop, List.length_take]; rfl)) ?_; (with_reducible refine (bits_Len.calls (IntKind.u64.wrap (rd l1 (ji29))) t427 _ A32.out).mono ?_); rintro e w' ⟨rfl, ⟨nd, rfl⟩⟩; refine ⟨_, rfl, ?_⟩) | ((with_reducible refine gate_callee (f := 63) rfl ?_); refine goesL_ (some 81) rfl rfl Tryd.func63 (by kernel_rfl) rfl #[.slice (some ad426) l1.length c1, .int .i64 (wrap64 (16 - t427))] rfl (by (try simp only [List.map_toArray, List.map_cons, List.map_nil]); first | done | rfl) ?_; (with_reducible refine (impl_natShift.calls k _ _ l1 (wrap64 (16 - t427)) t428 _ ?side1 ?side2 A33.out).mono ?_); (case side1 => repeat (first | exact (Kd.C_below HR1.out hB_) | (with_reducible refine Kd.C_alloc ?_ _) | (with_reducible refine Kd.C_drewN ?_ _) | (with_reducible refine Kd.C_drew ?_))); (case side2 => exact HC1.out); rintro e w38 ⟨v429, rfl, ho0, hb⟩; refine ⟨_, rfl, ?_⟩; have n0_ := A_ (Kd.V_lower (Kd.V_mono (ok' := fun k_ => (w.heap.size ≤ k_)) ho0 (fun k_ hk_ => (Nat.le_trans (below_size hB_) hk_))) (below_size hB_)); have n1_ := A_ (below_step hB_ hb); clear HB; have HO430 := n0_; have HB := n1_; clear n0_ n1_; (try clear hb); (try clear hb2); (try clear hk); (try clear hi); (try clear ho0)) | ((with_reducible refine gate_callee (f := 63) rfl ?_); refine goesL_ (some 84) rfl rfl Tryd.func63 (by kernel_rfl) rfl #[.slice A0 l0.length c0, .int .i64 (wrap64 (16 - t427))] rfl (by (try simp only [List.map_toArray, List.map_cons, List.map_nil]); first | done | rfl) ?_; (with_reducible refine (impl_natShift.calls k _ _ l0 (wrap64 (16 - t427)) t431 _ ?side1 ?side2 A34.out).mono ?_); (case side1 => repeat (first | exact (Kd.C_below HR0.out HB.out) | (with_reducible refine Kd.C_alloc ?_ _) | (with_reducible refine Kd.C_drewN ?_ _) | (with_reducible refine Kd.C_drew ?_))); (case side2 => exact HC0.out); rintro e w39 ⟨v432, rfl, ho0, hb⟩; refine ⟨_, rfl, ?_⟩; have n0_ := A_ (Kd.V_below (by (with_reducible repeat (first | apply Kd.V_alloc | apply Kd.V_drewN | apply Kd.V_drew)); exact HO430.out) hb); have n1_ := A_ (Kd.V_lower (Kd.V_mono (ok' := fun k_ => (w.heap.size ≤ k_)) ho0 (fun k_ hk_ => (Nat.le_trans (below_size hB_) hk_))) (below_size hB_)); have n2_ := A_ (below_step hB_ hb); clear HO430 HB; have HO430 := n0_; have HO433 := n1_; have HB := n2_; clear n0_ n1_ n2_; (try clear hb); (try clear hb2); (try clear hk); (try clear hi); (try clear ho0); obtain ⟨Ao40, co40, eo40⟩ := Kd.V_slice HO433.out; subst eo40) | ((with_reducible refine gate_callee (f := 61) rfl ?_); refine goesL_ (some 85) rfl rfl Tryd.func61 (by kernel_rfl) rfl #[.slice Ao40 t431.length co40] rfl (by (try simp only [List.map_toArray, List.map_cons, List.map_nil]); first | done | rfl) ?_; (with_reducible refine (slices_Clone_int_int.calls _ _ t431 t434 _ ?side1 ?side2 A35.out).mono ?_); (case side1 => repeat (first | exact (Kd.V_reads' HO433.out).2.2 | (with_reducible refine Kd.C_alloc ?_ _) | (with_reducible refine Kd.C_drewN ?_ _) | (with_reducible refine Kd.C_drew ?_))); (case side2 => exact (Kd.V_reads' HO433.out).2.1); rintro e w41 ⟨v435, rfl, ho0, hb⟩; refine ⟨_, rfl, ?_⟩; have n0_ := A_ (Kd.V_elder' (by (with_reducible repeat (first | apply Kd.V_alloc | apply Kd.V_drewN | apply Kd.V_drew)); exact HO430.out) (Kd.R_base ho0) hb); have n1_ := A_ (Kd.V_elder' (by (with_reducible repeat (first | apply Kd.V_alloc | apply Kd.V_drewN | apply Kd.V_drew)); exact HO433.out) (Kd.R_base ho0) hb); have n2_ := A_ (Kd.R_lower (Kd.R_newM (M := fun k_ => (w.heap.size ≤ k_)) ho0 (below_size hB_) (fun k_ h_ => h_)) (below_size hB_)); have n3_ := A_ (below_step hB_ hb); clear HO430 HO433 HB; have HO430 := n0_; have HO433 := n1_; have HO436 := n2_; have HB := n3_; clear n0_ n1_ n2_ n3_; (try clear hb); (try clear hb2); (try clear hk); (try clear hi); (try clear ho0)) | ((with_reducible refine gate_builtin (b := .append) (xs := #[.tmp 85, .tmp 86]) rfl ?_); at_builtin; refine Kd.R_append (Kd.int .i64) (w0 := w) w.heap.size rfl (.tmp 85) (.tmp 86) 23 3 (.int .i64 0) 8 rfl Tryd.underlying23 info3 rfl (by decide) (by omega) v435 t434 0 [.int .i64 0] (fun k_ => (w.heap.size ≤ k_)) (fun _ => False) rfl rfl ?aP (fun _ hk => hk.elim) ?aF ?aO ?aB ?aS ?aL ?_; (case aP => exact rfl); (case aB => exact hB_); (case aF => exact (fun k_ hk => (Nat.le_trans (below_size hB_) hk))); (case aO => exact (rz_ (Kd.R_mono HO436.out (fun _ hk => hk.1)))); (case aS => exact (below_size hB_)); (case aL => have := LMc36.out; omega); intro v438 w42 ho hb hg hat; rw [← Ny437.out] at ho; have n0_ := A_ (Kd.V_afterv (ok := (fun k_ => (w.heap.size ≤ k_))) (by (with_reducible repeat (first | apply Kd.V_alloc | apply Kd.V_drewN | apply Kd.V_drew)); exact HO430.out) hg hat); have n1_ := A_ (Kd.V_afterv (ok := (fun k_ => (w.heap.size ≤ k_))) (by (with_reducible repeat (first | apply Kd.V_alloc | apply Kd.V_drewN | apply Kd.V_drew)); exact HO433.out) hg hat); have n2_ := A_ (hb); have n3_ := A_ (ho); clear HO430 HO433 HB HO436; have HO430 := n0_; have HO433 := n1_; have HB := n2_; have HO439 := n3_; clear n0_ n1_ n2_ n3_; clear ho hb hg hat; obtain ⟨Ao43, co43, eo43⟩ := Kd.V_slice HO430.out; subst eo43))
      go_loopg [12] k (fun kq v12 w' => ∃ (x12_1 : List Int), Aside0 (impl_natDiv.l1 kq l0 (wrap64 (16 - t427)) t428 x12_1 (t428.length : Int) = some (r1, r2)) ∧ Aside0 (kq ≤ k) ∧ Aside0 (Kd.V (Kd.int .i64) 3 w' w.heap.size (fun k_ => (w.heap.size ≤ k_) ∧ some k_ ≠ (v12 : Value).ownBlock) (.slice Ao43 t428.length co43) t428) ∧ Aside0 (Kd.R (Kd.int .i64) 3 w' w.heap.size (fun k_ => (w.heap.size ≤ k_)) v12 x12_1) ∧ Aside0 (Below w.heap.size w w'))
      case atStart => exact ⟨(y437), H', ⟨Nat.le_refl _⟩, ⟨by (with_reducible repeat (first | apply Kd.V_alloc | apply Kd.V_drewN | apply Kd.V_drew)); exact HO430.out⟩, ⟨by (with_reducible repeat (first | apply Kd.R_alloc | apply Kd.R_drewN | apply Kd.R_drew)); exact HO439.out⟩, ⟨hB_⟩⟩
      case round =>
       clear H'
       (try clear c1); (try clear p1); (try clear q1); (try clear hx1); (try clear p2); (try clear c3); (try clear c4); (try clear c4b0); (try clear p4); (try clear q4); (try clear hx4); (try clear qi4); (try clear c5); (try clear c6); (try clear c6b0); (try clear c6b1); (try clear p6); (try clear c7); (try clear c7b0); (try clear c7b1); (try clear c8); (try clear c8b0); (try clear c8b1); (try clear c12); (try clear c12b0); (try clear c13); (try clear c13b0); (try clear c14); (try clear c14b0); (try clear c15); (try clear c15b0); (try clear c15b1); (try clear c16); (try clear c16b0); (try clear c16b1); (try clear c17); (try clear c17b0); (try clear p18); (try clear q18); (try clear hx18); (try clear hf18); (try clear c30); (try clear c30b0); (try clear c31); (try clear c31b0); (try clear c36); (try clear p41); (try clear q41); (try clear hx41); (try clear qi41); (try clear p42); (try clear q42); (try clear hx42); (try clear hx18_0); (try clear hx413_0); (try clear hx414_0); (try clear hx415_0); (try clear hx426_0); (try clear p18); (try clear p2); (try clear p413); (try clear p414); (try clear p415); (try clear p426); (try clear p6); (try clear q18); (try clear q413); (try clear q414); (try clear q415); (try clear q426)
       obtain ⟨x12_1, HA, HK1, HO_11, HO_12, HB⟩ := hrel
       cases gk with
       | zero => exact absurd HA.out (by simp [impl_natDiv.l1])
       | succ k1 =>
        have H := HA.out
        clear HA
        simp only [impl_natDiv.l1] at H
        by_cases c44 : (x12_1.length : Int) < (wrap64 ((l0.length : Int) + 1))
        ·rw [if_pos c44] at H
         have c44b0 : decide ((x12_1.length : Int) < (wrap64 ((l0.length : Int) + 1))) = true := decide_eq_true c44
         clear c44
         by_cases c45 : x12_1.length < 17592186044416
         ·rw [if_pos c45] at H
          have LMc45 := A_ c45
          clear c45
          obtain ⟨y440, hy440⟩ : ∃ y_ : List Int, y_ = (x12_1 ++ [0]) := ⟨_, rfl⟩
          replace H : (impl_natDiv.l1 k1 l0 (wrap64 (16 - t427)) t428 y440 (t428.length : Int)) = some (r1, r2) := by first | (rw [hy440]; with_reducible exact H) | (have H2_ := (Option.bind_some _ _).symm.trans H; rw [hy440]; with_reducible exact H2_) | (have H2_ := (Option.bind_some _ _).symm.trans H; with_reducible exact H2_) | with_reducible exact H | (rw [hy440]; exact H) | exact H
          have Ny440 := A_ hy440
          clear hy440
          have H' := A_ H
          clear H
          obtain ⟨Ao46, co46, eo46⟩ := Kd.R_slice HO_12.out
          subst eo46
          go_wp2_with (first | ((with_reducible refine gate_builtin (b := .append) (xs := #[.tmp 96, .tmp 97]) rfl ?_); at_builtin; refine Kd.R_append (Kd.int .i64) (w0 := w) w.heap.size rfl (.tmp 96) (.tmp 97) 23 3 (.int .i64 0) 8 rfl Tryd.underlying23 info3 rfl (by decide) (by omega) (.slice Ao46 x12_1.length co46) x12_1 0 [.int .i64 0] (fun k_ => (w.heap.size ≤ k_)) (fun _ => False) rfl rfl ?aP (fun _ hk => hk.elim) ?aF ?aO ?aB ?aS ?aL ?_; (case aP => exact rfl); (case aB => exact hB_); (case aF => exact (fun k_ hk => (Nat.le_trans (below_size hB_) hk))); (case aO => exact (rz_ HO_12.out)); (case aS => exact (below_size hB_)); (case aL => have := LMc45.out; omega); intro v441 w47 ho hb hg hat; rw [← Ny440.out] at ho; have n0_ := A_ (Kd.V_afterv (ok := (fun k_ => (w.heap.size ≤ k_))) (by (with_reducible repeat (first | apply Kd.V_alloc | apply Kd.V_drewN | apply Kd.V_drew)); exact HO_11.out) hg hat); have n1_ := A_ (hb); have n2_ := A_ (ho); clear HO_11 HB HO_12; have HO_11 := n0_; have HB := n1_; have HO442 := n2_; clear n0_ n1_ n2_; clear ho hb hg hat))
          go_roundg k1
          case measure => have := HK1.out; omega
          case rel => exact ⟨(y440), H', ⟨by have := HK1.out; omega⟩, ⟨by (with_reducible repeat (first | apply Kd.V_alloc | apply Kd.V_drewN | apply Kd.V_drew)); exact HO_11.out⟩, ⟨by (with_reducible repeat (first | apply Kd.R_alloc | apply Kd.R_drewN | apply Kd.R_drew)); exact HO442.out⟩, ⟨hB_⟩⟩
         ·rw [if_neg c45] at H
          exact absurd H (by simp)
        ·rw [if_neg c44] at H
         have c44b0 : decide ((x12_1.length : Int) < (wrap64 ((l0.length : Int) + 1))) = false := decide_eq_false c44
         clear c44
         obtain ⟨ji48, hji48⟩ : ∃ j_ : Int, (wrap64 ((x12_1.length : Int) - (t428.length : Int))) = j_ := ⟨_, rfl⟩
         replace H : (if 0 ≤ (ji48) then (if (ji48 : Int).toNat ≤ 35184372088832 then (impl_natDiv.l2 k1 (wrap64 (16 - t427)) t428 x12_1 (t428.length : Int) (List.replicate (ji48 : Int).toNat 0) (wrap64 ((ji48) - 1))) else (none)) else (none)) = some (r1, r2) := by first | (rw [hji48] at H; exact H) | (simp only [hji48] at H ⊢; exact H) | (simp only [hji29, hji48] at H ⊢; exact H) | (simp only [hji29, hji48] at H; exact H) | exact H
         have hji48w : (IntKind.i64.wrap ((x12_1.length : Int) - (t428.length : Int))) = ji48 := (i64_w _).trans hji48
         by_cases c49 : 0 ≤ (ji48)
         ·rw [if_pos c49] at H
          have c49b0 := eq_true c49
          have c49b1 : decide (0 ≤ (ji48)) = true := decide_eq_true c49
          clear c49
          by_cases c50 : (ji48 : Int).toNat ≤ 35184372088832
          ·rw [if_pos c50] at H
           have c50b0 := eq_true c50
           have c50b1 : decide ((ji48 : Int).toNat ≤ 35184372088832) = true := decide_eq_true c50
           clear c50
           obtain ⟨y443, hy443⟩ : ∃ y_ : List Int, y_ = (List.replicate (ji48 : Int).toNat 0) := ⟨_, rfl⟩
           replace H : (impl_natDiv.l2 k1 (wrap64 (16 - t427)) t428 x12_1 (t428.length : Int) y443 (wrap64 ((ji48) - 1))) = some (r1, r2) := by first | (rw [hy443]; with_reducible exact H) | (have H2_ := (Option.bind_some _ _).symm.trans H; rw [hy443]; with_reducible exact H2_) | (have H2_ := (Option.bind_some _ _).symm.trans H; with_reducible exact H2_) | with_reducible exact H | (rw [hy443]; exact H) | exact H
           have Ny443 := A_ hy443
           clear hy443
           have H' := A_ H
           clear H
           obtain ⟨Ao51, co51, eo51⟩ := Kd.R_slice HO_12.out
           subst eo51
           go_wp2_with (first | ((with_reducible refine gate_dst (N := 103) rfl ?_); refine Kd.R_make (Kd.int .i64) _ 3 rfl (N := 103) rfl 23 _ _ rfl ji48 rfl rfl Tryd.underlying23 (.int .i64 0) 8 info3 rfl (by decide) (by omega) 0 (ok := fun _ => True) (okp := fun _ => True) rfl (fun _ hk => hk) trivial (of_decide_eq_true as_) (Nat.le_trans (Nat.mul_le_mul_right _ (of_decide_eq_true as_ : ji48.toNat ≤ 35184372088832)) (by omega)) (Below.refl _ _) (Nat.le_refl _) ?_; intro v444 w52 ho53 hb hg_ hnew_; clear hg_ hnew_; (first | rw [← Ny443.out] at ho53 | (simp only [Int.reduceToNat] at ho53; rw [← Ny443.out] at ho53)); have n0_ := A_ (Kd.V_elder' (by (with_reducible repeat (first | apply Kd.V_alloc | apply Kd.V_drewN | apply Kd.V_drew)); exact HO_11.out) (Kd.R_base ho53) hb); have n1_ := A_ (Kd.R_elder' (rz_ HO_12.out) (Kd.R_base ho53) hb); have n2_ := A_ (Kd.R_lower (Kd.R_new' (Kd.R_newM (M := fun k_ => (w.heap.size ≤ k_)) ho53 (below_size hB_) (fun k_ h_ => h_)) (Kd.R_lt (rz_ HO_12.out))) (below_size hB_)); have n3_ := A_ (below_step hB_ hb); clear HO_11 HO_12 HB; have HO_11 := n0_; have HO_12 := n1_; have HO445 := n2_; have HB := n3_; clear n0_ n1_ n2_ n3_; clear hb ho53))
           go_loopg [15] k1 (fun kq v15 w' => ∃ (x12_2 : List Int) (x14_2 : List Int) (x15_2 : Int), v15 = .int .i64 x15_2 ∧ Aside0 (impl_natDiv.l2 kq (wrap64 (16 - t427)) t428 x12_2 (t428.length : Int) x14_2 x15_2 = some (r1, r2)) ∧ Aside0 (kq ≤ k1) ∧ Aside0 (Kd.V (Kd.int .i64) 3 w' w.heap.size (fun k_ => (w.heap.size ≤ k_) ∧ some k_ ≠ ((.slice Ao51 x12_1.length co51) : Value).ownBlock ∧ some k_ ≠ (v444 : Value).ownBlock) (.slice Ao43 t428.length co43) t428) ∧ Aside0 (Kd.R (Kd.int .i64) 3 w' w.heap.size (fun k_ => (w.heap.size ≤ k_) ∧ some k_ ≠ (v444 : Value).ownBlock) (.slice Ao51 x12_1.length co51) x12_2) ∧ Aside0 (Kd.R (Kd.int .i64) 3 w' w.heap.size (fun k_ => (w.heap.size ≤ k_) ∧ some k_ ≠ ((.slice Ao51 x12_1.length co51) : Value).ownBlock) v444 x14_2) ∧ Aside0 (Below w.heap.size w w'))
           case atStart => exact ⟨(x12_1), (y443), (wrap64 ((ji48) - 1)), (by first | rfl | (simp; done) | (simp only [← hji48] <;> (first | rfl | simp)) | (simp [*]; done)), H', ⟨Nat.le_refl _⟩, ⟨by (with_reducible repeat (first | apply Kd.V_alloc | apply Kd.V_drewN | apply Kd.V_drew)); exact Kd.V_mono HO_11.out (fun _ hk => ⟨hk.1.1, ⟨hk.1.2, hk.2⟩⟩)⟩, ⟨by (with_reducible repeat (first | apply Kd.R_alloc | apply Kd.R_drewN | apply Kd.R_drew)); exact HO_12.out⟩, ⟨by (with_reducible repeat (first | apply Kd.R_alloc | apply Kd.R_drewN | apply Kd.R_drew)); exact Kd.R_mono HO445.out (fun _ hk => ⟨hk.1.1, hk.2⟩)⟩, ⟨hB_⟩⟩
           case round =>
            clear H'
            (try clear c1); (try clear p1); (try clear q1); (try clear hx1); (try clear p2); (try clear c3); (try clear c4); (try clear c4b0); (try clear p4); (try clear q4); (try clear hx4); (try clear qi4); (try clear c5); (try clear c6); (try clear c6b0); (try clear c6b1); (try clear p6); (try clear c7); (try clear c7b0); (try clear c7b1); (try clear c8); (try clear c8b0); (try clear c8b1); (try clear c12); (try clear c12b0); (try clear c13); (try clear c13b0); (try clear c14); (try clear c14b0); (try clear c15); (try clear c15b0); (try clear c15b1); (try clear c16); (try clear c16b0); (try clear c16b1); (try clear c17); (try clear c17b0); (try clear p18); (try clear q18); (try clear hx18); (try clear hf18); (try clear c30); (try clear c30b0); (try clear c31); (try clear c31b0); (try clear c36); (try clear p41); (try clear q41); (try clear hx41); (try clear qi41); (try clear p42); (try clear q42); (try clear hx42); (try clear c44); (try clear c44b0); (try clear c45); (try clear c47); (try clear c49); (try clear c49b0); (try clear c49b1); (try clear c50); (try clear c50b0); (try clear c50b1); (try clear hx18_0); (try clear hx413_0); (try clear hx414_0); (try clear hx415_0); (try clear hx426_0); (try clear p1); (try clear p18); (try clear p2); (try clear p4); (try clear p41); (try clear p413); (try clear p414); (try clear p415); (try clear p42); (try clear p426); (try clear p6); (try clear q1); (try clear q18); (try clear q4); (try clear q41); (try clear q413); (try clear q414); (try clear q415); (try clear q42); (try clear q426)
            obtain ⟨x12_2, x14_2, x15_2, rfl, HA, HK2, HO_11, HO_12, HO_14, HB⟩ := hrel
            have hl12_2 := (Kd.R_reads' HO_12.out).1
            rw [hl12_2] at HO_12
            (try simp only [hl12_2])
            (try simp only [hl12_2] at HO_11)
            (try simp only [hl12_2] at HO_14)
            cases gk with
            | zero => exact absurd HA.out (by simp [impl_natDiv.l2])
            | succ k2 =>
             have H := HA.out
             clear HA
             simp only [impl_natDiv.l2] at H
             by_cases c54 : x15_2 ≥ 0
             ·rw [if_pos c54] at H
              have c54b0 : decide (0 ≤ x15_2) = true := decide_eq_true c54
              clear c54
              obtain ⟨ji55, hji55⟩ : ∃ j_ : Int, (wrap64 (x15_2 + (t428.length : Int))) = j_ := ⟨_, rfl⟩
              replace H : (if 0 ≤ (ji55) then (if (ji55) < (x12_2.length : Int) then (if 0 ≤ (wrap64 ((ji55) - 1)) then (if (wrap64 ((ji55) - 1)) < (x12_2.length : Int) then (if 0 ≤ (wrap64 ((t428.length : Int) - 1)) then (if (wrap64 ((t428.length : Int) - 1)) < (t428.length : Int) then (if (rd t428 (wrap64 ((t428.length : Int) - 1))) = 0 then (none) else (impl_natDiv.l3 k2 (wrap64 (16 - t427)) t428 x12_2 (t428.length : Int) x14_2 x15_2 (wrap64 (Int.tdiv (Go.bits .or .i64 (wrap64 ((rd x12_2 (ji55)) * 65536)) (rd x12_2 (wrap64 ((ji55) - 1)))) (rd t428 (wrap64 ((t428.length : Int) - 1))))) (Int.tmod (Go.bits .or .i64 (wrap64 ((rd x12_2 (ji55)) * 65536)) (rd x12_2 (wrap64 ((ji55) - 1)))) (rd t428 (wrap64 ((t428.length : Int) - 1)))))) else (none)) else (none)) else (none)) else (none)) else (none)) else (none)) = some (r1, r2) := by first | (rw [hji55] at H; exact H) | (simp only [hji55] at H ⊢; exact H) | (simp only [hji29, hji48, hji55] at H ⊢; exact H) | (simp only [hji29, hji48, hji55] at H; exact H) | exact H
              have hji55w : (IntKind.i64.wrap (x15_2 + (t428.length : Int))) = ji55 := (i64_w _).trans hji55
              by_cases c56 : 0 ≤ (ji55)
              ·rw [if_pos c56] at H
               have c56b0 : decide (0 ≤ (ji55)) = true := decide_eq_true c56
               clear c56
               by_cases c57 : (ji55) < (x12_2.length : Int)
               ·rw [if_pos c57] at H
                have c57b0 : decide ((ji55) < (x12_2.length : Int)) = true := decide_eq_true c57
                (try (have c57b0_ := c57b0; simp only [hl12_2] at c57b0_))
                clear c57
                obtain ⟨ji58, hji58⟩ : ∃ j_ : Int, (wrap64 ((ji55) - 1)) = j_ := ⟨_, rfl⟩
                replace H : (if 0 ≤ (ji58) then (if (ji58) < (x12_2.length : Int) then (if 0 ≤ (wrap64 ((t428.length : Int) - 1)) then (if (wrap64 ((t428.length : Int) - 1)) < (t428.length : Int) then (if (rd t428 (wrap64 ((t428.length : Int) - 1))) = 0 then (none) else (impl_natDiv.l3 k2 (wrap64 (16 - t427)) t428 x12_2 (t428.length : Int) x14_2 x15_2 (wrap64 (Int.tdiv (Go.bits .or .i64 (wrap64 ((rd x12_2 (ji55)) * 65536)) (rd x12_2 (ji58))) (rd t428 (wrap64 ((t428.length : Int) - 1))))) (Int.tmod (Go.bits .or .i64 (wrap64 ((rd x12_2 (ji55)) * 65536)) (rd x12_2 (ji58))) (rd t428 (wrap64 ((t428.length : Int) - 1)))))) else (none)) else (none)) else (none)) else (none)) = some (r1, r2) := by first | (rw [hji58] at H; exact H) | (simp only [hji58] at H ⊢; exact H) | (simp only [hji29, hji48, hji55, hji58] at H ⊢; exact H) | (simp only [hji29, hji48, hji55, hji58] at H; exact H) | exact H
                have hji58w : (IntKind.i64.wrap ((ji55) - 1)) = ji58 := (i64_w _).trans hji58
                by_cases c59 : 0 ≤ (ji58)
                ·rw [if_pos c59] at H
                 have c59b0 : decide (0 ≤ (ji58)) = true := decide_eq_true c59
                 clear c59
                 by_cases c60 : (ji58) < (x12_2.length : Int)
                 ·rw [if_pos c60] at H
                  have c60b0 : decide ((ji58) < (x12_2.length : Int)) = true := decide_eq_true c60
                  (try (have c60b0_ := c60b0; simp only [hl12_2] at c60b0_))
                  clear c60
                  obtain ⟨ji61, hji61⟩ : ∃ j_ : Int, (wrap64 ((t428.length : Int) - 1)) = j_ := ⟨_, rfl⟩
                  replace H : (if 0 ≤ (ji61) then (if (ji61) < (t428.length : Int) then (if (rd t428 (ji61)) = 0 then (none) else (impl_natDiv.l3 k2 (wrap64 (16 - t427)) t428 x12_2 (t428.length : Int) x14_2 x15_2 (wrap64 (Int.tdiv (Go.bits .or .i64 (wrap64 ((rd x12_2 (ji55)) * 65536)) (rd x12_2 (ji58))) (rd t428 (ji61)))) (Int.tmod (Go.bits .or .i64 (wrap64 ((rd x12_2 (ji55)) * 65536)) (rd x12_2 (ji58))) (rd t428 (ji61))))) else (none)) else (none)) = some (r1, r2) := by first | (rw [hji61] at H; exact H) | (simp only [hji61] at H ⊢; exact H) | (simp only [hji29, hji48, hji55, hji58, hji61] at H ⊢; exact H) | (simp only [hji29, hji48, hji55, hji58, hji61] at H; exact H) | exact H
                  have hji61w : (IntKind.i64.wrap ((t428.length : Int) - 1)) = ji61 := (i64_w _).trans hji61
                  by_cases c62 : 0 ≤ (ji61)
                  ·rw [if_pos c62] at H
                   have c62b0 : decide (0 ≤ (ji61)) = true := decide_eq_true c62
                   clear c62
                   by_cases c63 : (ji61) < (t428.length : Int)
                   ·rw [if_pos c63] at H
                    have c63b0 : decide ((ji61) < (t428.length : Int)) = true := decide_eq_true c63
                    (try (have c63b0_ := c63b0; simp only [hl12_2] at c63b0_))
                    clear c63
                    by_cases c64 : (rd t428 (ji61)) = 0
                    ·rw [if_pos c64] at H
                     exact absurd H (by simp)
                    ·rw [if_neg c64] at H
                     have c64b0 : ((rd t428 (ji61)) == 0) = false := beq_eq_false_iff_ne.mpr c64
                     have c64b1 : ((rd t428 (ji61)) != 0) = true := bne_iff_ne.mpr c64
                     have HC65 := A_ H
                     clear H
                     try go_wp2
                     have n0_ := A_ (Kd.V_drew HO_11.out)
                     have n1_ := A_ (Kd.R_drew HO_12.out)
                     have n2_ := A_ (Kd.R_drew HO_14.out)
                     have n3_ := A_ (below_drew1 HB.out)
                     clear HO_11 HO_12
                     clear HO_14 HB
                     have HO_11 := n0_
                     have HO_12 := n1_
                     have HO_14 := n2_
                     have HB := n3_
                     clear n0_ n1_ n2_ n3_
                     have p455 : 0 ≤ ((ji55) : Int) := of_decide_eq_true as_
                     have q455 : (ji55) < (x12_2.length : Int) := of_decide_eq_true as_
                     obtain ⟨ad455, e455, hx455_0⟩ := Kd.at_int (Kd.R_reads' HO_12.out).2.2 (ji55) p455 q455
                     cases e455
                     replace p455 := eq_true p455
                     replace q455 := eq_true q455
                     have p456 : 0 ≤ ((ji58) : Int) := of_decide_eq_true as_
                     have q456 : (ji58) < (x12_2.length : Int) := of_decide_eq_true as_
                     obtain ⟨ad456, e456, hx456_0⟩ := Kd.at_int (Kd.R_reads' HO_12.out).2.2 (ji58) p456 q456
                     obtain rfl : ad455 = ad456 := (by injection e456)
                     replace p456 := eq_true p456
                     replace q456 := eq_true q456
                     refine start_ (n := 16) (S := fun w' => w'.cell? (ad455.add ((ji55)).toNat) = some (.int .i64 (rd x12_2 (ji55))) ∧ w'.cell? (ad455.add ((ji58)).toNat) = some (.int .i64 (rd x12_2 (ji58)))) (ds := []) #[false, false, false, false, false, false, false, false, false, false, false, false, false, false, false, false] (by kernel_rfl) rfl rfl ⟨hx455_0, hx456_0⟩ (fun hHeld => ?_); refine with_tabW impl_natDiv.tab22 impl_natDiv.bits22 (fun HT_ HW_ => ?_)
                     generalize wr.drew = w66 at HO_11 HO_12 HO_14 HB hx455_0 hx456_0 hHeld ⊢
                     refine pure_ (i := 0) (N := some 113) (v := ?_) (a' := ?_) #[true, false, false, false, false, false, false, false, false, false, false, false, false, false, false, false] rfl rfl (any_of HT_.out (by kernel_rfl)) (fun _ _ _ h => h) (Or.inl ⟨by rfl, ?_⟩) ?_ ?_
                     rotate_left
                     ·intro w'
                      go_simp
                      with_reducible rfl
                     rotate_left
                     ·simp only [Act.put, List.setIfInBounds_toArray, List.set_cons_zero, List.set_cons_succ, i64_w, i32_w]
                      rfl
                     refine pure_ (i := 1) (N := some 114) (v := ?_) (a' := ?_) #[true, true, false, false, false, false, false, false, false, false, false, false, false, false, false, false] rfl rfl (any_of HT_.out (by kernel_rfl)) (fun _ _ _ h => h) (Or.inl ⟨by rfl, ?_⟩) ?_ ?_
                     rotate_left
                     ·intro w'
                      go_simp
                      with_reducible rfl
                     rotate_left
                     ·simp only [Act.put, List.setIfInBounds_toArray, List.set_cons_zero, List.set_cons_succ, i64_w, i32_w]
                      rfl
                     refine pure_ (i := 2) (N := some 115) (v := ?_) (a' := ?_) #[true, true, true, false, false, false, false, false, false, false, false, false, false, false, false, false] rfl rfl (any_of HT_.out (by kernel_rfl)) (fun _ _ _ h => h) (Or.inl ⟨by rfl, ?_⟩) ?_ ?_
                     rotate_left
                     ·intro w'
                      go_simp
                      with_reducible rfl
                     rotate_left
                     ·simp only [Act.put, List.setIfInBounds_toArray, List.set_cons_zero, List.set_cons_succ, i64_w, i32_w]
                      rfl
                     refine pure_ (i := 3) (N := some 116) (v := ?_) (a' := ?_) #[true, true, true, true, false, false, false, false, false, false, false, false, false, false, false, false] rfl rfl (any_of HT_.out (by kernel_rfl)) (fun _ _ _ h => h) (Or.inl ⟨by rfl, ?_⟩) ?_ ?_
                     rotate_left
                     ·intro w'
                      go_simp
                      with_reducible rfl
                     rotate_left
                     ·simp only [Act.put, List.setIfInBounds_toArray, List.set_cons_zero, List.set_cons_succ, i64_w, i32_w]
                      rfl
                     refine pure_ (i := 4) (N := some 117) (v := ?_) (a' := ?_) #[true, true, true, true, true, false, false, false, false, false, false, false, false, false, false, false] rfl rfl (any_of HT_.out (by kernel_rfl)) (fun _ _ _ h => h) (Or.inl ⟨by rfl, ?_⟩) ?_ ?_
                     rotate_left
                     ·intro w'
                      go_simp
                      with_reducible rfl
                     rotate_left
                     ·simp only [Act.put, List.setIfInBounds_toArray, List.set_cons_zero, List.set_cons_succ, i64_w, i32_w]
                      rfl
                     refine pure_ (i := 7) (N := some 120) (v := ?_) (a' := ?_) #[true, true, true, true, true, false, false, true, false, false, false, false, false, false, false, false] rfl rfl (any_of HT_.out (by kernel_rfl)) (fun _ _ _ h => h) (Or.inl ⟨by rfl, ?_⟩) ?_ ?_
                     rotate_left
                     ·intro w'
                      go_simp
                      with_reducible rfl
                     rotate_left
                     ·simp only [Act.put, List.setIfInBounds_toArray, List.set_cons_zero, List.set_cons_succ, i64_w, i32_w]
                      rfl
                     refine pure_ (i := 8) (N := some 121) (v := ?_) (a' := ?_) #[true, true, true, true, true, false, false, true, true, false, false, false, false, false, false, false] rfl rfl (any_of HT_.out (by kernel_rfl)) (fun _ _ _ h => h) (Or.inl ⟨by rfl, ?_⟩) ?_ ?_
                     rotate_left
                     ·intro w'
                      go_simp
                      with_reducible rfl
                     rotate_left
                     ·simp only [Act.put, List.setIfInBounds_toArray, List.set_cons_zero, List.set_cons_succ, i64_w, i32_w]
                      rfl
                     refine pure_ (i := 9) (N := some 122) (v := ?_) (a' := ?_) #[true, true, true, true, true, false, false, true, true, true, false, false, false, false, false, false] rfl rfl (any_of HT_.out (by kernel_rfl)) (fun _ _ _ h => h) (Or.inl ⟨by rfl, ?_⟩) ?_ ?_
                     rotate_left
                     ·intro w'
                      go_simp
                      with_reducible rfl
                     rotate_left
                     ·simp only [Act.put, List.setIfInBounds_toArray, List.set_cons_zero, List.set_cons_succ, i64_w, i32_w]
                      rfl
                     refine pure_ (i := 10) (N := some 123) (v := ?_) (a' := ?_) #[true, true, true, true, true, false, false, true, true, true, true, false, false, false, false, false] rfl rfl (any_of HT_.out (by kernel_rfl)) (fun _ _ _ h => h) (Or.inl ⟨by rfl, ?_⟩) ?_ ?_
                     rotate_left
                     ·intro w'
                      go_simp
                      with_reducible rfl
                     rotate_left
                     ·simp only [Act.put, List.setIfInBounds_toArray, List.set_cons_zero, List.set_cons_succ, i64_w, i32_w]
                      rfl
                     refine pure_ (i := 11) (N := some 124) (v := ?_) (a' := ?_) #[true, true, true, true, true, false, false, true, true, true, true, true, false, false, false, false] rfl rfl (any_of HT_.out (by kernel_rfl)) (fun _ _ _ h => h) (Or.inl ⟨by rfl, ?_⟩) ?_ ?_
                     rotate_left
                     ·intro w'
                      go_simp
                      with_reducible rfl
                     rotate_left
                     ·simp only [Act.put, List.setIfInBounds_toArray, List.set_cons_zero, List.set_cons_succ, i64_w, i32_w]
                      rfl
                     refine pure_ (i := 12) (N := some 125) (v := ?_) (a' := ?_) #[true, true, true, true, true, false, false, true, true, true, true, true, true, false, false, false] rfl rfl (any_of HT_.out (by kernel_rfl)) (fun _ _ _ h => h) (Or.inl ⟨by rfl, ?_⟩) ?_ ?_
                     rotate_left
                     ·intro w'
                      go_simp
                      with_reducible rfl
                     rotate_left
                     ·simp only [Act.put, List.setIfInBounds_toArray, List.set_cons_zero, List.set_cons_succ, i64_w, i32_w]
                      rfl
                     refine take_ (i := 5) (N := some 118) (v := ?_) (a' := ?_) #[true, true, true, true, true, true, false, true, true, true, true, true, true, false, false, false] rfl rfl (take_ofW HT_.out HW_.out (by kernel_rfl)) (fun _ _ _ h => h) (Or.inl ⟨by rfl, ?_⟩) hHeld ?_ ?_
                     rotate_left
                     ·rintro w' ⟨s0, s1⟩
                      go_simp
                      with_reducible rfl
                     rotate_left
                     ·simp only [Act.put, List.setIfInBounds_toArray, List.set_cons_zero, List.set_cons_succ, i64_w, i32_w]
                      rfl
                     refine pure_ (i := 6) (N := some 119) (v := ?_) (a' := ?_) #[true, true, true, true, true, true, true, true, true, true, true, true, true, false, false, false] rfl rfl (any_of HT_.out (by kernel_rfl)) (fun _ _ _ h => h) (Or.inl ⟨by rfl, ?_⟩) ?_ ?_
                     rotate_left
                     ·intro w'
                      go_simp
                      with_reducible rfl
                     rotate_left
                     ·simp only [Act.put, List.setIfInBounds_toArray, List.set_cons_zero, List.set_cons_succ, i64_w, i32_w]
                      rfl
                     refine take_ (i := 13) (N := some 126) (v := ?_) (a' := ?_) #[true, true, true, true, true, true, true, true, true, true, true, true, true, true, false, false] rfl rfl (take_ofW HT_.out HW_.out (by kernel_rfl)) (fun _ _ _ h => h) (Or.inl ⟨by rfl, ?_⟩) hHeld ?_ ?_
                     rotate_left
                     ·rintro w' ⟨s0, s1⟩
                      go_simp
                      with_reducible rfl
                     rotate_left
                     ·simp only [Act.put, List.setIfInBounds_toArray, List.set_cons_zero, List.set_cons_succ, i64_w, i32_w]
                      rfl
                     refine pure_ (i := 14) (N := some 127) (v := ?_) (a' := ?_) #[true, true, true, true, true, true, true, true, true, true, true, true, true, true, true, false] rfl rfl (any_of HT_.out (by kernel_rfl)) (fun _ _ _ h => h) (Or.inl ⟨by rfl, ?_⟩) ?_ ?_
                     rotate_left
                     ·intro w'
                      go_simp
                      with_reducible rfl
                     rotate_left
                     ·simp only [Act.put, List.setIfInBounds_toArray, List.set_cons_zero, List.set_cons_succ, i64_w, i32_w]
                      rfl
                     refine pure_ (i := 15) (N := some 16) (v := ?_) (a' := ?_) #[true, true, true, true, true, true, true, true, true, true, true, true, true, true, true, true] rfl rfl (any_of HT_.out (by kernel_rfl)) (fun _ _ _ h => h) (Or.inl ⟨by rfl, ?_⟩) ?_ ?_
                     rotate_left
                     ·intro w'
                      go_simp
                      with_reducible rfl
                     rotate_left
                     ·simp only [Act.put, List.setIfInBounds_toArray, List.set_cons_zero, List.set_cons_succ, i64_w, i32_w]
                      rfl
                     refine done_ (done_of HT_.out (by kernel_rfl)) ?_
                     try go_wp2
                     have n0_ := A_ (Kd.V_drew HO_11.out)
                     have n1_ := A_ (Kd.R_drew HO_12.out)
                     have n2_ := A_ (Kd.R_drew HO_14.out)
                     have n3_ := A_ (below_drew1 HB.out)
                     clear HO_11 HO_12
                     clear HO_14 HB
                     have HO_11 := n0_
                     have HO_12 := n1_
                     have HO_14 := n2_
                     have HB := n3_
                     clear n0_ n1_ n2_ n3_
                     have p457 : 0 ≤ ((ji61) : Int) := of_decide_eq_true as_
                     have q457 : (ji61) < (t428.length : Int) := of_decide_eq_true as_
                     obtain ⟨ad457, e457, hx457_0⟩ := Kd.at_int (Kd.V_reads' HO_11.out).2.2 (ji61) p457 q457
                     cases e457
                     replace p457 := eq_true p457
                     replace q457 := eq_true q457
                     have p458 : 0 ≤ ((ji61) : Int) := of_decide_eq_true as_
                     have q458 : (ji61) < (t428.length : Int) := of_decide_eq_true as_
                     obtain ⟨ad458, e458, hx458_0⟩ := Kd.at_int (Kd.V_reads' HO_11.out).2.2 (ji61) p458 q458
                     obtain rfl : ad457 = ad458 := (by injection e458)
                     replace p458 := eq_true p458
                     replace q458 := eq_true q458
                     refine start_ (n := 16) (S := fun w' => w'.cell? (ad457.add ((ji61)).toNat) = some (.int .i64 (rd t428 (ji61))) ∧ w'.cell? (ad457.add ((ji61)).toNat) = some (.int .i64 (rd t428 (ji61)))) (ds := []) #[false, false, false, false, false, false, false, false, false, false, false, false, false, false, false, false] (by kernel_rfl) rfl rfl ⟨hx457_0, hx458_0⟩ (fun hHeld => ?_); refine with_tabW impl_natDiv.tab23 impl_natDiv.bits23 (fun HT_ HW_ => ?_)
                     generalize w66.drew = w67 at HO_11 HO_12 HO_14 HB hx457_0 hx458_0 hHeld ⊢
                     refine pure_ (i := 0) (N := some 128) (v := ?_) (a' := ?_) #[true, false, false, false, false, false, false, false, false, false, false, false, false, false, false, false] rfl rfl (any_of HT_.out (by kernel_rfl)) (fun _ _ _ h => h) (Or.inl ⟨by rfl, ?_⟩) ?_ ?_
                     rotate_left
                     ·intro w'
                      go_simp
                      with_reducible rfl
                     rotate_left
                     ·simp only [Act.put, List.setIfInBounds_toArray, List.set_cons_zero, List.set_cons_succ, i64_w, i32_w]
                      rfl
                     refine pure_ (i := 1) (N := some 129) (v := ?_) (a' := ?_) #[true, true, false, false, false, false, false, false, false, false, false, false, false, false, false, false] rfl rfl (any_of HT_.out (by kernel_rfl)) (fun _ _ _ h => h) (Or.inl ⟨by rfl, ?_⟩) ?_ ?_
                     rotate_left
                     ·intro w'
                      go_simp
                      with_reducible rfl
                     rotate_left
                     ·simp only [Act.put, List.setIfInBounds_toArray, List.set_cons_zero, List.set_cons_succ, i64_w, i32_w]
                      rfl
                     refine pure_ (i := 2) (N := some 130) (v := ?_) (a' := ?_) #[true, true, true, false, false, false, false, false, false, false, false, false, false, false, false, false] rfl rfl (any_of HT_.out (by kernel_rfl)) (fun _ _ _ h => h) (Or.inl ⟨by rfl, ?_⟩) ?_ ?_
                     rotate_left
                     ·intro w'
                      go_simp
                      with_reducible rfl
                     rotate_left
                     ·simp only [Act.put, List.setIfInBounds_toArray, List.set_cons_zero, List.set_cons_succ, i64_w, i32_w]
                      rfl
                     refine pure_ (i := 3) (N := some 131) (v := ?_) (a' := ?_) #[true, true, true, true, false, false, false, false, false, false, false, false, false, false, false, false] rfl rfl (any_of HT_.out (by kernel_rfl)) (fun _ _ _ h => h) (Or.inl ⟨by rfl, ?_⟩) ?_ ?_
                     rotate_left
                     ·intro w'
                      go_simp
                      with_reducible rfl
                     rotate_left
                     ·simp only [Act.put, List.setIfInBounds_toArray, List.set_cons_zero, List.set_cons_succ, i64_w, i32_w]
                      rfl
                     refine pure_ (i := 4) (N := some 132) (v := ?_) (a' := ?_) #[true, true, true, true, true, false, false, false, false, false, false, false, false, false, false, false] rfl rfl (any_of HT_.out (by kernel_rfl)) (fun _ _ _ h => h) (Or.inl ⟨by rfl, ?_⟩) ?_ ?_
                     rotate_left
                     ·intro w'
                      go_simp
                      with_reducible rfl
                     rotate_left
                     ·simp only [Act.put, List.setIfInBounds_toArray, List.set_cons_zero, List.set_cons_succ, i64_w, i32_w]
                      rfl
                     refine pure_ (i := 7) (N := some 135) (v := ?_) (a' := ?_) #[true, true, true, true, true, false, false, true, false, false, false, false, false, false, false, false] rfl rfl (any_of HT_.out (by kernel_rfl)) (fun _ _ _ h => h) (Or.inl ⟨by rfl, ?_⟩) ?_ ?_
                     rotate_left
                     ·intro w'
                      go_simp
                      with_reducible rfl
                     rotate_left
                     ·simp only [Act.put, List.setIfInBounds_toArray, List.set_cons_zero, List.set_cons_succ, i64_w, i32_w]
                      rfl
                     refine pure_ (i := 8) (N := some 136) (v := ?_) (a' := ?_) #[true, true, true, true, true, false, false, true, true, false, false, false, false, false, false, false] rfl rfl (any_of HT_.out (by kernel_rfl)) (fun _ _ _ h => h) (Or.inl ⟨by rfl, ?_⟩) ?_ ?_
                     rotate_left
                     ·intro w'
                      go_simp
                      with_reducible rfl
                     rotate_left
                     ·simp only [Act.put, List.setIfInBounds_toArray, List.set_cons_zero, List.set_cons_succ, i64_w, i32_w]
                      rfl
                     refine pure_ (i := 9) (N := some 137) (v := ?_) (a' := ?_) #[true, true, true, true, true, false, false, true, true, true, false, false, false, false, false, false] rfl rfl (any_of HT_.out (by kernel_rfl)) (fun _ _ _ h => h) (Or.inl ⟨by rfl, ?_⟩) ?_ ?_
                     rotate_left
                     ·intro w'
                      go_simp
                      with_reducible rfl
                     rotate_left
                     ·simp only [Act.put, List.setIfInBounds_toArray, List.set_cons_zero, List.set_cons_succ, i64_w, i32_w]
                      rfl
                     refine pure_ (i := 10) (N := some 138) (v := ?_) (a' := ?_) #[true, true, true, true, true, false, false, true, true, true, true, false, false, false, false, false] rfl rfl (any_of HT_.out (by kernel_rfl)) (fun _ _ _ h => h) (Or.inl ⟨by rfl, ?_⟩) ?_ ?_
                     rotate_left
                     ·intro w'
                      go_simp
                      with_reducible rfl
                     rotate_left
                     ·simp only [Act.put, List.setIfInBounds_toArray, List.set_cons_zero, List.set_cons_succ, i64_w, i32_w]
                      rfl
                     refine pure_ (i := 11) (N := some 139) (v := ?_) (a' := ?_) #[true, true, true, true, true, false, false, true, true, true, true, true, false, false, false, false] rfl rfl (any_of HT_.out (by kernel_rfl)) (fun _ _ _ h => h) (Or.inl ⟨by rfl, ?_⟩) ?_ ?_
                     rotate_left
                     ·intro w'
                      go_simp
                      with_reducible rfl
                     rotate_left
                     ·simp only [Act.put, List.setIfInBounds_toArray, List.set_cons_zero, List.set_cons_succ, i64_w, i32_w]
                      rfl
                     refine take_ (i := 5) (N := some 133) (v := ?_) (a' := ?_) #[true, true, true, true, true, true, false, true, true, true, true, true, false, false, false, false] rfl rfl (take_ofW HT_.out HW_.out (by kernel_rfl)) (fun _ _ _ h => h) (Or.inl ⟨by rfl, ?_⟩) hHeld ?_ ?_
                     rotate_left
                     ·rintro w' ⟨s0, s1⟩
                      go_simp
                      with_reducible rfl
                     rotate_left
                     ·simp only [Act.put, List.setIfInBounds_toArray, List.set_cons_zero, List.set_cons_succ, i64_w, i32_w]
                      rfl
                     refine pure_ (i := 6) (N := some 134) (v := ?_) (a' := ?_) #[true, true, true, true, true, true, true, true, true, true, true, true, false, false, false, false] rfl rfl (any_of HT_.out (by kernel_rfl)) (fun _ _ _ h => h) (Or.inl ⟨by rfl, ?_⟩) ?_ ?_
                     rotate_left
                     ·intro w'
                      go_simp
                      with_reducible rfl
                     rotate_left
                     ·simp only [Act.put, List.setIfInBounds_toArray, List.set_cons_zero, List.set_cons_succ, i64_w, i32_w]
                      rfl
                     refine pure_ (i := 14) (N := some 17) (v := ?_) (a' := ?_) #[true, true, true, true, true, true, true, true, true, true, true, true, false, false, true, false] rfl rfl (any_of HT_.out (by kernel_rfl)) (fun _ _ _ h => h) (Or.inl ⟨by rfl, ?_⟩) ?_ ?_
                     rotate_left
                     ·intro w'
                      go_simp
                      with_reducible rfl
                     rotate_left
                     ·simp only [Act.put, List.setIfInBounds_toArray, List.set_cons_zero, List.set_cons_succ, i64_w, i32_w]
                      rfl
                     refine take_ (i := 12) (N := some 140) (v := ?_) (a' := ?_) #[true, true, true, true, true, true, true, true, true, true, true, true, true, false, true, false] rfl rfl (take_ofW HT_.out HW_.out (by kernel_rfl)) (fun _ _ _ h => h) (Or.inl ⟨by rfl, ?_⟩) hHeld ?_ ?_
                     rotate_left
                     ·rintro w' ⟨s0, s1⟩
                      go_simp
                      with_reducible rfl
                     rotate_left
                     ·simp only [Act.put, List.setIfInBounds_toArray, List.set_cons_zero, List.set_cons_succ, i64_w, i32_w]
                      rfl
                     refine pure_ (i := 13) (N := some 141) (v := ?_) (a' := ?_) #[true, true, true, true, true, true, true, true, true, true, true, true, true, true, true, false] rfl rfl (any_of HT_.out (by kernel_rfl)) (fun _ _ _ h => h) (Or.inl ⟨by rfl, ?_⟩) ?_ ?_
                     rotate_left
                     ·intro w'
                      go_simp
                      with_reducible rfl
                     rotate_left
                     ·simp only [Act.put, List.setIfInBounds_toArray, List.set_cons_zero, List.set_cons_succ, i64_w, i32_w]
                      rfl
                     refine pure_ (i := 15) (N := some 18) (v := ?_) (a' := ?_) #[true, true, true, true, true, true, true, true, true, true, true, true, true, true, true, true] rfl rfl (any_of HT_.out (by kernel_rfl)) (fun _ _ _ h => h) (Or.inl ⟨by rfl, ?_⟩) ?_ ?_
                     rotate_left
                     ·intro w'
                      go_simp
                      with_reducible rfl
                     rotate_left
                     ·simp only [Act.put, List.setIfInBounds_toArray, List.set_cons_zero, List.set_cons_succ, i64_w, i32_w]
                      rfl
                     refine done_ (done_of HT_.out (by kernel_rfl)) ?_
                     go_upto_block 6 with (fail)
                     go_cut [17] (fun v17 wc => ∃ (kq : Nat) (x17_64 : Int), v17 = .int .i64 x17_64 ∧ Aside0 (impl_natDiv.j5 kq (wrap64 (16 - t427)) t428 x12_2 (t428.length : Int) x14_2 x15_2 x17_64 = some (r1, r2)) ∧ Aside0 (kq ≤ k2) ∧ Aside0 (Kd.V (Kd.int .i64) 3 wc w.heap.size (fun k_ => (w.heap.size ≤ k_) ∧ some k_ ≠ ((.slice (some ad455) x12_2.length co51) : Value).ownBlock ∧ some k_ ≠ (v444 : Value).ownBlock) (.slice (some ad457) t428.length co43) t428) ∧ Aside0 (Kd.R (Kd.int .i64) 3 wc w.heap.size (fun k_ => (w.heap.size ≤ k_) ∧ some k_ ≠ (v444 : Value).ownBlock) (.slice (some ad455) x12_2.length co51) x12_2) ∧ Aside0 (Kd.R (Kd.int .i64) 3 wc w.heap.size (fun k_ => (w.heap.size ≤ k_) ∧ some k_ ≠ ((.slice (some ad455) x12_2.length co51) : Value).ownBlock) v444 x14_2) ∧ Aside0 (Below w.heap.size w wc))
                     case first =>
                      have H := HC65.out
                      clear HC65
                      have H' := A_ H
                      clear H
                      go_wp2
                      go_loopg [17, 18] k2 (fun kq v17 v18 w' => ∃ (x17_3 : Int) (x18_3 : Int), v17 = .int .i64 x17_3 ∧ v18 = .int .i64 x18_3 ∧ Aside0 (impl_natDiv.l3 kq (wrap64 (16 - t427)) t428 x12_2 (t428.length : Int) x14_2 x15_2 x17_3 x18_3 = some (r1, r2)) ∧ Aside0 (kq ≤ k2) ∧ Aside0 (Kd.V (Kd.int .i64) 3 w' w.heap.size (fun k_ => (w.heap.size ≤ k_) ∧ some k_ ≠ ((.slice (some ad455) x12_2.length co51) : Value).ownBlock ∧ some k_ ≠ (v444 : Value).ownBlock) (.slice (some ad457) t428.length co43) t428) ∧ Aside0 (Kd.R (Kd.int .i64) 3 w' w.heap.size (fun k_ => (w.heap.size ≤ k_) ∧ some k_ ≠ (v444 : Value).ownBlock) (.slice (some ad455) x12_2.length co51) x12_2) ∧ Aside0 (Kd.R (Kd.int .i64) 3 w' w.heap.size (fun k_ => (w.heap.size ≤ k_) ∧ some k_ ≠ ((.slice (some ad455) x12_2.length co51) : Value).ownBlock) v444 x14_2) ∧ Aside0 (Below w.heap.size w w'))
                      case atStart => exact ⟨(wrap64 (Int.tdiv (Go.bits .or .i64 (wrap64 ((rd x12_2 (ji55)) * 65536)) (rd x12_2 (ji58))) (rd t428 (ji61)))), (Int.tmod (Go.bits .or .i64 (wrap64 ((rd x12_2 (ji55)) * 65536)) (rd x12_2 (ji58))) (rd t428 (ji61))), (by first | rfl | (simp; done) | (simp only [← hji55, ← hji58, ← hji61] <;> (first | rfl | simp)) | (simp [*]; done)), (by first | rfl | (simp; done) | (simp only [← hji55, ← hji58, ← hji61] <;> (first | rfl | simp)) | (simp [*]; done)), H', ⟨Nat.le_refl _⟩, ⟨by (try simp only [hl12_2]); (with_reducible repeat (first | apply Kd.V_alloc | apply Kd.V_drewN | apply Kd.V_drew)); exact HO_11.out⟩, ⟨by (try simp only [hl12_2]); (with_reducible repeat (first | apply Kd.R_alloc | apply Kd.R_drewN | apply Kd.R_drew)); exact HO_12.out⟩, ⟨by (try simp only [hl12_2]); (with_reducible repeat (first | apply Kd.R_alloc | apply Kd.R_drewN | apply Kd.R_drew)); exact HO_14.out⟩, ⟨hB_⟩⟩
                      case round =>
                       clear H'
                       (try clear c1); (try clear p1); (try clear q1); (try clear hx1); (try clear p2); (try clear c3); (try clear c4); (try clear c4b0); (try clear p4); (try clear q4); (try clear hx4); (try clear qi4); (try clear c5); (try clear c6); (try clear c6b0); (try clear c6b1); (try clear p6); (try clear c7); (try clear c7b0); (try clear c7b1); (try clear c8); (try clear c8b0); (try clear c8b1); (try clear c12); (try clear c12b0); (try clear c13); (try clear c13b0); (try clear c14); (try clear c14b0); (try clear c15); (try clear c15b0); (try clear c15b1); (try clear c16); (try clear c16b0); (try clear c16b1); (try clear c17); (try clear c17b0); (try clear p18); (try clear q18); (try clear hx18); (try clear hf18); (try clear c30); (try clear c30b0); (try clear c31); (try clear c31b0); (try clear c36); (try clear p41); (try clear q41); (try clear hx41); (try clear qi41); (try clear p42); (try clear q42); (try clear hx42); (try clear c44); (try clear c44b0); (try clear c45); (try clear p45); (try clear q45); (try clear hx45); (try clear c47); (try clear c49); (try clear c49b0); (try clear c49b1); (try clear c50); (try clear c50b0); (try clear c50b1); (try clear c54); (try clear c54b0); (try clear c56); (try clear c56b0); (try clear c57); (try clear c57b0); (try clear c59); (try clear c59b0); (try clear c60); (try clear c60b0); (try clear c62); (try clear c62b0); (try clear c63); (try clear c63b0); (try clear c64); (try clear c64b0); (try clear c64b1); (try clear p64); (try clear hx18_0); (try clear hx413_0); (try clear hx414_0); (try clear hx415_0); (try clear hx426_0); (try clear hx455_0); (try clear hx456_0); (try clear hx457_0); (try clear hx458_0); (try clear p1); (try clear p18); (try clear p2); (try clear p4); (try clear p41); (try clear p413); (try clear p414); (try clear p415); (try clear p42); (try clear p426); (try clear p455); (try clear p456); (try clear p457); (try clear p458); (try clear p6); (try clear q1); (try clear q18); (try clear q4); (try clear q41); (try clear q413); (try clear q414); (try clear q415); (try clear q42); (try clear q426); (try clear q455); (try clear q456); (try clear q457); (try clear q458)
                       obtain ⟨x17_3, x18_3, rfl, rfl, HA, HK3, HO_11, HO_12, HO_14, HB⟩ := hrel
                       cases gk with
                       | zero => exact absurd HA.out (by simp [impl_natDiv.l3])
                       | succ k3 =>
                        have H := HA.out
                        clear HA
                        simp only [impl_natDiv.l3] at H
                        have HC68 := A_ H
                        clear H
                        go_upto_region 24 with (fail)
                        go_cut [163] (fun v163 wc => ∃ (kq : Nat) (x163_67 : Bool), v163 = .bool x163_67 ∧ Aside0 (impl_natDiv.j4 kq (wrap64 (16 - t427)) t428 x12_2 (t428.length : Int) x14_2 x15_2 x17_3 x18_3 x163_67 = some (r1, r2)) ∧ Aside0 (kq ≤ k3) ∧ Aside0 (Kd.V (Kd.int .i64) 3 wc w.heap.size (fun k_ => (w.heap.size ≤ k_) ∧ some k_ ≠ ((.slice (some ad455) x12_2.length co51) : Value).ownBlock ∧ some k_ ≠ (v444 : Value).ownBlock) (.slice (some ad457) t428.length co43) t428) ∧ Aside0 (Kd.R (Kd.int .i64) 3 wc w.heap.size (fun k_ => (w.heap.size ≤ k_) ∧ some k_ ≠ (v444 : Value).ownBlock) (.slice (some ad455) x12_2.length co51) x12_2) ∧ Aside0 (Kd.R (Kd.int .i64) 3 wc w.heap.size (fun k_ => (w.heap.size ≤ k_) ∧ some k_ ≠ ((.slice (some ad455) x12_2.length co51) : Value).ownBlock) v444 x14_2) ∧ Aside0 (Below w.heap.size w wc))
                        case first =>
                         have H := HC68.out
                         clear HC68
                         by_cases c69 : x17_3 ≥ 65536
                         ·rw [if_pos c69] at H
                          have c69b0 : decide (65536 ≤ x17_3) = true := decide_eq_true c69
                          clear c69
                          (first | rw [c69b0] | (simp only [i64_w, i32_w]; rw [c69b0]) | skip)
                          have H' := A_ H
                          clear H
                          try go_wp2
                          have n0_ := A_ (Kd.V_drew HO_11.out)
                          have n1_ := A_ (Kd.R_drew HO_12.out)
                          have n2_ := A_ (Kd.R_drew HO_14.out)
                          have n3_ := A_ (below_drew1 HB.out)
                          clear HO_11 HO_12
                          clear HO_14 HB
                          have HO_11 := n0_
                          have HO_12 := n1_
                          have HO_14 := n2_
                          have HB := n3_
                          clear n0_ n1_ n2_ n3_
                          refine start_ (n := 22) (S := fun w' => True) (ds := []) #[false, false, false, false, false, false, false, false, false, false, false, false, false, false, false, false, false, false, false, false, false, false] (by kernel_rfl) rfl rfl trivial (fun hHeld => ?_); refine with_tabW impl_natDiv.tab24 impl_natDiv.bits24 (fun HT_ HW_ => ?_)
                          generalize wr.drew = w70 at HO_11 HO_12 HO_14 HB hHeld ⊢
                          refine pure_ (i := 0) (N := some 142) (v := ?_) (a' := ?_) #[true, false, false, false, false, false, false, false, false, false, false, false, false, false, false, false, false, false, false, false, false, false] rfl rfl (any_of HT_.out (by kernel_rfl)) (fun _ _ _ h => h) (Or.inl ⟨by rfl, ?_⟩) ?_ ?_
                          rotate_left
                          ·intro w'
                           go_simp
                           with_reducible rfl
                          rotate_left
                          ·simp only [Act.put, List.setIfInBounds_toArray, List.set_cons_zero, List.set_cons_succ, i64_w, i32_w]
                           rfl
                          refine pure_ (i := 1) (N := some 143) (v := ?_) (a' := ?_) #[true, true, false, false, false, false, false, false, false, false, false, false, false, false, false, false, false, false, false, false, false, false] rfl rfl (any_of HT_.out (by kernel_rfl)) (fun _ _ _ h => h) (Or.inl ⟨by rfl, ?_⟩) ?_ ?_
                          rotate_left
                          ·intro w'
                           go_simp
                           with_reducible rfl
                          rotate_left
                          ·simp only [Act.put, List.setIfInBounds_toArray, List.set_cons_zero, List.set_cons_succ, i64_w, i32_w]
                           rfl
                          refine pure_ (i := 2) (N := some 144) (v := ?_) (a' := ?_) #[true, true, true, false, false, false, false, false, false, false, false, false, false, false, false, false, false, false, false, false, false, false] rfl rfl (any_of HT_.out (by kernel_rfl)) (fun _ _ _ h => h) (Or.inl ⟨by rfl, ?_⟩) ?_ ?_
                          rotate_left
                          ·intro w'
                           go_simp
                           with_reducible rfl
                          rotate_left
                          ·simp only [Act.put, List.setIfInBounds_toArray, List.set_cons_zero, List.set_cons_succ, i64_w, i32_w]
                           rfl
                          refine pure_ (i := 3) (N := some 145) (v := undef) (a' := ?_) #[true, true, true, true, false, false, false, false, false, false, false, false, false, false, false, false, false, false, false, false, false, false] rfl rfl (any_of HT_.out (by kernel_rfl)) (fun _ _ _ h => h) (Or.inr ⟨by rfl, rfl⟩) ?_ ?_
                          rotate_left
                          ·simp only [Act.put, List.setIfInBounds_toArray, List.set_cons_zero, List.set_cons_succ, i64_w, i32_w]
                           rfl
                          refine pure_ (i := 4) (N := some 146) (v := undef) (a' := ?_) #[true, true, true, true, true, false, false, false, false, false, false, false, false, false, false, false, false, false, false, false, false, false] rfl rfl (any_of HT_.out (by kernel_rfl)) (fun _ _ _ h => h) (Or.inr ⟨by rfl, rfl⟩) ?_ ?_
                          rotate_left
                          ·simp only [Act.put, List.setIfInBounds_toArray, List.set_cons_zero, List.set_cons_succ, i64_w, i32_w]
                           rfl
                          refine pure_ (i := 5) (N := some 147) (v := undef) (a' := ?_) #[true, true, true, true, true, true, false, false, false, false, false, false, false, false, false, false, false, false, false, false, false, false] rfl rfl (any_of HT_.out (by kernel_rfl)) (fun _ _ _ h => h) (Or.inr ⟨by rfl, rfl⟩) ?_ ?_
                          rotate_left
                          ·simp only [Act.put, List.setIfInBounds_toArray, List.set_cons_zero, List.set_cons_succ, i64_w, i32_w]
                           rfl
                          refine pure_ (i := 6) (N := some 148) (v := undef) (a' := ?_) #[true, true, true, true, true, true, true, false, false, false, false, false, false, false, false, false, false, false, false, false, false, false] rfl rfl (any_of HT_.out (by kernel_rfl)) (fun _ _ _ h => h) (Or.inr ⟨by rfl, rfl⟩) ?_ ?_
                          rotate_left
                          ·simp only [Act.put, List.setIfInBounds_toArray, List.set_cons_zero, List.set_cons_succ, i64_w, i32_w]
                           rfl
                          refine pure_ (i := 7) (N := some 149) (v := undef) (a' := ?_) #[true, true, true, true, true, true, true, true, false, false, false, false, false, false, false, false, false, false, false, false, false, false] rfl rfl (any_of HT_.out (by kernel_rfl)) (fun _ _ _ h => h) (Or.inr ⟨by rfl, rfl⟩) ?_ ?_
                          rotate_left
                          ·simp only [Act.put, List.setIfInBounds_toArray, List.set_cons_zero, List.set_cons_succ, i64_w, i32_w]
                           rfl
                          refine pure_ (i := 8) (N := some 150) (v := undef) (a' := ?_) #[true, true, true, true, true, true, true, true, true, false, false, false, false, false, false, false, false, false, false, false, false, false] rfl rfl (any_of HT_.out (by kernel_rfl)) (fun _ _ _ h => h) (Or.inr ⟨by rfl, rfl⟩) ?_ ?_
                          rotate_left
                          ·simp only [Act.put, List.setIfInBounds_toArray, List.set_cons_zero, List.set_cons_succ, i64_w, i32_w]
                           rfl
                          refine pure_ (i := 9) (N := some 151) (v := undef) (a' := ?_) #[true, true, true, true, true, true, true, true, true, true, false, false, false, false, false, false, false, false, false, false, false, false] rfl rfl (any_of HT_.out (by kernel_rfl)) (fun _ _ _ h => h) (Or.inr ⟨by rfl, rfl⟩) ?_ ?_
                          rotate_left
                          ·simp only [Act.put, List.setIfInBounds_toArray, List.set_cons_zero, List.set_cons_succ, i64_w, i32_w]
                           rfl
                          refine pure_ (i := 10) (N := some 152) (v := undef) (a' := ?_) #[true, true, true, true, true, true, true, true, true, true, true, false, false, false, false, false, false, false, false, false, false, false] rfl rfl (any_of HT_.out (by kernel_rfl)) (fun _ _ _ h => h) (Or.inr ⟨by rfl, rfl⟩) ?_ ?_
                          rotate_left
                          ·simp only [Act.put, List.setIfInBounds_toArray, List.set_cons_zero, List.set_cons_succ, i64_w, i32_w]
                           rfl
                          refine pure_ (i := 11) (N := some 153) (v := undef) (a' := ?_) #[true, true, true, true, true, true, true, true, true, true, true, true, false, false, false, false, false, false, false, false, false, false] rfl rfl (any_of HT_.out (by kernel_rfl)) (fun _ _ _ h => h) (Or.inr ⟨by rfl, rfl⟩) ?_ ?_
                          rotate_left
                          ·simp only [Act.put, List.setIfInBounds_toArray, List.set_cons_zero, List.set_cons_succ, i64_w, i32_w]
                           rfl
                          refine pure_ (i := 12) (N := some 154) (v := undef) (a' := ?_) #[true, true, true, true, true, true, true, true, true, true, true, true, true, false, false, false, false, false, false, false, false, false] rfl rfl (any_of HT_.out (by kernel_rfl)) (fun _ _ _ h => h) (Or.inr ⟨by rfl, rfl⟩) ?_ ?_
                          rotate_left
                          ·simp only [Act.put, List.setIfInBounds_toArray, List.set_cons_zero, List.set_cons_succ, i64_w, i32_w]
                           rfl
                          refine pure_ (i := 13) (N := some 155) (v := undef) (a' := ?_) #[true, true, true, true, true, true, true, true, true, true, true, true, true, true, false, false, false, false, false, false, false, false] rfl rfl (any_of HT_.out (by kernel_rfl)) (fun _ _ _ h => h) (Or.inr ⟨by rfl, rfl⟩) ?_ ?_
                          rotate_left
                          ·simp only [Act.put, List.setIfInBounds_toArray, List.set_cons_zero, List.set_cons_succ, i64_w, i32_w]
                           rfl
                          refine pure_ (i := 14) (N := some 156) (v := undef) (a' := ?_) #[true, true, true, true, true, true, true, true, true, true, true, true, true, true, true, false, false, false, false, false, false, false] rfl rfl (any_of HT_.out (by kernel_rfl)) (fun _ _ _ h => h) (Or.inr ⟨by rfl, rfl⟩) ?_ ?_
                          rotate_left
                          ·simp only [Act.put, List.setIfInBounds_toArray, List.set_cons_zero, List.set_cons_succ, i64_w, i32_w]
                           rfl
                          refine pure_ (i := 15) (N := some 157) (v := undef) (a' := ?_) #[true, true, true, true, true, true, true, true, true, true, true, true, true, true, true, true, false, false, false, false, false, false] rfl rfl (any_of HT_.out (by kernel_rfl)) (fun _ _ _ h => h) (Or.inr ⟨by rfl, rfl⟩) ?_ ?_
                          rotate_left
                          ·simp only [Act.put, List.setIfInBounds_toArray, List.set_cons_zero, List.set_cons_succ, i64_w, i32_w]
                           rfl
                          refine pure_ (i := 16) (N := some 158) (v := undef) (a' := ?_) #[true, true, true, true, true, true, true, true, true, true, true, true, true, true, true, true, true, false, false, false, false, false] rfl rfl (any_of HT_.out (by kernel_rfl)) (fun _ _ _ h => h) (Or.inr ⟨by rfl, rfl⟩) ?_ ?_
                          rotate_left
                          ·simp only [Act.put, List.setIfInBounds_toArray, List.set_cons_zero, List.set_cons_succ, i64_w, i32_w]
                           rfl
                          refine pure_ (i := 17) (N := some 159) (v := undef) (a' := ?_) #[true, true, true, true, true, true, true, true, true, true, true, true, true, true, true, true, true, true, false, false, false, false] rfl rfl (any_of HT_.out (by kernel_rfl)) (fun _ _ _ h => h) (Or.inr ⟨by rfl, rfl⟩) ?_ ?_
                          rotate_left
                          ·simp only [Act.put, List.setIfInBounds_toArray, List.set_cons_zero, List.set_cons_succ, i64_w, i32_w]
                           rfl
                          refine pure_ (i := 18) (N := some 160) (v := undef) (a' := ?_) #[true, true, true, true, true, true, true, true, true, true, true, true, true, true, true, true, true, true, true, false, false, false] rfl rfl (any_of HT_.out (by kernel_rfl)) (fun _ _ _ h => h) (Or.inr ⟨by rfl, rfl⟩) ?_ ?_
                          rotate_left
                          ·simp only [Act.put, List.setIfInBounds_toArray, List.set_cons_zero, List.set_cons_succ, i64_w, i32_w]
                           rfl
                          refine pure_ (i := 19) (N := some 161) (v := undef) (a' := ?_) #[true, true, true, true, true, true, true, true, true, true, true, true, true, true, true, true, true, true, true, true, false, false] rfl rfl (any_of HT_.out (by kernel_rfl)) (fun _ _ _ h => h) (Or.inr ⟨by rfl, rfl⟩) ?_ ?_
                          rotate_left
                          ·simp only [Act.put, List.setIfInBounds_toArray, List.set_cons_zero, List.set_cons_succ, i64_w, i32_w]
                           rfl
                          refine pure_ (i := 20) (N := some 162) (v := undef) (a' := ?_) #[true, true, true, true, true, true, true, true, true, true, true, true, true, true, true, true, true, true, true, true, true, false] rfl rfl (any_of HT_.out (by kernel_rfl)) (fun _ _ _ h => h) (Or.inr ⟨by rfl, rfl⟩) ?_ ?_
                          rotate_left
                          ·simp only [Act.put, List.setIfInBounds_toArray, List.set_cons_zero, List.set_cons_succ, i64_w, i32_w]
                           rfl
                          refine pure_ (i := 21) (N := some 163) (v := ?_) (a' := ?_) #[true, true, true, true, true, true, true, true, true, true, true, true, true, true, true, true, true, true, true, true, true, true] rfl rfl (any_of HT_.out (by kernel_rfl)) (fun _ _ _ h => h) (Or.inl ⟨by rfl, ?_⟩) ?_ ?_
                          rotate_left
                          ·intro w'
                           go_simp
                           with_reducible rfl
                          rotate_left
                          ·simp only [Act.put, List.setIfInBounds_toArray, List.set_cons_zero, List.set_cons_succ, i64_w, i32_w]
                           rfl
                          refine done_ (done_of HT_.out (by kernel_rfl)) ?_
                          try go_wp2
                          go_meet
                          case rel => exact ⟨_, (true), (by first | rfl | (simp; done) | (simp [*]; done)), H', ⟨by have := HK1.out; have := HK2.out; have := HK3.out; first | omega | exact Nat.le_refl _⟩, ⟨by (try simp only [hl12_2]); (with_reducible repeat (first | apply Kd.V_alloc | apply Kd.V_drewN | apply Kd.V_drew)); exact HO_11.out⟩, ⟨by (try simp only [hl12_2]); (with_reducible repeat (first | apply Kd.R_alloc | apply Kd.R_drewN | apply Kd.R_drew)); exact HO_12.out⟩, ⟨by (try simp only [hl12_2]); (with_reducible repeat (first | apply Kd.R_alloc | apply Kd.R_drewN | apply Kd.R_drew)); exact HO_14.out⟩, ⟨hB_⟩⟩
                         ·rw [if_neg c69] at H
                          have c69b0 : decide (65536 ≤ x17_3) = false := decide_eq_false c69
                          clear c69
                          (first | rw [c69b0] | (simp only [i64_w, i32_w]; rw [c69b0]) | skip)
                          obtain ⟨ji71, hji71⟩ : ∃ j_ : Int, (wrap64 ((t428.length : Int) - 2)) = j_ := ⟨_, rfl⟩
                          replace H : (if 0 ≤ (ji71) then (if (ji71) < (t428.length : Int) then (if 0 ≤ (wrap64 ((ji55) - 2)) then (if (wrap64 ((ji55) - 2)) < (x12_2.length : Int) then (impl_natDiv.j4 k3 (wrap64 (16 - t427)) t428 x12_2 (t428.length : Int) x14_2 x15_2 x17_3 x18_3 (decide ((wrap64 (x17_3 * (rd t428 (ji71)))) > (Go.bits .or .i64 (wrap64 (x18_3 * 65536)) (rd x12_2 (wrap64 ((ji55) - 2))))))) else (none)) else (none)) else (none)) else (none)) = some (r1, r2) := by first | (rw [hji71] at H; exact H) | (simp only [hji71] at H ⊢; exact H) | (simp only [hji29, hji48, hji55, hji58, hji61, hji71] at H ⊢; exact H) | (simp only [hji29, hji48, hji55, hji58, hji61, hji71] at H; exact H) | exact H
                          have hji71w : (IntKind.i64.wrap ((t428.length : Int) - 2)) = ji71 := (i64_w _).trans hji71
                          by_cases c72 : 0 ≤ (ji71)
                          ·rw [if_pos c72] at H
                           have c72b0 : decide (0 ≤ (ji71)) = true := decide_eq_true c72
                           clear c72
                           by_cases c73 : (ji71) < (t428.length : Int)
                           ·rw [if_pos c73] at H
                            have c73b0 : decide ((ji71) < (t428.length : Int)) = true := decide_eq_true c73
                            (try (have c73b0_ := c73b0; simp only [hl12_2] at c73b0_))
                            clear c73
                            obtain ⟨ji74, hji74⟩ : ∃ j_ : Int, (wrap64 ((ji55) - 2)) = j_ := ⟨_, rfl⟩
                            replace H : (if 0 ≤ (ji74) then (if (ji74) < (x12_2.length : Int) then (impl_natDiv.j4 k3 (wrap64 (16 - t427)) t428 x12_2 (t428.length : Int) x14_2 x15_2 x17_3 x18_3 (decide ((wrap64 (x17_3 * (rd t428 (ji71)))) > (Go.bits .or .i64 (wrap64 (x18_3 * 65536)) (rd x12_2 (ji74)))))) else (none)) else (none)) = some (r1, r2) := by first | (rw [hji74] at H; exact H) | (simp only [hji74] at H ⊢; exact H) | (simp only [hji29, hji48, hji55, hji58, hji61, hji71, hji74] at H ⊢; exact H) | (simp only [hji29, hji48, hji55, hji58, hji61, hji71, hji74] at H; exact H) | exact H
                            have hji74w : (IntKind.i64.wrap ((ji55) - 2)) = ji74 := (i64_w _).trans hji74
                            by_cases c75 : 0 ≤ (ji74)
                            ·rw [if_pos c75] at H
                             have c75b0 : decide (0 ≤ (ji74)) = true := decide_eq_true c75
                             clear c75
                             by_cases c76 : (ji74) < (x12_2.length : Int)
                             ·rw [if_pos c76] at H
                              have c76b0 : decide ((ji74) < (x12_2.length : Int)) = true := decide_eq_true c76
                              (try (have c76b0_ := c76b0; simp only [hl12_2] at c76b0_))
                              clear c76
                              have H' := A_ H
                              clear H
                              try go_wp2
                              have n0_ := A_ (Kd.V_drew HO_11.out)
                              have n1_ := A_ (Kd.R_drew HO_12.out)
                              have n2_ := A_ (Kd.R_drew HO_14.out)
                              have n3_ := A_ (below_drew1 HB.out)
                              clear HO_11 HO_12
                              clear HO_14 HB
                              have HO_11 := n0_
                              have HO_12 := n1_
                              have HO_14 := n2_
                              have HB := n3_
                              clear n0_ n1_ n2_ n3_
                              have p459 : 0 ≤ ((ji71) : Int) := of_decide_eq_true as_
                              have q459 : (ji71) < (t428.length : Int) := of_decide_eq_true as_
                              obtain ⟨ad459, e459, hx459_0⟩ := Kd.at_int (Kd.V_reads' HO_11.out).2.2 (ji71) p459 q459
                              obtain rfl : ad457 = ad459 := (by injection e459)
                              replace p459 := eq_true p459
                              replace q459 := eq_true q459
                              have p460 : 0 ≤ ((ji74) : Int) := of_decide_eq_true as_
                              have q460 : (ji74) < (x12_2.length : Int) := of_decide_eq_true as_
                              obtain ⟨ad460, e460, hx460_0⟩ := Kd.at_int (Kd.R_reads' HO_12.out).2.2 (ji74) p460 q460
                              obtain rfl : ad455 = ad460 := (by injection e460)
                              replace p460 := eq_true p460
                              replace q460 := eq_true q460
                              refine start_ (n := 22) (S := fun w' => w'.cell? (ad457.add ((ji71)).toNat) = some (.int .i64 (rd t428 (ji71))) ∧ w'.cell? (ad455.add ((ji74)).toNat) = some (.int .i64 (rd x12_2 (ji74)))) (ds := []) #[false, false, false, false, false, false, false, false, false, false, false, false, false, false, false, false, false, false, false, false, false, false] (by kernel_rfl) rfl rfl ⟨hx459_0, hx460_0⟩ (fun hHeld => ?_); refine with_tabW impl_natDiv.tab24 impl_natDiv.bits24 (fun HT_ HW_ => ?_)
                              generalize wr.drew = w77 at HO_11 HO_12 HO_14 HB hx459_0 hx460_0 hHeld ⊢
                              refine pure_ (i := 0) (N := some 142) (v := ?_) (a' := ?_) #[true, false, false, false, false, false, false, false, false, false, false, false, false, false, false, false, false, false, false, false, false, false] rfl rfl (any_of HT_.out (by kernel_rfl)) (fun _ _ _ h => h) (Or.inl ⟨by rfl, ?_⟩) ?_ ?_
                              rotate_left
                              ·intro w'
                               go_simp
                               with_reducible rfl
                              rotate_left
                              ·simp only [Act.put, List.setIfInBounds_toArray, List.set_cons_zero, List.set_cons_succ, i64_w, i32_w]
                               rfl
                              refine pure_ (i := 1) (N := some 143) (v := ?_) (a' := ?_) #[true, true, false, false, false, false, false, false, false, false, false, false, false, false, false, false, false, false, false, false, false, false] rfl rfl (any_of HT_.out (by kernel_rfl)) (fun _ _ _ h => h) (Or.inl ⟨by rfl, ?_⟩) ?_ ?_
                              rotate_left
                              ·intro w'
                               go_simp
                               with_reducible rfl
                              rotate_left
                              ·simp only [Act.put, List.setIfInBounds_toArray, List.set_cons_zero, List.set_cons_succ, i64_w, i32_w]
                               rfl
                              refine pure_ (i := 2) (N := some 144) (v := ?_) (a' := ?_) #[true, true, true, false, false, false, false, false, false, false, false, false, false, false, false, false, false, false, false, false, false, false] rfl rfl (any_of HT_.out (by kernel_rfl)) (fun _ _ _ h => h) (Or.inl ⟨by rfl, ?_⟩) ?_ ?_
                              rotate_left
                              ·intro w'
                               go_simp
                               with_reducible rfl
                              rotate_left
                              ·simp only [Act.put, List.setIfInBounds_toArray, List.set_cons_zero, List.set_cons_succ, i64_w, i32_w]
                               rfl
                              refine pure_ (i := 3) (N := some 145) (v := ?_) (a' := ?_) #[true, true, true, true, false, false, false, false, false, false, false, false, false, false, false, false, false, false, false, false, false, false] rfl rfl (any_of HT_.out (by kernel_rfl)) (fun _ _ _ h => h) (Or.inl ⟨by rfl, ?_⟩) ?_ ?_
                              rotate_left
                              ·intro w'
                               go_simp
                               with_reducible rfl
                              rotate_left
                              ·simp only [Act.put, List.setIfInBounds_toArray, List.set_cons_zero, List.set_cons_succ, i64_w, i32_w]
                               rfl
                              refine pure_ (i := 4) (N := some 146) (v := ?_) (a' := ?_) #[true, true, true, true, true, false, false, false, false, false, false, false, false, false, false, false, false, false, false, false, false, false] rfl rfl (any_of HT_.out (by kernel_rfl)) (fun _ _ _ h => h) (Or.inl ⟨by rfl, ?_⟩) ?_ ?_
                              rotate_left
                              ·intro w'
                               go_simp
                               with_reducible rfl
                              rotate_left
                              ·simp only [Act.put, List.setIfInBounds_toArray, List.set_cons_zero, List.set_cons_succ, i64_w, i32_w]
                               rfl
                              refine pure_ (i := 5) (N := some 147) (v := ?_) (a' := ?_) #[true, true, true, true, true, true, false, false, false, false, false, false, false, false, false, false, false, false, false, false, false, false] rfl rfl (any_of HT_.out (by kernel_rfl)) (fun _ _ _ h => h) (Or.inl ⟨by rfl, ?_⟩) ?_ ?_
                              rotate_left
                              ·intro w'
                               go_simp
                               with_reducible rfl
                              rotate_left
                              ·simp only [Act.put, List.setIfInBounds_toArray, List.set_cons_zero, List.set_cons_succ, i64_w, i32_w]
                               rfl
                              refine pure_ (i := 6) (N := some 148) (v := ?_) (a' := ?_) #[true, true, true, true, true, true, true, false, false, false, false, false, false, false, false, false, false, false, false, false, false, false] rfl rfl (any_of HT_.out (by kernel_rfl)) (fun _ _ _ h => h) (Or.inl ⟨by rfl, ?_⟩) ?_ ?_
                              rotate_left
                              ·intro w'
                               go_simp
                               with_reducible rfl
                              rotate_left
                              ·simp only [Act.put, List.setIfInBounds_toArray, List.set_cons_zero, List.set_cons_succ, i64_w, i32_w]
                               rfl
                              refine pure_ (i := 7) (N := some 149) (v := ?_) (a' := ?_) #[true, true, true, true, true, true, true, true, false, false, false, false, false, false, false, false, false, false, false, false, false, false] rfl rfl (any_of HT_.out (by kernel_rfl)) (fun _ _ _ h => h) (Or.inl ⟨by rfl, ?_⟩) ?_ ?_
                              rotate_left
                              ·intro w'
                               go_simp
                               with_reducible rfl
                              rotate_left
                              ·simp only [Act.put, List.setIfInBounds_toArray, List.set_cons_zero, List.set_cons_succ, i64_w, i32_w]
                               rfl
                              refine pure_ (i := 10) (N := some 152) (v := ?_) (a' := ?_) #[true, true, true, true, true, true, true, true, false, false, true, false, false, false, false, false, false, false, false, false, false, false] rfl rfl (any_of HT_.out (by kernel_rfl)) (fun _ _ _ h => h) (Or.inl ⟨by rfl, ?_⟩) ?_ ?_
                              rotate_left
                              ·intro w'
                               go_simp
                               with_reducible rfl
                              rotate_left
                              ·simp only [Act.put, List.setIfInBounds_toArray, List.set_cons_zero, List.set_cons_succ, i64_w, i32_w]
                               rfl
                              refine pure_ (i := 11) (N := some 153) (v := ?_) (a' := ?_) #[true, true, true, true, true, true, true, true, false, false, true, true, false, false, false, false, false, false, false, false, false, false] rfl rfl (any_of HT_.out (by kernel_rfl)) (fun _ _ _ h => h) (Or.inl ⟨by rfl, ?_⟩) ?_ ?_
                              rotate_left
                              ·intro w'
                               go_simp
                               with_reducible rfl
                              rotate_left
                              ·simp only [Act.put, List.setIfInBounds_toArray, List.set_cons_zero, List.set_cons_succ, i64_w, i32_w]
                               rfl
                              refine pure_ (i := 12) (N := some 154) (v := ?_) (a' := ?_) #[true, true, true, true, true, true, true, true, false, false, true, true, true, false, false, false, false, false, false, false, false, false] rfl rfl (any_of HT_.out (by kernel_rfl)) (fun _ _ _ h => h) (Or.inl ⟨by rfl, ?_⟩) ?_ ?_
                              rotate_left
                              ·intro w'
                               go_simp
                               with_reducible rfl
                              rotate_left
                              ·simp only [Act.put, List.setIfInBounds_toArray, List.set_cons_zero, List.set_cons_succ, i64_w, i32_w]
                               rfl
                              refine pure_ (i := 13) (N := some 155) (v := ?_) (a' := ?_) #[true, true, true, true, true, true, true, true, false, false, true, true, true, true, false, false, false, false, false, false, false, false] rfl rfl (any_of HT_.out (by kernel_rfl)) (fun _ _ _ h => h) (Or.inl ⟨by rfl, ?_⟩) ?_ ?_
                              rotate_left
                              ·intro w'
                               go_simp
                               with_reducible rfl
                              rotate_left
                              ·simp only [Act.put, List.setIfInBounds_toArray, List.set_cons_zero, List.set_cons_succ, i64_w, i32_w]
                               rfl
                              refine pure_ (i := 14) (N := some 156) (v := ?_) (a' := ?_) #[true, true, true, true, true, true, true, true, false, false, true, true, true, true, true, false, false, false, false, false, false, false] rfl rfl (any_of HT_.out (by kernel_rfl)) (fun _ _ _ h => h) (Or.inl ⟨by rfl, ?_⟩) ?_ ?_
                              rotate_left
                              ·intro w'
                               go_simp
                               with_reducible rfl
                              rotate_left
                              ·simp only [Act.put, List.setIfInBounds_toArray, List.set_cons_zero, List.set_cons_succ, i64_w, i32_w]
                               rfl
                              refine pure_ (i := 15) (N := some 157) (v := ?_) (a' := ?_) #[true, true, true, true, true, true, true, true, false, false, true, true, true, true, true, true, false, false, false, false, false, false] rfl rfl (any_of HT_.out (by kernel_rfl)) (fun _ _ _ h => h) (Or.inl ⟨by rfl, ?_⟩) ?_ ?_
                              rotate_left
                              ·intro w'
                               go_simp
                               with_reducible rfl
                              rotate_left
                              ·simp only [Act.put, List.setIfInBounds_toArray, List.set_cons_zero, List.set_cons_succ, i64_w, i32_w]
                               rfl
                              refine pure_ (i := 16) (N := some 158) (v := ?_) (a' := ?_) #[true, true, true, true, true, true, true, true, false, false, true, true, true, true, true, true, true, false, false, false, false, false] rfl rfl (any_of HT_.out (by kernel_rfl)) (fun _ _ _ h => h) (Or.inl ⟨by rfl, ?_⟩) ?_ ?_
                              rotate_left
                              ·intro w'
                               go_simp
                               with_reducible rfl
                              rotate_left
                              ·simp only [Act.put, List.setIfInBounds_toArray, List.set_cons_zero, List.set_cons_succ, i64_w, i32_w]
                               rfl
                              refine pure_ (i := 17) (N := some 159) (v := ?_) (a' := ?_) #[true, true, true, true, true, true, true, true, false, false, true, true, true, true, true, true, true, true, false, false, false, false] rfl rfl (any_of HT_.out (by kernel_rfl)) (fun _ _ _ h => h) (Or.inl ⟨by rfl, ?_⟩) ?_ ?_
                              rotate_left
                              ·intro w'
                               go_simp
                               with_reducible rfl
                              rotate_left
                              ·simp only [Act.put, List.setIfInBounds_toArray, List.set_cons_zero, List.set_cons_succ, i64_w, i32_w]
                               rfl
                              refine take_ (i := 8) (N := some 150) (v := ?_) (a' := ?_) #[true, true, true, true, true, true, true, true, true, false, true, true, true, true, true, true, true, true, false, false, false, false] rfl rfl (take_ofW HT_.out HW_.out (by kernel_rfl)) (fun _ _ _ h => h) (Or.inl ⟨by rfl, ?_⟩) hHeld ?_ ?_
                              rotate_left
                              ·rintro w' ⟨s0, s1⟩
                               go_simp
                               with_reducible rfl
                              rotate_left
                              ·simp only [Act.put, List.setIfInBounds_toArray, List.set_cons_zero, List.set_cons_succ, i64_w, i32_w]
                               rfl
                              refine pure_ (i := 9) (N := some 151) (v := ?_) (a' := ?_) #[true, true, true, true, true, true, true, true, true, true, true, true, true, true, true, true, true, true, false, false, false, false] rfl rfl (any_of HT_.out (by kernel_rfl)) (fun _ _ _ h => h) (Or.inl ⟨by rfl, ?_⟩) ?_ ?_
                              rotate_left
                              ·intro w'
                               go_simp
                               with_reducible rfl
                              rotate_left
                              ·simp only [Act.put, List.setIfInBounds_toArray, List.set_cons_zero, List.set_cons_succ, i64_w, i32_w]
                               rfl
                              refine take_ (i := 18) (N := some 160) (v := ?_) (a' := ?_) #[true, true, true, true, true, true, true, true, true, true, true, true, true, true, true, true, true, true, true, false, false, false] rfl rfl (take_ofW HT_.out HW_.out (by kernel_rfl)) (fun _ _ _ h => h) (Or.inl ⟨by rfl, ?_⟩) hHeld ?_ ?_
                              rotate_left
                              ·rintro w' ⟨s0, s1⟩
                               go_simp
                               with_reducible rfl
                              rotate_left
                              ·simp only [Act.put, List.setIfInBounds_toArray, List.set_cons_zero, List.set_cons_succ, i64_w, i32_w]
                               rfl
                              refine pure_ (i := 19) (N := some 161) (v := ?_) (a' := ?_) #[true, true, true, true, true, true, true, true, true, true, true, true, true, true, true, true, true, true, true, true, false, false] rfl rfl (any_of HT_.out (by kernel_rfl)) (fun _ _ _ h => h) (Or.inl ⟨by rfl, ?_⟩) ?_ ?_
                              rotate_left
                              ·intro w'
                               go_simp
                               with_reducible rfl
                              rotate_left
                              ·simp only [Act.put, List.setIfInBounds_toArray, List.set_cons_zero, List.set_cons_succ, i64_w, i32_w]
                               rfl
                              refine pure_ (i := 20) (N := some 162) (v := ?_) (a' := ?_) #[true, true, true, true, true, true, true, true, true, true, true, true, true, true, true, true, true, true, true, true, true, false] rfl rfl (any_of HT_.out (by kernel_rfl)) (fun _ _ _ h => h) (Or.inl ⟨by rfl, ?_⟩) ?_ ?_
                              rotate_left
                              ·intro w'
                               go_simp
                               with_reducible rfl
                              rotate_left
                              ·simp only [Act.put, List.setIfInBounds_toArray, List.set_cons_zero, List.set_cons_succ, i64_w, i32_w]
                               rfl
                              refine pure_ (i := 21) (N := some 163) (v := ?_) (a' := ?_) #[true, true, true, true, true, true, true, true, true, true, true, true, true, true, true, true, true, true, true, true, true, true] rfl rfl (any_of HT_.out (by kernel_rfl)) (fun _ _ _ h => h) (Or.inl ⟨by rfl, ?_⟩) ?_ ?_
                              rotate_left
                              ·intro w'
                               go_simp
                               with_reducible rfl
                              rotate_left
                              ·simp only [Act.put, List.setIfInBounds_toArray, List.set_cons_zero, List.set_cons_succ, i64_w, i32_w]
                               rfl
                              refine done_ (done_of HT_.out (by kernel_rfl)) ?_
                              try go_wp2
                              go_meet
                              case rel => exact ⟨_, (decide ((wrap64 (x17_3 * (rd t428 (ji71)))) > (Go.bits .or .i64 (wrap64 (x18_3 * 65536)) (rd x12_2 (ji74))))), (by first | rfl | (simp; done) | (simp only [← hji71, ← hji74] <;> (first | rfl | simp)) | (simp [*]; done)), H', ⟨by have := HK1.out; have := HK2.out; have := HK3.out; first | omega | exact Nat.le_refl _⟩, ⟨by (try simp only [hl12_2]); (with_reducible repeat (first | apply Kd.V_alloc | apply Kd.V_drewN | apply Kd.V_drew)); exact HO_11.out⟩, ⟨by (try simp only [hl12_2]); (with_reducible repeat (first | apply Kd.R_alloc | apply Kd.R_drewN | apply Kd.R_drew)); exact HO_12.out⟩, ⟨by (try simp only [hl12_2]); (with_reducible repeat (first | apply Kd.R_alloc | apply Kd.R_drewN | apply Kd.R_drew)); exact HO_14.out⟩, ⟨hB_⟩⟩
                             ·rw [if_neg c76] at H
                              exact absurd H (by simp)
                            ·rw [if_neg c75] at H
                             exact absurd H (by simp)
                           ·rw [if_neg c73] at H
                            exact absurd H (by simp)
                          ·rw [if_neg c72] at H
                           exact absurd H (by simp)
                        case rest =>
                         clear HC68
                         (try clear c1); (try clear p1); (try clear q1); (try clear hx1); (try clear p2); (try clear c3); (try clear c4); (try clear c4b0); (try clear p4); (try clear q4); (try clear hx4); (try clear qi4); (try clear c5); (try clear c6); (try clear c6b0); (try clear c6b1); (try clear p6); (try clear c7); (try clear c7b0); (try clear c7b1); (try clear c8); (try clear c8b0); (try clear c8b1); (try clear c12); (try clear c12b0); (try clear c13); (try clear c13b0); (try clear c14); (try clear c14b0); (try clear c15); (try clear c15b0); (try clear c15b1); (try clear c16); (try clear c16b0); (try clear c16b1); (try clear c17); (try clear c17b0); (try clear p18); (try clear q18); (try clear hx18); (try clear hf18); (try clear c30); (try clear c30b0); (try clear c31); (try clear c31b0); (try clear c36); (try clear p41); (try clear q41); (try clear hx41); (try clear qi41); (try clear p42); (try clear q42); (try clear hx42); (try clear c44); (try clear c44b0); (try clear c45); (try clear p45); (try clear q45); (try clear hx45); (try clear p46); (try clear q46); (try clear hx46); (try clear c47); (try clear c49); (try clear c49b0); (try clear c49b1); (try clear c50); (try clear c50b0); (try clear c50b1); (try clear c54); (try clear c54b0); (try clear c56); (try clear c56b0); (try clear c57); (try clear c57b0); (try clear c59); (try clear c59b0); (try clear c60); (try clear c60b0); (try clear c62); (try clear c62b0); (try clear c63); (try clear c63b0); (try clear c64); (try clear c64b0); (try clear c64b1); (try clear p64); (try clear c69); (try clear c69b0); (try clear c72); (try clear c72b0); (try clear c73); (try clear c73b0); (try clear c75); (try clear c75b0); (try clear c76); (try clear c76b0); (try clear hx18_0); (try clear hx413_0); (try clear hx414_0); (try clear hx415_0); (try clear hx426_0); (try clear hx455_0); (try clear hx456_0); (try clear hx457_0); (try clear hx458_0); (try clear hx459_0); (try clear hx460_0); (try clear p1); (try clear p18); (try clear p2); (try clear p4); (try clear p41); (try clear p413); (try clear p414); (try clear p415); (try clear p42); (try clear p426); (try clear p45); (try clear p455); (try clear p456); (try clear p457); (try clear p458); (try clear p459); (try clear p460); (try clear p6); (try clear p64); (try clear q1); (try clear q18); (try clear q4); (try clear q41); (try clear q413); (try clear q414); (try clear q415); (try clear q42); (try clear q426); (try clear q45); (try clear q455); (try clear q456); (try clear q457); (try clear q458); (try clear q459); (try clear q460)
                         obtain ⟨kq, x163_67, rfl, HA, HJ67, HO_11, HO_12, HO_14, HB⟩ := hcut
                         cases kq with
                         | zero => exact absurd HA.out (by simp [impl_natDiv.j4])
                         | succ kj67 =>
                          have H := HA.out
                          clear HA
                          simp only [impl_natDiv.j4] at H
                          by_cases c78 : x163_67 = true
                          ·subst c78
                           have H1 : (if 0 ≤ (ji61) then (if (ji61) < (t428.length : Int) then (if (wrap64 (x18_3 + (rd t428 (ji61)))) ≥ 65536 then (impl_natDiv.j5 kj67 (wrap64 (16 - t427)) t428 x12_2 (t428.length : Int) x14_2 x15_2 (wrap64 (x17_3 - 1))) else (impl_natDiv.l3 kj67 (wrap64 (16 - t427)) t428 x12_2 (t428.length : Int) x14_2 x15_2 (wrap64 (x17_3 - 1)) (wrap64 (x18_3 + (rd t428 (ji61)))))) else (none)) else (none)) = some (r1, r2) := by first | (rw [if_pos rfl] at H; exact H) | (rw [if_pos rfl] at H; simp only [hji29, hji48, hji55, hji58, hji61] at H; exact H)
                           clear H
                           have H := H1
                           clear H1
                           replace H : (if 0 ≤ (ji61) then (if (ji61) < (t428.length : Int) then (if (wrap64 (x18_3 + (rd t428 (ji61)))) ≥ 65536 then (impl_natDiv.j5 kj67 (wrap64 (16 - t427)) t428 x12_2 (t428.length : Int) x14_2 x15_2 (wrap64 (x17_3 - 1))) else (impl_natDiv.l3 kj67 (wrap64 (16 - t427)) t428 x12_2 (t428.length : Int) x14_2 x15_2 (wrap64 (x17_3 - 1)) (wrap64 (x18_3 + (rd t428 (ji61)))))) else (none)) else (none)) = some (r1, r2) := by first | (rw [hji61] at H; exact H) | (simp only [hji61] at H ⊢; exact H) | (simp only [hji29, hji48, hji55, hji58, hji61] at H ⊢; exact H) | (simp only [hji29, hji48, hji55, hji58, hji61] at H; exact H) | exact H
                           have hji61w : (IntKind.i64.wrap ((t428.length : Int) - 1)) = ji61 := (i64_w _).trans hji61
                           by_cases c80 : 0 ≤ (ji61)
                           ·rw [if_pos c80] at H
                            have c80b0 : decide (0 ≤ (ji61)) = true := decide_eq_true c80
                            clear c80
                            by_cases c81 : (ji61) < (t428.length : Int)
                            ·rw [if_pos c81] at H
                             have c81b0 : decide ((ji61) < (t428.length : Int)) = true := decide_eq_true c81
                             (try (have c81b0_ := c81b0; simp only [hl12_2] at c81b0_))
                             clear c81
                             by_cases c82 : (wrap64 (x18_3 + (rd t428 (ji61)))) ≥ 65536
                             ·rw [if_pos c82] at H
                              have c82b0 : decide (65536 ≤ (wrap64 (x18_3 + (rd t428 (ji61))))) = true := decide_eq_true c82
                              clear c82
                              have H' := A_ H
                              clear H
                              have p461 : 0 ≤ ((ji61) : Int) := of_decide_eq_true as_
                              have q461 : (ji61) < (t428.length : Int) := of_decide_eq_true as_
                              obtain ⟨ad461, e461, hx461_0⟩ := Kd.at_int (Kd.V_reads' HO_11.out).2.2 (ji61) p461 q461
                              obtain rfl : ad457 = ad461 := (by injection e461)
                              replace p461 := eq_true p461
                              replace q461 := eq_true q461
                              go_wp2
                              go_meet
                              case rel => exact ⟨_, (wrap64 (x17_3 - 1)), (by first | rfl | (simp; done) | (simp [*]; done)), H', ⟨by have := HK1.out; have := HK2.out; have := HK3.out; have := HJ67.out; first | omega | exact Nat.le_refl _⟩, ⟨by (try simp only [hl12_2]); (with_reducible repeat (first | apply Kd.V_alloc | apply Kd.V_drewN | apply Kd.V_drew)); exact HO_11.out⟩, ⟨by (try simp only [hl12_2]); (with_reducible repeat (first | apply Kd.R_alloc | apply Kd.R_drewN | apply Kd.R_drew)); exact HO_12.out⟩, ⟨by (try simp only [hl12_2]); (with_reducible repeat (first | apply Kd.R_alloc | apply Kd.R_drewN | apply Kd.R_drew)); exact HO_14.out⟩, ⟨hB_⟩⟩
                             ·rw [if_neg c82] at H
                              have c82b0 : decide (65536 ≤ (wrap64 (x18_3 + (rd t428 (ji61))))) = false := decide_eq_false c82
                              clear c82
                              have H' := A_ H
                              clear H
                              have p461 : 0 ≤ ((ji61) : Int) := of_decide_eq_true as_
                              have q461 : (ji61) < (t428.length : Int) := of_decide_eq_true as_
                              obtain ⟨ad461, e461, hx461_0⟩ := Kd.at_int (Kd.V_reads' HO_11.out).2.2 (ji61) p461 q461
                              obtain rfl : ad457 = ad461 := (by injection e461)
                              replace p461 := eq_true p461
                              replace q461 := eq_true q461
                              go_wp2
                              go_roundg kj67
                              case measure => have := HK1.out; have := HK2.out; have := HK3.out; have := HJ67.out; omega
                              case rel => exact ⟨(wrap64 (x17_3 - 1)), (wrap64 (x18_3 + (rd t428 (ji61)))), (by first | rfl | (simp; done) | (simp [*]; done)), (by first | rfl | (simp; done) | (simp only [← hji61] <;> (first | rfl | simp)) | (simp [*]; done)), (by first | exact H' | (rw [hji61]; exact H')), ⟨by have := HK1.out; have := HK2.out; have := HK3.out; have := HJ67.out; omega⟩, ⟨by (try simp only [hl12_2]); (with_reducible repeat (first | apply Kd.V_alloc | apply Kd.V_drewN | apply Kd.V_drew)); exact HO_11.out⟩, ⟨by (try simp only [hl12_2]); (with_reducible repeat (first | apply Kd.R_alloc | apply Kd.R_drewN | apply Kd.R_drew)); exact HO_12.out⟩, ⟨by (try simp only [hl12_2]); (with_reducible repeat (first | apply Kd.R_alloc | apply Kd.R_drewN | apply Kd.R_drew)); exact HO_14.out⟩, ⟨hB_⟩⟩
                            ·rw [if_neg c81] at H
                             exact absurd H (by simp)
                           ·rw [if_neg c80] at H
                            exact absurd H (by simp)
                          ·replace c78 := Bool.eq_false_iff.mpr c78
                           subst c78
                           have H1 : (impl_natDiv.j5 kj67 (wrap64 (16 - t427)) t428 x12_2 (t428.length : Int) x14_2 x15_2 x17_3) = some (r1, r2) := by rw [if_neg (show ¬ (false = true) by decide)] at H; exact H
                           clear H
                           have H := H1
                           clear H1
                           have H' := A_ H
                           clear H
                           go_wp2
                           go_meet
                           case rel => exact ⟨_, (x17_3), (by first | rfl | (simp; done) | (simp [*]; done)), H', ⟨by have := HK1.out; have := HK2.out; have := HK3.out; have := HJ67.out; first | omega | exact Nat.le_refl _⟩, ⟨by (try simp only [hl12_2]); (with_reducible repeat (first | apply Kd.V_alloc | apply Kd.V_drewN | apply Kd.V_drew)); exact HO_11.out⟩, ⟨by (try simp only [hl12_2]); (with_reducible repeat (first | apply Kd.R_alloc | apply Kd.R_drewN | apply Kd.R_drew)); exact HO_12.out⟩, ⟨by (try simp only [hl12_2]); (with_reducible repeat (first | apply Kd.R_alloc | apply Kd.R_drewN | apply Kd.R_drew)); exact HO_14.out⟩, ⟨hB_⟩⟩
                     case rest =>
                      clear HC65
                      (try clear c1); (try clear p1); (try clear q1); (try clear hx1); (try clear p2); (try clear c3); (try clear c4); (try clear c4b0); (try clear p4); (try clear q4); (try clear hx4); (try clear qi4); (try clear c5); (try clear c6); (try clear c6b0); (try clear c6b1); (try clear p6); (try clear c7); (try clear c7b0); (try clear c7b1); (try clear c8); (try clear c8b0); (try clear c8b1); (try clear c12); (try clear c12b0); (try clear c13); (try clear c13b0); (try clear c14); (try clear c14b0); (try clear c15); (try clear c15b0); (try clear c15b1); (try clear c16); (try clear c16b0); (try clear c16b1); (try clear c17); (try clear c17b0); (try clear p18); (try clear q18); (try clear hx18); (try clear hf18); (try clear c30); (try clear c30b0); (try clear c31); (try clear c31b0); (try clear c36); (try clear p41); (try clear q41); (try clear hx41); (try clear qi41); (try clear p42); (try clear q42); (try clear hx42); (try clear c44); (try clear c44b0); (try clear c45); (try clear p45); (try clear q45); (try clear hx45); (try clear p46); (try clear q46); (try clear hx46); (try clear c47); (try clear c49); (try clear c49b0); (try clear c49b1); (try clear c50); (try clear c50b0); (try clear c50b1); (try clear c54); (try clear c54b0); (try clear c56); (try clear c56b0); (try clear c57); (try clear c57b0); (try clear c59); (try clear c59b0); (try clear c60); (try clear c60b0); (try clear c62); (try clear c62b0); (try clear c63); (try clear c63b0); (try clear c64); (try clear c64b0); (try clear c64b1); (try clear p64); (try clear c69); (try clear c69b0); (try clear c72); (try clear c72b0); (try clear c73); (try clear c73b0); (try clear c75); (try clear c75b0); (try clear c76); (try clear c76b0); (try clear c78); (try clear c80); (try clear c80b0); (try clear c81); (try clear c81b0); (try clear c82); (try clear c82b0); (try clear hx18_0); (try clear hx413_0); (try clear hx414_0); (try clear hx415_0); (try clear hx426_0); (try clear hx455_0); (try clear hx456_0); (try clear hx457_0); (try clear hx458_0); (try clear hx459_0); (try clear hx460_0); (try clear hx461_0); (try clear p1); (try clear p18); (try clear p2); (try clear p4); (try clear p41); (try clear p413); (try clear p414); (try clear p415); (try clear p42); (try clear p426); (try clear p45); (try clear p455); (try clear p456); (try clear p457); (try clear p458); (try clear p459); (try clear p46); (try clear p460); (try clear p461); (try clear p6); (try clear p64); (try clear q1); (try clear q18); (try clear q4); (try clear q41); (try clear q413); (try clear q414); (try clear q415); (try clear q42); (try clear q426); (try clear q45); (try clear q455); (try clear q456); (try clear q457); (try clear q458); (try clear q459); (try clear q46); (try clear q460); (try clear q461)
                      obtain ⟨kq, x17_64, rfl, HA, HJ64, HO_11, HO_12, HO_14, HB⟩ := hcut
                      cases kq with
                      | zero => exact absurd HA.out (by simp [impl_natDiv.j5])
                      | succ kj64 =>
                       have H := HA.out
                       clear HA
                       simp only [impl_natDiv.j5] at H
                       have H' := A_ H
                       clear H
                       go_wp2
                       go_loopg [19, 177] kj64 (fun kq v19 v177 w' => ∃ (x12_4 : List Int) (x19_4 : Int) (x177_4 : Int), v19 = .int .i64 x19_4 ∧ v177 = .int .i64 x177_4 ∧ Aside0 (impl_natDiv.l4 kq (wrap64 (16 - t427)) t428 x12_4 (t428.length : Int) x14_2 x15_2 x17_64 x19_4 t428 (t428.length : Int) x177_4 = some (r1, r2)) ∧ Aside0 (kq ≤ kj64) ∧ Aside0 (Kd.V (Kd.int .i64) 3 w' w.heap.size (fun k_ => (w.heap.size ≤ k_) ∧ some k_ ≠ ((.slice (some ad455) x12_2.length co51) : Value).ownBlock ∧ some k_ ≠ (v444 : Value).ownBlock) (.slice (some ad457) t428.length co43) t428) ∧ Aside0 (Kd.R (Kd.int .i64) 3 w' w.heap.size (fun k_ => (w.heap.size ≤ k_) ∧ some k_ ≠ (v444 : Value).ownBlock) (.slice (some ad455) x12_2.length co51) x12_4) ∧ Aside0 (Kd.R (Kd.int .i64) 3 w' w.heap.size (fun k_ => (w.heap.size ≤ k_) ∧ some k_ ≠ ((.slice (some ad455) x12_2.length co51) : Value).ownBlock) v444 x14_2) ∧ Aside0 (Kd.V (Kd.int .i64) 3 w' w.heap.size (fun k_ => (w.heap.size ≤ k_) ∧ some k_ ≠ ((.slice (some ad455) x12_2.length co51) : Value).ownBlock ∧ some k_ ≠ (v444 : Value).ownBlock) (.slice (some ad457) t428.length co43) t428) ∧ Aside0 (Below w.heap.size w w'))
                       case atStart => exact ⟨(x12_2), (0), (0), (by first | rfl | (simp; done) | (simp [*]; done)), (by first | rfl | (simp; done) | (simp [*]; done)), H', ⟨Nat.le_refl _⟩, ⟨by (try simp only [hl12_2]); (with_reducible repeat (first | apply Kd.V_alloc | apply Kd.V_drewN | apply Kd.V_drew)); exact HO_11.out⟩, ⟨by (try simp only [hl12_2]); (with_reducible repeat (first | apply Kd.R_alloc | apply Kd.R_drewN | apply Kd.R_drew)); exact HO_12.out⟩, ⟨by (try simp only [hl12_2]); (with_reducible repeat (first | apply Kd.R_alloc | apply Kd.R_drewN | apply Kd.R_drew)); exact HO_14.out⟩, ⟨by (try simp only [hl12_2]); (with_reducible repeat (first | apply Kd.V_alloc | apply Kd.V_drewN | apply Kd.V_drew)); exact HO_11.out⟩, ⟨hB_⟩⟩
                       case round =>
                        clear H'
                        (try clear c1); (try clear p1); (try clear q1); (try clear hx1); (try clear p2); (try clear c3); (try clear c4); (try clear c4b0); (try clear p4); (try clear q4); (try clear hx4); (try clear qi4); (try clear c5); (try clear c6); (try clear c6b0); (try clear c6b1); (try clear p6); (try clear c7); (try clear c7b0); (try clear c7b1); (try clear c8); (try clear c8b0); (try clear c8b1); (try clear c12); (try clear c12b0); (try clear c13); (try clear c13b0); (try clear c14); (try clear c14b0); (try clear c15); (try clear c15b0); (try clear c15b1); (try clear c16); (try clear c16b0); (try clear c16b1); (try clear c17); (try clear c17b0); (try clear p18); (try clear q18); (try clear hx18); (try clear hf18); (try clear c30); (try clear c30b0); (try clear c31); (try clear c31b0); (try clear c36); (try clear p41); (try clear q41); (try clear hx41); (try clear qi41); (try clear p42); (try clear q42); (try clear hx42); (try clear c44); (try clear c44b0); (try clear c45); (try clear p45); (try clear q45); (try clear hx45); (try clear p46); (try clear q46); (try clear hx46); (try clear c47); (try clear c49); (try clear c49b0); (try clear c49b1); (try clear c50); (try clear c50b0); (try clear c50b1); (try clear c54); (try clear c54b0); (try clear c56); (try clear c56b0); (try clear c57); (try clear c57b0); (try clear c59); (try clear c59b0); (try clear c60); (try clear c60b0); (try clear c62); (try clear c62b0); (try clear c63); (try clear c63b0); (try clear c64); (try clear c64b0); (try clear c64b1); (try clear p64); (try clear c69); (try clear c69b0); (try clear c72); (try clear c72b0); (try clear c73); (try clear c73b0); (try clear c75); (try clear c75b0); (try clear c76); (try clear c76b0); (try clear c78); (try clear c80); (try clear c80b0); (try clear c81); (try clear c81b0); (try clear c82); (try clear c82b0); (try clear hx18_0); (try clear hx413_0); (try clear hx414_0); (try clear hx415_0); (try clear hx426_0); (try clear hx455_0); (try clear hx456_0); (try clear hx457_0); (try clear hx458_0); (try clear hx459_0); (try clear hx460_0); (try clear hx461_0); (try clear p1); (try clear p18); (try clear p2); (try clear p4); (try clear p41); (try clear p413); (try clear p414); (try clear p415); (try clear p42); (try clear p426); (try clear p45); (try clear p455); (try clear p456); (try clear p457); (try clear p458); (try clear p459); (try clear p46); (try clear p460); (try clear p461); (try clear p6); (try clear p64); (try clear q1); (try clear q18); (try clear q4); (try clear q41); (try clear q413); (try clear q414); (try clear q415); (try clear q42); (try clear q426); (try clear q45); (try clear q455); (try clear q456); (try clear q457); (try clear q458); (try clear q459); (try clear q46); (try clear q460); (try clear q461)
                        obtain ⟨x12_4, x19_4, x177_4, rfl, rfl, HA, HK4, HO_11, HO_12, HO_14, HO_175, HB⟩ := hrel
                        have hl12_4 := (Kd.R_reads' HO_12.out).1
                        rw [hl12_4] at HO_12
                        (try simp only [hl12_4])
                        (try simp only [hl12_4] at HO_11)
                        (try simp only [hl12_4] at HO_14)
                        (try simp only [hl12_4] at HO_175)
                        cases gk with
                        | zero => exact absurd HA.out (by simp [impl_natDiv.l4])
                        | succ k4 =>
                         have H := HA.out
                         clear HA
                         simp only [impl_natDiv.l4] at H
                         by_cases c83 : x177_4 < (t428.length : Int)
                         ·rw [if_pos c83] at H
                          have c83b0 : decide (x177_4 < (t428.length : Int)) = true := decide_eq_true c83
                          (try (have c83b0_ := c83b0; simp only [hl12_4] at c83b0_))
                          clear c83
                          by_cases c84 : 0 ≤ x177_4
                          ·rw [if_pos c84] at H
                           have c84b0 : decide (0 ≤ x177_4) = true := decide_eq_true c84
                           clear c84
                           by_cases c85 : x177_4 < (t428.length : Int)
                           ·rw [if_pos c85] at H
                            have c85b0 : decide (x177_4 < (t428.length : Int)) = true := decide_eq_true c85
                            (try (have c85b0_ := c85b0; simp only [hl12_4] at c85b0_))
                            clear c85
                            obtain ⟨ji86, hji86⟩ : ∃ j_ : Int, (wrap64 (x15_2 + x177_4)) = j_ := ⟨_, rfl⟩
                            replace H : (if 0 ≤ (ji86) then (if (ji86) < (x12_4.length : Int) then (if (wrap64 ((wrap64 ((rd x12_4 (ji86)) - x19_4)) - (wrap64 (x17_64 * (rd t428 x177_4))))) < 0 then (impl_natDiv.l4 k4 (wrap64 (16 - t427)) t428 (x12_4.set ((ji86) : Int).toNat (wrap64 ((wrap64 ((wrap64 ((rd x12_4 (ji86)) - x19_4)) - (wrap64 (x17_64 * (rd t428 x177_4))))) + (wrap64 ((wrap64 (Int.tdiv (wrap64 ((wrap64 ((wrap64 (-(wrap64 ((wrap64 ((rd x12_4 (ji86)) - x19_4)) - (wrap64 (x17_64 * (rd t428 x177_4))))))) + 65536)) - 1)) 65536)) * 65536))))) (t428.length : Int) x14_2 x15_2 x17_64 (wrap64 (Int.tdiv (wrap64 ((wrap64 ((wrap64 (-(wrap64 ((wrap64 ((rd x12_4 (ji86)) - x19_4)) - (wrap64 (x17_64 * (rd t428 x177_4))))))) + 65536)) - 1)) 65536)) t428 (t428.length : Int) (wrap64 (x177_4 + 1))) else (impl_natDiv.l4 k4 (wrap64 (16 - t427)) t428 (x12_4.set ((ji86) : Int).toNat (wrap64 ((wrap64 ((rd x12_4 (ji86)) - x19_4)) - (wrap64 (x17_64 * (rd t428 x177_4)))))) (t428.length : Int) x14_2 x15_2 x17_64 0 t428 (t428.length : Int) (wrap64 (x177_4 + 1)))) else (none)) else (none)) = some (r1, r2) := by first | (rw [hji86] at H; exact H) | (simp only [hji86] at H ⊢; exact H) | (simp only [hji29, hji48, hji55, hji58, hji61, hji86] at H ⊢; exact H) | (simp only [hji29, hji48, hji55, hji58, hji61, hji86] at H; exact H) | exact H
                            have hji86w : (IntKind.i64.wrap (x15_2 + x177_4)) = ji86 := (i64_w _).trans hji86
                            by_cases c87 : 0 ≤ (ji86)
                            ·rw [if_pos c87] at H
                             have c87b0 : decide (0 ≤ (ji86)) = true := decide_eq_true c87
                             clear c87
                             by_cases c88 : (ji86) < (x12_4.length : Int)
                             ·rw [if_pos c88] at H
                              have c88b0 : decide ((ji86) < (x12_4.length : Int)) = true := decide_eq_true c88
                              (try (have c88b0_ := c88b0; simp only [hl12_4] at c88b0_))
                              clear c88
                              by_cases c89 : (wrap64 ((wrap64 ((rd x12_4 (ji86)) - x19_4)) - (wrap64 (x17_64 * (rd t428 x177_4))))) < 0
                              ·rw [if_pos c89] at H
                               have c89b0 : decide ((wrap64 ((wrap64 ((rd x12_4 (ji86)) - x19_4)) - (wrap64 (x17_64 * (rd t428 x177_4))))) < 0) = true := decide_eq_true c89
                               clear c89
                               obtain ⟨y464, hy464⟩ : ∃ y_ : List Int, y_ = (x12_4.set ((ji86) : Int).toNat (wrap64 ((wrap64 ((wrap64 ((rd x12_4 (ji86)) - x19_4)) - (wrap64 (x17_64 * (rd t428 x177_4))))) + (wrap64 ((wrap64 (Int.tdiv (wrap64 ((wrap64 ((wrap64 (-(wrap64 ((wrap64 ((rd x12_4 (ji86)) - x19_4)) - (wrap64 (x17_64 * (rd t428 x177_4))))))) + 65536)) - 1)) 65536)) * 65536))))) := ⟨_, rfl⟩
                               replace H : (impl_natDiv.l4 k4 (wrap64 (16 - t427)) t428 y464 (t428.length : Int) x14_2 x15_2 x17_64 (wrap64 (Int.tdiv (wrap64 ((wrap64 ((wrap64 (-(wrap64 ((wrap64 ((rd x12_4 (ji86)) - x19_4)) - (wrap64 (x17_64 * (rd t428 x177_4))))))) + 65536)) - 1)) 65536)) t428 (t428.length : Int) (wrap64 (x177_4 + 1))) = some (r1, r2) := by first | (rw [hy464]; with_reducible exact H) | (have H2_ := (Option.bind_some _ _).symm.trans H; rw [hy464]; with_reducible exact H2_) | (have H2_ := (Option.bind_some _ _).symm.trans H; with_reducible exact H2_) | with_reducible exact H | (rw [hy464]; exact H) | exact H
                               have Ny464 := A_ hy464
                               clear hy464
                               have H' := A_ H
                               clear H
                               have p462 : 0 ≤ (x177_4 : Int) := of_decide_eq_true as_
                               have q462 : x177_4 < (t428.length : Int) := of_decide_eq_true as_
                               obtain ⟨ad462, e462, hx462_0⟩ := Kd.at_int (Kd.V_reads' HO_175.out).2.2 x177_4 p462 q462
                               obtain rfl : ad457 = ad462 := (by injection e462)
                               replace p462 := eq_true p462
                               replace q462 := eq_true q462
                               have p463 : 0 ≤ ((ji86) : Int) := of_decide_eq_true as_
                               have q463 : (ji86) < (x12_4.length : Int) := of_decide_eq_true as_
                               obtain ⟨ad463, e463, hx463_0⟩ := Kd.at_int (Kd.R_reads' HO_12.out).2.2 (ji86) p463 q463
                               obtain rfl : ad455 = ad463 := (by injection e463)
                               replace p463 := eq_true p463
                               replace q463 := eq_true q463
                               have p90 : 0 ≤ ((ji86) : Int) := of_decide_eq_true as_
                               have q90 : ((ji86) : Int) < ((x12_4.length : Int) : Int) := of_decide_eq_true as_
                               obtain ⟨go90, co90, eo90, gb90, gl90, cl90, HG90⟩ := Kd.R_form HO_12.out (by omega)
                               (first | cases eo90 | (injection eo90 with ea_ en_ ec_; (first | subst ea_ | (injection ea_ with ea_; subst ea_)); subst ec_; clear en_))
                               have GB90 := A_ gb90
                               have GG90 := A_ HG90
                               clear gb90 gl90 HG90
                               (first | simp only [add_plain] at hx455_0 | skip)
                               (first | simp only [add_plain] at hx456_0 | skip)
                               (first | simp only [add_plain] at hx460_0 | skip)
                               (first | simp only [add_plain] at hx463_0 | skip)
                               obtain ⟨hx90_0, hf90_0⟩ := Kd.R_celln 0 HO_12.out ((ji86) : Int) p90 q90
                               replace p90 := eq_true p90
                               replace q90 := eq_true q90
                               have HP91 := Kd.R_putg HO_12.out ((ji86) : Int) (wrap64 ((wrap64 ((wrap64 ((rd x12_4 (ji86)) - x19_4)) - (wrap64 (x17_64 * (rd t428 x177_4))))) + (wrap64 ((wrap64 (Int.tdiv (wrap64 ((wrap64 ((wrap64 (-(wrap64 ((wrap64 ((rd x12_4 (ji86)) - x19_4)) - (wrap64 (x17_64 * (rd t428 x177_4))))))) + 65536)) - 1)) 65536)) * 65536))))
                               go_wp2_with (first | ((with_reducible refine gate_store (t := 3) (p := 210) rfl ?_); refine store_event (t := 3) (p := 210) (v := ?vo_w92) (w1 := (wr.setCell ⟨go90, ((ji86) : Int).toNat, none⟩ (.int .i64 (wrap64 ((wrap64 ((wrap64 ((rd x12_4 (ji86)) - x19_4)) - (wrap64 (x17_64 * (rd t428 x177_4))))) + (wrap64 ((wrap64 (Int.tdiv (wrap64 ((wrap64 ((wrap64 (-(wrap64 ((wrap64 ((rd x12_4 (ji86)) - x19_4)) - (wrap64 (x17_64 * (rd t428 x177_4))))))) + 65536)) - 1)) 65536)) * 65536))))))) ?hg ?ho ?hn ?hr ?_; (case ho => rfl); (case hg => rfl); (case hn => rfl); (case hr => first | (go_simp; done) | (go_simp; rfl)); intro w92 hw; have hg : wr.grownBy w92 (some go90) := (by rw [hw]; exact HP91.2); have hp_ : Kd.R (Kd.int .i64) 3 w92 w.heap.size (fun k_ => (w.heap.size ≤ k_) ∧ some k_ ≠ (v444 : Value).ownBlock) (.slice (some ⟨go90, 0, none⟩) x12_4.length co51) y464 := (by rw [hw, Ny464.out]; first | exact HP91.1 | exact Kd.R_mono HP91.1 (fun _ hk => (by first | (refine ⟨?_, ?_, ?_, ?_⟩ <;> first | exact hk.1 | exact hk.2.1 | exact hk.2.2.1 | exact hk.2.2.2 | exact hk.1.1 | exact hk.1.2) | (refine ⟨?_, ?_, ?_⟩ <;> first | exact hk.1 | exact hk.2.1 | exact hk.2.2 | exact hk.1.1 | exact hk.1.2)))); clear HP91; have n0_ := A_ (Kd.V_afterv (v := (.slice (some ⟨go90, 0, none⟩) x12_4.length co51)) (v1 := (.slice (some ⟨go90, 0, none⟩) x12_4.length co51)) (ok := (fun k_ => (w.heap.size ≤ k_) ∧ some k_ ≠ (v444 : Value).ownBlock)) (by (with_reducible repeat (first | apply Kd.V_alloc | apply Kd.V_drewN | apply Kd.V_drew)); exact Kd.V_mono HO_11.out (fun _ hk => (by first | exact ⟨⟨hk.1, hk.2.2⟩, hk.2.1⟩ | (refine ⟨⟨?_, ?_, ?_⟩, ?_⟩ <;> first | exact hk.1 | exact hk.2.1 | exact hk.2.2.1 | exact hk.2.2.2 | exact hk.2) | (refine ⟨⟨?_, ?_⟩, ?_⟩ <;> first | exact hk.1 | exact hk.2.1 | exact hk.2.2 | exact hk.2)))) hg (.inl rfl)); have n1_ := A_ (hp_); have n2_ := A_ (Kd.R_after (v := (.slice (some ⟨go90, 0, none⟩) x12_4.length co51)) (v1 := (.slice (some ⟨go90, 0, none⟩) x12_4.length co51)) (ok := (fun k_ => (w.heap.size ≤ k_))) (rz_ HO_14.out) hg (.inl rfl)); have n3_ := A_ (Kd.V_afterv (v := (.slice (some ⟨go90, 0, none⟩) x12_4.length co51)) (v1 := (.slice (some ⟨go90, 0, none⟩) x12_4.length co51)) (ok := (fun k_ => (w.heap.size ≤ k_) ∧ some k_ ≠ (v444 : Value).ownBlock)) (by (with_reducible repeat (first | apply Kd.V_alloc | apply Kd.V_drewN | apply Kd.V_drew)); exact Kd.V_mono HO_175.out (fun _ hk => (by first | exact ⟨⟨hk.1, hk.2.2⟩, hk.2.1⟩ | (refine ⟨⟨?_, ?_, ?_⟩, ?_⟩ <;> first | exact hk.1 | exact hk.2.1 | exact hk.2.2.1 | exact hk.2.2.2 | exact hk.2) | (refine ⟨⟨?_, ?_⟩, ?_⟩ <;> first | exact hk.1 | exact hk.2.1 | exact hk.2.2 | exact hk.2)))) hg (.inl rfl)); have n4_ := A_ ((by rw [hw]; exact below_set (HB.out) GB90.out : Below w.heap.size w w92)); clear HO_11 HO_12 HO_14 HO_175 HB; have HO_11 := n0_; have HO_12 := n1_; have HO_14 := n2_; have HO_175 := n3_; have HB := n4_; clear n0_ n1_ n2_ n3_ n4_; clear hg hw hp_))
                               (try simp only [← hl12_4])
                               (try simp only [add_plain] at *)
                               go_roundg k4
                               case measure => have := HK1.out; have := HK2.out; have := HJ64.out; have := HK4.out; omega
                               case rel => exact ⟨(y464), (wrap64 (Int.tdiv (wrap64 ((wrap64 ((wrap64 (-(wrap64 ((wrap64 ((rd x12_4 (ji86)) - x19_4)) - (wrap64 (x17_64 * (rd t428 x177_4))))))) + 65536)) - 1)) 65536)), (wrap64 (x177_4 + 1)), (by first | rfl | (simp; done) | (simp only [← hji86] <;> (first | rfl | simp)) | (simp [*]; done)), (by first | rfl | (simp; done) | (simp [*]; done)), (by first | exact H' | (rw [hji86]; exact H')), ⟨by have := HK1.out; have := HK2.out; have := HJ64.out; have := HK4.out; omega⟩, ⟨by (try simp only [hl12_2]); (try simp only [hl12_4]); (with_reducible repeat (first | apply Kd.V_alloc | apply Kd.V_drewN | apply Kd.V_drew)); exact Kd.V_mono HO_11.out (fun _ hk => ⟨hk.1.1, ⟨hk.2, hk.1.2⟩⟩)⟩, ⟨by (try simp only [hl12_2]); (try simp only [hl12_4]); (with_reducible repeat (first | apply Kd.R_alloc | apply Kd.R_drewN | apply Kd.R_drew)); exact HO_12.out⟩, ⟨by (try simp only [hl12_2]); (try simp only [hl12_4]); (with_reducible repeat (first | apply Kd.R_alloc | apply Kd.R_drewN | apply Kd.R_drew)); exact HO_14.out⟩, ⟨by (try simp only [hl12_2]); (try simp only [hl12_4]); (with_reducible repeat (first | apply Kd.V_alloc | apply Kd.V_drewN | apply Kd.V_drew)); exact Kd.V_mono HO_175.out (fun _ hk => ⟨hk.1.1, ⟨hk.2, hk.1.2⟩⟩)⟩, ⟨hB_⟩⟩
                              ·rw [if_neg c89] at H
                               have c89b0 : decide ((wrap64 ((wrap64 ((rd x12_4 (ji86)) - x19_4)) - (wrap64 (x17_64 * (rd t428 x177_4))))) < 0) = false := decide_eq_false c89
                               clear c89
                               obtain ⟨y465, hy465⟩ : ∃ y_ : List Int, y_ = (x12_4.set ((ji86) : Int).toNat (wrap64 ((wrap64 ((rd x12_4 (ji86)) - x19_4)) - (wrap64 (x17_64 * (rd t428 x177_4)))))) := ⟨_, rfl⟩
                               replace H : (impl_natDiv.l4 k4 (wrap64 (16 - t427)) t428 y465 (t428.length : Int) x14_2 x15_2 x17_64 0 t428 (t428.length : Int) (wrap64 (x177_4 + 1))) = some (r1, r2) := by first | (rw [hy465]; with_reducible exact H) | (have H2_ := (Option.bind_some _ _).symm.trans H; rw [hy465]; with_reducible exact H2_) | (have H2_ := (Option.bind_some _ _).symm.trans H; with_reducible exact H2_) | with_reducible exact H | (rw [hy465]; exact H) | exact H
                               have Ny465 := A_ hy465
                               clear hy465
                               have H' := A_ H
                               clear H
                               have p462 : 0 ≤ (x177_4 : Int) := of_decide_eq_true as_
                               have q462 : x177_4 < (t428.length : Int) := of_decide_eq_true as_
                               obtain ⟨ad462, e462, hx462_0⟩ := Kd.at_int (Kd.V_reads' HO_175.out).2.2 x177_4 p462 q462
                               obtain rfl : ad457 = ad462 := (by injection e462)
                               replace p462 := eq_true p462
                               replace q462 := eq_true q462
                               have p463 : 0 ≤ ((ji86) : Int) := of_decide_eq_true as_
                               have q463 : (ji86) < (x12_4.length : Int) := of_decide_eq_true as_
                               obtain ⟨ad463, e463, hx463_0⟩ := Kd.at_int (Kd.R_reads' HO_12.out).2.2 (ji86) p463 q463
                               obtain rfl : ad455 = ad463 := (by injection e463)
                               replace p463 := eq_true p463
                               replace q463 := eq_true q463
                               have p93 : 0 ≤ ((ji86) : Int) := of_decide_eq_true as_
                               have q93 : ((ji86) : Int) < ((x12_4.length : Int) : Int) := of_decide_eq_true as_
                               obtain ⟨go93, co93, eo93, gb93, gl93, cl93, HG93⟩ := Kd.R_form HO_12.out (by omega)
                               (first | cases eo93 | (injection eo93 with ea_ en_ ec_; (first | subst ea_ | (injection ea_ with ea_; subst ea_)); subst ec_; clear en_))
                               have GB93 := A_ gb93
                               have GG93 := A_ HG93
                               clear gb93 gl93 HG93
                               (first | simp only [add_plain] at hx463_0 | skip)
                               obtain ⟨hx93_0, hf93_0⟩ := Kd.R_celln 0 HO_12.out ((ji86) : Int) p93 q93
                               replace p93 := eq_true p93
                               replace q93 := eq_true q93
                               have HP94 := Kd.R_putg HO_12.out ((ji86) : Int) (wrap64 ((wrap64 ((rd x12_4 (ji86)) - x19_4)) - (wrap64 (x17_64 * (rd t428 x177_4)))))
                               go_wp2_with (first | ((with_reducible refine gate_store (t := 3) (p := 210) rfl ?_); refine store_event (t := 3) (p := 210) (v := ?vo_w95) (w1 := (wr.setCell ⟨go93, ((ji86) : Int).toNat, none⟩ (.int .i64 (wrap64 ((wrap64 ((rd x12_4 (ji86)) - x19_4)) - (wrap64 (x17_64 * (rd t428 x177_4)))))))) ?hg ?ho ?hn ?hr ?_; (case ho => rfl); (case hg => rfl); (case hn => rfl); (case hr => first | (go_simp; done) | (go_simp; rfl)); intro w95 hw; have hg : wr.grownBy w95 (some go93) := (by rw [hw]; exact HP94.2); have hp_ : Kd.R (Kd.int .i64) 3 w95 w.heap.size (fun k_ => (w.heap.size ≤ k_) ∧ some k_ ≠ (v444 : Value).ownBlock) (.slice (some ⟨go93, 0, none⟩) x12_4.length co51) y465 := (by rw [hw, Ny465.out]; first | exact HP94.1 | exact Kd.R_mono HP94.1 (fun _ hk => (by first | (refine ⟨?_, ?_, ?_, ?_⟩ <;> first | exact hk.1 | exact hk.2.1 | exact hk.2.2.1 | exact hk.2.2.2 | exact hk.1.1 | exact hk.1.2) | (refine ⟨?_, ?_, ?_⟩ <;> first | exact hk.1 | exact hk.2.1 | exact hk.2.2 | exact hk.1.1 | exact hk.1.2)))); clear HP94; have n0_ := A_ (Kd.V_afterv (v := (.slice (some ⟨go93, 0, none⟩) x12_4.length co51)) (v1 := (.slice (some ⟨go93, 0, none⟩) x12_4.length co51)) (ok := (fun k_ => (w.heap.size ≤ k_) ∧ some k_ ≠ (v444 : Value).ownBlock)) (by (with_reducible repeat (first | apply Kd.V_alloc | apply Kd.V_drewN | apply Kd.V_drew)); exact Kd.V_mono HO_11.out (fun _ hk => (by first | exact ⟨⟨hk.1, hk.2.2⟩, hk.2.1⟩ | (refine ⟨⟨?_, ?_, ?_⟩, ?_⟩ <;> first | exact hk.1 | exact hk.2.1 | exact hk.2.2.1 | exact hk.2.2.2 | exact hk.2) | (refine ⟨⟨?_, ?_⟩, ?_⟩ <;> first | exact hk.1 | exact hk.2.1 | exact hk.2.2 | exact hk.2)))) hg (.inl rfl)); have n1_ := A_ (hp_); have n2_ := A_ (Kd.R_after (v := (.slice (some ⟨go93, 0, none⟩) x12_4.length co51)) (v1 := (.slice (some ⟨go93, 0, none⟩) x12_4.length co51)) (ok := (fun k_ => (w.heap.size ≤ k_))) (rz_ HO_14.out) hg (.inl rfl)); have n3_ := A_ (Kd.V_afterv (v := (.slice (some ⟨go93, 0, none⟩) x12_4.length co51)) (v1 := (.slice (some ⟨go93, 0, none⟩) x12_4.length co51)) (ok := (fun k_ => (w.heap.size ≤ k_) ∧ some k_ ≠ (v444 : Value).ownBlock)) (by (with_reducible repeat (first | apply Kd.V_alloc | apply Kd.V_drewN | apply Kd.V_drew)); exact Kd.V_mono HO_175.out (fun _ hk => (by first | exact ⟨⟨hk.1, hk.2.2⟩, hk.2.1⟩ | (refine ⟨⟨?_, ?_, ?_⟩, ?_⟩ <;> first | exact hk.1 | exact hk.2.1 | exact hk.2.2.1 | exact hk.2.2.2 | exact hk.2) | (refine ⟨⟨?_, ?_⟩, ?_⟩ <;> first | exact hk.1 | exact hk.2.1 | exact hk.2.2 | exact hk.2)))) hg (.inl rfl)); have n4_ := A_ ((by rw [hw]; exact below_set (HB.out) GB93.out : Below w.heap.size w w95)); clear HO_11 HO_12 HO_14 HO_175 HB; have HO_11 := n0_; have HO_12 := n1_; have HO_14 := n2_; have HO_175 := n3_; have HB := n4_; clear n0_ n1_ n2_ n3_ n4_; clear hg hw hp_))
                               (try simp only [← hl12_4])
                               (try simp only [add_plain] at *)
                               go_roundg k4
                               case measure => have := HK1.out; have := HK2.out; have := HJ64.out; have := HK4.out; omega
                               case rel => exact ⟨(y465), (0), (wrap64 (x177_4 + 1)), (by first | rfl | (simp; done) | (simp [*]; done)), (by first | rfl | (simp; done) | (simp [*]; done)), H', ⟨by have := HK1.out; have := HK2.out; have := HJ64.out; have := HK4.out; omega⟩, ⟨by (try simp only [hl12_2]); (try simp only [hl12_4]); (with_reducible repeat (first | apply Kd.V_alloc | apply Kd.V_drewN | apply Kd.V_drew)); exact Kd.V_mono HO_11.out (fun _ hk => ⟨hk.1.1, ⟨hk.2, hk.1.2⟩⟩)⟩, ⟨by (try simp only [hl12_2]); (try simp only [hl12_4]); (with_reducible repeat (first | apply Kd.R_alloc | apply Kd.R_drewN | apply Kd.R_drew)); exact HO_12.out⟩, ⟨by (try simp only [hl12_2]); (try simp only [hl12_4]); (with_reducible repeat (first | apply Kd.R_alloc | apply Kd.R_drewN | apply Kd.R_drew)); exact HO_14.out⟩, ⟨by (try simp only [hl12_2]); (try simp only [hl12_4]); (with_reducible repeat (first | apply Kd.V_alloc | apply Kd.V_drewN | apply Kd.V_drew)); exact Kd.V_mono HO_175.out (fun _ hk => ⟨hk.1.1, ⟨hk.2, hk.1.2⟩⟩)⟩, ⟨hB_⟩⟩
                             ·rw [if_neg c88] at H
                              exact absurd H (by simp)
                            ·rw [if_neg c87] at H
                             exact absurd H (by simp)
                           ·rw [if_neg c85] at H
                            exact absurd H (by simp)
                          ·rw [if_neg c84] at H
                           exact absurd H (by simp)
                         ·rw [if_neg c83] at H
                          have c83b0 : decide (x177_4 < (t428.length : Int)) = false := decide_eq_false c83
                          (try (have c83b0_ := c83b0; simp only [hl12_4] at c83b0_))
                          clear c83
                          replace H : (if 0 ≤ (ji55) then (if (ji55) < (x12_4.length : Int) then ((some (x12_4.set ((ji55) : Int).toNat (wrap64 ((rd x12_4 (ji55)) - x19_4)) : List Int)).bind fun y467 => (if (rd y467 (ji55)) < 0 then (impl_natDiv.l5 k4 (wrap64 (16 - t427)) t428 y467 (t428.length : Int) x14_2 x15_2 (wrap64 (x17_64 - 1)) 0 t428 (t428.length : Int) 0) else (if 0 ≤ x15_2 then (if x15_2 < (x14_2.length : Int) then (impl_natDiv.l2 k4 (wrap64 (16 - t427)) t428 y467 (t428.length : Int) (x14_2.set (x15_2 : Int).toNat x17_64) (wrap64 (x15_2 - 1))) else (none)) else (none)))) else (none)) else (none)) = some (r1, r2) := by first | (rw [hji55] at H; exact H) | (simp only [hji55] at H ⊢; exact H) | (simp only [hji29, hji48, hji55, hji58, hji61] at H ⊢; exact H) | (simp only [hji29, hji48, hji55, hji58, hji61] at H; exact H) | exact H
                          have hji55w : (IntKind.i64.wrap (x15_2 + (t428.length : Int))) = ji55 := (i64_w _).trans hji55
                          by_cases c97 : 0 ≤ (ji55)
                          ·rw [if_pos c97] at H
                           have c97b0 : decide (0 ≤ (ji55)) = true := decide_eq_true c97
                           clear c97
                           by_cases c98 : (ji55) < (x12_4.length : Int)
                           ·rw [if_pos c98] at H
                            have c98b0 : decide ((ji55) < (x12_4.length : Int)) = true := decide_eq_true c98
                            (try (have c98b0_ := c98b0; simp only [hl12_4] at c98b0_))
                            clear c98
                            obtain ⟨y467, hy467⟩ : ∃ y_ : List Int, y_ = (x12_4.set ((ji55) : Int).toNat (wrap64 ((rd x12_4 (ji55)) - x19_4))) := ⟨_, rfl⟩
                            replace H : (if (rd y467 (ji55)) < 0 then (impl_natDiv.l5 k4 (wrap64 (16 - t427)) t428 y467 (t428.length : Int) x14_2 x15_2 (wrap64 (x17_64 - 1)) 0 t428 (t428.length : Int) 0) else (if 0 ≤ x15_2 then (if x15_2 < (x14_2.length : Int) then (impl_natDiv.l2 k4 (wrap64 (16 - t427)) t428 y467 (t428.length : Int) (x14_2.set (x15_2 : Int).toNat x17_64) (wrap64 (x15_2 - 1))) else (none)) else (none))) = some (r1, r2) := by first | (rw [hy467]; with_reducible exact H) | (have H2_ := (Option.bind_some _ _).symm.trans H; rw [hy467]; with_reducible exact H2_) | (have H2_ := (Option.bind_some _ _).symm.trans H; with_reducible exact H2_) | with_reducible exact H | (rw [hy467]; exact H) | exact H
                            have Ny467 := A_ hy467
                            clear hy467
                            by_cases c100 : (rd y467 (ji55)) < 0
                            ·rw [if_pos c100] at H
                             have c100b0 : decide ((rd y467 (ji55)) < 0) = true := decide_eq_true c100
                             clear c100
                             have H' := A_ H
                             clear H
                             have p466 : 0 ≤ ((ji55) : Int) := of_decide_eq_true as_
                             have q466 : (ji55) < (x12_4.length : Int) := of_decide_eq_true as_
                             obtain ⟨ad466, e466, hx466_0⟩ := Kd.at_int (Kd.R_reads' HO_12.out).2.2 (ji55) p466 q466
                             obtain rfl : ad455 = ad466 := (by injection e466)
                             replace p466 := eq_true p466
                             replace q466 := eq_true q466
                             have p99 : 0 ≤ ((ji55) : Int) := of_decide_eq_true as_
                             have q99 : ((ji55) : Int) < ((x12_4.length : Int) : Int) := of_decide_eq_true as_
                             obtain ⟨go99, co99, eo99, gb99, gl99, cl99, HG99⟩ := Kd.R_form HO_12.out (by omega)
                             (first | cases eo99 | (injection eo99 with ea_ en_ ec_; (first | subst ea_ | (injection ea_ with ea_; subst ea_)); subst ec_; clear en_))
                             have GB99 := A_ gb99
                             have GG99 := A_ HG99
                             clear gb99 gl99 HG99
                             (first | simp only [add_plain] at hx466_0 | skip)
                             obtain ⟨hx99_0, hf99_0⟩ := Kd.R_celln 0 HO_12.out ((ji55) : Int) p99 q99
                             replace p99 := eq_true p99
                             replace q99 := eq_true q99
                             have HP101 := Kd.R_putg HO_12.out ((ji55) : Int) (wrap64 ((rd x12_4 (ji55)) - x19_4))
                             go_wp2_with (first | ((with_reducible refine gate_store (t := 3) (p := 220) rfl ?_); refine store_event (t := 3) (p := 220) (v := ?vo_w102) (w1 := (wr.setCell ⟨go99, ((ji55) : Int).toNat, none⟩ (.int .i64 (wrap64 ((rd x12_4 (ji55)) - x19_4))))) ?hg ?ho ?hn ?hr ?_; (case ho => rfl); (case hg => rfl); (case hn => rfl); (case hr => first | (go_simp; done) | (go_simp; rfl)); intro w102 hw; have hg : wr.grownBy w102 (some go99) := (by rw [hw]; exact HP101.2); have hp_ : Kd.R (Kd.int .i64) 3 w102 w.heap.size (fun k_ => (w.heap.size ≤ k_) ∧ some k_ ≠ (v444 : Value).ownBlock) (.slice (some ⟨go99, 0, none⟩) x12_4.length co51) y467 := (by rw [hw, Ny467.out]; first | exact HP101.1 | exact Kd.R_mono HP101.1 (fun _ hk => (by first | (refine ⟨?_, ?_, ?_, ?_⟩ <;> first | exact hk.1 | exact hk.2.1 | exact hk.2.2.1 | exact hk.2.2.2 | exact hk.1.1 | exact hk.1.2) | (refine ⟨?_, ?_, ?_⟩ <;> first | exact hk.1 | exact hk.2.1 | exact hk.2.2 | exact hk.1.1 | exact hk.1.2)))); clear HP101; have n0_ := A_ (Kd.V_afterv (v := (.slice (some ⟨go99, 0, none⟩) x12_4.length co51)) (v1 := (.slice (some ⟨go99, 0, none⟩) x12_4.length co51)) (ok := (fun k_ => (w.heap.size ≤ k_) ∧ some k_ ≠ (v444 : Value).ownBlock)) (by (with_reducible repeat (first | apply Kd.V_alloc | apply Kd.V_drewN | apply Kd.V_drew)); exact Kd.V_mono HO_11.out (fun _ hk => (by first | exact ⟨⟨hk.1, hk.2.2⟩, hk.2.1⟩ | (refine ⟨⟨?_, ?_, ?_⟩, ?_⟩ <;> first | exact hk.1 | exact hk.2.1 | exact hk.2.2.1 | exact hk.2.2.2 | exact hk.2) | (refine ⟨⟨?_, ?_⟩, ?_⟩ <;> first | exact hk.1 | exact hk.2.1 | exact hk.2.2 | exact hk.2)))) hg (.inl rfl)); have n1_ := A_ (hp_); have n2_ := A_ (Kd.R_after (v := (.slice (some ⟨go99, 0, none⟩) x12_4.length co51)) (v1 := (.slice (some ⟨go99, 0, none⟩) x12_4.length co51)) (ok := (fun k_ => (w.heap.size ≤ k_))) (rz_ HO_14.out) hg (.inl rfl)); have n3_ := A_ (Kd.V_afterv (v := (.slice (some ⟨go99, 0, none⟩) x12_4.length co51)) (v1 := (.slice (some ⟨go99, 0, none⟩) x12_4.length co51)) (ok := (fun k_ => (w.heap.size ≤ k_) ∧ some k_ ≠ (v444 : Value).ownBlock)) (by (with_reducible repeat (first | apply Kd.V_alloc | apply Kd.V_drewN | apply Kd.V_drew)); exact Kd.V_mono HO_175.out (fun _ hk => (by first | exact ⟨⟨hk.1, hk.2.2⟩, hk.2.1⟩ | (refine ⟨⟨?_, ?_, ?_⟩, ?_⟩ <;> first | exact hk.1 | exact hk.2.1 | exact hk.2.2.1 | exact hk.2.2.2 | exact hk.2) | (refine ⟨⟨?_, ?_⟩, ?_⟩ <;> first | exact hk.1 | exact hk.2.1 | exact hk.2.2 | exact hk.2)))) hg (.inl rfl)); have n4_ := A_ ((by rw [hw]; exact below_set (HB.out) GB99.out : Below w.heap.size w w102)); clear HO_11 HO_12 HO_14 HO_175 HB; have HO_11 := n0_; have HO_12 := n1_; have HO_14 := n2_; have HO_175 := n3_; have HB := n4_; clear n0_ n1_ n2_ n3_ n4_; clear hg hw hp_; have p468 : 0 ≤ ((ji55) : Int) := of_decide_eq_true as_; have q468 : (ji55) < (y467.length : Int) := (by have h_ : ((ji55) : Int) < ((x12_4.length : Int) : Int) := of_decide_eq_true as_; first | (have e_ := (Kd.R_reads' HO_12.out).1; omega) | simpa only [Ny467.out, List.length_set] using h_); have ql468 : (((ji55) : Int) < ((x12_4.length : Int) : Int)) = True := eq_true (of_decide_eq_true as_); obtain ⟨ad468, e468, hx468_0⟩ := Kd.at_int (Kd.R_reads' HO_12.out).2.2 (ji55) p468 q468; obtain rfl : (⟨go99, 0, none⟩ : Addr) = ad468 := (by injection e468); (first | simp only [add_plain] at hx468_0 | simp only [add_at] at hx468_0 | simp only [Addr.add, Nat.zero_add] at hx468_0 | skip); replace p468 := eq_true p468; replace q468 := eq_true q468))
                             go_loopg [23, 232] k4 (fun kq v23 v232 w' => ∃ (x12_5 : List Int) (x23_5 : Int) (x232_5 : Int), v23 = .int .i64 x23_5 ∧ v232 = .int .i64 x232_5 ∧ Aside0 (impl_natDiv.l5 kq (wrap64 (16 - t427)) t428 x12_5 (t428.length : Int) x14_2 x15_2 (wrap64 (x17_64 - 1)) x23_5 t428 (t428.length : Int) x232_5 = some (r1, r2)) ∧ Aside0 (kq ≤ k4) ∧ Aside0 (Kd.V (Kd.int .i64) 3 w' w.heap.size (fun k_ => (w.heap.size ≤ k_) ∧ some k_ ≠ ((.slice (some ⟨go99, 0, none⟩) x12_4.length co51) : Value).ownBlock ∧ some k_ ≠ (v444 : Value).ownBlock) (.slice (some ad457) t428.length co43) t428) ∧ Aside0 (Kd.R (Kd.int .i64) 3 w' w.heap.size (fun k_ => (w.heap.size ≤ k_) ∧ some k_ ≠ (v444 : Value).ownBlock) (.slice (some ⟨go99, 0, none⟩) x12_4.length co51) x12_5) ∧ Aside0 (Kd.R (Kd.int .i64) 3 w' w.heap.size (fun k_ => (w.heap.size ≤ k_) ∧ some k_ ≠ ((.slice (some ⟨go99, 0, none⟩) x12_4.length co51) : Value).ownBlock) v444 x14_2) ∧ Aside0 (Kd.V (Kd.int .i64) 3 w' w.heap.size (fun k_ => (w.heap.size ≤ k_) ∧ some k_ ≠ ((.slice (some ⟨go99, 0, none⟩) x12_4.length co51) : Value).ownBlock ∧ some k_ ≠ (v444 : Value).ownBlock) (.slice (some ad457) t428.length co43) t428) ∧ Aside0 (Below w.heap.size w w'))
                             case atStart => exact ⟨(y467), (0), (0), (by first | rfl | (simp; done) | (simp [*]; done)), (by first | rfl | (simp; done) | (simp [*]; done)), H', ⟨Nat.le_refl _⟩, ⟨by (try simp only [hl12_2]); (try simp only [hl12_4]); (with_reducible repeat (first | apply Kd.V_alloc | apply Kd.V_drewN | apply Kd.V_drew)); exact Kd.V_mono HO_11.out (fun _ hk => ⟨hk.1.1, ⟨hk.2, hk.1.2⟩⟩)⟩, ⟨by (try simp only [hl12_2]); (try simp only [hl12_4]); (with_reducible repeat (first | apply Kd.R_alloc | apply Kd.R_drewN | apply Kd.R_drew)); exact HO_12.out⟩, ⟨by (try simp only [hl12_2]); (try simp only [hl12_4]); (with_reducible repeat (first | apply Kd.R_alloc | apply Kd.R_drewN | apply Kd.R_drew)); exact HO_14.out⟩, ⟨by (try simp only [hl12_2]); (try simp only [hl12_4]); (with_reducible repeat (first | apply Kd.V_alloc | apply Kd.V_drewN | apply Kd.V_drew)); exact Kd.V_mono HO_11.out (fun _ hk => ⟨hk.1.1, ⟨hk.2, hk.1.2⟩⟩)⟩, ⟨hB_⟩⟩
                             case round =>
                              clear H'
                              (try clear c1); (try clear p1); (try clear q1); (try clear hx1); (try clear p2); (try clear c3); (try clear c4); (try clear c4b0); (try clear p4); (try clear q4); (try clear hx4); (try clear qi4); (try clear c5); (try clear c6); (try clear c6b0); (try clear c6b1); (try clear p6); (try clear c7); (try clear c7b0); (try clear c7b1); (try clear c8); (try clear c8b0); (try clear c8b1); (try clear c9); (try clear p9); (try clear q9); (try clear hx9); (try clear hf9); (try clear c10); (try clear c12); (try clear c12b0); (try clear c13); (try clear c13b0); (try clear c14); (try clear c14b0); (try clear c15); (try clear c15b0); (try clear c15b1); (try clear c16); (try clear c16b0); (try clear c16b1); (try clear c17); (try clear c17b0); (try clear p18); (try clear q18); (try clear hx18); (try clear hf18); (try clear c30); (try clear c30b0); (try clear c31); (try clear c31b0); (try clear c36); (try clear p41); (try clear q41); (try clear hx41); (try clear qi41); (try clear p42); (try clear q42); (try clear hx42); (try clear c44); (try clear c44b0); (try clear c45); (try clear p45); (try clear q45); (try clear hx45); (try clear p46); (try clear q46); (try clear hx46); (try clear c47); (try clear c49); (try clear c49b0); (try clear c49b1); (try clear c50); (try clear c50b0); (try clear c50b1); (try clear c54); (try clear c54b0); (try clear c56); (try clear c56b0); (try clear c57); (try clear c57b0); (try clear c59); (try clear c59b0); (try clear c60); (try clear c60b0); (try clear c62); (try clear c62b0); (try clear c63); (try clear c63b0); (try clear c64); (try clear c64b0); (try clear c64b1); (try clear p64); (try clear c69); (try clear c69b0); (try clear c72); (try clear c72b0); (try clear c73); (try clear c73b0); (try clear c75); (try clear c75b0); (try clear c76); (try clear c76b0); (try clear c78); (try clear c80); (try clear c80b0); (try clear c81); (try clear c81b0); (try clear c82); (try clear c82b0); (try clear c83); (try clear c83b0); (try clear c84); (try clear c84b0); (try clear c85); (try clear c85b0); (try clear c87); (try clear c87b0); (try clear c88); (try clear c88b0); (try clear c89); (try clear c89b0); (try clear p90); (try clear q90); (try clear hx90); (try clear hf90); (try clear p93); (try clear q93); (try clear hx93); (try clear hf93); (try clear c97); (try clear c97b0); (try clear c98); (try clear c98b0); (try clear p99); (try clear q99); (try clear hx99); (try clear hf99); (try clear c100); (try clear c100b0); (try clear hx18_0); (try clear hx413_0); (try clear hx414_0); (try clear hx415_0); (try clear hx426_0); (try clear hx455_0); (try clear hx456_0); (try clear hx457_0); (try clear hx458_0); (try clear hx459_0); (try clear hx460_0); (try clear hx461_0); (try clear hx462_0); (try clear hx463_0); (try clear hx466_0); (try clear hx468_0); (try clear hx90_0); (try clear hx93_0); (try clear hx99_0); (try clear p1); (try clear p18); (try clear p2); (try clear p4); (try clear p41); (try clear p413); (try clear p414); (try clear p415); (try clear p42); (try clear p426); (try clear p45); (try clear p455); (try clear p456); (try clear p457); (try clear p458); (try clear p459); (try clear p46); (try clear p460); (try clear p461); (try clear p462); (try clear p463); (try clear p466); (try clear p468); (try clear p6); (try clear p64); (try clear p90); (try clear p93); (try clear p99); (try clear q1); (try clear q18); (try clear q4); (try clear q41); (try clear q413); (try clear q414); (try clear q415); (try clear q42); (try clear q426); (try clear q45); (try clear q455); (try clear q456); (try clear q457); (try clear q458); (try clear q459); (try clear q46); (try clear q460); (try clear q461); (try clear q462); (try clear q463); (try clear q466); (try clear q468); (try clear q90); (try clear q93); (try clear q99)
                              obtain ⟨x12_5, x23_5, x232_5, rfl, rfl, HA, HK5, HO_11, HO_12, HO_14, HO_230, HB⟩ := hrel
                              have hl12_5 := (Kd.R_reads' HO_12.out).1
                              rw [hl12_5] at HO_12
                              (try simp only [hl12_5])
                              (try simp only [hl12_5] at HO_11)
                              (try simp only [hl12_5] at HO_14)
                              (try simp only [hl12_5] at HO_230)
                              cases gk with
                              | zero => exact absurd HA.out (by simp [impl_natDiv.l5])
                              | succ k5 =>
                               have H := HA.out
                               clear HA
                               simp only [impl_natDiv.l5] at H
                               by_cases c103 : x232_5 < (t428.length : Int)
                               ·rw [if_pos c103] at H
                                have c103b0 : decide (x232_5 < (t428.length : Int)) = true := decide_eq_true c103
                                (try (have c103b0_ := c103b0; simp only [hl12_5] at c103b0_))
                                clear c103
                                by_cases c104 : 0 ≤ x232_5
                                ·rw [if_pos c104] at H
                                 have c104b0 : decide (0 ≤ x232_5) = true := decide_eq_true c104
                                 clear c104
                                 by_cases c105 : x232_5 < (t428.length : Int)
                                 ·rw [if_pos c105] at H
                                  have c105b0 : decide (x232_5 < (t428.length : Int)) = true := decide_eq_true c105
                                  (try (have c105b0_ := c105b0; simp only [hl12_5] at c105b0_))
                                  clear c105
                                  obtain ⟨ji106, hji106⟩ : ∃ j_ : Int, (wrap64 (x15_2 + x232_5)) = j_ := ⟨_, rfl⟩
                                  replace H : (if 0 ≤ (ji106) then (if (ji106) < (x12_5.length : Int) then (impl_natDiv.l5 k5 (wrap64 (16 - t427)) t428 (x12_5.set ((ji106) : Int).toNat (Go.bits .and .i64 (wrap64 ((wrap64 ((rd x12_5 (ji106)) + (rd t428 x232_5))) + x23_5)) 65535)) (t428.length : Int) x14_2 x15_2 (wrap64 (x17_64 - 1)) ((wrap64 ((wrap64 ((rd x12_5 (ji106)) + (rd t428 x232_5))) + x23_5)) / 65536) t428 (t428.length : Int) (wrap64 (x232_5 + 1))) else (none)) else (none)) = some (r1, r2) := by first | (rw [hji106] at H; exact H) | (simp only [hji106] at H ⊢; exact H) | (simp only [hji29, hji48, hji55, hji58, hji61, hji106] at H ⊢; exact H) | (simp only [hji29, hji48, hji55, hji58, hji61, hji106] at H; exact H) | exact H
                                  have hji106w : (IntKind.i64.wrap (x15_2 + x232_5)) = ji106 := (i64_w _).trans hji106
                                  by_cases c107 : 0 ≤ (ji106)
                                  ·rw [if_pos c107] at H
                                   have c107b0 : decide (0 ≤ (ji106)) = true := decide_eq_true c107
                                   clear c107
                                   by_cases c108 : (ji106) < (x12_5.length : Int)
                                   ·rw [if_pos c108] at H
                                    have c108b0 : decide ((ji106) < (x12_5.length : Int)) = true := decide_eq_true c108
                                    (try (have c108b0_ := c108b0; simp only [hl12_5] at c108b0_))
                                    clear c108
                                    obtain ⟨y471, hy471⟩ : ∃ y_ : List Int, y_ = (x12_5.set ((ji106) : Int).toNat (Go.bits .and .i64 (wrap64 ((wrap64 ((rd x12_5 (ji106)) + (rd t428 x232_5))) + x23_5)) 65535)) := ⟨_, rfl⟩
                                    replace H : (impl_natDiv.l5 k5 (wrap64 (16 - t427)) t428 y471 (t428.length : Int) x14_2 x15_2 (wrap64 (x17_64 - 1)) ((wrap64 ((wrap64 ((rd x12_5 (ji106)) + (rd t428 x232_5))) + x23_5)) / 65536) t428 (t428.length : Int) (wrap64 (x232_5 + 1))) = some (r1, r2) := by first | (rw [hy471]; with_reducible exact H) | (have H2_ := (Option.bind_some _ _).symm.trans H; rw [hy471]; with_reducible exact H2_) | (have H2_ := (Option.bind_some _ _).symm.trans H; with_reducible exact H2_) | with_reducible exact H | (rw [hy471]; exact H) | exact H
                                    have Ny471 := A_ hy471
                                    clear hy471
                                    have H' := A_ H
                                    clear H
                                    have p469 : 0 ≤ (x232_5 : Int) := of_decide_eq_true as_
                                    have q469 : x232_5 < (t428.length : Int) := of_decide_eq_true as_
                                    obtain ⟨ad469, e469, hx469_0⟩ := Kd.at_int (Kd.V_reads' HO_230.out).2.2 x232_5 p469 q469
                                    obtain rfl : ad457 = ad469 := (by injection e469)
                                    replace p469 := eq_true p469
                                    replace q469 := eq_true q469
                                    have p470 : 0 ≤ ((ji106) : Int) := of_decide_eq_true as_
                                    have q470 : (ji106) < (x12_5.length : Int) := of_decide_eq_true as_
                                    obtain ⟨ad470, e470, hx470_0⟩ := Kd.at_int (Kd.R_reads' HO_12.out).2.2 (ji106) p470 q470
                                    obtain rfl : (⟨go99, 0, none⟩ : Addr) = ad470 := (by injection e470)
                                    (first | simp only [add_plain] at hx470_0 | simp only [add_at] at hx470_0 | simp only [Addr.add, Nat.zero_add] at hx470_0 | skip)
                                    replace p470 := eq_true p470
                                    replace q470 := eq_true q470
                                    have p109 : 0 ≤ ((ji106) : Int) := of_decide_eq_true as_
                                    have q109 : ((ji106) : Int) < ((x12_5.length : Int) : Int) := of_decide_eq_true as_
                                    obtain ⟨hx109_0, hf109_0⟩ := Kd.R_celln 0 HO_12.out ((ji106) : Int) p109 q109
                                    replace p109 := eq_true p109
                                    replace q109 := eq_true q109
                                    have HP110 := Kd.R_putg HO_12.out ((ji106) : Int) (Go.bits .and .i64 (wrap64 ((wrap64 ((rd x12_5 (ji106)) + (rd t428 x232_5))) + x23_5)) 65535)
                                    go_wp2_with (first | ((with_reducible refine gate_store (t := 3) (p := 255) rfl ?_); refine store_event (t := 3) (p := 255) (v := ?vo_w111) (w1 := (wr.setCell ⟨go99, ((ji106) : Int).toNat, none⟩ (.int .i64 (Go.bits .and .i64 (wrap64 ((wrap64 ((rd x12_5 (ji106)) + (rd t428 x232_5))) + x23_5)) 65535)))) ?hg ?ho ?hn ?hr ?_; (case ho => rfl); (case hg => rfl); (case hn => rfl); (case hr => first | (go_simp; done) | (go_simp; rfl)); intro w111 hw; have hg : wr.grownBy w111 (some go99) := (by rw [hw]; exact HP110.2); have hp_ : Kd.R (Kd.int .i64) 3 w111 w.heap.size (fun k_ => (w.heap.size ≤ k_) ∧ some k_ ≠ (v444 : Value).ownBlock) (.slice (some ⟨go99, 0, none⟩) x12_5.length co51) y471 := (by rw [hw, Ny471.out]; first | exact HP110.1 | exact Kd.R_mono HP110.1 (fun _ hk => (by first | (refine ⟨?_, ?_, ?_, ?_⟩ <;> first | exact hk.1 | exact hk.2.1 | exact hk.2.2.1 | exact hk.2.2.2 | exact hk.1.1 | exact hk.1.2) | (refine ⟨?_, ?_, ?_⟩ <;> first | exact hk.1 | exact hk.2.1 | exact hk.2.2 | exact hk.1.1 | exact hk.1.2)))); clear HP110; have n0_ := A_ (Kd.V_afterv (v := (.slice (some ⟨go99, 0, none⟩) x12_5.length co51)) (v1 := (.slice (some ⟨go99, 0, none⟩) x12_5.length co51)) (ok := (fun k_ => (w.heap.size ≤ k_) ∧ some k_ ≠ (v444 : Value).ownBlock)) (by (with_reducible repeat (first | apply Kd.V_alloc | apply Kd.V_drewN | apply Kd.V_drew)); exact Kd.V_mono HO_11.out (fun _ hk => (by first | exact ⟨⟨hk.1, hk.2.2⟩, hk.2.1⟩ | (refine ⟨⟨?_, ?_, ?_⟩, ?_⟩ <;> first | exact hk.1 | exact hk.2.1 | exact hk.2.2.1 | exact hk.2.2.2 | exact hk.2) | (refine ⟨⟨?_, ?_⟩, ?_⟩ <;> first | exact hk.1 | exact hk.2.1 | exact hk.2.2 | exact hk.2)))) hg (.inl rfl)); have n1_ := A_ (hp_); have n2_ := A_ (Kd.R_after (v := (.slice (some ⟨go99, 0, none⟩) x12_5.length co51)) (v1 := (.slice (some ⟨go99, 0, none⟩) x12_5.length co51)) (ok := (fun k_ => (w.heap.size ≤ k_))) (rz_ HO_14.out) hg (.inl rfl)); have n3_ := A_ (Kd.V_afterv (v := (.slice (some ⟨go99, 0, none⟩) x12_5.length co51)) (v1 := (.slice (some ⟨go99, 0, none⟩) x12_5.length co51)) (ok := (fun k_ => (w.heap.size ≤ k_) ∧ some k_ ≠ (v444 : Value).ownBlock)) (by (with_reducible repeat (first | apply Kd.V_alloc | apply Kd.V_drewN | apply Kd.V_drew)); exact Kd.V_mono HO_230.out (fun _ hk => (by first | exact ⟨⟨hk.1, hk.2.2⟩, hk.2.1⟩ | (refine ⟨⟨?_, ?_, ?_⟩, ?_⟩ <;> first | exact hk.1 | exact hk.2.1 | exact hk.2.2.1 | exact hk.2.2.2 | exact hk.2) | (refine ⟨⟨?_, ?_⟩, ?_⟩ <;> first | exact hk.1 | exact hk.2.1 | exact hk.2.2 | exact hk.2)))) hg (.inl rfl)); have n4_ := A_ ((by rw [hw]; exact below_set (HB.out) GB99.out : Below w.heap.size w w111)); clear HO_11 HO_12 HO_14 HO_230 HB; have HO_11 := n0_; have HO_12 := n1_; have HO_14 := n2_; have HO_230 := n3_; have HB := n4_; clear n0_ n1_ n2_ n3_ n4_; clear hg hw hp_))
                                    (try simp only [← hl12_5])
                                    go_roundg k5
                                    case measure => have := HK1.out; have := HK2.out; have := HJ64.out; have := HK4.out; have := HK5.out; omega
                                    case rel => exact ⟨(y471), ((wrap64 ((wrap64 ((rd x12_5 (ji106)) + (rd t428 x232_5))) + x23_5)) / 65536), (wrap64 (x232_5 + 1)), (by first | rfl | (simp; done) | (simp only [← hji106] <;> (first | rfl | simp)) | (simp [*]; done)), (by first | rfl | (simp; done) | (simp [*]; done)), (by first | exact H' | (rw [hji106]; exact H')), ⟨by have := HK1.out; have := HK2.out; have := HJ64.out; have := HK4.out; have := HK5.out; omega⟩, ⟨by (try simp only [hl12_2]); (try simp only [hl12_4]); (try simp only [hl12_5]); (with_reducible repeat (first | apply Kd.V_alloc | apply Kd.V_drewN | apply Kd.V_drew)); exact Kd.V_mono HO_11.out (fun _ hk => ⟨hk.1.1, ⟨hk.2, hk.1.2⟩⟩)⟩, ⟨by (try simp only [hl12_2]); (try simp only [hl12_4]); (try simp only [hl12_5]); (with_reducible repeat (first | apply Kd.R_alloc | apply Kd.R_drewN | apply Kd.R_drew)); exact HO_12.out⟩, ⟨by (try simp only [hl12_2]); (try simp only [hl12_4]); (try simp only [hl12_5]); (with_reducible repeat (first | apply Kd.R_alloc | apply Kd.R_drewN | apply Kd.R_drew)); exact HO_14.out⟩, ⟨by (try simp only [hl12_2]); (try simp only [hl12_4]); (try simp only [hl12_5]); (with_reducible repeat (first | apply Kd.V_alloc | apply Kd.V_drewN | apply Kd.V_drew)); exact Kd.V_mono HO_230.out (fun _ hk => ⟨hk.1.1, ⟨hk.2, hk.1.2⟩⟩)⟩, ⟨hB_⟩⟩
                                   ·rw [if_neg c108] at H
                                    exact absurd H (by simp)
                                  ·rw [if_neg c107] at H
                                   exact absurd H (by simp)
                                 ·rw [if_neg c105] at H
                                  exact absurd H (by simp)
                                ·rw [if_neg c104] at H
                                 exact absurd H (by simp)
                               ·rw [if_neg c103] at H
                                have c103b0 : decide (x232_5 < (t428.length : Int)) = false := decide_eq_false c103
                                (try (have c103b0_ := c103b0; simp only [hl12_5] at c103b0_))
                                clear c103
                                replace H : (if 0 ≤ (ji55) then (if (ji55) < (x12_5.length : Int) then (if 0 ≤ x15_2 then (if x15_2 < (x14_2.length : Int) then (impl_natDiv.l2 k5 (wrap64 (16 - t427)) t428 (x12_5.set ((ji55) : Int).toNat (wrap64 ((rd x12_5 (ji55)) + x23_5))) (t428.length : Int) (x14_2.set (x15_2 : Int).toNat (wrap64 (x17_64 - 1))) (wrap64 (x15_2 - 1))) else (none)) else (none)) else (none)) else (none)) = some (r1, r2) := by first | (rw [hji55] at H; exact H) | (simp only [hji55] at H ⊢; exact H) | (simp only [hji29, hji48, hji55, hji58, hji61] at H ⊢; exact H) | (simp only [hji29, hji48, hji55, hji58, hji61] at H; exact H) | exact H
                                have hji55w : (IntKind.i64.wrap (x15_2 + (t428.length : Int))) = ji55 := (i64_w _).trans hji55
                                by_cases c113 : 0 ≤ (ji55)
                                ·rw [if_pos c113] at H
                                 have c113b0 : decide (0 ≤ (ji55)) = true := decide_eq_true c113
                                 clear c113
                                 by_cases c114 : (ji55) < (x12_5.length : Int)
                                 ·rw [if_pos c114] at H
                                  have c114b0 : decide ((ji55) < (x12_5.length : Int)) = true := decide_eq_true c114
                                  (try (have c114b0_ := c114b0; simp only [hl12_5] at c114b0_))
                                  clear c114
                                  obtain ⟨y473, hy473⟩ : ∃ y_ : List Int, y_ = (x12_5.set ((ji55) : Int).toNat (wrap64 ((rd x12_5 (ji55)) + x23_5))) := ⟨_, rfl⟩
                                  replace H : (if 0 ≤ x15_2 then (if x15_2 < (x14_2.length : Int) then (impl_natDiv.l2 k5 (wrap64 (16 - t427)) t428 y473 (t428.length : Int) (x14_2.set (x15_2 : Int).toNat (wrap64 (x17_64 - 1))) (wrap64 (x15_2 - 1))) else (none)) else (none)) = some (r1, r2) := by first | (rw [hy473]; with_reducible exact H) | (have H2_ := (Option.bind_some _ _).symm.trans H; rw [hy473]; with_reducible exact H2_) | (have H2_ := (Option.bind_some _ _).symm.trans H; with_reducible exact H2_) | with_reducible exact H | (rw [hy473]; exact H) | exact H
                                  have Ny473 := A_ hy473
                                  clear hy473
                                  by_cases c116 : 0 ≤ x15_2
                                  ·rw [if_pos c116] at H
                                   have c116b0 : decide (0 ≤ x15_2) = true := decide_eq_true c116
                                   clear c116
                                   by_cases c117 : x15_2 < (x14_2.length : Int)
                                   ·rw [if_pos c117] at H
                                    have c117b0 : decide (x15_2 < (x14_2.length : Int)) = true := decide_eq_true c117
                                    (try (have c117b0_ := c117b0; simp only [hl12_5] at c117b0_))
                                    clear c117
                                    obtain ⟨y474, hy474⟩ : ∃ y_ : List Int, y_ = (x14_2.set (x15_2 : Int).toNat (wrap64 (x17_64 - 1))) := ⟨_, rfl⟩
                                    replace H : (impl_natDiv.l2 k5 (wrap64 (16 - t427)) t428 y473 (t428.length : Int) y474 (wrap64 (x15_2 - 1))) = some (r1, r2) := by first | (rw [hy474]; with_reducible exact H) | (have H2_ := (Option.bind_some _ _).symm.trans H; rw [hy474]; with_reducible exact H2_) | (have H2_ := (Option.bind_some _ _).symm.trans H; with_reducible exact H2_) | with_reducible exact H | (rw [hy474]; exact H) | exact H
                                    have Ny474 := A_ hy474
                                    clear hy474
                                    have H' := A_ H
                                    clear H
                                    have p472 : 0 ≤ ((ji55) : Int) := of_decide_eq_true as_
                                    have q472 : (ji55) < (x12_5.length : Int) := of_decide_eq_true as_
                                    obtain ⟨ad472, e472, hx472_0⟩ := Kd.at_int (Kd.R_reads' HO_12.out).2.2 (ji55) p472 q472
                                    obtain rfl : (⟨go99, 0, none⟩ : Addr) = ad472 := (by injection e472)
                                    (first | simp only [add_plain] at hx472_0 | simp only [add_at] at hx472_0 | simp only [Addr.add, Nat.zero_add] at hx472_0 | skip)
                                    replace p472 := eq_true p472
                                    replace q472 := eq_true q472
                                    have p115 : 0 ≤ ((ji55) : Int) := of_decide_eq_true as_
                                    have q115 : ((ji55) : Int) < ((x12_5.length : Int) : Int) := of_decide_eq_true as_
                                    obtain ⟨hx115_0, hf115_0⟩ := Kd.R_celln 0 HO_12.out ((ji55) : Int) p115 q115
                                    replace p115 := eq_true p115
                                    replace q115 := eq_true q115
                                    have HP119 := Kd.R_putg HO_12.out ((ji55) : Int) (wrap64 ((rd x12_5 (ji55)) + x23_5))
                                    go_wp2_with (first | ((with_reducible refine gate_store (t := 3) (p := 265) rfl ?_); refine store_event (t := 3) (p := 265) (v := ?vo_w120) (w1 := (wr.setCell ⟨go99, ((ji55) : Int).toNat, none⟩ (.int .i64 (wrap64 ((rd x12_5 (ji55)) + x23_5))))) ?hg ?ho ?hn ?hr ?_; (case ho => rfl); (case hg => rfl); (case hn => rfl); (case hr => first | (go_simp; done) | (go_simp; rfl)); intro w120 hw; have hg : wr.grownBy w120 (some go99) := (by rw [hw]; exact HP119.2); have hp_ : Kd.R (Kd.int .i64) 3 w120 w.heap.size (fun k_ => (w.heap.size ≤ k_) ∧ some k_ ≠ (v444 : Value).ownBlock) (.slice (some ⟨go99, 0, none⟩) x12_5.length co51) y473 := (by rw [hw, Ny473.out]; first | exact HP119.1 | exact Kd.R_mono HP119.1 (fun _ hk => (by first | (refine ⟨?_, ?_, ?_, ?_⟩ <;> first | exact hk.1 | exact hk.2.1 | exact hk.2.2.1 | exact hk.2.2.2 | exact hk.1.1 | exact hk.1.2) | (refine ⟨?_, ?_, ?_⟩ <;> first | exact hk.1 | exact hk.2.1 | exact hk.2.2 | exact hk.1.1 | exact hk.1.2)))); clear HP119; have n0_ := A_ (Kd.V_afterv (v := (.slice (some ⟨go99, 0, none⟩) x12_5.length co51)) (v1 := (.slice (some ⟨go99, 0, none⟩) x12_5.length co51)) (ok := (fun k_ => (w.heap.size ≤ k_) ∧ some k_ ≠ (v444 : Value).ownBlock)) (by (with_reducible repeat (first | apply Kd.V_alloc | apply Kd.V_drewN | apply Kd.V_drew)); exact Kd.V_mono HO_11.out (fun _ hk => (by first | exact ⟨⟨hk.1, hk.2.2⟩, hk.2.1⟩ | (refine ⟨⟨?_, ?_, ?_⟩, ?_⟩ <;> first | exact hk.1 | exact hk.2.1 | exact hk.2.2.1 | exact hk.2.2.2 | exact hk.2) | (refine ⟨⟨?_, ?_⟩, ?_⟩ <;> first | exact hk.1 | exact hk.2.1 | exact hk.2.2 | exact hk.2)))) hg (.inl rfl)); have n1_ := A_ (hp_); have n2_ := A_ (Kd.R_after (v := (.slice (some ⟨go99, 0, none⟩) x12_5.length co51)) (v1 := (.slice (some ⟨go99, 0, none⟩) x12_5.length co51)) (ok := (fun k_ => (w.heap.size ≤ k_))) (rz_ HO_14.out) hg (.inl rfl)); have n3_ := A_ (Kd.V_afterv (v := (.slice (some ⟨go99, 0, none⟩) x12_5.length co51)) (v1 := (.slice (some ⟨go99, 0, none⟩) x12_5.length co51)) (ok := (fun k_ => (w.heap.size ≤ k_) ∧ some k_ ≠ (v444 : Value).ownBlock)) (by (with_reducible repeat (first | apply Kd.V_alloc | apply Kd.V_drewN | apply Kd.V_drew)); exact Kd.V_mono HO_230.out (fun _ hk => (by first | exact ⟨⟨hk.1, hk.2.2⟩, hk.2.1⟩ | (refine ⟨⟨?_, ?_, ?_⟩, ?_⟩ <;> first | exact hk.1 | exact hk.2.1 | exact hk.2.2.1 | exact hk.2.2.2 | exact hk.2) | (refine ⟨⟨?_, ?_⟩, ?_⟩ <;> first | exact hk.1 | exact hk.2.1 | exact hk.2.2 | exact hk.2)))) hg (.inl rfl)); have n4_ := A_ ((by rw [hw]; exact below_set (HB.out) GB99.out : Below w.heap.size w w120)); clear HO_11 HO_12 HO_14 HO_230 HB; have HO_11 := n0_; have HO_12 := n1_; have HO_14 := n2_; have HO_230 := n3_; have HB := n4_; clear n0_ n1_ n2_ n3_ n4_; clear hg hw hp_; have p118 : 0 ≤ (x15_2 : Int) := of_decide_eq_true as_; have q118 : (x15_2 : Int) < ((x14_2.length : Int) : Int) := of_decide_eq_true as_; obtain ⟨go118, co118, eo118, gb118, gl118, cl118, HG118⟩ := Kd.R_form HO_14.out (by omega); (first | cases eo118 | (injection eo118 with ea_ en_ ec_; (first | subst ea_ | (injection ea_ with ea_; subst ea_)); subst ec_; clear en_)); have GB118 := A_ gb118; have GG118 := A_ HG118; clear gb118 gl118 HG118; obtain ⟨hx118_0, hf118_0⟩ := Kd.R_celln 0 HO_14.out (x15_2 : Int) p118 q118; replace p118 := eq_true p118; replace q118 := eq_true q118; obtain ⟨hy121_, hz121_⟩ := Kd.R_celln 0 HO_14.out (x15_2 : Int) (of_decide_eq_true as_) (of_decide_eq_true as_); have HP121 := Kd.R_putg HO_14.out (x15_2 : Int) (wrap64 (x17_64 - 1))) | ((with_reducible refine gate_store (t := 3) (p := 269) rfl ?_); refine store_event (t := 3) (p := 269) (v := ?vo_w122) (w1 := (w120.setCell ⟨go118, (x15_2 : Int).toNat, none⟩ (.int .i64 (wrap64 (x17_64 - 1))))) ?hg ?ho ?hn ?hr ?_; (case ho => rfl); (case hg => rfl); (case hn => rfl); (case hr => first | (go_simp; done) | (go_simp; rfl)); intro w122 hw; have hg : w120.grownBy w122 (some go118) := (by rw [hw]; exact HP121.2); have hp_ : Kd.R (Kd.int .i64) 3 w122 w.heap.size (fun k_ => (w.heap.size ≤ k_) ∧ some k_ ≠ (.slice (some ⟨go99, 0, none⟩) x12_5.length co51 : Value).ownBlock) (.slice (some ⟨go118, 0, none⟩) x14_2.length co118) y474 := (by rw [hw, Ny474.out]; first | exact HP121.1 | exact Kd.R_mono HP121.1 (fun _ hk => (by first | (refine ⟨?_, ?_, ?_, ?_⟩ <;> first | exact hk.1 | exact hk.2.1 | exact hk.2.2.1 | exact hk.2.2.2 | exact hk.1.1 | exact hk.1.2) | (refine ⟨?_, ?_, ?_⟩ <;> first | exact hk.1 | exact hk.2.1 | exact hk.2.2 | exact hk.1.1 | exact hk.1.2)))); clear HP121; have n0_ := A_ (Kd.V_afterv (v := (.slice (some ⟨go118, 0, none⟩) x14_2.length co118)) (v1 := (.slice (some ⟨go118, 0, none⟩) x14_2.length co118)) (ok := (fun k_ => (w.heap.size ≤ k_) ∧ some k_ ≠ (.slice (some ⟨go99, 0, none⟩) x12_5.length co51 : Value).ownBlock)) (by (with_reducible repeat (first | apply Kd.V_alloc | apply Kd.V_drewN | apply Kd.V_drew)); exact Kd.V_mono HO_11.out (fun _ hk => (by first | exact ⟨⟨hk.1.1, hk.2⟩, hk.1.2⟩ | (refine ⟨⟨?_, ?_, ?_⟩, ?_⟩ <;> first | exact hk.1 | exact hk.2.1 | exact hk.2.2.1 | exact hk.2.2.2 | exact hk.2) | (refine ⟨⟨?_, ?_⟩, ?_⟩ <;> first | exact hk.1 | exact hk.2.1 | exact hk.2.2 | exact hk.2)))) hg (.inl rfl)); have n1_ := A_ (Kd.R_after (v := (.slice (some ⟨go118, 0, none⟩) x14_2.length co118)) (v1 := (.slice (some ⟨go118, 0, none⟩) x14_2.length co118)) (ok := (fun k_ => (w.heap.size ≤ k_))) (rz_ HO_12.out) hg (.inl rfl)); have n2_ := A_ (hp_); have n3_ := A_ (Kd.V_afterv (v := (.slice (some ⟨go118, 0, none⟩) x14_2.length co118)) (v1 := (.slice (some ⟨go118, 0, none⟩) x14_2.length co118)) (ok := (fun k_ => (w.heap.size ≤ k_) ∧ some k_ ≠ (.slice (some ⟨go99, 0, none⟩) x12_5.length co51 : Value).ownBlock)) (by (with_reducible repeat (first | apply Kd.V_alloc | apply Kd.V_drewN | apply Kd.V_drew)); exact Kd.V_mono HO_230.out (fun _ hk => (by first | exact ⟨⟨hk.1.1, hk.2⟩, hk.1.2⟩ | (refine ⟨⟨?_, ?_, ?_⟩, ?_⟩ <;> first | exact hk.1 | exact hk.2.1 | exact hk.2.2.1 | exact hk.2.2.2 | exact hk.2) | (refine ⟨⟨?_, ?_⟩, ?_⟩ <;> first | exact hk.1 | exact hk.2.1 | exact hk.2.2 | exact hk.2)))) hg (.inl rfl)); have n4_ := A_ ((by rw [hw]; exact below_set (HB.out) GB118.out : Below w.heap.size w w122)); clear HO_11 HO_12 HO_14 HO_230 HB; have HO_11 := n0_; have HO_12 := n1_; have HO_14 := n2_; have HO_230 := n3_; have HB := n4_; clear n0_ n1_ n2_ n3_ n4_; clear hg hw hp_))
                                    (try simp only [← hl12_2, ← hl12_4, ← hl12_5])
                                    go_roundg k5
                                    case measure => have := HK1.out; have := HK2.out; have := HJ64.out; have := HK4.out; have := HK5.out; omega
                                    case rel => exact ⟨(y473), (y474), (wrap64 (x15_2 - 1)), (by first | rfl | (simp; done) | (simp [*]; done)), H', ⟨by have := HK1.out; have := HK2.out; have := HJ64.out; have := HK4.out; have := HK5.out; omega⟩, ⟨by (try simp only [hl12_2]); (try simp only [hl12_4]); (try simp only [hl12_5]); (with_reducible repeat (first | apply Kd.V_alloc | apply Kd.V_drewN | apply Kd.V_drew)); exact Kd.V_mono HO_11.out (fun _ hk => ⟨hk.1.1, ⟨hk.1.2, hk.2⟩⟩)⟩, ⟨by (try simp only [hl12_2]); (try simp only [hl12_4]); (try simp only [hl12_5]); (with_reducible repeat (first | apply Kd.R_alloc | apply Kd.R_drewN | apply Kd.R_drew)); exact HO_12.out⟩, ⟨by (try simp only [hl12_2]); (try simp only [hl12_4]); (try simp only [hl12_5]); (with_reducible repeat (first | apply Kd.R_alloc | apply Kd.R_drewN | apply Kd.R_drew)); exact HO_14.out⟩, ⟨hB_⟩⟩
                                   ·rw [if_neg c117] at H
                                    exact absurd H (by simp)
                                  ·rw [if_neg c116] at H
                                   exact absurd H (by simp)
                                 ·rw [if_neg c114] at H
                                  exact absurd H (by simp)
                                ·rw [if_neg c113] at H
                                 exact absurd H (by simp)
                            ·rw [if_neg c100] at H
                             have c100b0 : decide ((rd y467 (ji55)) < 0) = false := decide_eq_false c100
                             clear c100
                             by_cases c123 : 0 ≤ x15_2
                             ·rw [if_pos c123] at H
                              have c123b0 : decide (0 ≤ x15_2) = true := decide_eq_true c123
                              clear c123
                              by_cases c124 : x15_2 < (x14_2.length : Int)
                              ·rw [if_pos c124] at H
                               have c124b0 : decide (x15_2 < (x14_2.length : Int)) = true := decide_eq_true c124
                               (try (have c124b0_ := c124b0; simp only [hl12_4] at c124b0_))
                               clear c124
                               obtain ⟨y475, hy475⟩ : ∃ y_ : List Int, y_ = (x14_2.set (x15_2 : Int).toNat x17_64) := ⟨_, rfl⟩
                               replace H : (impl_natDiv.l2 k4 (wrap64 (16 - t427)) t428 y467 (t428.length : Int) y475 (wrap64 (x15_2 - 1))) = some (r1, r2) := by first | (rw [hy475]; with_reducible exact H) | (have H2_ := (Option.bind_some _ _).symm.trans H; rw [hy475]; with_reducible exact H2_) | (have H2_ := (Option.bind_some _ _).symm.trans H; with_reducible exact H2_) | with_reducible exact H | (rw [hy475]; exact H) | exact H
                               have Ny475 := A_ hy475
                               clear hy475
                               have H' := A_ H
                               clear H
                               have p466 : 0 ≤ ((ji55) : Int) := of_decide_eq_true as_
                               have q466 : (ji55) < (x12_4.length : Int) := of_decide_eq_true as_
                               obtain ⟨ad466, e466, hx466_0⟩ := Kd.at_int (Kd.R_reads' HO_12.out).2.2 (ji55) p466 q466
                               obtain rfl : ad455 = ad466 := (by injection e466)
                               replace p466 := eq_true p466
                               replace q466 := eq_true q466
                               have p99 : 0 ≤ ((ji55) : Int) := of_decide_eq_true as_
                               have q99 : ((ji55) : Int) < ((x12_4.length : Int) : Int) := of_decide_eq_true as_
                               obtain ⟨go99, co99, eo99, gb99, gl99, cl99, HG99⟩ := Kd.R_form HO_12.out (by omega)
                               (first | cases eo99 | (injection eo99 with ea_ en_ ec_; (first | subst ea_ | (injection ea_ with ea_; subst ea_)); subst ec_; clear en_))
                               have GB99 := A_ gb99
                               have GG99 := A_ HG99
                               clear gb99 gl99 HG99
                               (first | simp only [add_plain] at hx466_0 | skip)
                               obtain ⟨hx99_0, hf99_0⟩ := Kd.R_celln 0 HO_12.out ((ji55) : Int) p99 q99
                               replace p99 := eq_true p99
                               replace q99 := eq_true q99
                               have HP126 := Kd.R_putg HO_12.out ((ji55) : Int) (wrap64 ((rd x12_4 (ji55)) - x19_4))
                               go_wp2_with (first | ((with_reducible refine gate_store (t := 3) (p := 220) rfl ?_); refine store_event (t := 3) (p := 220) (v := ?vo_w127) (w1 := (wr.setCell ⟨go99, ((ji55) : Int).toNat, none⟩ (.int .i64 (wrap64 ((rd x12_4 (ji55)) - x19_4))))) ?hg ?ho ?hn ?hr ?_; (case ho => rfl); (case hg => rfl); (case hn => rfl); (case hr => first | (go_simp; done) | (go_simp; rfl)); intro w127 hw; have hg : wr.grownBy w127 (some go99) := (by rw [hw]; exact HP126.2); have hp_ : Kd.R (Kd.int .i64) 3 w127 w.heap.size (fun k_ => (w.heap.size ≤ k_) ∧ some k_ ≠ (v444 : Value).ownBlock) (.slice (some ⟨go99, 0, none⟩) x12_4.length co51) y467 := (by rw [hw, Ny467.out]; first | exact HP126.1 | exact Kd.R_mono HP126.1 (fun _ hk => (by first | (refine ⟨?_, ?_, ?_, ?_⟩ <;> first | exact hk.1 | exact hk.2.1 | exact hk.2.2.1 | exact hk.2.2.2 | exact hk.1.1 | exact hk.1.2) | (refine ⟨?_, ?_, ?_⟩ <;> first | exact hk.1 | exact hk.2.1 | exact hk.2.2 | exact hk.1.1 | exact hk.1.2)))); clear HP126; have n0_ := A_ (Kd.V_afterv (v := (.slice (some ⟨go99, 0, none⟩) x12_4.length co51)) (v1 := (.slice (some ⟨go99, 0, none⟩) x12_4.length co51)) (ok := (fun k_ => (w.heap.size ≤ k_) ∧ some k_ ≠ (v444 : Value).ownBlock)) (by (with_reducible repeat (first | apply Kd.V_alloc | apply Kd.V_drewN | apply Kd.V_drew)); exact Kd.V_mono HO_11.out (fun _ hk => (by first | exact ⟨⟨hk.1, hk.2.2⟩, hk.2.1⟩ | (refine ⟨⟨?_, ?_, ?_⟩, ?_⟩ <;> first | exact hk.1 | exact hk.2.1 | exact hk.2.2.1 | exact hk.2.2.2 | exact hk.2) | (refine ⟨⟨?_, ?_⟩, ?_⟩ <;> first | exact hk.1 | exact hk.2.1 | exact hk.2.2 | exact hk.2)))) hg (.inl rfl)); have n1_ := A_ (hp_); have n2_ := A_ (Kd.R_after (v := (.slice (some ⟨go99, 0, none⟩) x12_4.length co51)) (v1 := (.slice (some ⟨go99, 0, none⟩) x12_4.length co51)) (ok := (fun k_ => (w.heap.size ≤ k_))) (rz_ HO_14.out) hg (.inl rfl)); have n3_ := A_ (Kd.V_afterv (v := (.slice (some ⟨go99, 0, none⟩) x12_4.length co51)) (v1 := (.slice (some ⟨go99, 0, none⟩) x12_4.length co51)) (ok := (fun k_ => (w.heap.size ≤ k_) ∧ some k_ ≠ (v444 : Value).ownBlock)) (by (with_reducible repeat (first | apply Kd.V_alloc | apply Kd.V_drewN | apply Kd.V_drew)); exact Kd.V_mono HO_175.out (fun _ hk => (by first | exact ⟨⟨hk.1, hk.2.2⟩, hk.2.1⟩ | (refine ⟨⟨?_, ?_, ?_⟩, ?_⟩ <;> first | exact hk.1 | exact hk.2.1 | exact hk.2.2.1 | exact hk.2.2.2 | exact hk.2) | (refine ⟨⟨?_, ?_⟩, ?_⟩ <;> first | exact hk.1 | exact hk.2.1 | exact hk.2.2 | exact hk.2)))) hg (.inl rfl)); have n4_ := A_ ((by rw [hw]; exact below_set (HB.out) GB99.out : Below w.heap.size w w127)); clear HO_11 HO_12 HO_14 HO_175 HB; have HO_11 := n0_; have HO_12 := n1_; have HO_14 := n2_; have HO_175 := n3_; have HB := n4_; clear n0_ n1_ n2_ n3_ n4_; clear hg hw hp_; have p468 : 0 ≤ ((ji55) : Int) := of_decide_eq_true as_; have q468 : (ji55) < (y467.length : Int) := (by have h_ : ((ji55) : Int) < ((x12_4.length : Int) : Int) := of_decide_eq_true as_; first | (have e_ := (Kd.R_reads' HO_12.out).1; omega) | simpa only [Ny467.out, List.length_set] using h_); have ql468 : (((ji55) : Int) < ((x12_4.length : Int) : Int)) = True := eq_true (of_decide_eq_true as_); obtain ⟨ad468, e468, hx468_0⟩ := Kd.at_int (Kd.R_reads' HO_12.out).2.2 (ji55) p468 q468; obtain rfl : (⟨go99, 0, none⟩ : Addr) = ad468 := (by injection e468); (first | simp only [add_plain] at hx468_0 | simp only [add_at] at hx468_0 | simp only [Addr.add, Nat.zero_add] at hx468_0 | skip); replace p468 := eq_true p468; replace q468 := eq_true q468; have p125 : 0 ≤ (x15_2 : Int) := of_decide_eq_true as_; have q125 : (x15_2 : Int) < ((x14_2.length : Int) : Int) := of_decide_eq_true as_; obtain ⟨go125, co125, eo125, gb125, gl125, cl125, HG125⟩ := Kd.R_form HO_14.out (by omega); (first | cases eo125 | (injection eo125 with ea_ en_ ec_; (first | subst ea_ | (injection ea_ with ea_; subst ea_)); subst ec_; clear en_)); have GB125 := A_ gb125; have GG125 := A_ HG125; clear gb125 gl125 HG125; obtain ⟨hx125_0, hf125_0⟩ := Kd.R_celln 0 HO_14.out (x15_2 : Int) p125 q125; replace p125 := eq_true p125; replace q125 := eq_true q125; obtain ⟨hy128_, hz128_⟩ := Kd.R_celln 0 HO_14.out (x15_2 : Int) (of_decide_eq_true as_) (of_decide_eq_true as_); have HP128 := Kd.R_putg HO_14.out (x15_2 : Int) x17_64) | ((with_reducible refine gate_store (t := 3) (p := 269) rfl ?_); refine store_event (t := 3) (p := 269) (v := ?vo_w129) (w1 := (w127.setCell ⟨go125, (x15_2 : Int).toNat, none⟩ (.int .i64 x17_64))) ?hg ?ho ?hn ?hr ?_; (case ho => rfl); (case hg => rfl); (case hn => rfl); (case hr => first | (go_simp; done) | (go_simp; rfl)); intro w129 hw; have hg : w127.grownBy w129 (some go125) := (by rw [hw]; exact HP128.2); have hp_ : Kd.R (Kd.int .i64) 3 w129 w.heap.size (fun k_ => (w.heap.size ≤ k_) ∧ some k_ ≠ (.slice (some ⟨go99, 0, none⟩) x12_4.length co51 : Value).ownBlock) (.slice (some ⟨go125, 0, none⟩) x14_2.length co125) y475 := (by rw [hw, Ny475.out]; first | exact HP128.1 | exact Kd.R_mono HP128.1 (fun _ hk => (by first | (refine ⟨?_, ?_, ?_, ?_⟩ <;> first | exact hk.1 | exact hk.2.1 | exact hk.2.2.1 | exact hk.2.2.2 | exact hk.1.1 | exact hk.1.2) | (refine ⟨?_, ?_, ?_⟩ <;> first | exact hk.1 | exact hk.2.1 | exact hk.2.2 | exact hk.1.1 | exact hk.1.2)))); clear HP128; have n0_ := A_ (Kd.V_afterv (v := (.slice (some ⟨go125, 0, none⟩) x14_2.length co125)) (v1 := (.slice (some ⟨go125, 0, none⟩) x14_2.length co125)) (ok := (fun k_ => (w.heap.size ≤ k_) ∧ some k_ ≠ (.slice (some ⟨go99, 0, none⟩) x12_4.length co51 : Value).ownBlock)) (by (with_reducible repeat (first | apply Kd.V_alloc | apply Kd.V_drewN | apply Kd.V_drew)); exact Kd.V_mono HO_11.out (fun _ hk => (by first | exact ⟨⟨hk.1.1, hk.2⟩, hk.1.2⟩ | (refine ⟨⟨?_, ?_, ?_⟩, ?_⟩ <;> first | exact hk.1 | exact hk.2.1 | exact hk.2.2.1 | exact hk.2.2.2 | exact hk.2) | (refine ⟨⟨?_, ?_⟩, ?_⟩ <;> first | exact hk.1 | exact hk.2.1 | exact hk.2.2 | exact hk.2)))) hg (.inl rfl)); have n1_ := A_ (Kd.R_after (v := (.slice (some ⟨go125, 0, none⟩) x14_2.length co125)) (v1 := (.slice (some ⟨go125, 0, none⟩) x14_2.length co125)) (ok := (fun k_ => (w.heap.size ≤ k_))) (rz_ HO_12.out) hg (.inl rfl)); have n2_ := A_ (hp_); have n3_ := A_ (Kd.V_afterv (v := (.slice (some ⟨go125, 0, none⟩) x14_2.length co125)) (v1 := (.slice (some ⟨go125, 0, none⟩) x14_2.length co125)) (ok := (fun k_ => (w.heap.size ≤ k_) ∧ some k_ ≠ (.slice (some ⟨go99, 0, none⟩) x12_4.length co51 : Value).ownBlock)) (by (with_reducible repeat (first | apply Kd.V_alloc | apply Kd.V_drewN | apply Kd.V_drew)); exact Kd.V_mono HO_175.out (fun _ hk => (by first | exact ⟨⟨hk.1.1, hk.2⟩, hk.1.2⟩ | (refine ⟨⟨?_, ?_, ?_⟩, ?_⟩ <;> first | exact hk.1 | exact hk.2.1 | exact hk.2.2.1 | exact hk.2.2.2 | exact hk.2) | (refine ⟨⟨?_, ?_⟩, ?_⟩ <;> first | exact hk.1 | exact hk.2.1 | exact hk.2.2 | exact hk.2)))) hg (.inl rfl)); have n4_ := A_ ((by rw [hw]; exact below_set (HB.out) GB125.out : Below w.heap.size w w129)); clear HO_11 HO_12 HO_14 HO_175 HB; have HO_11 := n0_; have HO_12 := n1_; have HO_14 := n2_; have HO_175 := n3_; have HB := n4_; clear n0_ n1_ n2_ n3_ n4_; clear hg hw hp_))
                               (try simp only [← hl12_2, ← hl12_4])
                               go_roundg k4
                               case measure => have := HK1.out; have := HK2.out; have := HJ64.out; have := HK4.out; omega
                               case rel => exact ⟨(y467), (y475), (wrap64 (x15_2 - 1)), (by first | rfl | (simp; done) | (simp [*]; done)), H', ⟨by have := HK1.out; have := HK2.out; have := HJ64.out; have := HK4.out; omega⟩, ⟨by (try simp only [hl12_2]); (try simp only [hl12_4]); (with_reducible repeat (first | apply Kd.V_alloc | apply Kd.V_drewN | apply Kd.V_drew)); exact Kd.V_mono HO_11.out (fun _ hk => ⟨hk.1.1, ⟨hk.1.2, hk.2⟩⟩)⟩, ⟨by (try simp only [hl12_2]); (try simp only [hl12_4]); (with_reducible repeat (first | apply Kd.R_alloc | apply Kd.R_drewN | apply Kd.R_drew)); exact HO_12.out⟩, ⟨by (try simp only [hl12_2]); (try simp only [hl12_4]); (with_reducible repeat (first | apply Kd.R_alloc | apply Kd.R_drewN | apply Kd.R_drew)); exact HO_14.out⟩, ⟨hB_⟩⟩
                              ·rw [if_neg c124] at H
                               exact absurd H (by simp)
                             ·rw [if_neg c123] at H
                              exact absurd H (by simp)
                           ·rw [if_neg c98] at H
                            exact absurd H (by simp)
                          ·rw [if_neg c97] at H
                           exact absurd H (by simp)
                   ·rw [if_neg c63] at H
                    exact absurd H (by simp)
                  ·rw [if_neg c62] at H
                   exact absurd H (by simp)
                 ·rw [if_neg c60] at H
                  exact absurd H (by simp)
                ·rw [if_neg c59] at H
                 exact absurd H (by simp)
               ·rw [if_neg c57] at H
                exact absurd H (by simp)
              ·rw [if_neg c56] at H
               exact absurd H (by simp)
             ·rw [if_neg c54] at H
              have c54b0 : decide (0 ≤ x15_2) = false := decide_eq_false c54
              clear c54
              replace H := Option.bind_eq_some_iff.mp H
              obtain ⟨t446, A1300, H⟩ := H
              replace H : ((impl_trim.f k2 x12_2).bind fun t449 => ((impl_natShift.f k2 t449 (wrap64 (-(wrap64 (16 - t427))))).bind fun t452 => (some (t446, t452)))) = some (r1, r2) := H
              have A130 := A_ A1300
              clear A1300
              replace H := Option.bind_eq_some_iff.mp H
              obtain ⟨t449, A1310, H⟩ := H
              replace H : ((impl_natShift.f k2 t449 (wrap64 (-(wrap64 (16 - t427))))).bind fun t452 => (some (t446, t452))) = some (r1, r2) := H
              have A131 := A_ A1310
              clear A1310
              replace H := Option.bind_eq_some_iff.mp H
              obtain ⟨t452, A1320, H⟩ := H
              replace H : (some (t446, t452)) = some (r1, r2) := H
              have A132 := A_ A1320
              clear A1320
              simp only [Option.some.injEq, Prod.mk.injEq] at H
              obtain ⟨rfl, rfl⟩ := H
              obtain ⟨Ao133, co133, eo133⟩ := Kd.R_slice HO_14.out
              subst eo133
              go_wp2_with (first | ((with_reducible refine gate_callee (f := 47) rfl ?_); refine goesL_ (some 271) rfl rfl Tryd.func47 (by kernel_rfl) rfl #[.slice Ao133 x14_2.length co133] rfl (by (try simp only [List.map_toArray, List.map_cons, List.map_nil]); first | done | rfl) ?_; (with_reducible refine (impl_trim.calls k2 (fun k_ => some k_ = (.slice Ao133 x14_2.length co133 : Value).ownBlock) _ _ x14_2 t446 _ ?side1 A130.out).mono ?_); (case side1 => exact Kd.R_V (Kd.R_tight rfl (HO_14.out))); rintro e w134 ⟨v447, rfl, ho0, hb⟩; refine ⟨_, rfl, ?_⟩; have n0_ := A_ (Kd.V_below (by (with_reducible repeat (first | apply Kd.V_alloc | apply Kd.V_drewN | apply Kd.V_drew)); exact HO_11.out) hb); have n1_ := A_ (Kd.R_below (rz_ HO_12.out) hb); have n2_ := A_ (Kd.R_below (rz_ HO_14.out) hb); have n3_ := A_ (Kd.V_lower (Kd.V_mono (ok' := fun k_ => (w.heap.size ≤ k_) ∧ some k_ ≠ (.slice Ao51 x12_2.length co51 : Value).ownBlock) ho0 (fun k_ hk_ => ⟨Or.elim hk_ (fun hs_ => ((HO_14.out).1 k_ hs_.symm).1) (fun hn_ => (Nat.le_trans (below_size hB_) hn_)), Or.elim hk_ (fun hs_ => ((HO_14.out).1 k_ hs_.symm).2) (fun hn_ => (Kd.fresh' (Kd.R_lt (rz_ HO_12.out)) k_ hn_))⟩)) (below_size hB_)); have n4_ := A_ (below_step hB_ hb); clear HO_11 HO_12 HO_14 HB; have HO_11 := n0_; have HO_12 := n1_; have HO_14 := n2_; have HO448 := n3_; have HB := n4_; clear n0_ n1_ n2_ n3_ n4_; (try clear hb); (try clear hb2); (try clear hk); (try clear hi); (try clear ho0)) | ((with_reducible refine gate_callee (f := 47) rfl ?_); refine goesL_ (some 273) rfl rfl Tryd.func47 (by kernel_rfl) rfl #[.slice Ao51 x12_2.length co51] rfl (by (try simp only [List.map_toArray, List.map_cons, List.map_nil]); first | done | rfl) ?_; (with_reducible refine (impl_trim.calls k2 (fun k_ => some k_ = (.slice Ao51 x12_2.length co51 : Value).ownBlock) _ _ x12_2 t449 _ ?side1 A131.out).mono ?_); (case side1 => exact Kd.R_V (Kd.R_tight rfl (HO_12.out))); rintro e w135 ⟨v450, rfl, ho0, hb⟩; refine ⟨_, rfl, ?_⟩; have n0_ := A_ (Kd.V_below (by (with_reducible repeat (first | apply Kd.V_alloc | apply Kd.V_drewN | apply Kd.V_drew)); exact HO_11.out) hb); have n1_ := A_ (Kd.R_below (rz_ HO_12.out) hb); have n2_ := A_ (Kd.R_below (rz_ HO_14.out) hb); have n3_ := A_ (Kd.V_below (by (with_reducible repeat (first | apply Kd.V_alloc | apply Kd.V_drewN | apply Kd.V_drew)); exact HO448.out) hb); have n4_ := A_ (Kd.V_lower (Kd.V_mono (ok' := fun k_ => (w.heap.size ≤ k_) ∧ some k_ ≠ (.slice Ao133 x14_2.length co133 : Value).ownBlock) ho0 (fun k_ hk_ => ⟨Or.elim hk_ (fun hs_ => ((HO_12.out).1 k_ hs_.symm).1) (fun hn_ => (Nat.le_trans (below_size hB_) hn_)), Or.elim hk_ (fun hs_ => ((HO_12.out).1 k_ hs_.symm).2) (fun hn_ => (Kd.fresh' (Kd.R_lt (rz_ HO_14.out)) k_ hn_))⟩)) (below_size hB_)); have n5_ := A_ (below_step hB_ hb); clear HO_11 HO_12 HO_14 HO448 HB; have HO_11 := n0_; have HO_12 := n1_; have HO_14 := n2_; have HO448 := n3_; have HO451 := n4_; have HB := n5_; clear n0_ n1_ n2_ n3_ n4_ n5_; (try clear hb); (try clear hb2); (try clear hk); (try clear hi); (try clear ho0); obtain ⟨Ao136, co136, eo136⟩ := Kd.V_slice HO451.out; subst eo136) | ((with_reducible refine gate_callee (f := 63) rfl ?_); refine goesL_ (some 276) rfl rfl Tryd.func63 (by kernel_rfl) rfl #[.slice Ao136 t449.length co136, .int .i64 (wrap64 (-(wrap64 (16 - t427))))] rfl (by (try simp only [List.map_toArray, List.map_cons, List.map_nil]); first | done | rfl) ?_; (with_reducible refine (impl_natShift.calls k2 _ _ t449 (wrap64 (-(wrap64 (16 - t427)))) t452 _ ?side1 ?side2 A132.out).mono ?_); (case side1 => repeat (first | exact (Kd.V_reads' HO451.out).2.2 | (with_reducible refine Kd.C_alloc ?_ _) | (with_reducible refine Kd.C_drewN ?_ _) | (with_reducible refine Kd.C_drew ?_))); (case side2 => exact (Kd.V_reads' HO451.out).2.1); rintro e w137 ⟨v453, rfl, ho0, hb⟩; refine ⟨_, rfl, ?_⟩; have n0_ := A_ (Kd.V_below (by (with_reducible repeat (first | apply Kd.V_alloc | apply Kd.V_drewN | apply Kd.V_drew)); exact HO_11.out) hb); have n1_ := A_ (Kd.R_below (rz_ HO_12.out) hb); have n2_ := A_ (Kd.R_below (rz_ HO_14.out) hb); have n3_ := A_ (Kd.V_below (by (with_reducible repeat (first | apply Kd.V_alloc | apply Kd.V_drewN | apply Kd.V_drew)); exact HO448.out) hb); have n4_ := A_ (Kd.V_below (by (with_reducible repeat (first | apply Kd.V_alloc | apply Kd.V_drewN | apply Kd.V_drew)); exact HO451.out) hb); have n5_ := A_ (Kd.V_lower (Kd.V_mono (ok' := fun k_ => (w.heap.size ≤ k_) ∧ some k_ ≠ (.slice Ao51 x12_2.length co51 : Value).ownBlock ∧ some k_ ≠ (.slice Ao133 x14_2.length co133 : Value).ownBlock) ho0 (fun k_ hk_ => ⟨(Nat.le_trans (below_size hB_) hk_), (Kd.fresh' (Kd.R_lt (rz_ HO_12.out)) k_ hk_), (Kd.fresh' (Kd.R_lt (rz_ HO_14.out)) k_ hk_)⟩)) (below_size hB_)); have n6_ := A_ (below_step hB_ hb); clear HO_11 HO_12 HO_14 HO448 HO451 HB; have HO_11 := n0_; have HO_12 := n1_; have HO_14 := n2_; have HO448 := n3_; have HO451 := n4_; have HO454 := n5_; have HB := n6_; clear n0_ n1_ n2_ n3_ n4_ n5_ n6_; (try clear hb); (try clear hb2); (try clear hk); (try clear hi); (try clear ho0)))
              go_ret2
              exact .inl ⟨_, _, by first | rfl | (simp [errW_none, errW_some] <;> rfl) | (simp only [← hji29, ← hji48]; first | rfl | (simp [errW_none, errW_some] <;> rfl)) | (simp [*, errW_none, errW_some] <;> rfl), by (with_reducible repeat (first | apply Kd.V_alloc | apply Kd.V_drewN | apply Kd.V_drew)); exact Kd.V_mono HO448.out (fun _ hk => hk.1), by (with_reducible repeat (first | apply Kd.V_alloc | apply Kd.V_drewN | apply Kd.V_drew)); exact Kd.V_mono HO454.out (fun _ hk => hk.1), hB_⟩
          ·rw [if_neg c50] at H
           exact absurd H (by simp)
         ·rw [if_neg c49] at H
          exact absurd H (by simp)
     ·rw [if_neg c36] at H
      exact absurd H (by simp)
    ·rw [if_neg c31] at H
     exact absurd H (by simp)
   ·rw [if_neg c30] at H
    exact absurd H (by simp)

end Go.Proofs.YtmdeolonjmjmgaaDoor.QFnExactDecFrac
