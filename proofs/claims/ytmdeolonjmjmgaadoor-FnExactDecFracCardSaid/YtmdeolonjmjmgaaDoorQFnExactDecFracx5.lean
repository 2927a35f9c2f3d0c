/- The machine side of one law: each function and the law itself walked once, written by a program of this session (wip/xprint.py) that runs the printer of the kit.
   Conditions: none. -/
import Derived.Test.YtmdeolonjmjmgaaDoorQFnExactDecFracx0
import Derived.Test.YtmdeolonjmjmgaaDoorQFnExactDecFracx3
import Derived.Test.YtmdeolonjmjmgaaDoorQFnExactDecFracx4
namespace Go.Proofs.YtmdeolonjmjmgaaDoor.QFnExactDecFrac
open Go.RowKit Go.Proofs.YtmdeolonjmjmgaaDoorW.PrintWords Go.Proofs.YtmdeolonjmjmgaaDoorW.PrintLast Go.Proofs.YtmdeolonjmjmgaaDoorW.PrintMore Go.Proofs.YtmdeolonjmjmgaaDoor.MX
attribute [local go_sem] Go.Instr.field Go.asAgg Go.Proofs.YtmdeolonjmjmgaaDoor.MS.isSome_setCell Go.Proofs.YtmdeolonjmjmgaaDoor.MT.gtr Go.Proofs.YtmdeolonjmjmgaaDoor.MT.td
attribute [local go_sem] max2_int min2_int max_two min_two max_three min_three max_four min_four   -- for this text's walks alone
set_option linter.unusedVariables false
set_option linter.unusedSimpArgs false

/-! ### spec_l5Div: function 43 -/
mutual
def spec_l5Div.l0 : Nat → Int → List Int → List Int → Int → List Int → List Int → Int → Option (List Int × List Int)
 | 0, _, _, _, _, _, _, _ => none
 | k + 1, x8, x9, x10, x11, x12, x13, x14 => if x14 ≥ 0 then ((spec_l5Shl.f k x13 1).bind fun t204 => (if 0 ≤ x14 then (if x14 < (x9.length : Int) then ((spec_NatOf.f k (IntKind.u64.wrap (rd x9 x14))).bind fun t208 => ((spec_l5Add.f k t204 t208).bind fun t211 => ((spec_l5Trim.f k t211).bind fun t214 => ((spec_l5At.f t214 x11).bind fun t217 => ((spec_l5At.f t214 (wrap64 (x11 - 1))).bind fun t218 => (if 0 ≤ (wrap64 (x11 - 1)) then (if (wrap64 (x11 - 1)) < (x10.length : Int) then (if (rd x10 (wrap64 (x11 - 1))) = 0 then (none) else (if (wrap64 (Int.tdiv (wrap64 ((wrap64 (t217 * 65536)) + t218)) (rd x10 (wrap64 (x11 - 1))))) ≥ 65536 then (spec_l5Div.j1 k x8 x9 x10 x11 x12 t214 x14 65535) else (spec_l5Div.j1 k x8 x9 x10 x11 x12 t214 x14 (wrap64 (Int.tdiv (wrap64 ((wrap64 (t217 * 65536)) + t218)) (rd x10 (wrap64 (x11 - 1)))))))) else (none)) else (none))))))) else (none)) else (none))) else ((spec_l5DivSmall.f k x13 x8).bind fun bt197 => ((spec_l5Trim.f k x12).bind fun t201 => (some (t201, bt197.1))))
def spec_l5Div.j1 : Nat → Int → List Int → List Int → Int → List Int → List Int → Int → Int → Option (List Int × List Int)
 | 0, _, _, _, _, _, _, _, _ => none
 | k + 1, x8, x9, x10, x11, x12, x13, x14, x15 => (spec_l5Times.f k x10 x15).bind fun t220 => (spec_l5Div.l1 k x8 x9 x10 x11 x12 x13 x14 x15 t220)
def spec_l5Div.l1 : Nat → Int → List Int → List Int → Int → List Int → List Int → Int → Int → List Int → Option (List Int × List Int)
 | 0, _, _, _, _, _, _, _, _, _ => none
 | k + 1, x8, x9, x10, x11, x12, x13, x14, x15, x16 => (spec_l5Cmp.f k x16 x13).bind fun t223 => (if t223 > 0 then ((spec_l5Sub.f k x16 x10).bind fun t224 => (spec_l5Div.l1 k x8 x9 x10 x11 x12 x13 x14 (wrap64 (x15 - 1)) t224)) else (if 0 ≤ x14 then (if x14 < (x12.length : Int) then ((spec_l5Sub.f k x13 x16).bind fun t228 => (spec_l5Div.l0 k x8 x9 x10 x11 (x12.set (x14 : Int).toNat x15) t228 (wrap64 (x14 - 1)))) else (none)) else (none)))
end
def spec_l5Div.f (k : Nat) (l0 : List Int) (l1 : List Int) : Option (List Int × List Int) := (spec_l5Cmp.f k l0 l1).bind fun t172 => (if t172 < 0 then ((spec_l5Trim.f k l0).bind fun t173 => (some (([] : List Int), t173))) else (if (l1.length : Int) = 1 then (if 0 < (l1.length : Int) then ((spec_l5DivSmall.f k l0 (rd l1 0)).bind fun bt177 => ((spec_NatOf.f k (IntKind.u64.wrap (bt177.2))).bind fun t181 => (some (bt177.1, t181)))) else (none)) else (if 0 ≤ (wrap64 ((l1.length : Int) - 1)) then (if (wrap64 ((l1.length : Int) - 1)) < (l1.length : Int) then (if (wrap64 ((rd l1 (wrap64 ((l1.length : Int) - 1))) + 1)) = 0 then (none) else ((spec_l5Times.f k l0 (wrap64 ((65536 : Int) / (wrap64 ((rd l1 (wrap64 ((l1.length : Int) - 1))) + 1))))).bind fun t185 => ((spec_l5Times.f k l1 (wrap64 ((65536 : Int) / (wrap64 ((rd l1 (wrap64 ((l1.length : Int) - 1))) + 1))))).bind fun t188 => (if 0 ≤ (wrap64 ((wrap64 ((t185.length : Int) - (t188.length : Int))) + 1)) then (if (wrap64 ((wrap64 ((t185.length : Int) - (t188.length : Int))) + 1) : Int).toNat ≤ 35184372088832 then ((spec_l5Top.f k t185 (wrap64 ((wrap64 ((t185.length : Int) - (t188.length : Int))) + 1))).bind fun t194 => (spec_l5Div.l0 k (wrap64 ((65536 : Int) / (wrap64 ((rd l1 (wrap64 ((l1.length : Int) - 1))) + 1)))) t185 t188 (t188.length : Int) (List.replicate (wrap64 ((wrap64 ((t185.length : Int) - (t188.length : Int))) + 1) : Int).toNat 0) t194 (wrap64 ((t185.length : Int) - (t188.length : Int))))) else (none)) else (none))))) else (none)) else (none))))
def spec_l5Div.T15 : Bool × List (List Nat × List Nat) := (true, [([], []), ([0], [0]), ([], []), ([], []), ([2, 3], [2, 3]), ([4], [4]), ([5], [5]), ([6, 1], [6]), ([1, 7, 7], [1, 7]), ([8, 8], [8]), ([9, 9, 0, 1, 2, 3, 4, 5, 6, 7, 8, 9], [0, 9])])
def spec_l5Div.B15 : List Nat := [0, 1, 0, 0, 12, 28, 60, 127, 255, 511, 1023]
theorem spec_l5Div.tab15 : rtab .any (opsOf Tryd.f43 15) = spec_l5Div.T15 := by kernel_rfl
theorem spec_l5Div.bits15 : waitsOk spec_l5Div.T15.2 spec_l5Div.B15 = true := by kernel_rfl
def spec_l5Div.T16 : Bool × List (List Nat × List Nat) := (true, [([], []), ([], []), ([0, 1], [0, 1]), ([2], [2]), ([], []), ([], []), ([5], [5]), ([4, 6, 2], [4, 6]), ([3, 7], [3, 7]), ([], []), ([], []), ([10], [10]), ([9, 11], [9, 11]), ([12], [12]), ([8, 13], [8, 13]), ([14, 7, 0, 1, 2, 3, 4, 5, 6, 7, 8, 9, 10, 11, 12, 13, 14], [14])])
def spec_l5Div.B16 : List Nat := [0, 0, 3, 7, 0, 0, 32, 119, 255, 0, 0, 1024, 3584, 7680, 16383, 32767]
theorem spec_l5Div.tab16 : rtab .any (opsOf Tryd.f43 16) = spec_l5Div.T16 := by kernel_rfl
theorem spec_l5Div.bits16 : waitsOk spec_l5Div.T16.2 spec_l5Div.B16 = true := by kernel_rfl
set_option maxHeartbeats 8000000 in
set_option maxRecDepth 100000 in
theorem spec_l5Div.calls (k : Nat) (A0 : Option Addr) (c0 : Nat) (l0 : List Int) (A1 : Option Addr) (c1 : Nat) (l1 : List Int) (r1 : List Int) (r2 : List Int) (w : World) (hr0 : Kd.C (Kd.int .i64) w A0 l0.length l0) (hc0 : l0.length ≤ c0) (hr1 : Kd.C (Kd.int .i64) w A1 l1.length l1) (hc1 : l1.length ≤ c1) (h : spec_l5Div.f k l0 l1 = some (r1, r2)) :
  Calls Tryd.prog 43 #[.slice A0 l0.length c0, .slice A1 l1.length c1] w fun e w' => ∃ v0_ v1_ : Value, e = .returned (.tuple #[v0_, v1_]) ∧ Kd.R (Kd.int .i64) 3 w' w.heap.size (fun k_ => some k_ ≠ (v1_ : Value).ownBlock) v0_ r1 ∧ Kd.R (Kd.int .i64) 3 w' w.heap.size (fun k_ => some k_ ≠ (v0_ : Value).ownBlock) v1_ r2 ∧ Below w.heap.size w w' := by
 have HR0 := A_ hr0
 have HC0 := A_ hc0
 clear hr0 hc0
 have HR1 := A_ hr1
 have HC1 := A_ hc1
 clear hr1 hc1
 have HB := A_ (Below.refl w.heap.size w)
 have H : ((spec_l5Cmp.f k l0 l1).bind fun t172 => (if t172 < 0 then ((spec_l5Trim.f k l0).bind fun t173 => (some (([] : List Int), t173))) else (if (l1.length : Int) = 1 then (if 0 < (l1.length : Int) then ((spec_l5DivSmall.f k l0 (rd l1 0)).bind fun bt177 => ((spec_NatOf.f k (IntKind.u64.wrap (bt177.2))).bind fun t181 => (some (bt177.1, t181)))) else (none)) else (if 0 ≤ (wrap64 ((l1.length : Int) - 1)) then (if (wrap64 ((l1.length : Int) - 1)) < (l1.length : Int) then (if (wrap64 ((rd l1 (wrap64 ((l1.length : Int) - 1))) + 1)) = 0 then (none) else ((spec_l5Times.f k l0 (wrap64 ((65536 : Int) / (wrap64 ((rd l1 (wrap64 ((l1.length : Int) - 1))) + 1))))).bind fun t185 => ((spec_l5Times.f k l1 (wrap64 ((65536 : Int) / (wrap64 ((rd l1 (wrap64 ((l1.length : Int) - 1))) + 1))))).bind fun t188 => (if 0 ≤ (wrap64 ((wrap64 ((t185.length : Int) - (t188.length : Int))) + 1)) then (if (wrap64 ((wrap64 ((t185.length : Int) - (t188.length : Int))) + 1) : Int).toNat ≤ 35184372088832 then ((spec_l5Top.f k t185 (wrap64 ((wrap64 ((t185.length : Int) - (t188.length : Int))) + 1))).bind fun t194 => (spec_l5Div.l0 k (wrap64 ((65536 : Int) / (wrap64 ((rd l1 (wrap64 ((l1.length : Int) - 1))) + 1)))) t185 t188 (t188.length : Int) (List.replicate (wrap64 ((wrap64 ((t185.length : Int) - (t188.length : Int))) + 1) : Int).toNat 0) t194 (wrap64 ((t185.length : Int) - (t188.length : Int))))) else (none)) else (none))))) else (none)) else (none))))) = some (r1, r2) := h
 clear h
 replace H := Option.bind_eq_some_iff.mp H
 obtain ⟨t172, A30, H⟩ := H
 replace H : (if t172 < 0 then ((spec_l5Trim.f k l0).bind fun t173 => (some (([] : List Int), t173))) else (if (l1.length : Int) = 1 then (if 0 < (l1.length : Int) then ((spec_l5DivSmall.f k l0 (rd l1 0)).bind fun bt177 => ((spec_NatOf.f k (IntKind.u64.wrap (bt177.2))).bind fun t181 => (some (bt177.1, t181)))) else (none)) else (if 0 ≤ (wrap64 ((l1.length : Int) - 1)) then (if (wrap64 ((l1.length : Int) - 1)) < (l1.length : Int) then (if (wrap64 ((rd l1 (wrap64 ((l1.length : Int) - 1))) + 1)) = 0 then (none) else ((spec_l5Times.f k l0 (wrap64 ((65536 : Int) / (wrap64 ((rd l1 (wrap64 ((l1.length : Int) - 1))) + 1))))).bind fun t185 => ((spec_l5Times.f k l1 (wrap64 ((65536 : Int) / (wrap64 ((rd l1 (wrap64 ((l1.length : Int) - 1))) + 1))))).bind fun t188 => (if 0 ≤ (wrap64 ((wrap64 ((t185.length : Int) - (t188.length : Int))) + 1)) then (if (wrap64 ((wrap64 ((t185.length : Int) - (t188.length : Int))) + 1) : Int).toNat ≤ 35184372088832 then ((spec_l5Top.f k t185 (wrap64 ((wrap64 ((t185.length : Int) - (t188.length : Int))) + 1))).bind fun t194 => (spec_l5Div.l0 k (wrap64 ((65536 : Int) / (wrap64 ((rd l1 (wrap64 ((l1.length : Int) - 1))) + 1)))) t185 t188 (t188.length : Int) (List.replicate (wrap64 ((wrap64 ((t185.length : Int) - (t188.length : Int))) + 1) : Int).toNat 0) t194 (wrap64 ((t185.length : Int) - (t188.length : Int))))) else (none)) else (none))))) else (none)) else (none)))) = some (r1, r2) := H
 have A3 := A_ A30
 clear A30
 by_cases c4 : t172 < 0
 ·rw [if_pos c4] at H
  have c4b0 : decide (t172 < 0) = true := decide_eq_true c4
  clear c4
  replace H := Option.bind_eq_some_iff.mp H
  obtain ⟨t173, A50, H⟩ := H
  replace H : (some (([] : List Int), t173)) = some (r1, r2) := H
  have A5 := A_ A50
  clear A50
  simp only [Option.some.injEq, Prod.mk.injEq] at H
  obtain ⟨rfl, rfl⟩ := H
  go_enter Tryd.func43, Tryd.ntmps43
  go_wp2_with (first | ((with_reducible refine gate_callee (f := 55) rfl ?_); refine goesL_ (some 21) rfl rfl Tryd.func55 (by kernel_rfl) rfl #[.slice A0 l0.length c0, .slice A1 l1.length c1] rfl (by (try simp only [List.map_toArray, List.map_cons, List.map_nil]); first | done | rfl) ?_; (with_reducible refine (spec_l5Cmp.calls k _ _ l0 _ _ l1 t172 _ ?side1 ?side2 ?side3 ?side4 A3.out).mono ?_); (case side1 => repeat (first | exact HR0.out | (with_reducible refine Kd.C_alloc ?_ _) | (with_reducible refine Kd.C_drewN ?_ _) | (with_reducible refine Kd.C_drew ?_))); (case side2 => exact HC0.out); (case side3 => repeat (first | exact HR1.out | (with_reducible refine Kd.C_alloc ?_ _) | (with_reducible refine Kd.C_drewN ?_ _) | (with_reducible refine Kd.C_drew ?_))); (case side4 => exact HC1.out); rintro e w' ⟨rfl, ⟨nd, rfl⟩⟩; refine ⟨_, rfl, ?_⟩) | ((with_reducible refine gate_callee (f := 18) rfl ?_); refine goesL_ (some 24) rfl rfl Tryd.func18 (by kernel_rfl) rfl #[.slice A0 l0.length c0] rfl (by (try simp only [List.map_toArray, List.map_cons, List.map_nil]); first | done | rfl) ?_; (with_reducible refine (spec_l5Trim.calls k _ _ l0 t173 _ ?side1 ?side2 A5.out).mono ?_); (case side1 => repeat (first | exact HR0.out | (with_reducible refine Kd.C_alloc ?_ _) | (with_reducible refine Kd.C_drewN ?_ _) | (with_reducible refine Kd.C_drew ?_))); (case side2 => exact HC0.out); rintro e w6 ⟨v174, rfl, ho0, hb⟩; refine ⟨_, rfl, ?_⟩; have n0_ := A_ (Kd.R_lower ho0 (below_size hB_)); have n1_ := A_ (below_step hB_ hb); clear HB; have HO175 := n0_; have HB := n1_; clear n0_ n1_; (try clear hb); (try clear hb2); (try clear hk); (try clear hi); (try clear ho0)))
  go_ret2
  exact ⟨_, _, by first | rfl | (simp [errW_none, errW_some] <;> rfl) | (simp [*, errW_none, errW_some] <;> rfl), by first | exact Kd.R_nil _ _ _ _ _ | exact Kd.N_nil _ _ _ _ _ | exact Kd.V_nil _ _ _ _ _ | exact Kd.Q_nil _ _ _ _ _ | exact Kd.S_nil _ _ _ _ _, by (with_reducible repeat (first | apply Kd.R_alloc | apply Kd.R_drewN | apply Kd.R_drew)); exact Kd.R_mono HO175.out (fun _ hk => (by simp [Value.ownBlock])), hB_⟩
 ·rw [if_neg c4] at H
  have c4b0 : decide (t172 < 0) = false := decide_eq_false c4
  clear c4
  by_cases c7 : (l1.length : Int) = 1
  ·rw [if_pos c7] at H
   have c7b0 : ((l1.length : Int) == 1) = true := beq_iff_eq.mpr c7
   have c7b1 : ((l1.length : Int) != 1) = false := bne_eq_false_iff_eq.mpr c7
   clear c7
   by_cases c8 : 0 < (l1.length : Int)
   ·rw [if_pos c8] at H
    have c8b0 : decide (0 < (l1.length : Int)) = true := decide_eq_true c8
    have c8b1 : decide (0 < l1.length) = true := decide_eq_true (by omega)
    clear c8
    replace H := Option.bind_eq_some_iff.mp H
    obtain ⟨⟨t177, t178⟩, A90, H⟩ := H
    replace H : ((spec_NatOf.f k (IntKind.u64.wrap (t178))).bind fun t181 => (some (t177, t181))) = some (r1, r2) := H
    have A9 := A_ A90
    clear A90
    replace H := Option.bind_eq_some_iff.mp H
    obtain ⟨t181, A100, H⟩ := H
    replace H : (some (t177, t181)) = some (r1, r2) := H
    have A10 := A_ A100
    clear A100
    simp only [Option.some.injEq, Prod.mk.injEq] at H
    obtain ⟨rfl, rfl⟩ := H
    go_enter Tryd.func43, Tryd.ntmps43
    go_wp2_with (first | ((with_reducible refine gate_callee (f := 55) rfl ?_); refine goesL_ (some 21) rfl rfl Tryd.func55 (by kernel_rfl) rfl #[.slice A0 l0.length c0, .slice A1 l1.length c1] rfl (by (try simp only [List.map_toArray, List.map_cons, List.map_nil]); first | done | rfl) ?_; (with_reducible refine (spec_l5Cmp.calls k _ _ l0 _ _ l1 t172 _ ?side1 ?side2 ?side3 ?side4 A3.out).mono ?_); (case side1 => repeat (first | exact HR0.out | (with_reducible refine Kd.C_alloc ?_ _) | (with_reducible refine Kd.C_drewN ?_ _) | (with_reducible refine Kd.C_drew ?_))); (case side2 => exact HC0.out); (case side3 => repeat (first | exact HR1.out | (with_reducible refine Kd.C_alloc ?_ _) | (with_reducible refine Kd.C_drewN ?_ _) | (with_reducible refine Kd.C_drew ?_))); (case side4 => exact HC1.out); rintro e w' ⟨rfl, ⟨nd, rfl⟩⟩; refine ⟨_, rfl, ?_⟩; have p176 : 0 ≤ (0 : Int) := (by omega); have q176 : 0 < (l1.length : Int) := of_decide_eq_true as_; obtain ⟨ad176, e176, hx176_0⟩ := Kd.at_int HR1.out 0 p176 q176; cases e176; have qi176 : (0 < l1.length) = True := eq_true (by omega); (try rw [show ((0 : Int)).toNat = 0 from rfl] at hx176_0); (try rw [Addr.add_zero'] at hx176_0); replace p176 := eq_true p176; replace q176 := eq_true q176) | ((with_reducible refine gate_callee (f := 56) rfl ?_); refine goesL_ (some 33) rfl rfl Tryd.func56 (by kernel_rfl) rfl #[.slice A0 l0.length c0, .int .i64 (rd l1 0)] rfl (by (try simp only [List.map_toArray, List.map_cons, List.map_nil]); first | done | rfl) ?_; (with_reducible refine (spec_l5DivSmall.calls k _ _ l0 (rd l1 0) t177 t178 _ ?side1 ?side2 A9.out).mono ?_); (case side1 => repeat (first | exact HR0.out | (with_reducible refine Kd.C_alloc ?_ _) | (with_reducible refine Kd.C_drewN ?_ _) | (with_reducible refine Kd.C_drew ?_))); (case side2 => exact HC0.out); rintro e w11 ⟨v179, rfl, ho0, hb⟩; refine ⟨_, rfl, ?_⟩; have n0_ := A_ (Kd.R_lower ho0 (below_size hB_)); have n1_ := A_ (below_step hB_ hb); clear HB; have HO180 := n0_; have HB := n1_; clear n0_ n1_; (try clear hb); (try clear hb2); (try clear hk); (try clear hi); (try clear ho0)) | ((with_reducible refine gate_callee (f := 21) rfl ?_); refine goesL_ (some 39) rfl rfl Tryd.func21 (by kernel_rfl) rfl #[.int .u64 (IntKind.u64.wrap (t178))] rfl (by (try simp only [List.map_toArray, List.map_cons, List.map_nil]); first | done | rfl) ?_; (with_reducible refine (spec_NatOf.calls k (IntKind.u64.wrap (t178)) t181 _ A10.out).mono ?_); rintro e w12 ⟨v182, rfl, ho0, hb⟩; refine ⟨_, rfl, ?_⟩; have n0_ := A_ (Kd.R_elder' (rz_ HO180.out) (Kd.R_base ho0) hb); have n1_ := A_ (Kd.R_lower (Kd.R_new' ho0 (Kd.R_lt (rz_ HO180.out))) (below_size hB_)); have n2_ := A_ (below_step hB_ hb); clear HO180 HB; have HO180 := n0_; have HO183 := n1_; have HB := n2_; clear n0_ n1_ n2_; (try clear hb); (try clear hb2); (try clear hk); (try clear hi); (try clear ho0)))
    go_ret2
    exact ⟨_, _, by first | rfl | (simp [errW_none, errW_some] <;> rfl) | (simp [*, errW_none, errW_some] <;> rfl), by (with_reducible repeat (first | apply Kd.R_alloc | apply Kd.R_drewN | apply Kd.R_drew)); exact Kd.R_mono HO180.out (fun _ hk => hk.2), by (with_reducible repeat (first | apply Kd.R_alloc | apply Kd.R_drewN | apply Kd.R_drew)); exact Kd.R_mono HO183.out (fun _ hk => hk.2), hB_⟩
   ·rw [if_neg c8] at H
    exact absurd H (by simp)
  ·rw [if_neg c7] at H
   have c7b0 : ((l1.length : Int) == 1) = false := beq_eq_false_iff_ne.mpr c7
   have c7b1 : ((l1.length : Int) != 1) = true := bne_iff_ne.mpr c7
   obtain ⟨ji13, hji13⟩ : ∃ j_ : Int, (wrap64 ((l1.length : Int) - 1)) = j_ := ⟨_, rfl⟩
   replace H : (if 0 ≤ (ji13) then (if (ji13) < (l1.length : Int) then (if (wrap64 ((rd l1 (ji13)) + 1)) = 0 then (none) else ((spec_l5Times.f k l0 (wrap64 ((65536 : Int) / (wrap64 ((rd l1 (ji13)) + 1))))).bind fun t185 => ((spec_l5Times.f k l1 (wrap64 ((65536 : Int) / (wrap64 ((rd l1 (ji13)) + 1))))).bind fun t188 => (if 0 ≤ (wrap64 ((wrap64 ((t185.length : Int) - (t188.length : Int))) + 1)) then (if (wrap64 ((wrap64 ((t185.length : Int) - (t188.length : Int))) + 1) : Int).toNat ≤ 35184372088832 then ((spec_l5Top.f k t185 (wrap64 ((wrap64 ((t185.length : Int) - (t188.length : Int))) + 1))).bind fun t194 => (spec_l5Div.l0 k (wrap64 ((65536 : Int) / (wrap64 ((rd l1 (ji13)) + 1)))) t185 t188 (t188.length : Int) (List.replicate (wrap64 ((wrap64 ((t185.length : Int) - (t188.length : Int))) + 1) : Int).toNat 0) t194 (wrap64 ((t185.length : Int) - (t188.length : Int))))) else (none)) else (none))))) else (none)) else (none)) = some (r1, r2) := by first | (rw [hji13] at H; exact H) | (simp only [hji13] at H ⊢; exact H)
   (try rw [hji13] at A3)
   have hji13w : (IntKind.i64.wrap ((l1.length : Int) - 1)) = ji13 := (i64_w _).trans hji13
   by_cases c14 : 0 ≤ (ji13)
   ·rw [if_pos c14] at H
    have c14b0 : decide (0 ≤ (ji13)) = true := decide_eq_true c14
    clear c14
    by_cases c15 : (ji13) < (l1.length : Int)
    ·rw [if_pos c15] at H
     have c15b0 : decide ((ji13) < (l1.length : Int)) = true := decide_eq_true c15
     clear c15
     by_cases c16 : (wrap64 ((rd l1 (ji13)) + 1)) = 0
     ·rw [if_pos c16] at H
      exact absurd H (by simp)
     ·rw [if_neg c16] at H
      have c16b0 : ((wrap64 ((rd l1 (ji13)) + 1)) == 0) = false := beq_eq_false_iff_ne.mpr c16
      have c16b1 : ((wrap64 ((rd l1 (ji13)) + 1)) != 0) = true := bne_iff_ne.mpr c16
      replace H := Option.bind_eq_some_iff.mp H
      obtain ⟨t185, A170, H⟩ := H
      replace H : ((spec_l5Times.f k l1 (wrap64 ((65536 : Int) / (wrap64 ((rd l1 (ji13)) + 1))))).bind fun t188 => (if 0 ≤ (wrap64 ((wrap64 ((t185.length : Int) - (t188.length : Int))) + 1)) then (if (wrap64 ((wrap64 ((t185.length : Int) - (t188.length : Int))) + 1) : Int).toNat ≤ 35184372088832 then ((spec_l5Top.f k t185 (wrap64 ((wrap64 ((t185.length : Int) - (t188.length : Int))) + 1))).bind fun t194 => (spec_l5Div.l0 k (wrap64 ((65536 : Int) / (wrap64 ((rd l1 (ji13)) + 1)))) t185 t188 (t188.length : Int) (List.replicate (wrap64 ((wrap64 ((t185.length : Int) - (t188.length : Int))) + 1) : Int).toNat 0) t194 (wrap64 ((t185.length : Int) - (t188.length : Int))))) else (none)) else (none))) = some (r1, r2) := H
      have A17 := A_ A170
      clear A170
      replace H := Option.bind_eq_some_iff.mp H
      obtain ⟨t188, A180, H⟩ := H
      replace H : (if 0 ≤ (wrap64 ((wrap64 ((t185.length : Int) - (t188.length : Int))) + 1)) then (if (wrap64 ((wrap64 ((t185.length : Int) - (t188.length : Int))) + 1) : Int).toNat ≤ 35184372088832 then ((spec_l5Top.f k t185 (wrap64 ((wrap64 ((t185.length : Int) - (t188.length : Int))) + 1))).bind fun t194 => (spec_l5Div.l0 k (wrap64 ((65536 : Int) / (wrap64 ((rd l1 (ji13)) + 1)))) t185 t188 (t188.length : Int) (List.replicate (wrap64 ((wrap64 ((t185.length : Int) - (t188.length : Int))) + 1) : Int).toNat 0) t194 (wrap64 ((t185.length : Int) - (t188.length : Int))))) else (none)) else (none)) = some (r1, r2) := H
      have A18 := A_ A180
      clear A180
      obtain ⟨ji19, hji19⟩ : ∃ j_ : Int, (wrap64 ((wrap64 ((t185.length : Int) - (t188.length : Int))) + 1)) = j_ := ⟨_, rfl⟩
      replace H : (if 0 ≤ (ji19) then (if (ji19 : Int).toNat ≤ 35184372088832 then ((spec_l5Top.f k t185 (ji19)).bind fun t194 => (spec_l5Div.l0 k (wrap64 ((65536 : Int) / (wrap64 ((rd l1 (ji13)) + 1)))) t185 t188 (t188.length : Int) (List.replicate (ji19 : Int).toNat 0) t194 (wrap64 ((t185.length : Int) - (t188.length : Int))))) else (none)) else (none)) = some (r1, r2) := by first | (rw [hji19] at H; exact H) | (simp only [hji19] at H ⊢; exact H)
      (try rw [hji19] at A3)
      (try rw [hji19] at A17)
      (try rw [hji19] at A18)
      have hji19w : (IntKind.i64.wrap ((wrap64 ((t185.length : Int) - (t188.length : Int))) + 1)) = ji19 := (i64_w _).trans hji19
      by_cases c20 : 0 ≤ (ji19)
      ·rw [if_pos c20] at H
       have c20b0 := eq_true c20
       have c20b1 : decide (0 ≤ (ji19)) = true := decide_eq_true c20
       clear c20
       by_cases c21 : (ji19 : Int).toNat ≤ 35184372088832
       ·rw [if_pos c21] at H
        have c21b0 := eq_true c21
        have c21b1 : decide ((ji19 : Int).toNat ≤ 35184372088832) = true := decide_eq_true c21
        clear c21
        obtain ⟨y191, hy191⟩ : ∃ y_ : List Int, y_ = (List.replicate (ji19 : Int).toNat 0) := ⟨_, rfl⟩
        replace H : ((spec_l5Top.f k t185 (ji19)).bind fun t194 => (spec_l5Div.l0 k (wrap64 ((65536 : Int) / (wrap64 ((rd l1 (ji13)) + 1)))) t185 t188 (t188.length : Int) y191 t194 (wrap64 ((t185.length : Int) - (t188.length : Int))))) = some (r1, r2) := by first | (rw [hy191]; with_reducible exact H) | (have H2_ := (Option.bind_some _ _).symm.trans H; rw [hy191]; with_reducible exact H2_) | (have H2_ := (Option.bind_some _ _).symm.trans H; with_reducible exact H2_) | with_reducible exact H | (rw [hy191]; exact H) | exact H
        have Ny191 := A_ hy191
        clear hy191
        replace H := Option.bind_eq_some_iff.mp H
        obtain ⟨t194, A220, H⟩ := H
        replace H : (spec_l5Div.l0 k (wrap64 ((65536 : Int) / (wrap64 ((rd l1 (ji13)) + 1)))) t185 t188 (t188.length : Int) y191 t194 (wrap64 ((t185.length : Int) - (t188.length : Int)))) = some (r1, r2) := H
        have A22 := A_ A220
        clear A220
        have H' := A_ H
        clear H
        go_enter Tryd.func43, Tryd.ntmps43
        go_wp2_with (first | ((with_reducible refine gate_callee (f := 55) rfl ?_); refine goesL_ (some 21) rfl rfl Tryd.func55 (by kernel_rfl) rfl #[.slice A0 l0.length c0, .slice A1 l1.length c1] rfl (by (try simp only [List.map_toArray, List.map_cons, List.map_nil]); first | done | rfl) ?_; (with_reducible refine (spec_l5Cmp.calls k _ _ l0 _ _ l1 t172 _ ?side1 ?side2 ?side3 ?side4 A3.out).mono ?_); (case side1 => repeat (first | exact HR0.out | (with_reducible refine Kd.C_alloc ?_ _) | (with_reducible refine Kd.C_drewN ?_ _) | (with_reducible refine Kd.C_drew ?_))); (case side2 => exact HC0.out); (case side3 => repeat (first | exact HR1.out | (with_reducible refine Kd.C_alloc ?_ _) | (with_reducible refine Kd.C_drewN ?_ _) | (with_reducible refine Kd.C_drew ?_))); (case side4 => exact HC1.out); rintro e w' ⟨rfl, ⟨nd, rfl⟩⟩; refine ⟨_, rfl, ?_⟩; have p184 : 0 ≤ ((ji13) : Int) := of_decide_eq_true as_; have q184 : (ji13) < (l1.length : Int) := of_decide_eq_true as_; obtain ⟨ad184, e184, hx184_0⟩ := Kd.at_int HR1.out (ji13) p184 q184; cases e184; replace p184 := eq_true p184; replace q184 := eq_true q184) | ((with_reducible refine gate_callee (f := 20) rfl ?_); refine goesL_ (some 50) rfl rfl Tryd.func20 (by kernel_rfl) rfl #[.slice A0 l0.length c0, .int .i64 (wrap64 ((65536 : Int) / (wrap64 ((rd l1 (ji13)) + 1))))] rfl (by (try simp only [List.map_toArray, List.map_cons, List.map_nil]); first | done | (simp only [hji13]; rfl) | rfl | (simp only [List.length_drop, List.length_take]; rfl)) ?_; (with_reducible refine (spec_l5Times.calls k _ _ l0 (wrap64 ((65536 : Int) / (wrap64 ((rd l1 (ji13)) + 1)))) t185 _ ?side1 ?side2 A17.out).mono ?_); (case side1 => repeat (first | exact HR0.out | (with_reducible refine Kd.C_alloc ?_ _) | (with_reducible refine Kd.C_drewN ?_ _) | (with_reducible refine Kd.C_drew ?_))); (case side2 => exact HC0.out); rintro e w23 ⟨v186, rfl, ho0, hb⟩; refine ⟨_, rfl, ?_⟩; have n0_ := A_ (Kd.R_lower ho0 (below_size hB_)); have n1_ := A_ (below_step hB_ hb); clear HB; have HO187 := n0_; have HB := n1_; clear n0_ n1_; (try clear hb); (try clear hb2); (try clear hk); (try clear hi); (try clear ho0)) | ((with_reducible refine gate_callee (f := 20) rfl ?_); refine goesL_ (some 53) rfl rfl Tryd.func20 (by kernel_rfl) rfl #[.slice (some ad184) l1.length c1, .int .i64 (wrap64 ((65536 : Int) / (wrap64 ((rd l1 (ji13)) + 1))))] rfl (by (try simp only [List.map_toArray, List.map_cons, List.map_nil]); first | done | (simp only [hji13]; rfl) | rfl | (simp only [List.length_drop, List.length_take]; rfl)) ?_; (with_reducible refine (spec_l5Times.calls k _ _ l1 (wrap64 ((65536 : Int) / (wrap64 ((rd l1 (ji13)) + 1)))) t188 _ ?side1 ?side2 A18.out).mono ?_); (case side1 => repeat (first | exact (Kd.C_below HR1.out HB.out) | (with_reducible refine Kd.C_alloc ?_ _) | (with_reducible refine Kd.C_drewN ?_ _) | (with_reducible refine Kd.C_drew ?_))); (case side2 => exact HC1.out); rintro e w24 ⟨v189, rfl, ho0, hb⟩; refine ⟨_, rfl, ?_⟩; have n0_ := A_ (Kd.R_elder' (rz_ HO187.out) (Kd.R_base ho0) hb); have n1_ := A_ (Kd.R_lower (Kd.R_new' ho0 (Kd.R_lt (rz_ HO187.out))) (below_size hB_)); have n2_ := A_ (below_step hB_ hb); clear HO187 HB; have HO187 := n0_; have HO190 := n1_; have HB := n2_; clear n0_ n1_ n2_; (try clear hb); (try clear hb2); (try clear hk); (try clear hi); (try clear ho0); obtain ⟨Ao25, co25, eo25⟩ := Kd.R_slice HO190.out; subst eo25; obtain ⟨Ao26, co26, eo26⟩ := Kd.R_slice HO187.out; subst eo26) | ((with_reducible refine gate_dst (N := 61) rfl ?_); refine Kd.R_make (Kd.int .i64) _ 3 rfl (N := 61) rfl 23 _ _ rfl ji19 rfl rfl Tryd.underlying23 (.int .i64 0) 8 info3 rfl (by decide) (by omega) 0 (ok := fun _ => True) (okp := fun _ => True) rfl (fun _ hk => hk) trivial (of_decide_eq_true as_) (Nat.le_trans (Nat.mul_le_mul_right _ (of_decide_eq_true as_ : ji19.toNat ≤ 35184372088832)) (by omega)) (Below.refl _ _) (Nat.le_refl _) ?_; intro v192 w27 ho28 hb hg_ hnew_; clear hg_ hnew_; (first | rw [← Ny191.out] at ho28 | (simp only [Int.reduceToNat] at ho28; rw [← Ny191.out] at ho28)); have n0_ := A_ (Kd.R_elder' (rz_ HO187.out) (Kd.R_base ho28) hb); have n1_ := A_ (Kd.R_elder' (rz_ HO190.out) (Kd.R_base ho28) hb); have n2_ := A_ (Kd.R_lower (Kd.R_new' (Kd.R_new' ho28 (Kd.R_lt (rz_ HO187.out))) (Kd.R_lt (rz_ HO190.out))) (below_size hB_)); have n3_ := A_ (below_step hB_ hb); clear HO187 HO190 HB; have HO187 := n0_; have HO190 := n1_; have HO193 := n2_; have HB := n3_; clear n0_ n1_ n2_ n3_; clear hb ho28) | ((with_reducible refine gate_callee (f := 57) rfl ?_); refine goesL_ (some 68) rfl rfl Tryd.func57 (by kernel_rfl) rfl #[.slice Ao26 t185.length co26, .int .i64 ji19] rfl (by (try simp only [List.map_toArray, List.map_cons, List.map_nil]); first | done | (simp only [hji19]; rfl) | rfl | (simp only [List.length_drop, List.length_take]; rfl)) ?_; (with_reducible refine (spec_l5Top.calls k _ _ t185 ji19 t194 _ ?side1 ?side2 A22.out).mono ?_); (case side1 => repeat (first | exact (Kd.R_reads' HO187.out).2.2 | (with_reducible refine Kd.C_alloc ?_ _) | (with_reducible refine Kd.C_drewN ?_ _) | (with_reducible refine Kd.C_drew ?_))); (case side2 => exact (Kd.R_reads' HO187.out).2.1); rintro e w29 ⟨v195, rfl, ho0, hb⟩; refine ⟨_, rfl, ?_⟩; have n0_ := A_ (Kd.R_elder' (rz_ HO187.out) (Kd.R_base ho0) hb); have n1_ := A_ (Kd.R_elder' (rz_ HO190.out) (Kd.R_base ho0) hb); have n2_ := A_ (Kd.R_elder' (rz_ HO193.out) (Kd.R_base ho0) hb); have n3_ := A_ (Kd.R_lower (Kd.R_new' (Kd.R_new' (Kd.R_new' ho0 (Kd.R_lt (rz_ HO187.out))) (Kd.R_lt (rz_ HO190.out))) (Kd.R_lt (rz_ HO193.out))) (below_size hB_)); have n4_ := A_ (below_step hB_ hb); clear HO187 HO190 HO193 HB; have HO187 := n0_; have HO190 := n1_; have HO193 := n2_; have HO196 := n3_; have HB := n4_; clear n0_ n1_ n2_ n3_ n4_; (try clear hb); (try clear hb2); (try clear hk); (try clear hi); (try clear ho0)))
        go_loopg [13, 14] k (fun kq v13 v14 w' => ∃ (x12_1 : List Int) (x13_1 : List Int) (x14_1 : Int), v14 = .int .i64 x14_1 ∧ Aside0 (spec_l5Div.l0 kq (wrap64 ((65536 : Int) / (wrap64 ((rd l1 (ji13)) + 1)))) t185 t188 (t188.length : Int) x12_1 x13_1 x14_1 = some (r1, r2)) ∧ Aside0 (kq ≤ k) ∧ Aside0 (Kd.R (Kd.int .i64) 3 w' w.heap.size (fun k_ => some k_ ≠ ((.slice Ao25 t188.length co25) : Value).ownBlock ∧ some k_ ≠ (v192 : Value).ownBlock ∧ some k_ ≠ (v13 : Value).ownBlock) (.slice Ao26 t185.length co26) t185) ∧ Aside0 (Kd.R (Kd.int .i64) 3 w' w.heap.size (fun k_ => some k_ ≠ ((.slice Ao26 t185.length co26) : Value).ownBlock ∧ some k_ ≠ (v192 : Value).ownBlock ∧ some k_ ≠ (v13 : Value).ownBlock) (.slice Ao25 t188.length co25) t188) ∧ Aside0 (Kd.R (Kd.int .i64) 3 w' w.heap.size (fun k_ => some k_ ≠ ((.slice Ao26 t185.length co26) : Value).ownBlock ∧ some k_ ≠ ((.slice Ao25 t188.length co25) : Value).ownBlock ∧ some k_ ≠ (v13 : Value).ownBlock) v192 x12_1) ∧ Aside0 (Kd.R (Kd.int .i64) 3 w' w.heap.size (fun k_ => some k_ ≠ ((.slice Ao26 t185.length co26) : Value).ownBlock ∧ some k_ ≠ ((.slice Ao25 t188.length co25) : Value).ownBlock ∧ some k_ ≠ (v192 : Value).ownBlock) v13 x13_1) ∧ Aside0 (Below w.heap.size w w'))
        case atStart => exact ⟨(y191), (t194), (wrap64 ((t185.length : Int) - (t188.length : Int))), (by first | rfl | (simp; done) | (simp [*]; done)), H', ⟨Nat.le_refl _⟩, ⟨by (with_reducible repeat (first | apply Kd.R_alloc | apply Kd.R_drewN | apply Kd.R_drew)); exact Kd.R_mono HO187.out (fun _ hk => ⟨hk.1.1.2, ⟨hk.1.2, hk.2⟩⟩)⟩, ⟨by (with_reducible repeat (first | apply Kd.R_alloc | apply Kd.R_drewN | apply Kd.R_drew)); exact Kd.R_mono HO190.out (fun _ hk => ⟨hk.1.1.2, ⟨hk.1.2, hk.2⟩⟩)⟩, ⟨by (with_reducible repeat (first | apply Kd.R_alloc | apply Kd.R_drewN | apply Kd.R_drew)); exact Kd.R_mono HO193.out (fun _ hk => ⟨hk.1.1.2, ⟨hk.1.2, hk.2⟩⟩)⟩, ⟨by (with_reducible repeat (first | apply Kd.R_alloc | apply Kd.R_drewN | apply Kd.R_drew)); exact Kd.R_mono HO196.out (fun _ hk => ⟨hk.1.1.2, ⟨hk.1.2, hk.2⟩⟩)⟩, ⟨hB_⟩⟩
        case round =>
         clear H'
         (try clear c1); (try clear p1); (try clear q1); (try clear hx1); (try clear qi1); (try clear c2); (try clear p2); (try clear c4); (try clear c4b0); (try clear c5); (try clear p6); (try clear c7); (try clear c7b0); (try clear c7b1); (try clear c8); (try clear c8b0); (try clear c8b1); (try clear c14); (try clear c14b0); (try clear c15); (try clear c15b0); (try clear c16); (try clear c16b0); (try clear c16b1); (try clear p17); (try clear q17); (try clear hx17); (try clear qi17); (try clear c18); (try clear p18); (try clear q18); (try clear hx18); (try clear c20); (try clear c20b0); (try clear c20b1); (try clear c21); (try clear c21b0); (try clear c21b1); (try clear hx176_0); (try clear hx184_0); (try clear p176); (try clear p184); (try clear q176); (try clear q184)
         obtain ⟨x12_1, x13_1, x14_1, rfl, HA, HK1, HO_9, HO_10, HO_12, HO_13, HB⟩ := hrel
         cases gk with
         | zero => exact absurd HA.out (by simp [spec_l5Div.l0])
         | succ k1 =>
          have H := HA.out
          clear HA
          simp only [spec_l5Div.l0] at H
          by_cases c30 : x14_1 ≥ 0
          ·rw [if_pos c30] at H
           have c30b0 : decide (0 ≤ x14_1) = true := decide_eq_true c30
           clear c30
           replace H := Option.bind_eq_some_iff.mp H
           obtain ⟨t204, A310, H⟩ := H
           replace H : (if 0 ≤ x14_1 then (if x14_1 < (t185.length : Int) then ((spec_NatOf.f k1 (IntKind.u64.wrap (rd t185 x14_1))).bind fun t208 => ((spec_l5Add.f k1 t204 t208).bind fun t211 => ((spec_l5Trim.f k1 t211).bind fun t214 => ((spec_l5At.f t214 (t188.length : Int)).bind fun t217 => ((spec_l5At.f t214 (wrap64 ((t188.length : Int) - 1))).bind fun t218 => (if 0 ≤ (wrap64 ((t188.length : Int) - 1)) then (if (wrap64 ((t188.length : Int) - 1)) < (t188.length : Int) then (if (rd t188 (wrap64 ((t188.length : Int) - 1))) = 0 then (none) else (if (wrap64 (Int.tdiv (wrap64 ((wrap64 (t217 * 65536)) + t218)) (rd t188 (wrap64 ((t188.length : Int) - 1))))) ≥ 65536 then (spec_l5Div.j1 k1 (wrap64 ((65536 : Int) / (wrap64 ((rd l1 (ji13)) + 1)))) t185 t188 (t188.length : Int) x12_1 t214 x14_1 65535) else (spec_l5Div.j1 k1 (wrap64 ((65536 : Int) / (wrap64 ((rd l1 (ji13)) + 1)))) t185 t188 (t188.length : Int) x12_1 t214 x14_1 (wrap64 (Int.tdiv (wrap64 ((wrap64 (t217 * 65536)) + t218)) (rd t188 (wrap64 ((t188.length : Int) - 1)))))))) else (none)) else (none))))))) else (none)) else (none)) = some (r1, r2) := H
           have A31 := A_ A310
           clear A310
           by_cases c32 : 0 ≤ x14_1
           ·rw [if_pos c32] at H
            have c32b0 : decide (0 ≤ x14_1) = true := decide_eq_true c32
            clear c32
            by_cases c33 : x14_1 < (t185.length : Int)
            ·rw [if_pos c33] at H
             have c33b0 : decide (x14_1 < (t185.length : Int)) = true := decide_eq_true c33
             clear c33
             replace H := Option.bind_eq_some_iff.mp H
             obtain ⟨t208, A340, H⟩ := H
             replace H : ((spec_l5Add.f k1 t204 t208).bind fun t211 => ((spec_l5Trim.f k1 t211).bind fun t214 => ((spec_l5At.f t214 (t188.length : Int)).bind fun t217 => ((spec_l5At.f t214 (wrap64 ((t188.length : Int) - 1))).bind fun t218 => (if 0 ≤ (wrap64 ((t188.length : Int) - 1)) then (if (wrap64 ((t188.length : Int) - 1)) < (t188.length : Int) then (if (rd t188 (wrap64 ((t188.length : Int) - 1))) = 0 then (none) else (if (wrap64 (Int.tdiv (wrap64 ((wrap64 (t217 * 65536)) + t218)) (rd t188 (wrap64 ((t188.length : Int) - 1))))) ≥ 65536 then (spec_l5Div.j1 k1 (wrap64 ((65536 : Int) / (wrap64 ((rd l1 (ji13)) + 1)))) t185 t188 (t188.length : Int) x12_1 t214 x14_1 65535) else (spec_l5Div.j1 k1 (wrap64 ((65536 : Int) / (wrap64 ((rd l1 (ji13)) + 1)))) t185 t188 (t188.length : Int) x12_1 t214 x14_1 (wrap64 (Int.tdiv (wrap64 ((wrap64 (t217 * 65536)) + t218)) (rd t188 (wrap64 ((t188.length : Int) - 1)))))))) else (none)) else (none)))))) = some (r1, r2) := H
             have A34 := A_ A340
             clear A340
             replace H := Option.bind_eq_some_iff.mp H
             obtain ⟨t211, A350, H⟩ := H
             replace H : ((spec_l5Trim.f k1 t211).bind fun t214 => ((spec_l5At.f t214 (t188.length : Int)).bind fun t217 => ((spec_l5At.f t214 (wrap64 ((t188.length : Int) - 1))).bind fun t218 => (if 0 ≤ (wrap64 ((t188.length : Int) - 1)) then (if (wrap64 ((t188.length : Int) - 1)) < (t188.length : Int) then (if (rd t188 (wrap64 ((t188.length : Int) - 1))) = 0 then (none) else (if (wrap64 (Int.tdiv (wrap64 ((wrap64 (t217 * 65536)) + t218)) (rd t188 (wrap64 ((t188.length : Int) - 1))))) ≥ 65536 then (spec_l5Div.j1 k1 (wrap64 ((65536 : Int) / (wrap64 ((rd l1 (ji13)) + 1)))) t185 t188 (t188.length : Int) x12_1 t214 x14_1 65535) else (spec_l5Div.j1 k1 (wrap64 ((65536 : Int) / (wrap64 ((rd l1 (ji13)) + 1)))) t185 t188 (t188.length : Int) x12_1 t214 x14_1 (wrap64 (Int.tdiv (wrap64 ((wrap64 (t217 * 65536)) + t218)) (rd t188 (wrap64 ((t188.length : Int) - 1)))))))) else (none)) else (none))))) = some (r1, r2) := H
             have A35 := A_ A350
             clear A350
             replace H := Option.bind_eq_some_iff.mp H
             obtain ⟨t214, A360, H⟩ := H
             replace H : ((spec_l5At.f t214 (t188.length : Int)).bind fun t217 => ((spec_l5At.f t214 (wrap64 ((t188.length : Int) - 1))).bind fun t218 => (if 0 ≤ (wrap64 ((t188.length : Int) - 1)) then (if (wrap64 ((t188.length : Int) - 1)) < (t188.length : Int) then (if (rd t188 (wrap64 ((t188.length : Int) - 1))) = 0 then (none) else (if (wrap64 (Int.tdiv (wrap64 ((wrap64 (t217 * 65536)) + t218)) (rd t188 (wrap64 ((t188.length : Int) - 1))))) ≥ 65536 then (spec_l5Div.j1 k1 (wrap64 ((65536 : Int) / (wrap64 ((rd l1 (ji13)) + 1)))) t185 t188 (t188.length : Int) x12_1 t214 x14_1 65535) else (spec_l5Div.j1 k1 (wrap64 ((65536 : Int) / (wrap64 ((rd l1 (ji13)) + 1)))) t185 t188 (t188.length : Int) x12_1 t214 x14_1 (wrap64 (Int.tdiv (wrap64 ((wrap64 (t217 * 65536)) + t218)) (rd t188 (wrap64 ((t188.length : Int) - 1)))))))) else (none)) else (none)))) = some (r1, r2) := H
             have A36 := A_ A360
             clear A360
             replace H := Option.bind_eq_some_iff.mp H
             obtain ⟨t217, A370, H⟩ := H
             replace H : ((spec_l5At.f t214 (wrap64 ((t188.length : Int) - 1))).bind fun t218 => (if 0 ≤ (wrap64 ((t188.length : Int) - 1)) then (if (wrap64 ((t188.length : Int) - 1)) < (t188.length : Int) then (if (rd t188 (wrap64 ((t188.length : Int) - 1))) = 0 then (none) else (if (wrap64 (Int.tdiv (wrap64 ((wrap64 (t217 * 65536)) + t218)) (rd t188 (wrap64 ((t188.length : Int) - 1))))) ≥ 65536 then (spec_l5Div.j1 k1 (wrap64 ((65536 : Int) / (wrap64 ((rd l1 (ji13)) + 1)))) t185 t188 (t188.length : Int) x12_1 t214 x14_1 65535) else (spec_l5Div.j1 k1 (wrap64 ((65536 : Int) / (wrap64 ((rd l1 (ji13)) + 1)))) t185 t188 (t188.length : Int) x12_1 t214 x14_1 (wrap64 (Int.tdiv (wrap64 ((wrap64 (t217 * 65536)) + t218)) (rd t188 (wrap64 ((t188.length : Int) - 1)))))))) else (none)) else (none))) = some (r1, r2) := H
             have A37 := A_ A370
             clear A370
             replace H := Option.bind_eq_some_iff.mp H
             obtain ⟨t218, A380, H⟩ := H
             replace H : (if 0 ≤ (wrap64 ((t188.length : Int) - 1)) then (if (wrap64 ((t188.length : Int) - 1)) < (t188.length : Int) then (if (rd t188 (wrap64 ((t188.length : Int) - 1))) = 0 then (none) else (if (wrap64 (Int.tdiv (wrap64 ((wrap64 (t217 * 65536)) + t218)) (rd t188 (wrap64 ((t188.length : Int) - 1))))) ≥ 65536 then (spec_l5Div.j1 k1 (wrap64 ((65536 : Int) / (wrap64 ((rd l1 (ji13)) + 1)))) t185 t188 (t188.length : Int) x12_1 t214 x14_1 65535) else (spec_l5Div.j1 k1 (wrap64 ((65536 : Int) / (wrap64 ((rd l1 (ji13)) + 1)))) t185 t188 (t188.length : Int) x12_1 t214 x14_1 (wrap64 (Int.tdiv (wrap64 ((wrap64 (t217 * 65536)) + t218)) (rd t188 (wrap64 ((t188.length : Int) - 1)))))))) else (none)) else (none)) = some (r1, r2) := H
             have A38 := A_ A380
             clear A380
             obtain ⟨ji39, hji39⟩ : ∃ j_ : Int, (wrap64 ((t188.length : Int) - 1)) = j_ := ⟨_, rfl⟩
             replace H : (if 0 ≤ (ji39) then (if (ji39) < (t188.length : Int) then (if (rd t188 (ji39)) = 0 then (none) else (if (wrap64 (Int.tdiv (wrap64 ((wrap64 (t217 * 65536)) + t218)) (rd t188 (ji39)))) ≥ 65536 then (spec_l5Div.j1 k1 (wrap64 ((65536 : Int) / (wrap64 ((rd l1 (ji13)) + 1)))) t185 t188 (t188.length : Int) x12_1 t214 x14_1 65535) else (spec_l5Div.j1 k1 (wrap64 ((65536 : Int) / (wrap64 ((rd l1 (ji13)) + 1)))) t185 t188 (t188.length : Int) x12_1 t214 x14_1 (wrap64 (Int.tdiv (wrap64 ((wrap64 (t217 * 65536)) + t218)) (rd t188 (ji39))))))) else (none)) else (none)) = some (r1, r2) := by first | (rw [hji39] at H; exact H) | (simp only [hji39] at H ⊢; exact H)
             (try rw [hji39] at A31)
             (try rw [hji39] at A34)
             (try rw [hji39] at A35)
             (try rw [hji39] at A36)
             (try rw [hji39] at A37)
             (try rw [hji39] at A38)
             have hji39w : (IntKind.i64.wrap ((t188.length : Int) - 1)) = ji39 := (i64_w _).trans hji39
             by_cases c40 : 0 ≤ (ji39)
             ·rw [if_pos c40] at H
              have c40b0 : decide (0 ≤ (ji39)) = true := decide_eq_true c40
              clear c40
              by_cases c41 : (ji39) < (t188.length : Int)
              ·rw [if_pos c41] at H
               have c41b0 : decide ((ji39) < (t188.length : Int)) = true := decide_eq_true c41
               clear c41
               by_cases c42 : (rd t188 (ji39)) = 0
               ·rw [if_pos c42] at H
                exact absurd H (by simp)
               ·rw [if_neg c42] at H
                have c42b0 : ((rd t188 (ji39)) == 0) = false := beq_eq_false_iff_ne.mpr c42
                have c42b1 : ((rd t188 (ji39)) != 0) = true := bne_iff_ne.mpr c42
                have HC43 := A_ H
                clear H
                try go_wp2
                have n0_ := A_ (Kd.R_drew HO_9.out)
                have n1_ := A_ (Kd.R_drew HO_10.out)
                have n2_ := A_ (Kd.R_drew HO_12.out)
                have n3_ := A_ (Kd.R_drew HO_13.out)
                have n4_ := A_ (below_drew1 HB.out)
                clear HO_9 HO_10
                clear HO_12 HO_13 HB
                have HO_9 := n0_
                have HO_10 := n1_
                have HO_12 := n2_
                have HO_13 := n3_
                have HB := n4_
                clear n0_ n1_ n2_ n3_ n4_
                have p207 : 0 ≤ (x14_1 : Int) := of_decide_eq_true as_
                have q207 : x14_1 < (t185.length : Int) := of_decide_eq_true as_
                obtain ⟨ad207, e207, hx207_0⟩ := Kd.at_int (Kd.R_reads' HO_9.out).2.2 x14_1 p207 q207
                cases e207
                replace p207 := eq_true p207
                replace q207 := eq_true q207
                obtain ⟨Ao45, co45, eo45⟩ := Kd.R_slice HO_13.out
                (first | subst eo45 | (injection eo45 with f1_ f2_ f3_; have f4_ := f1_.symm; have f5_ := f3_.symm; clear f1_ f2_ f3_; subst f4_; subst f5_))
                refine start_ (n := 11) (S := fun w' => w'.cell? (ad207.add (x14_1).toNat) = some (.int .i64 (rd t185 x14_1))) (ds := []) #[false, false, false, false, false, false, false, false, false, false, false] (by kernel_rfl) rfl rfl (hx207_0) (fun hHeld => ?_); refine with_tabW spec_l5Div.tab15 spec_l5Div.bits15 (fun HT_ HW_ => ?_)
                generalize wr.drew = w44 at HO_9 HO_10 HO_12 HO_13 HB hx207_0 hHeld ⊢
                refine pure_ (i := 0) (N := some 77) (v := ?_) (a' := ?_) #[true, false, false, false, false, false, false, false, false, false, false] rfl rfl (any_of HT_.out (by kernel_rfl)) (fun _ _ _ h => h) (Or.inl ⟨by rfl, ?_⟩) ?_ ?_
                rotate_left
                ·intro w'
                 go_simp
                 with_reducible rfl
                rotate_left
                ·simp only [Act.put, List.setIfInBounds_toArray, List.set_cons_zero, List.set_cons_succ, i64_w, i32_w]
                 rfl
                refine pure_ (i := 2) (N := some 79) (v := ?_) (a' := ?_) #[true, false, true, false, false, false, false, false, false, false, false] rfl rfl (any_of HT_.out (by kernel_rfl)) (fun _ _ _ h => h) (Or.inl ⟨by rfl, ?_⟩) ?_ ?_
                rotate_left
                ·intro w'
                 go_simp
                 with_reducible rfl
                rotate_left
                ·simp only [Act.put, List.setIfInBounds_toArray, List.set_cons_zero, List.set_cons_succ, i64_w, i32_w]
                 rfl
                refine pure_ (i := 3) (N := some 80) (v := ?_) (a' := ?_) #[true, false, true, true, false, false, false, false, false, false, false] rfl rfl (any_of HT_.out (by kernel_rfl)) (fun _ _ _ h => h) (Or.inl ⟨by rfl, ?_⟩) ?_ ?_
                rotate_left
                ·intro w'
                 go_simp
                 with_reducible rfl
                rotate_left
                ·simp only [Act.put, List.setIfInBounds_toArray, List.set_cons_zero, List.set_cons_succ, i64_w, i32_w]
                 rfl
                refine pure_ (i := 4) (N := some 81) (v := ?_) (a' := ?_) #[true, false, true, true, true, false, false, false, false, false, false] rfl rfl (any_of HT_.out (by kernel_rfl)) (fun _ _ _ h => h) (Or.inl ⟨by rfl, ?_⟩) ?_ ?_
                rotate_left
                ·intro w'
                 go_simp
                 with_reducible rfl
                rotate_left
                ·simp only [Act.put, List.setIfInBounds_toArray, List.set_cons_zero, List.set_cons_succ, i64_w, i32_w]
                 rfl
                refine take_ (i := 5) (N := some 82) (v := ?_) (a' := ?_) #[true, false, true, true, true, true, false, false, false, false, false] rfl rfl (take_ofW HT_.out HW_.out (by kernel_rfl)) (fun _ _ _ h => h) (Or.inl ⟨by rfl, ?_⟩) hHeld ?_ ?_
                rotate_left
                ·intro w' s0
                 go_simp
                 with_reducible rfl
                rotate_left
                ·simp only [Act.put, List.setIfInBounds_toArray, List.set_cons_zero, List.set_cons_succ, i64_w, i32_w]
                 rfl
                refine pure_ (i := 6) (N := some 83) (v := ?_) (a' := ?_) #[true, false, true, true, true, true, true, false, false, false, false] rfl rfl (any_of HT_.out (by kernel_rfl)) (fun _ _ _ h => h) (Or.inl ⟨by rfl, ?_⟩) ?_ ?_
                rotate_left
                ·intro w'
                 go_simp
                 with_reducible rfl
                rotate_left
                ·simp only [Act.put, List.setIfInBounds_toArray, List.set_cons_zero, List.set_cons_succ, i64_w, i32_w]
                 rfl
                refine one_ (i := 1) (N := some 78) #[true, true, true, true, true, true, true, false, false, false, false] rfl rfl (one_of HT_.out (by kernel_rfl)) (by decide) (fun K hK => ?_)
                refine goes_ Tryd.func58 (by kernel_rfl) rfl #[.slice Ao45 x13_1.length co45, .int .i64 1] (by rfl) rfl rfl (by (try simp only [List.map_toArray, List.map_cons, List.map_nil]); first | done | rfl) ?_
                with_reducible refine (spec_l5Shl.calls k1 _ _ x13_1 1 t204 _ ?side1 ?side2 A31.out).mono ?_
                (case side1 => repeat (first | exact (Kd.R_reads' HO_13.out).2.2 | (with_reducible refine Kd.C_alloc ?_ _) | (with_reducible refine Kd.C_drewN ?_ _) | (with_reducible refine Kd.C_drew ?_)))
                (case side2 => exact (Kd.R_reads' HO_13.out).2.1)
                rintro e w46 ⟨v205, rfl, ho0, hb⟩
                have HS0_ := (hb.cell (World.block_lt_of_cell? _ _ (hHeld))).trans (hHeld)
                refine ⟨_, rfl, ?_⟩
                have n0_ := A_ (Kd.R_elder' (rz_ HO_9.out) (Kd.R_base ho0) hb)
                have n1_ := A_ (Kd.R_elder' (rz_ HO_10.out) (Kd.R_base ho0) hb)
                have n2_ := A_ (Kd.R_elder' (rz_ HO_12.out) (Kd.R_base ho0) hb)
                have n3_ := A_ (Kd.R_elder' (rz_ HO_13.out) (Kd.R_base ho0) hb)
                have n4_ := A_ (Kd.R_lower (Kd.R_new' (Kd.R_new' (Kd.R_new' (Kd.R_new' ho0 (Kd.R_lt (rz_ HO_9.out))) (Kd.R_lt (rz_ HO_10.out))) (Kd.R_lt (rz_ HO_12.out))) (Kd.R_lt (rz_ HO_13.out))) (below_size hB_))
                have n5_ := A_ (below_step hB_ hb)
                clear HO_9 HO_10
                clear HO_12 HO_13 HB
                have HO_9 := n0_
                have HO_10 := n1_
                have HO_12 := n2_
                have HO_13 := n3_
                have HO206 := n4_
                have HB := n5_
                clear n0_ n1_ n2_ n3_ n4_ n5_
                (try clear hb)
                (try clear hb2)
                (try clear hk)
                (try clear hi)
                (try clear ho0)
                refine hK.out _ _ (HS0_) (fun hHeld => ?_)
                clear hK K
                refine norm_ (a' := ?_) ?_ ?_
                rotate_left
                ·show Act.put _ (some 78) _ = _
                 simp only [Act.put, List.setIfInBounds_toArray, List.set_cons_zero, List.set_cons_succ, i64_w, i32_w]
                 rfl
                refine one_ (i := 7) (N := some 84) #[true, true, true, true, true, true, true, true, false, false, false] rfl rfl (one_of HT_.out (by kernel_rfl)) (by decide) (fun K hK => ?_)
                refine goes_ Tryd.func21 (by kernel_rfl) rfl #[.int .u64 (IntKind.u64.wrap (rd t185 x14_1))] (by rfl) rfl rfl (by (try simp only [List.map_toArray, List.map_cons, List.map_nil]); first | done | rfl) ?_
                with_reducible refine (spec_NatOf.calls k1 (IntKind.u64.wrap (rd t185 x14_1)) t208 _ A34.out).mono ?_
                rintro e w47 ⟨v209, rfl, ho0, hb⟩
                have HS0_ := (hb.cell (World.block_lt_of_cell? _ _ (hHeld))).trans (hHeld)
                refine ⟨_, rfl, ?_⟩
                have n0_ := A_ (Kd.R_elder' (rz_ HO_9.out) (Kd.R_base ho0) hb)
                have n1_ := A_ (Kd.R_elder' (rz_ HO_10.out) (Kd.R_base ho0) hb)
                have n2_ := A_ (Kd.R_elder' (rz_ HO_12.out) (Kd.R_base ho0) hb)
                have n3_ := A_ (Kd.R_elder' (rz_ HO_13.out) (Kd.R_base ho0) hb)
                have n4_ := A_ (Kd.R_elder' (rz_ HO206.out) (Kd.R_base ho0) hb)
                have n5_ := A_ (Kd.R_lower (Kd.R_new' (Kd.R_new' (Kd.R_new' (Kd.R_new' (Kd.R_new' ho0 (Kd.R_lt (rz_ HO_9.out))) (Kd.R_lt (rz_ HO_10.out))) (Kd.R_lt (rz_ HO_12.out))) (Kd.R_lt (rz_ HO_13.out))) (Kd.R_lt (rz_ HO206.out))) (below_size hB_))
                have n6_ := A_ (below_step hB_ hb)
                clear HO_9 HO_10
                clear HO_12 HO_13
                clear HO206 HB
                have HO_9 := n0_
                have HO_10 := n1_
                have HO_12 := n2_
                have HO_13 := n3_
                have HO206 := n4_
                have HO210 := n5_
                have HB := n6_
                clear n0_ n1_ n2_ n3_ n4_ n5_ n6_
                (try clear hb)
                (try clear hb2)
                (try clear hk)
                (try clear hi)
                (try clear ho0)
                obtain ⟨Ao48, co48, eo48⟩ := Kd.R_slice HO206.out
                (first | subst eo48 | (injection eo48 with f1_ f2_ f3_; have f4_ := f1_.symm; have f5_ := f3_.symm; clear f1_ f2_ f3_; subst f4_; subst f5_))
                obtain ⟨Ao49, co49, eo49⟩ := Kd.R_slice HO210.out
                (first | subst eo49 | (injection eo49 with f1_ f2_ f3_; have f4_ := f1_.symm; have f5_ := f3_.symm; clear f1_ f2_ f3_; subst f4_; subst f5_))
                refine hK.out _ _ (HS0_) (fun hHeld => ?_)
                clear hK K
                refine norm_ (a' := ?_) ?_ ?_
                rotate_left
                ·show Act.put _ (some 84) _ = _
                 simp only [Act.put, List.setIfInBounds_toArray, List.set_cons_zero, List.set_cons_succ, i64_w, i32_w]
                 rfl
                refine one_ (i := 8) (N := some 85) #[true, true, true, true, true, true, true, true, true, false, false] rfl rfl (one_of HT_.out (by kernel_rfl)) (by decide) (fun K hK => ?_)
                refine goes_ Tryd.func19 (by kernel_rfl) rfl #[.slice Ao48 t204.length co48, .slice Ao49 t208.length co49] (by rfl) rfl rfl (by (try simp only [List.map_toArray, List.map_cons, List.map_nil]); first | done | rfl) ?_
                with_reducible refine (spec_l5Add.calls k1 _ _ t204 _ _ t208 t211 _ ?side1 ?side2 ?side3 ?side4 A35.out).mono ?_
                (case side1 => repeat (first | exact (Kd.R_reads' HO206.out).2.2 | (with_reducible refine Kd.C_alloc ?_ _) | (with_reducible refine Kd.C_drewN ?_ _) | (with_reducible refine Kd.C_drew ?_)))
                (case side2 => exact (Kd.R_reads' HO206.out).2.1)
                (case side3 => repeat (first | exact (Kd.R_reads' HO210.out).2.2 | (with_reducible refine Kd.C_alloc ?_ _) | (with_reducible refine Kd.C_drewN ?_ _) | (with_reducible refine Kd.C_drew ?_)))
                (case side4 => exact (Kd.R_reads' HO210.out).2.1)
                rintro e w50 ⟨v212, rfl, ho0, hb⟩
                have HS0_ := (hb.cell (World.block_lt_of_cell? _ _ (hHeld))).trans (hHeld)
                refine ⟨_, rfl, ?_⟩
                have n0_ := A_ (Kd.R_elder' (rz_ HO_9.out) (Kd.R_base ho0) hb)
                have n1_ := A_ (Kd.R_elder' (rz_ HO_10.out) (Kd.R_base ho0) hb)
                have n2_ := A_ (Kd.R_elder' (rz_ HO_12.out) (Kd.R_base ho0) hb)
                have n3_ := A_ (Kd.R_elder' (rz_ HO_13.out) (Kd.R_base ho0) hb)
                have n4_ := A_ (Kd.R_elder' (rz_ HO206.out) (Kd.R_base ho0) hb)
                have n5_ := A_ (Kd.R_elder' (rz_ HO210.out) (Kd.R_base ho0) hb)
                have n6_ := A_ (Kd.R_lower (Kd.R_new' (Kd.R_new' (Kd.R_new' (Kd.R_new' (Kd.R_new' (Kd.R_new' ho0 (Kd.R_lt (rz_ HO_9.out))) (Kd.R_lt (rz_ HO_10.out))) (Kd.R_lt (rz_ HO_12.out))) (Kd.R_lt (rz_ HO_13.out))) (Kd.R_lt (rz_ HO206.out))) (Kd.R_lt (rz_ HO210.out))) (below_size hB_))
                have n7_ := A_ (below_step hB_ hb)
                clear HO_9 HO_10
                clear HO_12 HO_13
                clear HO206 HO210 HB
                have HO_9 := n0_
                have HO_10 := n1_
                have HO_12 := n2_
                have HO_13 := n3_
                have HO206 := n4_
                have HO210 := n5_
                have HO213 := n6_
                have HB := n7_
                clear n0_ n1_ n2_ n3_ n4_ n5_ n6_ n7_
                (try clear hb)
                (try clear hb2)
                (try clear hk)
                (try clear hi)
                (try clear ho0)
                obtain ⟨Ao51, co51, eo51⟩ := Kd.R_slice HO213.out
                (first | subst eo51 | (injection eo51 with f1_ f2_ f3_; have f4_ := f1_.symm; have f5_ := f3_.symm; clear f1_ f2_ f3_; subst f4_; subst f5_))
                refine hK.out _ _ (HS0_) (fun hHeld => ?_)
                clear hK K
                refine norm_ (a' := ?_) ?_ ?_
                rotate_left
                ·show Act.put _ (some 85) _ = _
                 simp only [Act.put, List.setIfInBounds_toArray, List.set_cons_zero, List.set_cons_succ, i64_w, i32_w]
                 rfl
                refine one_ (i := 9) (N := some 86) #[true, true, true, true, true, true, true, true, true, true, false] rfl rfl (one_of HT_.out (by kernel_rfl)) (by decide) (fun K hK => ?_)
                refine goes_ Tryd.func18 (by kernel_rfl) rfl #[.slice Ao51 t211.length co51] (by rfl) rfl rfl (by (try simp only [List.map_toArray, List.map_cons, List.map_nil]); first | done | rfl) ?_
                with_reducible refine (spec_l5Trim.calls k1 _ _ t211 t214 _ ?side1 ?side2 A36.out).mono ?_
                (case side1 => repeat (first | exact (Kd.R_reads' HO213.out).2.2 | (with_reducible refine Kd.C_alloc ?_ _) | (with_reducible refine Kd.C_drewN ?_ _) | (with_reducible refine Kd.C_drew ?_)))
                (case side2 => exact (Kd.R_reads' HO213.out).2.1)
                rintro e w52 ⟨v215, rfl, ho0, hb⟩
                have HS0_ := (hb.cell (World.block_lt_of_cell? _ _ (hHeld))).trans (hHeld)
                refine ⟨_, rfl, ?_⟩
                have n0_ := A_ (Kd.R_elder' (rz_ HO_9.out) (Kd.R_base ho0) hb)
                have n1_ := A_ (Kd.R_elder' (rz_ HO_10.out) (Kd.R_base ho0) hb)
                have n2_ := A_ (Kd.R_elder' (rz_ HO_12.out) (Kd.R_base ho0) hb)
                have n3_ := A_ (Kd.R_elder' (rz_ HO_13.out) (Kd.R_base ho0) hb)
                have n4_ := A_ (Kd.R_elder' (rz_ HO206.out) (Kd.R_base ho0) hb)
                have n5_ := A_ (Kd.R_elder' (rz_ HO210.out) (Kd.R_base ho0) hb)
                have n6_ := A_ (Kd.R_elder' (rz_ HO213.out) (Kd.R_base ho0) hb)
                have n7_ := A_ (Kd.R_lower (Kd.R_new' (Kd.R_new' (Kd.R_new' (Kd.R_new' (Kd.R_new' (Kd.R_new' (Kd.R_new' ho0 (Kd.R_lt (rz_ HO_9.out))) (Kd.R_lt (rz_ HO_10.out))) (Kd.R_lt (rz_ HO_12.out))) (Kd.R_lt (rz_ HO_13.out))) (Kd.R_lt (rz_ HO206.out))) (Kd.R_lt (rz_ HO210.out))) (Kd.R_lt (rz_ HO213.out))) (below_size hB_))
                have n8_ := A_ (below_step hB_ hb)
                clear HO_9 HO_10
                clear HO_12 HO_13
                clear HO206 HO210
                clear HO213 HB
                have HO_9 := n0_
                have HO_10 := n1_
                have HO_12 := n2_
                have HO_13 := n3_
                have HO206 := n4_
                have HO210 := n5_
                have HO213 := n6_
                have HO216 := n7_
                have HB := n8_
                clear n0_ n1_ n2_ n3_ n4_ n5_ n6_ n7_ n8_
                (try clear hb)
                (try clear hb2)
                (try clear hk)
                (try clear hi)
                (try clear ho0)
                refine hK.out _ _ (HS0_) (fun hHeld => ?_)
                clear hK K
                refine norm_ (a' := ?_) ?_ ?_
                rotate_left
                ·show Act.put _ (some 86) _ = _
                 simp only [Act.put, List.setIfInBounds_toArray, List.set_cons_zero, List.set_cons_succ, i64_w, i32_w]
                 rfl
                refine pure_ (i := 10) (N := some 13) (v := ?_) (a' := ?_) #[true, true, true, true, true, true, true, true, true, true, true] rfl rfl (any_of HT_.out (by kernel_rfl)) (fun _ _ _ h => h) (Or.inl ⟨by rfl, ?_⟩) ?_ ?_
                rotate_left
                ·intro w'
                 go_simp
                 with_reducible rfl
                rotate_left
                ·simp only [Act.put, List.setIfInBounds_toArray, List.set_cons_zero, List.set_cons_succ, i64_w, i32_w]
                 rfl
                refine done_ (done_of HT_.out (by kernel_rfl)) ?_
                try go_wp2
                have n0_ := A_ (Kd.R_drew HO_9.out)
                have n1_ := A_ (Kd.R_drew HO_10.out)
                have n2_ := A_ (Kd.R_drew HO_12.out)
                have n3_ := A_ (Kd.R_drew HO_13.out)
                have n4_ := A_ (Kd.R_drew HO206.out)
                have n5_ := A_ (Kd.R_drew HO210.out)
                have n6_ := A_ (Kd.R_drew HO213.out)
                have n7_ := A_ (Kd.R_drew HO216.out)
                have n8_ := A_ (below_drew1 HB.out)
                clear HO_9 HO_10
                clear HO_12 HO_13
                clear HO206 HO210
                clear HO213 HO216 HB
                have HO_9 := n0_
                have HO_10 := n1_
                have HO_12 := n2_
                have HO_13 := n3_
                have HO206 := n4_
                have HO210 := n5_
                have HO213 := n6_
                have HO216 := n7_
                have HB := n8_
                clear n0_ n1_ n2_ n3_ n4_ n5_ n6_ n7_ n8_
                have p219 : 0 ≤ ((ji39) : Int) := of_decide_eq_true as_
                have q219 : (ji39) < (t188.length : Int) := of_decide_eq_true as_
                obtain ⟨ad219, e219, hx219_0⟩ := Kd.at_int (Kd.R_reads' HO_10.out).2.2 (ji39) p219 q219
                cases e219
                replace p219 := eq_true p219
                replace q219 := eq_true q219
                obtain ⟨Ao54, co54, eo54⟩ := Kd.R_slice HO216.out
                (first | subst eo54 | (injection eo54 with f1_ f2_ f3_; have f4_ := f1_.symm; have f5_ := f3_.symm; clear f1_ f2_ f3_; subst f4_; subst f5_))
                refine start_ (n := 16) (S := fun w' => w'.cell? (ad219.add ((ji39)).toNat) = some (.int .i64 (rd t188 (ji39)))) (ds := []) #[false, false, false, false, false, false, false, false, false, false, false, false, false, false, false, false] (by kernel_rfl) rfl rfl (hx219_0) (fun hHeld => ?_); refine with_tabW spec_l5Div.tab16 spec_l5Div.bits16 (fun HT_ HW_ => ?_)
                generalize w52.drew = w53 at HO_9 HO_10 HO_12 HO_13 HO206 HO210 HO213 HO216 HB hx219_0 hHeld ⊢
                refine pure_ (i := 0) (N := some 87) (v := ?_) (a' := ?_) #[true, false, false, false, false, false, false, false, false, false, false, false, false, false, false, false] rfl rfl (any_of HT_.out (by kernel_rfl)) (fun _ _ _ h => h) (Or.inl ⟨by rfl, ?_⟩) ?_ ?_
                rotate_left
                ·intro w'
                 go_simp
                 with_reducible rfl
                rotate_left
                ·simp only [Act.put, List.setIfInBounds_toArray, List.set_cons_zero, List.set_cons_succ, i64_w, i32_w]
                 rfl
                refine pure_ (i := 1) (N := some 88) (v := ?_) (a' := ?_) #[true, true, false, false, false, false, false, false, false, false, false, false, false, false, false, false] rfl rfl (any_of HT_.out (by kernel_rfl)) (fun _ _ _ h => h) (Or.inl ⟨by rfl, ?_⟩) ?_ ?_
                rotate_left
                ·intro w'
                 go_simp
                 with_reducible rfl
                rotate_left
                ·simp only [Act.put, List.setIfInBounds_toArray, List.set_cons_zero, List.set_cons_succ, i64_w, i32_w]
                 rfl
                refine pure_ (i := 4) (N := some 91) (v := ?_) (a' := ?_) #[true, true, false, false, true, false, false, false, false, false, false, false, false, false, false, false] rfl rfl (any_of HT_.out (by kernel_rfl)) (fun _ _ _ h => h) (Or.inl ⟨by rfl, ?_⟩) ?_ ?_
                rotate_left
                ·intro w'
                 go_simp
                 with_reducible rfl
                rotate_left
                ·simp only [Act.put, List.setIfInBounds_toArray, List.set_cons_zero, List.set_cons_succ, i64_w, i32_w]
                 rfl
                refine pure_ (i := 5) (N := some 92) (v := ?_) (a' := ?_) #[true, true, false, false, true, true, false, false, false, false, false, false, false, false, false, false] rfl rfl (any_of HT_.out (by kernel_rfl)) (fun _ _ _ h => h) (Or.inl ⟨by rfl, ?_⟩) ?_ ?_
                rotate_left
                ·intro w'
                 go_simp
                 with_reducible rfl
                rotate_left
                ·simp only [Act.put, List.setIfInBounds_toArray, List.set_cons_zero, List.set_cons_succ, i64_w, i32_w]
                 rfl
                refine pure_ (i := 6) (N := some 93) (v := ?_) (a' := ?_) #[true, true, false, false, true, true, true, false, false, false, false, false, false, false, false, false] rfl rfl (any_of HT_.out (by kernel_rfl)) (fun _ _ _ h => h) (Or.inl ⟨by rfl, ?_⟩) ?_ ?_
                rotate_left
                ·intro w'
                 go_simp
                 with_reducible rfl
                rotate_left
                ·simp only [Act.put, List.setIfInBounds_toArray, List.set_cons_zero, List.set_cons_succ, i64_w, i32_w]
                 rfl
                refine pure_ (i := 9) (N := some 96) (v := ?_) (a' := ?_) #[true, true, false, false, true, true, true, false, false, true, false, false, false, false, false, false] rfl rfl (any_of HT_.out (by kernel_rfl)) (fun _ _ _ h => h) (Or.inl ⟨by rfl, ?_⟩) ?_ ?_
                rotate_left
                ·intro w'
                 go_simp
                 with_reducible rfl
                rotate_left
                ·simp only [Act.put, List.setIfInBounds_toArray, List.set_cons_zero, List.set_cons_succ, i64_w, i32_w]
                 rfl
                refine pure_ (i := 10) (N := some 97) (v := ?_) (a' := ?_) #[true, true, false, false, true, true, true, false, false, true, true, false, false, false, false, false] rfl rfl (any_of HT_.out (by kernel_rfl)) (fun _ _ _ h => h) (Or.inl ⟨by rfl, ?_⟩) ?_ ?_
                rotate_left
                ·intro w'
                 go_simp
                 with_reducible rfl
                rotate_left
                ·simp only [Act.put, List.setIfInBounds_toArray, List.set_cons_zero, List.set_cons_succ, i64_w, i32_w]
                 rfl
                refine pure_ (i := 11) (N := some 98) (v := ?_) (a' := ?_) #[true, true, false, false, true, true, true, false, false, true, true, true, false, false, false, false] rfl rfl (any_of HT_.out (by kernel_rfl)) (fun _ _ _ h => h) (Or.inl ⟨by rfl, ?_⟩) ?_ ?_
                rotate_left
                ·intro w'
                 go_simp
                 with_reducible rfl
                rotate_left
                ·simp only [Act.put, List.setIfInBounds_toArray, List.set_cons_zero, List.set_cons_succ, i64_w, i32_w]
                 rfl
                refine pure_ (i := 12) (N := some 99) (v := ?_) (a' := ?_) #[true, true, false, false, true, true, true, false, false, true, true, true, true, false, false, false] rfl rfl (any_of HT_.out (by kernel_rfl)) (fun _ _ _ h => h) (Or.inl ⟨by rfl, ?_⟩) ?_ ?_
                rotate_left
                ·intro w'
                 go_simp
                 with_reducible rfl
                rotate_left
                ·simp only [Act.put, List.setIfInBounds_toArray, List.set_cons_zero, List.set_cons_succ, i64_w, i32_w]
                 rfl
                refine take_ (i := 13) (N := some 100) (v := ?_) (a' := ?_) #[true, true, false, false, true, true, true, false, false, true, true, true, true, true, false, false] rfl rfl (take_ofW HT_.out HW_.out (by kernel_rfl)) (fun _ _ _ h => h) (Or.inl ⟨by rfl, ?_⟩) hHeld ?_ ?_
                rotate_left
                ·intro w' s0
                 go_simp
                 with_reducible rfl
                rotate_left
                ·simp only [Act.put, List.setIfInBounds_toArray, List.set_cons_zero, List.set_cons_succ, i64_w, i32_w]
                 rfl
                refine one_ (i := 2) (N := some 89) #[true, true, true, false, true, true, true, false, false, true, true, true, true, true, false, false] rfl rfl (one_of HT_.out (by kernel_rfl)) (by decide) (fun K hK => ?_)
                refine goes_ Tryd.func41 (by kernel_rfl) rfl #[.slice Ao54 t214.length co54, .int .i64 (t188.length : Int)] (by rfl) rfl rfl (by (try simp only [List.map_toArray, List.map_cons, List.map_nil]); first | done | rfl) ?_
                with_reducible refine (spec_l5At.calls _ _ t214 (t188.length : Int) t217 _ ?side1 ?side2 A37.out).mono ?_
                (case side1 => repeat (first | exact (Kd.R_reads' HO216.out).2.2 | (with_reducible refine Kd.C_alloc ?_ _) | (with_reducible refine Kd.C_drewN ?_ _) | (with_reducible refine Kd.C_drew ?_)))
                (case side2 => exact (Kd.R_reads' HO216.out).2.1)
                rintro e w' ⟨rfl, ⟨nd, rfl⟩⟩
                refine ⟨_, rfl, ?_⟩
                refine hK.out _ _ (hHeld) (fun hHeld => ?_)
                clear hK K
                refine norm_ (a' := ?_) ?_ ?_
                rotate_left
                ·show Act.put _ (some 89) _ = _
                 simp only [Act.put, List.setIfInBounds_toArray, List.set_cons_zero, List.set_cons_succ, i64_w, i32_w]
                 rfl
                refine pure_ (i := 3) (N := some 90) (v := ?_) (a' := ?_) #[true, true, true, true, true, true, true, false, false, true, true, true, true, true, false, false] rfl rfl (any_of HT_.out (by kernel_rfl)) (fun _ _ _ h => h) (Or.inl ⟨by rfl, ?_⟩) ?_ ?_
                rotate_left
                ·intro w'
                 go_simp
                 with_reducible rfl
                rotate_left
                ·simp only [Act.put, List.setIfInBounds_toArray, List.set_cons_zero, List.set_cons_succ, i64_w, i32_w]
                 rfl
                refine one_ (i := 7) (N := some 94) #[true, true, true, true, true, true, true, true, false, true, true, true, true, true, false, false] rfl rfl (one_of HT_.out (by kernel_rfl)) (by decide) (fun K hK => ?_)
                refine goes_ Tryd.func41 (by kernel_rfl) rfl #[.slice Ao54 t214.length co54, .int .i64 ji39] (by rfl) rfl rfl (by (try simp only [List.map_toArray, List.map_cons, List.map_nil]); first | done | (simp only [hji39]; rfl) | rfl | (simp only [List.length_drop, List.length_take]; rfl)) ?_
                with_reducible refine (spec_l5At.calls _ _ t214 ji39 t218 _ ?side1 ?side2 A38.out).mono ?_
                (case side1 => repeat (first | exact (Kd.R_reads' HO216.out).2.2 | (with_reducible refine Kd.C_alloc ?_ _) | (with_reducible refine Kd.C_drewN ?_ _) | (with_reducible refine Kd.C_drew ?_)))
                (case side2 => exact (Kd.R_reads' HO216.out).2.1)
                rintro e w' ⟨rfl, ⟨nd, rfl⟩⟩
                refine ⟨_, rfl, ?_⟩
                refine hK.out _ _ (hHeld) (fun hHeld => ?_)
                clear hK K
                refine norm_ (a' := ?_) ?_ ?_
                rotate_left
                ·show Act.put _ (some 94) _ = _
                 simp only [Act.put, List.setIfInBounds_toArray, List.set_cons_zero, List.set_cons_succ, i64_w, i32_w]
                 rfl
                refine pure_ (i := 8) (N := some 95) (v := ?_) (a' := ?_) #[true, true, true, true, true, true, true, true, true, true, true, true, true, true, false, false] rfl rfl (any_of HT_.out (by kernel_rfl)) (fun _ _ _ h => h) (Or.inl ⟨by rfl, ?_⟩) ?_ ?_
                rotate_left
                ·intro w'
                 go_simp
                 with_reducible rfl
                rotate_left
                ·simp only [Act.put, List.setIfInBounds_toArray, List.set_cons_zero, List.set_cons_succ, i64_w, i32_w]
                 rfl
                refine pure_ (i := 14) (N := some 101) (v := ?_) (a' := ?_) #[true, true, true, true, true, true, true, true, true, true, true, true, true, true, true, false] rfl rfl (any_of HT_.out (by kernel_rfl)) (fun _ _ _ h => h) (Or.inl ⟨by rfl, ?_⟩) ?_ ?_
                rotate_left
                ·intro w'
                 go_simp
                 with_reducible rfl
                rotate_left
                ·simp only [Act.put, List.setIfInBounds_toArray, List.set_cons_zero, List.set_cons_succ, i64_w, i32_w]
                 rfl
                refine pure_ (i := 15) (N := some 15) (v := ?_) (a' := ?_) #[true, true, true, true, true, true, true, true, true, true, true, true, true, true, true, true] rfl rfl (any_of HT_.out (by kernel_rfl)) (fun _ _ _ h => h) (Or.inl ⟨by rfl, ?_⟩) ?_ ?_
                rotate_left
                ·intro w'
                 go_simp
                 with_reducible rfl
                rotate_left
                ·simp only [Act.put, List.setIfInBounds_toArray, List.set_cons_zero, List.set_cons_succ, i64_w, i32_w]
                 rfl
                refine done_ (done_of HT_.out (by kernel_rfl)) ?_
                go_upto_if 103 with (fail)
                go_cut [15] (fun v15 wc => ∃ (kq : Nat) (x15_42 : Int), v15 = .int .i64 x15_42 ∧ Aside0 (spec_l5Div.j1 kq (wrap64 ((65536 : Int) / (wrap64 ((rd l1 (ji13)) + 1)))) t185 t188 (t188.length : Int) x12_1 t214 x14_1 x15_42 = some (r1, r2)) ∧ Aside0 (kq ≤ k1) ∧ Aside0 (Kd.R (Kd.int .i64) 3 wc w.heap.size (fun k_ => some k_ ≠ ((.slice (some ad219) t188.length co25) : Value).ownBlock ∧ some k_ ≠ (v192 : Value).ownBlock ∧ some k_ ≠ ((.slice Ao54 t214.length co54) : Value).ownBlock) (.slice (some ad207) t185.length co26) t185) ∧ Aside0 (Kd.R (Kd.int .i64) 3 wc w.heap.size (fun k_ => some k_ ≠ ((.slice (some ad207) t185.length co26) : Value).ownBlock ∧ some k_ ≠ (v192 : Value).ownBlock ∧ some k_ ≠ ((.slice Ao54 t214.length co54) : Value).ownBlock) (.slice (some ad219) t188.length co25) t188) ∧ Aside0 (Kd.R (Kd.int .i64) 3 wc w.heap.size (fun k_ => some k_ ≠ ((.slice (some ad207) t185.length co26) : Value).ownBlock ∧ some k_ ≠ ((.slice (some ad219) t188.length co25) : Value).ownBlock ∧ some k_ ≠ ((.slice Ao54 t214.length co54) : Value).ownBlock) v192 x12_1) ∧ Aside0 (Kd.R (Kd.int .i64) 3 wc w.heap.size (fun k_ => some k_ ≠ ((.slice (some ad207) t185.length co26) : Value).ownBlock ∧ some k_ ≠ ((.slice (some ad219) t188.length co25) : Value).ownBlock ∧ some k_ ≠ (v192 : Value).ownBlock) (.slice Ao54 t214.length co54) t214) ∧ Aside0 (Below w.heap.size w wc))
                case first =>
                 have H := HC43.out
                 clear HC43
                 by_cases c55 : (wrap64 (Int.tdiv (wrap64 ((wrap64 (t217 * 65536)) + t218)) (rd t188 (ji39)))) ≥ 65536
                 ·rw [if_pos c55] at H
                  have c55b0 : decide (65536 ≤ (wrap64 (Int.tdiv (wrap64 ((wrap64 (t217 * 65536)) + t218)) (rd t188 (ji39))))) = true := decide_eq_true c55
                  clear c55
                  (first | rw [c55b0] | (simp only [i64_w, i32_w]; rw [c55b0]) | skip)
                  have H' := A_ H
                  clear H
                  go_wp2
                  go_meet
                  case rel => exact ⟨_, (65535), (by first | rfl | (simp; done) | (simp [*]; done)), H', ⟨by have := HK1.out; first | omega | exact Nat.le_refl _⟩, ⟨by (with_reducible repeat (first | apply Kd.R_alloc | apply Kd.R_drewN | apply Kd.R_drew)); exact Kd.R_mono HO_9.out (fun _ hk => ⟨hk.1.1.1.1.1, ⟨hk.1.1.1.1.2.1, hk.2⟩⟩)⟩, ⟨by (with_reducible repeat (first | apply Kd.R_alloc | apply Kd.R_drewN | apply Kd.R_drew)); exact Kd.R_mono HO_10.out (fun _ hk => ⟨hk.1.1.1.1.1, ⟨hk.1.1.1.1.2.1, hk.2⟩⟩)⟩, ⟨by (with_reducible repeat (first | apply Kd.R_alloc | apply Kd.R_drewN | apply Kd.R_drew)); exact Kd.R_mono HO_12.out (fun _ hk => ⟨hk.1.1.1.1.1, ⟨hk.1.1.1.1.2.1, hk.2⟩⟩)⟩, ⟨by (with_reducible repeat (first | apply Kd.R_alloc | apply Kd.R_drewN | apply Kd.R_drew)); exact Kd.R_mono HO216.out (fun _ hk => ⟨hk.1.1.1.1.1.1.2, ⟨hk.1.1.1.1.1.2, hk.1.1.1.1.2⟩⟩)⟩, ⟨hB_⟩⟩
                 ·rw [if_neg c55] at H
                  have c55b0 : decide (65536 ≤ (wrap64 (Int.tdiv (wrap64 ((wrap64 (t217 * 65536)) + t218)) (rd t188 (ji39))))) = false := decide_eq_false c55
                  clear c55
                  (first | rw [c55b0] | (simp only [i64_w, i32_w]; rw [c55b0]) | skip)
                  have H' := A_ H
                  clear H
                  go_wp2
                  go_meet
                  case rel => exact ⟨_, (wrap64 (Int.tdiv (wrap64 ((wrap64 (t217 * 65536)) + t218)) (rd t188 (ji39)))), (by first | rfl | (simp; done) | (simp only [← hji39] <;> (first | rfl | simp)) | (simp [*]; done)), (by first | exact H' | (rw [hji39]; exact H')), ⟨by have := HK1.out; first | omega | exact Nat.le_refl _⟩, ⟨by (with_reducible repeat (first | apply Kd.R_alloc | apply Kd.R_drewN | apply Kd.R_drew)); exact Kd.R_mono HO_9.out (fun _ hk => ⟨hk.1.1.1.1.1, ⟨hk.1.1.1.1.2.1, hk.2⟩⟩)⟩, ⟨by (with_reducible repeat (first | apply Kd.R_alloc | apply Kd.R_drewN | apply Kd.R_drew)); exact Kd.R_mono HO_10.out (fun _ hk => ⟨hk.1.1.1.1.1, ⟨hk.1.1.1.1.2.1, hk.2⟩⟩)⟩, ⟨by (with_reducible repeat (first | apply Kd.R_alloc | apply Kd.R_drewN | apply Kd.R_drew)); exact Kd.R_mono HO_12.out (fun _ hk => ⟨hk.1.1.1.1.1, ⟨hk.1.1.1.1.2.1, hk.2⟩⟩)⟩, ⟨by (with_reducible repeat (first | apply Kd.R_alloc | apply Kd.R_drewN | apply Kd.R_drew)); exact Kd.R_mono HO216.out (fun _ hk => ⟨hk.1.1.1.1.1.1.2, ⟨hk.1.1.1.1.1.2, hk.1.1.1.1.2⟩⟩)⟩, ⟨hB_⟩⟩
                case rest =>
                 clear HC43
                 (try clear c1); (try clear p1); (try clear q1); (try clear hx1); (try clear qi1); (try clear c2); (try clear p2); (try clear q2); (try clear hx2); (try clear c3); (try clear c4); (try clear c4b0); (try clear c5); (try clear p6); (try clear c7); (try clear c7b0); (try clear c7b1); (try clear c8); (try clear c8b0); (try clear c8b1); (try clear c14); (try clear c14b0); (try clear c15); (try clear c15b0); (try clear c16); (try clear c16b0); (try clear c16b1); (try clear p17); (try clear q17); (try clear hx17); (try clear qi17); (try clear c18); (try clear p18); (try clear q18); (try clear hx18); (try clear c19); (try clear c20); (try clear c20b0); (try clear c20b1); (try clear p20); (try clear q20); (try clear hx20); (try clear c21); (try clear c21b0); (try clear c21b1); (try clear p21); (try clear q21); (try clear hx21); (try clear c30); (try clear c30b0); (try clear c32); (try clear c32b0); (try clear c33); (try clear c33b0); (try clear c40); (try clear c40b0); (try clear c41); (try clear c41b0); (try clear c42); (try clear c42b0); (try clear c42b1); (try clear c43); (try clear c55); (try clear c55b0); (try clear hx176_0); (try clear hx184_0); (try clear hx207_0); (try clear hx219_0); (try clear p1); (try clear p17); (try clear p176); (try clear p18); (try clear p184); (try clear p2); (try clear p207); (try clear p219); (try clear p6); (try clear q1); (try clear q17); (try clear q176); (try clear q18); (try clear q184); (try clear q207); (try clear q219)
                 obtain ⟨kq, x15_42, rfl, HA, HJ42, HO_9, HO_10, HO_12, HO_13, HB⟩ := hcut
                 cases kq with
                 | zero => exact absurd HA.out (by simp [spec_l5Div.j1])
                 | succ kj42 =>
                  have H := HA.out
                  clear HA
                  simp only [spec_l5Div.j1] at H
                  replace H := Option.bind_eq_some_iff.mp H
                  obtain ⟨t220, A560, H⟩ := H
                  replace H : (spec_l5Div.l1 kj42 (wrap64 ((65536 : Int) / (wrap64 ((rd l1 (ji13)) + 1)))) t185 t188 (t188.length : Int) x12_1 t214 x14_1 x15_42 t220) = some (r1, r2) := H
                  have A56 := A_ A560
                  clear A560
                  have H' := A_ H
                  clear H
                  go_wp2_with (first | ((with_reducible refine gate_callee (f := 20) rfl ?_); refine goesL_ (some 106) rfl rfl Tryd.func20 (by kernel_rfl) rfl #[.slice (some ad219) t188.length co25, .int .i64 x15_42] rfl (by (try simp only [List.map_toArray, List.map_cons, List.map_nil]); first | done | rfl) ?_; (with_reducible refine (spec_l5Times.calls kj42 _ _ t188 x15_42 t220 _ ?side1 ?side2 A56.out).mono ?_); (case side1 => repeat (first | exact (Kd.R_reads' HO_10.out).2.2 | (with_reducible refine Kd.C_alloc ?_ _) | (with_reducible refine Kd.C_drewN ?_ _) | (with_reducible refine Kd.C_drew ?_))); (case side2 => exact (Kd.R_reads' HO_10.out).2.1); rintro e w57 ⟨v221, rfl, ho0, hb⟩; refine ⟨_, rfl, ?_⟩; have n0_ := A_ (Kd.R_elder' (rz_ HO_9.out) (Kd.R_base ho0) hb); have n1_ := A_ (Kd.R_elder' (rz_ HO_10.out) (Kd.R_base ho0) hb); have n2_ := A_ (Kd.R_elder' (rz_ HO_12.out) (Kd.R_base ho0) hb); have n3_ := A_ (Kd.R_elder' (rz_ HO_13.out) (Kd.R_base ho0) hb); have n4_ := A_ (Kd.R_lower (Kd.R_new' (Kd.R_new' (Kd.R_new' (Kd.R_new' ho0 (Kd.R_lt (rz_ HO_9.out))) (Kd.R_lt (rz_ HO_10.out))) (Kd.R_lt (rz_ HO_12.out))) (Kd.R_lt (rz_ HO_13.out))) (below_size hB_)); have n5_ := A_ (below_step hB_ hb); clear HO_9 HO_10 HO_12 HO_13 HB; have HO_9 := n0_; have HO_10 := n1_; have HO_12 := n2_; have HO_13 := n3_; have HO222 := n4_; have HB := n5_; clear n0_ n1_ n2_ n3_ n4_ n5_; (try clear hb); (try clear hb2); (try clear hk); (try clear hi); (try clear ho0)))
                  go_loopg [15, 16] kj42 (fun kq v15 v16 w' => ∃ (x15_3 : Int) (x16_3 : List Int), v15 = .int .i64 x15_3 ∧ Aside0 (spec_l5Div.l1 kq (wrap64 ((65536 : Int) / (wrap64 ((rd l1 (ji13)) + 1)))) t185 t188 (t188.length : Int) x12_1 t214 x14_1 x15_3 x16_3 = some (r1, r2)) ∧ Aside0 (kq ≤ kj42) ∧ Aside0 (Kd.R (Kd.int .i64) 3 w' w.heap.size (fun k_ => some k_ ≠ ((.slice (some ad219) t188.length co25) : Value).ownBlock ∧ some k_ ≠ (v192 : Value).ownBlock ∧ some k_ ≠ ((.slice Ao54 t214.length co54) : Value).ownBlock ∧ some k_ ≠ (v16 : Value).ownBlock) (.slice (some ad207) t185.length co26) t185) ∧ Aside0 (Kd.R (Kd.int .i64) 3 w' w.heap.size (fun k_ => some k_ ≠ ((.slice (some ad207) t185.length co26) : Value).ownBlock ∧ some k_ ≠ (v192 : Value).ownBlock ∧ some k_ ≠ ((.slice Ao54 t214.length co54) : Value).ownBlock ∧ some k_ ≠ (v16 : Value).ownBlock) (.slice (some ad219) t188.length co25) t188) ∧ Aside0 (Kd.R (Kd.int .i64) 3 w' w.heap.size (fun k_ => some k_ ≠ ((.slice (some ad207) t185.length co26) : Value).ownBlock ∧ some k_ ≠ ((.slice (some ad219) t188.length co25) : Value).ownBlock ∧ some k_ ≠ ((.slice Ao54 t214.length co54) : Value).ownBlock ∧ some k_ ≠ (v16 : Value).ownBlock) v192 x12_1) ∧ Aside0 (Kd.R (Kd.int .i64) 3 w' w.heap.size (fun k_ => some k_ ≠ ((.slice (some ad207) t185.length co26) : Value).ownBlock ∧ some k_ ≠ ((.slice (some ad219) t188.length co25) : Value).ownBlock ∧ some k_ ≠ (v192 : Value).ownBlock ∧ some k_ ≠ (v16 : Value).ownBlock) (.slice Ao54 t214.length co54) t214) ∧ Aside0 (Kd.R (Kd.int .i64) 3 w' w.heap.size (fun k_ => some k_ ≠ ((.slice (some ad207) t185.length co26) : Value).ownBlock ∧ some k_ ≠ ((.slice (some ad219) t188.length co25) : Value).ownBlock ∧ some k_ ≠ (v192 : Value).ownBlock ∧ some k_ ≠ ((.slice Ao54 t214.length co54) : Value).ownBlock) v16 x16_3) ∧ Aside0 (Below w.heap.size w w'))
                  case atStart => exact ⟨(x15_42), (t220), (by first | rfl | (simp; done) | (simp [*]; done)), H', ⟨Nat.le_refl _⟩, ⟨by (with_reducible repeat (first | apply Kd.R_alloc | apply Kd.R_drewN | apply Kd.R_drew)); exact Kd.R_mono HO_9.out (fun _ hk => ⟨hk.1.1, ⟨hk.1.2.1, ⟨hk.1.2.2, hk.2⟩⟩⟩)⟩, ⟨by (with_reducible repeat (first | apply Kd.R_alloc | apply Kd.R_drewN | apply Kd.R_drew)); exact Kd.R_mono HO_10.out (fun _ hk => ⟨hk.1.1, ⟨hk.1.2.1, ⟨hk.1.2.2, hk.2⟩⟩⟩)⟩, ⟨by (with_reducible repeat (first | apply Kd.R_alloc | apply Kd.R_drewN | apply Kd.R_drew)); exact Kd.R_mono HO_12.out (fun _ hk => ⟨hk.1.1, ⟨hk.1.2.1, ⟨hk.1.2.2, hk.2⟩⟩⟩)⟩, ⟨by (with_reducible repeat (first | apply Kd.R_alloc | apply Kd.R_drewN | apply Kd.R_drew)); exact Kd.R_mono HO_13.out (fun _ hk => ⟨hk.1.1, ⟨hk.1.2.1, ⟨hk.1.2.2, hk.2⟩⟩⟩)⟩, ⟨by (with_reducible repeat (first | apply Kd.R_alloc | apply Kd.R_drewN | apply Kd.R_drew)); exact Kd.R_mono HO222.out (fun _ hk => ⟨hk.1.1.1.2, ⟨hk.1.1.2, ⟨hk.1.2, hk.2⟩⟩⟩)⟩, ⟨hB_⟩⟩
                  case round =>
                   clear H'
                   (try clear c1); (try clear p1); (try clear q1); (try clear hx1); (try clear qi1); (try clear c2); (try clear p2); (try clear q2); (try clear hx2); (try clear c3); (try clear c4); (try clear c4b0); (try clear c5); (try clear p6); (try clear c7); (try clear c7b0); (try clear c7b1); (try clear c8); (try clear c8b0); (try clear c8b1); (try clear c14); (try clear c14b0); (try clear c15); (try clear c15b0); (try clear c16); (try clear c16b0); (try clear c16b1); (try clear p17); (try clear q17); (try clear hx17); (try clear qi17); (try clear c18); (try clear p18); (try clear q18); (try clear hx18); (try clear c19); (try clear c20); (try clear c20b0); (try clear c20b1); (try clear p20); (try clear q20); (try clear hx20); (try clear c21); (try clear c21b0); (try clear c21b1); (try clear p21); (try clear q21); (try clear hx21); (try clear c30); (try clear c30b0); (try clear c32); (try clear c32b0); (try clear c33); (try clear c33b0); (try clear c40); (try clear c40b0); (try clear c41); (try clear c41b0); (try clear c42); (try clear c42b0); (try clear c42b1); (try clear c43); (try clear c55); (try clear c55b0); (try clear hx176_0); (try clear hx184_0); (try clear hx207_0); (try clear hx219_0); (try clear p1); (try clear p17); (try clear p176); (try clear p18); (try clear p184); (try clear p2); (try clear p20); (try clear p207); (try clear p21); (try clear p219); (try clear p6); (try clear q1); (try clear q17); (try clear q176); (try clear q18); (try clear q184); (try clear q2); (try clear q20); (try clear q207); (try clear q21); (try clear q219)
                   obtain ⟨x15_3, x16_3, rfl, HA, HK3, HO_9, HO_10, HO_12, HO_13, HO_16, HB⟩ := hrel
                   cases gk with
                   | zero => exact absurd HA.out (by simp [spec_l5Div.l1])
                   | succ k3 =>
                    have H := HA.out
                    clear HA
                    simp only [spec_l5Div.l1] at H
                    replace H := Option.bind_eq_some_iff.mp H
                    obtain ⟨t223, A580, H⟩ := H
                    replace H : (if t223 > 0 then ((spec_l5Sub.f k3 x16_3 t188).bind fun t224 => (spec_l5Div.l1 k3 (wrap64 ((65536 : Int) / (wrap64 ((rd l1 (ji13)) + 1)))) t185 t188 (t188.length : Int) x12_1 t214 x14_1 (wrap64 (x15_3 - 1)) t224)) else (if 0 ≤ x14_1 then (if x14_1 < (x12_1.length : Int) then ((spec_l5Sub.f k3 t214 x16_3).bind fun t228 => (spec_l5Div.l0 k3 (wrap64 ((65536 : Int) / (wrap64 ((rd l1 (ji13)) + 1)))) t185 t188 (t188.length : Int) (x12_1.set (x14_1 : Int).toNat x15_3) t228 (wrap64 (x14_1 - 1)))) else (none)) else (none))) = some (r1, r2) := H
                    have A58 := A_ A580
                    clear A580
                    by_cases c59 : t223 > 0
                    ·rw [if_pos c59] at H
                     have c59b0 : decide (0 < t223) = true := decide_eq_true c59
                     clear c59
                     replace H := Option.bind_eq_some_iff.mp H
                     obtain ⟨t224, A600, H⟩ := H
                     replace H : (spec_l5Div.l1 k3 (wrap64 ((65536 : Int) / (wrap64 ((rd l1 (ji13)) + 1)))) t185 t188 (t188.length : Int) x12_1 t214 x14_1 (wrap64 (x15_3 - 1)) t224) = some (r1, r2) := H
                     have A60 := A_ A600
                     clear A600
                     have H' := A_ H
                     clear H
                     obtain ⟨Ao61, co61, eo61⟩ := Kd.R_slice HO_16.out
                     subst eo61
                     go_wp2_with (first | ((with_reducible refine gate_callee (f := 55) rfl ?_); refine goesL_ (some 109) rfl rfl Tryd.func55 (by kernel_rfl) rfl #[.slice Ao61 x16_3.length co61, .slice Ao54 t214.length co54] rfl (by (try simp only [List.map_toArray, List.map_cons, List.map_nil]); first | done | rfl) ?_; (with_reducible refine (spec_l5Cmp.calls k3 _ _ x16_3 _ _ t214 t223 _ ?side1 ?side2 ?side3 ?side4 A58.out).mono ?_); (case side1 => repeat (first | exact (Kd.R_reads' HO_16.out).2.2 | (with_reducible refine Kd.C_alloc ?_ _) | (with_reducible refine Kd.C_drewN ?_ _) | (with_reducible refine Kd.C_drew ?_))); (case side2 => exact (Kd.R_reads' HO_16.out).2.1); (case side3 => repeat (first | exact (Kd.R_reads' HO_13.out).2.2 | (with_reducible refine Kd.C_alloc ?_ _) | (with_reducible refine Kd.C_drewN ?_ _) | (with_reducible refine Kd.C_drew ?_))); (case side4 => exact (Kd.R_reads' HO_13.out).2.1); rintro e w' ⟨rfl, ⟨nd, rfl⟩⟩; refine ⟨_, rfl, ?_⟩) | ((with_reducible refine gate_callee (f := 59) rfl ?_); refine goesL_ (some 113) rfl rfl Tryd.func59 (by kernel_rfl) rfl #[.slice Ao61 x16_3.length co61, .slice (some ad219) t188.length co25] rfl (by (try simp only [List.map_toArray, List.map_cons, List.map_nil]); first | done | rfl) ?_; (with_reducible refine (spec_l5Sub.calls k3 _ _ x16_3 _ _ t188 t224 _ ?side1 ?side2 ?side3 ?side4 A60.out).mono ?_); (case side1 => repeat (first | exact (Kd.R_reads' HO_16.out).2.2 | (with_reducible refine Kd.C_alloc ?_ _) | (with_reducible refine Kd.C_drewN ?_ _) | (with_reducible refine Kd.C_drew ?_))); (case side2 => exact (Kd.R_reads' HO_16.out).2.1); (case side3 => repeat (first | exact (Kd.R_reads' HO_10.out).2.2 | (with_reducible refine Kd.C_alloc ?_ _) | (with_reducible refine Kd.C_drewN ?_ _) | (with_reducible refine Kd.C_drew ?_))); (case side4 => exact (Kd.R_reads' HO_10.out).2.1); rintro e w62 ⟨v225, rfl, ho0, hb⟩; refine ⟨_, rfl, ?_⟩; have n0_ := A_ (Kd.R_elder' (rz_ HO_9.out) (Kd.R_base ho0) hb); have n1_ := A_ (Kd.R_elder' (rz_ HO_10.out) (Kd.R_base ho0) hb); have n2_ := A_ (Kd.R_elder' (rz_ HO_12.out) (Kd.R_base ho0) hb); have n3_ := A_ (Kd.R_elder' (rz_ HO_13.out) (Kd.R_base ho0) hb); have n4_ := A_ (Kd.R_elder' (rz_ HO_16.out) (Kd.R_base ho0) hb); have n5_ := A_ (Kd.R_lower (Kd.R_new' (Kd.R_new' (Kd.R_new' (Kd.R_new' (Kd.R_new' ho0 (Kd.R_lt (rz_ HO_9.out))) (Kd.R_lt (rz_ HO_10.out))) (Kd.R_lt (rz_ HO_12.out))) (Kd.R_lt (rz_ HO_13.out))) (Kd.R_lt (rz_ HO_16.out))) (below_size hB_)); have n6_ := A_ (below_step hB_ hb); clear HO_9 HO_10 HO_12 HO_13 HO_16 HB; have HO_9 := n0_; have HO_10 := n1_; have HO_12 := n2_; have HO_13 := n3_; have HO_16 := n4_; have HO226 := n5_; have HB := n6_; clear n0_ n1_ n2_ n3_ n4_ n5_ n6_; (try clear hb); (try clear hb2); (try clear hk); (try clear hi); (try clear ho0)))
                     go_roundg k3
                     case measure => have := HK1.out; have := HJ42.out; have := HK3.out; omega
                     case rel => exact ⟨(wrap64 (x15_3 - 1)), (t224), (by first | rfl | (simp; done) | (simp [*]; done)), H', ⟨by have := HK1.out; have := HJ42.out; have := HK3.out; omega⟩, ⟨by (with_reducible repeat (first | apply Kd.R_alloc | apply Kd.R_drewN | apply Kd.R_drew)); exact Kd.R_mono HO_9.out (fun _ hk => ⟨hk.1.1, ⟨hk.1.2.1, ⟨hk.1.2.2.1, hk.2⟩⟩⟩)⟩, ⟨by (with_reducible repeat (first | apply Kd.R_alloc | apply Kd.R_drewN | apply Kd.R_drew)); exact Kd.R_mono HO_10.out (fun _ hk => ⟨hk.1.1, ⟨hk.1.2.1, ⟨hk.1.2.2.1, hk.2⟩⟩⟩)⟩, ⟨by (with_reducible repeat (first | apply Kd.R_alloc | apply Kd.R_drewN | apply Kd.R_drew)); exact Kd.R_mono HO_12.out (fun _ hk => ⟨hk.1.1, ⟨hk.1.2.1, ⟨hk.1.2.2.1, hk.2⟩⟩⟩)⟩, ⟨by (with_reducible repeat (first | apply Kd.R_alloc | apply Kd.R_drewN | apply Kd.R_drew)); exact Kd.R_mono HO_13.out (fun _ hk => ⟨hk.1.1, ⟨hk.1.2.1, ⟨hk.1.2.2.1, hk.2⟩⟩⟩)⟩, ⟨by (with_reducible repeat (first | apply Kd.R_alloc | apply Kd.R_drewN | apply Kd.R_drew)); exact Kd.R_mono HO226.out (fun _ hk => ⟨hk.1.1.1.1.2, ⟨hk.1.1.1.2, ⟨hk.1.1.2, hk.1.2⟩⟩⟩)⟩, ⟨hB_⟩⟩
                    ·rw [if_neg c59] at H
                     have c59b0 : decide (0 < t223) = false := decide_eq_false c59
                     clear c59
                     by_cases c63 : 0 ≤ x14_1
                     ·rw [if_pos c63] at H
                      have c63b0 : decide (0 ≤ x14_1) = true := decide_eq_true c63
                      clear c63
                      by_cases c64 : x14_1 < (x12_1.length : Int)
                      ·rw [if_pos c64] at H
                       have c64b0 : decide (x14_1 < (x12_1.length : Int)) = true := decide_eq_true c64
                       clear c64
                       obtain ⟨y227, hy227⟩ : ∃ y_ : List Int, y_ = (x12_1.set (x14_1 : Int).toNat x15_3) := ⟨_, rfl⟩
                       replace H : ((spec_l5Sub.f k3 t214 x16_3).bind fun t228 => (spec_l5Div.l0 k3 (wrap64 ((65536 : Int) / (wrap64 ((rd l1 (ji13)) + 1)))) t185 t188 (t188.length : Int) y227 t228 (wrap64 (x14_1 - 1)))) = some (r1, r2) := by first | (rw [hy227]; with_reducible exact H) | (have H2_ := (Option.bind_some _ _).symm.trans H; rw [hy227]; with_reducible exact H2_) | (have H2_ := (Option.bind_some _ _).symm.trans H; with_reducible exact H2_) | with_reducible exact H | (rw [hy227]; exact H) | exact H
                       have Ny227 := A_ hy227
                       clear hy227
                       replace H := Option.bind_eq_some_iff.mp H
                       obtain ⟨t228, A660, H⟩ := H
                       replace H : (spec_l5Div.l0 k3 (wrap64 ((65536 : Int) / (wrap64 ((rd l1 (ji13)) + 1)))) t185 t188 (t188.length : Int) y227 t228 (wrap64 (x14_1 - 1))) = some (r1, r2) := H
                       have A66 := A_ A660
                       clear A660
                       have H' := A_ H
                       clear H
                       obtain ⟨Ao67, co67, eo67⟩ := Kd.R_slice HO_16.out
                       subst eo67
                       go_wp2_with (first | ((with_reducible refine gate_callee (f := 55) rfl ?_); refine goesL_ (some 109) rfl rfl Tryd.func55 (by kernel_rfl) rfl #[.slice Ao67 x16_3.length co67, .slice Ao54 t214.length co54] rfl (by (try simp only [List.map_toArray, List.map_cons, List.map_nil]); first | done | rfl) ?_; (with_reducible refine (spec_l5Cmp.calls k3 _ _ x16_3 _ _ t214 t223 _ ?side1 ?side2 ?side3 ?side4 A58.out).mono ?_); (case side1 => repeat (first | exact (Kd.R_reads' HO_16.out).2.2 | (with_reducible refine Kd.C_alloc ?_ _) | (with_reducible refine Kd.C_drewN ?_ _) | (with_reducible refine Kd.C_drew ?_))); (case side2 => exact (Kd.R_reads' HO_16.out).2.1); (case side3 => repeat (first | exact (Kd.R_reads' HO_13.out).2.2 | (with_reducible refine Kd.C_alloc ?_ _) | (with_reducible refine Kd.C_drewN ?_ _) | (with_reducible refine Kd.C_drew ?_))); (case side4 => exact (Kd.R_reads' HO_13.out).2.1); rintro e w' ⟨rfl, ⟨nd, rfl⟩⟩; refine ⟨_, rfl, ?_⟩; (try (rw [drewN_self wr]; generalize hq_ : World.drewN wr _ = wr; have n0_ : Aside0 (Kd.R (Kd.int .i64) 3 wr w.heap.size (fun k_ => some k_ ≠ (v192 : Value).ownBlock ∧ some k_ ≠ (.slice Ao54 t214.length co54 : Value).ownBlock ∧ some k_ ≠ (.slice Ao67 x16_3.length co67 : Value).ownBlock ∧ some k_ ≠ (.slice (some ad207) t185.length co26 : Value).ownBlock) (.slice (some ad219) t188.length co25) t188) := ⟨by rw [← hq_]; exact (rz_ (Kd.R_mono HO_10.out (fun _ hk => ⟨hk.2.1, ⟨hk.2.2.1, ⟨hk.2.2.2, hk.1⟩⟩⟩)))⟩; have n1_ : Aside0 (Kd.R (Kd.int .i64) 3 wr w.heap.size (fun k_ => some k_ ≠ (.slice (some ad219) t188.length co25 : Value).ownBlock ∧ some k_ ≠ (.slice Ao54 t214.length co54 : Value).ownBlock ∧ some k_ ≠ (.slice Ao67 x16_3.length co67 : Value).ownBlock ∧ some k_ ≠ (.slice (some ad207) t185.length co26 : Value).ownBlock) v192 x12_1) := ⟨by rw [← hq_]; exact (rz_ (Kd.R_mono HO_12.out (fun _ hk => ⟨hk.2.1, ⟨hk.2.2.1, ⟨hk.2.2.2, hk.1⟩⟩⟩)))⟩; have n2_ : Aside0 (Kd.R (Kd.int .i64) 3 wr w.heap.size (fun k_ => some k_ ≠ (.slice (some ad219) t188.length co25 : Value).ownBlock ∧ some k_ ≠ (v192 : Value).ownBlock ∧ some k_ ≠ (.slice Ao67 x16_3.length co67 : Value).ownBlock ∧ some k_ ≠ (.slice (some ad207) t185.length co26 : Value).ownBlock) (.slice Ao54 t214.length co54) t214) := ⟨by rw [← hq_]; exact (rz_ (Kd.R_mono HO_13.out (fun _ hk => ⟨hk.2.1, ⟨hk.2.2.1, ⟨hk.2.2.2, hk.1⟩⟩⟩)))⟩; have n3_ : Aside0 (Kd.R (Kd.int .i64) 3 wr w.heap.size (fun k_ => some k_ ≠ (.slice (some ad219) t188.length co25 : Value).ownBlock ∧ some k_ ≠ (v192 : Value).ownBlock ∧ some k_ ≠ (.slice Ao54 t214.length co54 : Value).ownBlock ∧ some k_ ≠ (.slice (some ad207) t185.length co26 : Value).ownBlock) (.slice Ao67 x16_3.length co67) x16_3) := ⟨by rw [← hq_]; exact (rz_ (Kd.R_mono HO_16.out (fun _ hk => ⟨hk.2.1, ⟨hk.2.2.1, ⟨hk.2.2.2, hk.1⟩⟩⟩)))⟩; have n4_ : Aside0 (Kd.R (Kd.int .i64) 3 wr w.heap.size (fun k_ => some k_ ≠ (.slice (some ad219) t188.length co25 : Value).ownBlock ∧ some k_ ≠ (v192 : Value).ownBlock ∧ some k_ ≠ (.slice Ao54 t214.length co54 : Value).ownBlock ∧ some k_ ≠ (.slice Ao67 x16_3.length co67 : Value).ownBlock) (.slice (some ad207) t185.length co26) t185) := ⟨by rw [← hq_]; exact (rz_ HO_9.out)⟩; have n5_ : Aside0 (Below w.heap.size w wr) := ⟨by rw [← hq_]; exact hB_⟩; clear HO_10 HO_12 HO_13 HO_16 HO_9 HB hq_; have HO_10 := n0_; have HO_12 := n1_; have HO_13 := n2_; have HO_16 := n3_; have HO_9 := n4_; have HB := n5_; clear n0_ n1_ n2_ n3_ n4_ n5_)); have p65 : 0 ≤ (x14_1 : Int) := of_decide_eq_true as_; have q65 : (x14_1 : Int) < ((x12_1.length : Int) : Int) := of_decide_eq_true as_; obtain ⟨go65, co65, eo65, gb65, gl65, cl65, HG65⟩ := Kd.R_form HO_12.out (by omega); (first | cases eo65 | (injection eo65 with ea_ en_ ec_; (first | subst ea_ | (injection ea_ with ea_; subst ea_)); subst ec_; clear en_)); have GB65 := A_ gb65; have GG65 := A_ HG65; clear gb65 gl65 HG65; obtain ⟨hx65_0, hf65_0⟩ := Kd.R_celln 0 HO_12.out (x14_1 : Int) p65 q65; replace p65 := eq_true p65; replace q65 := eq_true q65; obtain ⟨hy68_, hz68_⟩ := Kd.R_celln 0 HO_12.out (x14_1 : Int) (of_decide_eq_true as_) (of_decide_eq_true as_); have HP68 := Kd.R_putg HO_12.out (x14_1 : Int) x15_3) | ((with_reducible refine gate_store (t := 3) (p := 119) rfl ?_); refine store_event (t := 3) (p := 119) (v := ?vo_w69) (w1 := (wr.setCell ⟨go65, (x14_1 : Int).toNat, none⟩ (.int .i64 x15_3))) ?hg ?ho ?hn ?hr ?_; (case ho => rfl); (case hg => rfl); (case hn => rfl); (case hr => first | (go_simp; done) | (go_simp; rfl)); intro w69 hw; have hg : wr.grownBy w69 (some go65) := (by rw [hw]; exact HP68.2); have hp_ : Kd.R (Kd.int .i64) 3 w69 w.heap.size (fun k_ => some k_ ≠ (.slice (some ad207) t185.length co26 : Value).ownBlock ∧ some k_ ≠ (.slice (some ad219) t188.length co25 : Value).ownBlock ∧ some k_ ≠ (.slice Ao54 t214.length co54 : Value).ownBlock ∧ some k_ ≠ (.slice Ao67 x16_3.length co67 : Value).ownBlock) (.slice (some ⟨go65, 0, none⟩) x12_1.length co65) y227 := (by rw [hw, Ny227.out]; first | exact HP68.1 | exact Kd.R_mono HP68.1 (fun _ hk => (by first | (refine ⟨?_, ?_, ?_, ?_⟩ <;> first | exact hk.1 | exact hk.2.1 | exact hk.2.2.1 | exact hk.2.2.2 | exact hk.1.1 | exact hk.1.2) | (refine ⟨?_, ?_, ?_⟩ <;> first | exact hk.1 | exact hk.2.1 | exact hk.2.2 | exact hk.1.1 | exact hk.1.2)))); clear HP68; have n0_ := A_ (Kd.R_after (v := (.slice (some ⟨go65, 0, none⟩) x12_1.length co65)) (v1 := (.slice (some ⟨go65, 0, none⟩) x12_1.length co65)) (ok := (fun k_ => some k_ ≠ (.slice (some ad219) t188.length co25 : Value).ownBlock ∧ some k_ ≠ (.slice Ao54 t214.length co54 : Value).ownBlock ∧ some k_ ≠ (.slice Ao67 x16_3.length co67 : Value).ownBlock)) (rz_ (Kd.R_mono HO_9.out (fun _ hk => (by first | exact ⟨⟨hk.1, ⟨hk.2.2.1, hk.2.2.2⟩⟩, hk.2.1⟩ | (refine ⟨⟨?_, ?_, ?_⟩, ?_⟩ <;> first | exact hk.1 | exact hk.2.1 | exact hk.2.2.1 | exact hk.2.2.2 | exact hk.2) | (refine ⟨⟨?_, ?_⟩, ?_⟩ <;> first | exact hk.1 | exact hk.2.1 | exact hk.2.2 | exact hk.2))))) hg (.inl rfl)); have n1_ := A_ (Kd.R_after (v := (.slice (some ⟨go65, 0, none⟩) x12_1.length co65)) (v1 := (.slice (some ⟨go65, 0, none⟩) x12_1.length co65)) (ok := (fun k_ => some k_ ≠ (.slice (some ad207) t185.length co26 : Value).ownBlock ∧ some k_ ≠ (.slice Ao54 t214.length co54 : Value).ownBlock ∧ some k_ ≠ (.slice Ao67 x16_3.length co67 : Value).ownBlock)) (rz_ (Kd.R_mono HO_10.out (fun _ hk => (by first | exact ⟨⟨hk.1, ⟨hk.2.2.1, hk.2.2.2⟩⟩, hk.2.1⟩ | (refine ⟨⟨?_, ?_, ?_⟩, ?_⟩ <;> first | exact hk.1 | exact hk.2.1 | exact hk.2.2.1 | exact hk.2.2.2 | exact hk.2) | (refine ⟨⟨?_, ?_⟩, ?_⟩ <;> first | exact hk.1 | exact hk.2.1 | exact hk.2.2 | exact hk.2))))) hg (.inl rfl)); have n2_ := A_ (hp_); have n3_ := A_ (Kd.R_after (v := (.slice (some ⟨go65, 0, none⟩) x12_1.length co65)) (v1 := (.slice (some ⟨go65, 0, none⟩) x12_1.length co65)) (ok := (fun k_ => some k_ ≠ (.slice (some ad207) t185.length co26 : Value).ownBlock ∧ some k_ ≠ (.slice (some ad219) t188.length co25 : Value).ownBlock ∧ some k_ ≠ (.slice Ao67 x16_3.length co67 : Value).ownBlock)) (rz_ (Kd.R_mono HO_13.out (fun _ hk => (by first | exact ⟨⟨hk.1, ⟨hk.2.1, hk.2.2.2⟩⟩, hk.2.2.1⟩ | (refine ⟨⟨?_, ?_, ?_⟩, ?_⟩ <;> first | exact hk.1 | exact hk.2.1 | exact hk.2.2.1 | exact hk.2.2.2 | exact hk.2) | (refine ⟨⟨?_, ?_⟩, ?_⟩ <;> first | exact hk.1 | exact hk.2.1 | exact hk.2.2 | exact hk.2))))) hg (.inl rfl)); have n4_ := A_ (Kd.R_after (v := (.slice (some ⟨go65, 0, none⟩) x12_1.length co65)) (v1 := (.slice (some ⟨go65, 0, none⟩) x12_1.length co65)) (ok := (fun k_ => some k_ ≠ (.slice (some ad207) t185.length co26 : Value).ownBlock ∧ some k_ ≠ (.slice (some ad219) t188.length co25 : Value).ownBlock ∧ some k_ ≠ (.slice Ao54 t214.length co54 : Value).ownBlock)) (rz_ (Kd.R_mono HO_16.out (fun _ hk => (by first | exact ⟨⟨hk.1, ⟨hk.2.1, hk.2.2.2⟩⟩, hk.2.2.1⟩ | (refine ⟨⟨?_, ?_, ?_⟩, ?_⟩ <;> first | exact hk.1 | exact hk.2.1 | exact hk.2.2.1 | exact hk.2.2.2 | exact hk.2) | (refine ⟨⟨?_, ?_⟩, ?_⟩ <;> first | exact hk.1 | exact hk.2.1 | exact hk.2.2 | exact hk.2))))) hg (.inl rfl)); have n5_ := A_ ((by rw [hw]; exact below_set (HB.out) GB65.out : Below w.heap.size w w69)); clear HO_9 HO_10 HO_12 HO_13 HO_16 HB; have HO_9 := n0_; have HO_10 := n1_; have HO_12 := n2_; have HO_13 := n3_; have HO_16 := n4_; have HB := n5_; clear n0_ n1_ n2_ n3_ n4_ n5_; clear hg hw hp_) | ((with_reducible refine gate_callee (f := 59) rfl ?_); refine goesL_ (some 122) rfl rfl Tryd.func59 (by kernel_rfl) rfl #[.slice Ao54 t214.length co54, .slice Ao67 x16_3.length co67] rfl (by (try simp only [List.map_toArray, List.map_cons, List.map_nil]); first | done | rfl) ?_; (with_reducible refine (spec_l5Sub.calls k3 _ _ t214 _ _ x16_3 t228 _ ?side1 ?side2 ?side3 ?side4 A66.out).mono ?_); (case side1 => repeat (first | exact (Kd.R_reads' HO_13.out).2.2 | (with_reducible refine Kd.C_alloc ?_ _) | (with_reducible refine Kd.C_drewN ?_ _) | (with_reducible refine Kd.C_drew ?_))); (case side2 => exact (Kd.R_reads' HO_13.out).2.1); (case side3 => repeat (first | exact (Kd.R_reads' HO_16.out).2.2 | (with_reducible refine Kd.C_alloc ?_ _) | (with_reducible refine Kd.C_drewN ?_ _) | (with_reducible refine Kd.C_drew ?_))); (case side4 => exact (Kd.R_reads' HO_16.out).2.1); rintro e w70 ⟨v229, rfl, ho0, hb⟩; refine ⟨_, rfl, ?_⟩; have n0_ := A_ (Kd.R_elder' (rz_ HO_9.out) (Kd.R_base ho0) hb); have n1_ := A_ (Kd.R_elder' (rz_ HO_10.out) (Kd.R_base ho0) hb); have n2_ := A_ (Kd.R_elder' (rz_ HO_12.out) (Kd.R_base ho0) hb); have n3_ := A_ (Kd.R_elder' (rz_ HO_13.out) (Kd.R_base ho0) hb); have n4_ := A_ (Kd.R_elder' (rz_ HO_16.out) (Kd.R_base ho0) hb); have n5_ := A_ (Kd.R_lower (Kd.R_new' (Kd.R_new' (Kd.R_new' (Kd.R_new' (Kd.R_new' ho0 (Kd.R_lt (rz_ HO_9.out))) (Kd.R_lt (rz_ HO_10.out))) (Kd.R_lt (rz_ HO_12.out))) (Kd.R_lt (rz_ HO_13.out))) (Kd.R_lt (rz_ HO_16.out))) (below_size hB_)); have n6_ := A_ (below_step hB_ hb); clear HO_9 HO_10 HO_12 HO_13 HO_16 HB; have HO_9 := n0_; have HO_10 := n1_; have HO_12 := n2_; have HO_13 := n3_; have HO_16 := n4_; have HO230 := n5_; have HB := n6_; clear n0_ n1_ n2_ n3_ n4_ n5_ n6_; (try clear hb); (try clear hb2); (try clear hk); (try clear hi); (try clear ho0)))
                       go_roundg k3
                       case measure => have := HK1.out; have := HJ42.out; have := HK3.out; omega
                       case rel => exact ⟨(y227), (t228), (wrap64 (x14_1 - 1)), (by first | rfl | (simp; done) | (simp [*]; done)), H', ⟨by have := HK1.out; have := HJ42.out; have := HK3.out; omega⟩, ⟨by (with_reducible repeat (first | apply Kd.R_alloc | apply Kd.R_drewN | apply Kd.R_drew)); exact Kd.R_mono HO_9.out (fun _ hk => ⟨hk.1.1.1, ⟨hk.1.2, hk.2⟩⟩)⟩, ⟨by (with_reducible repeat (first | apply Kd.R_alloc | apply Kd.R_drewN | apply Kd.R_drew)); exact Kd.R_mono HO_10.out (fun _ hk => ⟨hk.1.1.1, ⟨hk.1.2, hk.2⟩⟩)⟩, ⟨by (with_reducible repeat (first | apply Kd.R_alloc | apply Kd.R_drewN | apply Kd.R_drew)); exact Kd.R_mono HO_12.out (fun _ hk => ⟨hk.1.1, ⟨hk.1.2.1, hk.2⟩⟩)⟩, ⟨by (with_reducible repeat (first | apply Kd.R_alloc | apply Kd.R_drewN | apply Kd.R_drew)); exact Kd.R_mono HO230.out (fun _ hk => ⟨hk.1.1.1.1.2, ⟨hk.1.1.1.2, hk.1.1.2⟩⟩)⟩, ⟨hB_⟩⟩
                      ·rw [if_neg c64] at H
                       exact absurd H (by simp)
                     ·rw [if_neg c63] at H
                      exact absurd H (by simp)
              ·rw [if_neg c41] at H
               exact absurd H (by simp)
             ·rw [if_neg c40] at H
              exact absurd H (by simp)
            ·rw [if_neg c33] at H
             exact absurd H (by simp)
           ·rw [if_neg c32] at H
            exact absurd H (by simp)
          ·rw [if_neg c30] at H
           have c30b0 : decide (0 ≤ x14_1) = false := decide_eq_false c30
           clear c30
           replace H := Option.bind_eq_some_iff.mp H
           obtain ⟨⟨t197, t198⟩, A710, H⟩ := H
           replace H : ((spec_l5Trim.f k1 x12_1).bind fun t201 => (some (t201, t197))) = some (r1, r2) := H
           have A71 := A_ A710
           clear A710
           replace H := Option.bind_eq_some_iff.mp H
           obtain ⟨t201, A720, H⟩ := H
           replace H : (some (t201, t197)) = some (r1, r2) := H
           have A72 := A_ A720
           clear A720
           simp only [Option.some.injEq, Prod.mk.injEq] at H
           obtain ⟨rfl, rfl⟩ := H
           obtain ⟨Ao73, co73, eo73⟩ := Kd.R_slice HO_13.out
           subst eo73
           go_wp2_with (first | ((with_reducible refine gate_callee (f := 56) rfl ?_); refine goesL_ (some 126) rfl rfl Tryd.func56 (by kernel_rfl) rfl #[.slice Ao73 x13_1.length co73, .int .i64 (wrap64 ((65536 : Int) / (wrap64 ((rd l1 (ji13)) + 1))))] rfl (by (try simp only [List.map_toArray, List.map_cons, List.map_nil]); first | done | (simp only [hji13]; rfl) | rfl | (simp only [List.length_drop, List.length_take]; rfl)) ?_; (with_reducible refine (spec_l5DivSmall.calls k1 _ _ x13_1 (wrap64 ((65536 : Int) / (wrap64 ((rd l1 (ji13)) + 1)))) t197 t198 _ ?side1 ?side2 A71.out).mono ?_); (case side1 => repeat (first | exact (Kd.R_reads' HO_13.out).2.2 | (with_reducible refine Kd.C_alloc ?_ _) | (with_reducible refine Kd.C_drewN ?_ _) | (with_reducible refine Kd.C_drew ?_))); (case side2 => exact (Kd.R_reads' HO_13.out).2.1); rintro e w74 ⟨v199, rfl, ho0, hb⟩; refine ⟨_, rfl, ?_⟩; have n0_ := A_ (Kd.R_elder' (rz_ HO_9.out) (Kd.R_base ho0) hb); have n1_ := A_ (Kd.R_elder' (rz_ HO_10.out) (Kd.R_base ho0) hb); have n2_ := A_ (Kd.R_elder' (rz_ HO_12.out) (Kd.R_base ho0) hb); have n3_ := A_ (Kd.R_elder' (rz_ HO_13.out) (Kd.R_base ho0) hb); have n4_ := A_ (Kd.R_lower (Kd.R_new' (Kd.R_new' (Kd.R_new' (Kd.R_new' ho0 (Kd.R_lt (rz_ HO_9.out))) (Kd.R_lt (rz_ HO_10.out))) (Kd.R_lt (rz_ HO_12.out))) (Kd.R_lt (rz_ HO_13.out))) (below_size hB_)); have n5_ := A_ (below_step hB_ hb); clear HO_9 HO_10 HO_12 HO_13 HB; have HO_9 := n0_; have HO_10 := n1_; have HO_12 := n2_; have HO_13 := n3_; have HO200 := n4_; have HB := n5_; clear n0_ n1_ n2_ n3_ n4_ n5_; (try clear hb); (try clear hb2); (try clear hk); (try clear hi); (try clear ho0); obtain ⟨Ao75, co75, eo75⟩ := Kd.R_slice HO_12.out; subst eo75) | ((with_reducible refine gate_callee (f := 18) rfl ?_); refine goesL_ (some 130) rfl rfl Tryd.func18 (by kernel_rfl) rfl #[.slice Ao75 x12_1.length co75] rfl (by (try simp only [List.map_toArray, List.map_cons, List.map_nil]); first | done | rfl) ?_; (with_reducible refine (spec_l5Trim.calls k1 _ _ x12_1 t201 _ ?side1 ?side2 A72.out).mono ?_); (case side1 => repeat (first | exact (Kd.R_reads' HO_12.out).2.2 | (with_reducible refine Kd.C_alloc ?_ _) | (with_reducible refine Kd.C_drewN ?_ _) | (with_reducible refine Kd.C_drew ?_))); (case side2 => exact (Kd.R_reads' HO_12.out).2.1); rintro e w76 ⟨v202, rfl, ho0, hb⟩; refine ⟨_, rfl, ?_⟩; have n0_ := A_ (Kd.R_elder' (rz_ HO_9.out) (Kd.R_base ho0) hb); have n1_ := A_ (Kd.R_elder' (rz_ HO_10.out) (Kd.R_base ho0) hb); have n2_ := A_ (Kd.R_elder' (rz_ HO_12.out) (Kd.R_base ho0) hb); have n3_ := A_ (Kd.R_elder' (rz_ HO_13.out) (Kd.R_base ho0) hb); have n4_ := A_ (Kd.R_elder' (rz_ HO200.out) (Kd.R_base ho0) hb); have n5_ := A_ (Kd.R_lower (Kd.R_new' (Kd.R_new' (Kd.R_new' (Kd.R_new' (Kd.R_new' ho0 (Kd.R_lt (rz_ HO_9.out))) (Kd.R_lt (rz_ HO_10.out))) (Kd.R_lt (rz_ HO_12.out))) (Kd.R_lt (rz_ HO_13.out))) (Kd.R_lt (rz_ HO200.out))) (below_size hB_)); have n6_ := A_ (below_step hB_ hb); clear HO_9 HO_10 HO_12 HO_13 HO200 HB; have HO_9 := n0_; have HO_10 := n1_; have HO_12 := n2_; have HO_13 := n3_; have HO200 := n4_; have HO203 := n5_; have HB := n6_; clear n0_ n1_ n2_ n3_ n4_ n5_ n6_; (try clear hb); (try clear hb2); (try clear hk); (try clear hi); (try clear ho0)))
           go_ret2
           exact ⟨_, _, by first | rfl | (simp [errW_none, errW_some] <;> rfl) | (simp only [← hji13, ← hji19]; first | rfl | (simp [errW_none, errW_some] <;> rfl)) | (simp [*, errW_none, errW_some] <;> rfl), by (with_reducible repeat (first | apply Kd.R_alloc | apply Kd.R_drewN | apply Kd.R_drew)); exact Kd.R_mono HO203.out (fun _ hk => hk.2), by (with_reducible repeat (first | apply Kd.R_alloc | apply Kd.R_drewN | apply Kd.R_drew)); exact Kd.R_mono HO200.out (fun _ hk => hk.2), hB_⟩
       ·rw [if_neg c21] at H
        exact absurd H (by simp)
      ·rw [if_neg c20] at H
       exact absurd H (by simp)
    ·rw [if_neg c15] at H
     exact absurd H (by simp)
   ·rw [if_neg c14] at H
    exact absurd H (by simp)
theorem spec_l5Div.callsX (k : Nat) (A0 : Option Addr) (c0 : Nat) (l0 : List Int) (A1 : Option Addr) (c1 : Nat) (l1 : List Int) (r1 : List Int) (r2 : List Int) (w : World) (hr0 : Kd.C (Kd.int .i64) w A0 l0.length l0) (hc0 : l0.length ≤ c0) (hr1 : Kd.C (Kd.int .i64) w A1 l1.length l1) (hc1 : l1.length ≤ c1) (h : spec_l5Div.f k l0 l1 = some (r1, r2)) :
  Calls Tryd.prog 43 #[.slice A0 l0.length c0, .slice A1 l1.length c1] w fun e w' => ∃ v0_ v1_ : Value, e = .returned (.tuple #[v0_, v1_]) ∧ XR (Kd.int .i64) 3 w' w.heap.size (fun k_ => some k_ ≠ (v1_ : Value).ownBlock) v0_ r1 ∧ XR (Kd.int .i64) 3 w' w.heap.size (fun k_ => some k_ ≠ (v0_ : Value).ownBlock) v1_ r2 ∧ Below w.heap.size w w' :=
 (spec_l5Div.calls k A0 c0 l0 A1 c1 l1 r1 r2 w hr0 hc0 hr1 hc1 h).mono fun e w' ⟨v0_, v1_, p0_, p1_, p2_, p3_⟩ => ⟨v0_, v1_, p0_, XR_of p1_, XR_of p2_, p3_⟩

end Go.Proofs.YtmdeolonjmjmgaaDoor.QFnExactDecFrac
