/- The machine side of one law: each function and the law itself walked once, written by a program of this session (wip/xprint.py) that runs the printer of the kit.
   Conditions: none. -/
import Derived.Test.YtmdeolonjmjmgaaDoorQFnExactDecFracx0
import Derived.Test.YtmdeolonjmjmgaaDoorQFnExactDecFracx7
import Derived.Test.YtmdeolonjmjmgaaDoorQFnExactDecFracx9
namespace Go.Proofs.YtmdeolonjmjmgaaDoor.QFnExactDecFrac
open Go.RowKit Go.Proofs.YtmdeolonjmjmgaaDoorW.PrintWords Go.Proofs.YtmdeolonjmjmgaaDoorW.PrintLast Go.Proofs.YtmdeolonjmjmgaaDoorW.PrintMore Go.Proofs.YtmdeolonjmjmgaaDoor.MX
attribute [local go_sem] Go.Instr.field Go.asAgg Go.Proofs.YtmdeolonjmjmgaaDoor.MS.isSome_setCell Go.Proofs.YtmdeolonjmjmgaaDoor.MT.gtr Go.Proofs.YtmdeolonjmjmgaaDoor.MT.td
attribute [local go_sem] max2_int min2_int max_two min_two max_three min_three max_four min_four   -- for this text's walks alone
set_option linter.unusedVariables false
set_option linter.unusedSimpArgs false

/-! ### impl_natShift: function 63 -/
mutual
def impl_natShift.l0 : Nat → List Int → Int → Int → List Int → Int → Int → Option (List Int)
 | 0, _, _, _, _, _, _ => none
 | k + 1, x0, x5, x6, x7, x30, x31 => if x31 < x30 then (if 0 ≤ x31 then (if x31 < (x7.length : Int) then (if 0 ≤ x6 then ((some (x7.set (x31 : Int).toNat (shr .i64 (rd x7 x31) x6) : List Int)).bind fun y392 => (if (wrap64 ((wrap64 (x5 + x31)) + 1)) < (x0.length : Int) then (if 0 ≤ (wrap64 ((wrap64 (x5 + x31)) + 1)) then (if 0 ≤ (wrap64 (16 - x6)) then (impl_natShift.l0 k x0 x5 x6 (y392.set (x31 : Int).toNat (Go.bits .or .i64 (rd y392 x31) (Go.bits .and .i64 (shl .i64 (rd x0 (wrap64 ((wrap64 (x5 + x31)) + 1))) (wrap64 (16 - x6))) 65535))) x30 (wrap64 (x31 + 1))) else (none)) else (none)) else (impl_natShift.l0 k x0 x5 x6 y392 x30 (wrap64 (x31 + 1))))) else (none)) else (none)) else (none)) else ((impl_trim.f k x7).bind fun t396 => (some t396))
def impl_natShift.l1 : Nat → Int → List Int → List Int → Int → Int → Option (List Int)
 | 0, _, _, _, _, _ => none
 | k + 1, x1, x9, x75, x76, x77 => if x77 < x76 then (if 0 ≤ x77 then (if x77 < (x75.length : Int) then (if 0 ≤ (Int.tmod x1 16) then (if 0 ≤ (wrap64 ((wrap64 (Int.tdiv x1 16)) + x77)) then (if (wrap64 ((wrap64 (Int.tdiv x1 16)) + x77)) < (x9.length : Int) then (if 0 ≤ (wrap64 ((wrap64 ((wrap64 (Int.tdiv x1 16)) + x77)) + 1)) then (if (wrap64 ((wrap64 ((wrap64 (Int.tdiv x1 16)) + x77)) + 1)) < (x9.length : Int) then (impl_natShift.l1 k x1 ((x9.set ((wrap64 ((wrap64 (Int.tdiv x1 16)) + x77)) : Int).toNat (Go.bits .or .i64 (rd x9 (wrap64 ((wrap64 (Int.tdiv x1 16)) + x77))) (Go.bits .and .i64 (shl .i64 (rd x75 x77) (Int.tmod x1 16)) 65535))).set ((wrap64 ((wrap64 ((wrap64 (Int.tdiv x1 16)) + x77)) + 1)) : Int).toNat ((shl .i64 (rd x75 x77) (Int.tmod x1 16)) / 65536)) x75 x76 (wrap64 (x77 + 1))) else (none)) else (none)) else (none)) else (none)) else (none)) else (none)) else (none)) else ((impl_trim.f k x9).bind fun t406 => (some t406))
end
def impl_natShift.f (k : Nat) (l0 : List Int) (a1 : Int) : Option (List Int) := if a1 < 0 then (if (wrap64 (Int.tdiv (wrap64 (-a1)) 16)) ≥ (l0.length : Int) then (some ([] : List Int)) else (if 0 ≤ (wrap64 (Int.tdiv (wrap64 (-a1)) 16)) then (if (wrap64 (Int.tdiv (wrap64 (-a1)) 16)) ≤ (l0.length : Int) then ((slices_Clone_int_int.f (l0.drop ((wrap64 (Int.tdiv (wrap64 (-a1)) 16)) : Int).toNat)).bind fun t388 => (impl_natShift.l0 k l0 (wrap64 (Int.tdiv (wrap64 (-a1)) 16)) (Int.tmod (wrap64 (-a1)) 16) t388 (t388.length : Int) 0)) else (none)) else (none))) else (if 0 ≤ (wrap64 ((wrap64 ((wrap64 (Int.tdiv a1 16)) + (l0.length : Int))) + 1)) then (if (wrap64 ((wrap64 ((wrap64 (Int.tdiv a1 16)) + (l0.length : Int))) + 1) : Int).toNat ≤ 35184372088832 then (impl_natShift.l1 k a1 (List.replicate (wrap64 ((wrap64 ((wrap64 (Int.tdiv a1 16)) + (l0.length : Int))) + 1) : Int).toNat 0) l0 (l0.length : Int) 0) else (none)) else (none))
def impl_natShift.T11 : Bool × List (List Nat × List Nat) := (true, [([], []), ([], []), ([0, 1], [0, 1]), ([2], [2]), ([], []), ([], []), ([], []), ([5, 6], [5, 6]), ([7], [7]), ([4, 8], [4, 8]), ([9], [9]), ([], []), ([11], [11]), ([10, 12], [10, 12]), ([13], [13]), ([3, 14], [3, 14]), ([0, 1, 0, 1, 2, 3, 4, 5, 6, 7, 8, 9, 10, 11, 12, 13, 14, 15], [0, 1]), ([16, 15, 0, 1, 2, 3, 4, 5, 6, 7, 8, 9, 10, 11, 12, 13, 14, 15], [15, 16])])
def impl_natShift.B11 : List Nat := [0, 0, 3, 7, 0, 0, 0, 96, 224, 496, 1008, 0, 2048, 8176, 16368, 32767, 65535, 131071]
theorem impl_natShift.tab11 : rtab .any (opsOf Tryd.f63 11) = impl_natShift.T11 := by kernel_rfl
theorem impl_natShift.bits11 : waitsOk impl_natShift.T11.2 impl_natShift.B11 = true := by kernel_rfl
set_option maxHeartbeats 8000000 in
set_option maxRecDepth 100000 in
theorem impl_natShift.calls (k : Nat) (A0 : Option Addr) (c0 : Nat) (l0 : List Int) (a1 : Int) (r : List Int) (w : World) (hr0 : Kd.C (Kd.int .i64) w A0 l0.length l0) (hc0 : l0.length ≤ c0) (h : impl_natShift.f k l0 a1 = some r) :
  Calls Tryd.prog 63 #[.slice A0 l0.length c0, .int .i64 a1] w fun e w' => ∃ v0_ : Value, e = .returned (v0_) ∧ Kd.V (Kd.int .i64) 3 w' w.heap.size (fun k_ => (w.heap.size ≤ k_)) v0_ r ∧ Below w.heap.size w w' := by
 have HR0 := A_ hr0
 have HC0 := A_ hc0
 clear hr0 hc0
 have HB := A_ (Below.refl w.heap.size w)
 have H : (if a1 < 0 then (if (wrap64 (Int.tdiv (wrap64 (-a1)) 16)) ≥ (l0.length : Int) then (some ([] : List Int)) else (if 0 ≤ (wrap64 (Int.tdiv (wrap64 (-a1)) 16)) then (if (wrap64 (Int.tdiv (wrap64 (-a1)) 16)) ≤ (l0.length : Int) then ((slices_Clone_int_int.f (l0.drop ((wrap64 (Int.tdiv (wrap64 (-a1)) 16)) : Int).toNat)).bind fun t388 => (impl_natShift.l0 k l0 (wrap64 (Int.tdiv (wrap64 (-a1)) 16)) (Int.tmod (wrap64 (-a1)) 16) t388 (t388.length : Int) 0)) else (none)) else (none))) else (if 0 ≤ (wrap64 ((wrap64 ((wrap64 (Int.tdiv a1 16)) + (l0.length : Int))) + 1)) then (if (wrap64 ((wrap64 ((wrap64 (Int.tdiv a1 16)) + (l0.length : Int))) + 1) : Int).toNat ≤ 35184372088832 then (impl_natShift.l1 k a1 (List.replicate (wrap64 ((wrap64 ((wrap64 (Int.tdiv a1 16)) + (l0.length : Int))) + 1) : Int).toNat 0) l0 (l0.length : Int) 0) else (none)) else (none))) = some r := h
 clear h
 by_cases c3 : a1 < 0
 ·rw [if_pos c3] at H
  have c3b0 : decide (a1 < 0) = true := decide_eq_true c3
  clear c3
  by_cases c4 : (wrap64 (Int.tdiv (wrap64 (-a1)) 16)) ≥ (l0.length : Int)
  ·rw [if_pos c4] at H
   have c4b0 : decide ((l0.length : Int) ≤ (wrap64 (Int.tdiv (wrap64 (-a1)) 16))) = true := decide_eq_true c4
   clear c4
   obtain rfl := Option.some.inj H
   go_enter Tryd.func63, Tryd.ntmps63
   go_wp2
   go_ret
   exact ⟨_, by first | rfl | (simp [errW_none, errW_some] <;> rfl) | (simp [*, errW_none, errW_some] <;> rfl), (by first | exact Kd.V_nil _ _ _ _ _ | exact Kd.R_V (Kd.R_nil _ _ _ w.heap.size _)), hB_⟩
  ·rw [if_neg c4] at H
   have c4b0 : decide ((l0.length : Int) ≤ (wrap64 (Int.tdiv (wrap64 (-a1)) 16))) = false := decide_eq_false c4
   clear c4
   obtain ⟨ji5, hji5⟩ : ∃ j_ : Int, (wrap64 (Int.tdiv (wrap64 (-a1)) 16)) = j_ := ⟨_, rfl⟩
   replace H : (if 0 ≤ (ji5) then (if (ji5) ≤ (l0.length : Int) then ((slices_Clone_int_int.f (l0.drop ((ji5) : Int).toNat)).bind fun t388 => (impl_natShift.l0 k l0 ji5 (Int.tmod (wrap64 (-a1)) 16) t388 (t388.length : Int) 0)) else (none)) else (none)) = some r := by first | (rw [hji5] at H; exact H) | (simp only [hji5] at H ⊢; exact H)
   (try rw [hji5] at c4b0)
   have hji5w : (IntKind.i64.wrap (Int.tdiv (wrap64 (-a1)) 16)) = ji5 := (i64_w _).trans hji5
   by_cases c6 : 0 ≤ (ji5)
   ·rw [if_pos c6] at H
    have c6b0 := eq_true c6
    have c6b1 : decide (0 ≤ (ji5)) = true := decide_eq_true c6
    clear c6
    by_cases c7 : (ji5) ≤ (l0.length : Int)
    ·rw [if_pos c7] at H
     have c7b0 := eq_true c7
     have c7b1 : decide ((ji5) ≤ (l0.length : Int)) = true := decide_eq_true c7
     clear c7
     replace H := Option.bind_eq_some_iff.mp H
     obtain ⟨t388, A80, H⟩ := H
     replace H : (impl_natShift.l0 k l0 ji5 (Int.tmod (wrap64 (-a1)) 16) t388 (t388.length : Int) 0) = some r := H
     have A8 := A_ A80
     clear A80
     have H' := A_ H
     clear H
     obtain ⟨i09, hi09, _, hsz9, _⟩ := info_parts info3
     obtain ⟨A9, hcut9, hA9, hC9⟩ := print_drop_of (P := Tryd.prog) (Value.int .i64) 0 23 3 .i64 Tryd.underlying23 hi09 hsz9 A0 c0 l0 (ji5) (of_decide_eq_true as_) (of_decide_eq_true as_) HC0.out
     have HR387 := A_ (Kd.C_of_reads (h1 := fun _ => rfl) (hA9 _ (Kd.reads_of_C HR0.out)))
     have HC387 := A_ hC9
     clear hA9 hC9 hi09 hsz9
     go_enter Tryd.func63, Tryd.ntmps63
     go_wp2_with (first | ((with_reducible refine gate_callee (f := 61) rfl ?_); refine goesL_ (some 28) rfl rfl Tryd.func61 (by kernel_rfl) rfl #[.slice A9 (l0.drop ((ji5) : Int).toNat).length (c0 - (ji5).toNat)] rfl (by (try simp only [List.map_toArray, List.map_cons, List.map_nil]); first | done | (rw [show (l0.drop ((ji5) : Int).toNat).length = (l0.length - (ji5).toNat) from List.length_drop] <;> rfl) | (simp only [hji5]; rfl) | rfl | (simp only [List.length_drop, List.length_take]; rfl)) ?_; (with_reducible refine (slices_Clone_int_int.calls _ _ (l0.drop ((ji5) : Int).toNat) t388 _ ?side1 ?side2 A8.out).mono ?_); (case side1 => repeat (first | exact HR387.out | (with_reducible refine Kd.C_alloc ?_ _) | (with_reducible refine Kd.C_drewN ?_ _) | (with_reducible refine Kd.C_drew ?_))); (case side2 => exact HC387.out); rintro e w10 ⟨v389, rfl, ho0, hb⟩; refine ⟨_, rfl, ?_⟩; have n0_ := A_ (Kd.R_lower (Kd.R_newM (M := fun k_ => (w.heap.size ≤ k_)) ho0 (below_size hB_) (fun k_ h_ => h_)) (below_size hB_)); have n1_ := A_ (below_step hB_ hb); clear HB; have HO390 := n0_; have HB := n1_; clear n0_ n1_; (try clear hb); (try clear hb2); (try clear hk); (try clear hi); (try clear ho0); obtain ⟨Ao11, co11, eo11⟩ := Kd.R_slice HO390.out; subst eo11))
     go_loopg [31] k (fun kq v31 w' => ∃ (x7_1 : List Int) (x31_1 : Int), v31 = .int .i64 x31_1 ∧ Aside0 (impl_natShift.l0 kq l0 ji5 (Int.tmod (wrap64 (-a1)) 16) x7_1 (t388.length : Int) x31_1 = some r) ∧ Aside0 (kq ≤ k) ∧ Aside0 (Kd.R (Kd.int .i64) 3 w' w.heap.size (fun k_ => (w.heap.size ≤ k_)) (.slice Ao11 t388.length co11) x7_1) ∧ Aside0 (Below w.heap.size w w'))
     case atStart => exact ⟨(t388), (0), (by first | rfl | (simp; done) | (simp [*]; done)), H', ⟨Nat.le_refl _⟩, ⟨by (with_reducible repeat (first | apply Kd.R_alloc | apply Kd.R_drewN | apply Kd.R_drew)); exact Kd.R_mono HO390.out (fun _ hk => hk.1)⟩, ⟨hB_⟩⟩
     case round =>
      clear H'
      (try clear p2); (try clear c3); (try clear c3b0); (try clear c4); (try clear c4b0); (try clear c6); (try clear c6b0); (try clear c6b1); (try clear p6); (try clear c7); (try clear c7b0); (try clear c7b1)
      obtain ⟨x7_1, x31_1, rfl, HA, HK1, HO_7, HB⟩ := hrel
      have hl7_1 := (Kd.R_reads' HO_7.out).1
      rw [hl7_1] at HO_7
      (try simp only [hl7_1])
      cases gk with
      | zero => exact absurd HA.out (by simp [impl_natShift.l0])
      | succ k1 =>
       have H := HA.out
       clear HA
       simp only [impl_natShift.l0] at H
       by_cases c12 : x31_1 < (t388.length : Int)
       ·rw [if_pos c12] at H
        have c12b0 : decide (x31_1 < (t388.length : Int)) = true := decide_eq_true c12
        (try (have c12b0_ := c12b0; simp only [hl7_1] at c12b0_))
        clear c12
        by_cases c13 : 0 ≤ x31_1
        ·rw [if_pos c13] at H
         have c13b0 : decide (0 ≤ x31_1) = true := decide_eq_true c13
         clear c13
         by_cases c14 : x31_1 < (x7_1.length : Int)
         ·rw [if_pos c14] at H
          have c14b0 : decide (x31_1 < (x7_1.length : Int)) = true := decide_eq_true c14
          (try (have c14b0_ := c14b0; simp only [hl7_1] at c14b0_))
          clear c14
          obtain ⟨ji15, hji15⟩ : ∃ j_ : Int, (Int.tmod (wrap64 (-a1)) 16) = j_ := ⟨_, rfl⟩
          replace H : (if 0 ≤ (ji15) then ((some (x7_1.set (x31_1 : Int).toNat (shr .i64 (rd x7_1 x31_1) (ji15)) : List Int)).bind fun y392 => (if (wrap64 ((wrap64 (ji5 + x31_1)) + 1)) < (l0.length : Int) then (if 0 ≤ (wrap64 ((wrap64 (ji5 + x31_1)) + 1)) then (if 0 ≤ (wrap64 (16 - (ji15))) then (impl_natShift.l0 k1 l0 ji5 (ji15) (y392.set (x31_1 : Int).toNat (Go.bits .or .i64 (rd y392 x31_1) (Go.bits .and .i64 (shl .i64 (rd l0 (wrap64 ((wrap64 (ji5 + x31_1)) + 1))) (wrap64 (16 - (ji15)))) 65535))) (t388.length : Int) (wrap64 (x31_1 + 1))) else (none)) else (none)) else (impl_natShift.l0 k1 l0 ji5 (ji15) y392 (t388.length : Int) (wrap64 (x31_1 + 1))))) else (none)) = some r := by first | (rw [hji15] at H; exact H) | (simp only [hji15] at H ⊢; exact H)
          by_cases c16 : 0 ≤ (ji15)
          ·rw [if_pos c16] at H
           have c16b0 := eq_true c16
           have c16b1 : decide (0 ≤ (ji15)) = true := decide_eq_true c16
           clear c16
           obtain ⟨ji17, hji17⟩ : ∃ j_ : Int, (shr .i64 (rd x7_1 x31_1) (ji15)) = j_ := ⟨_, rfl⟩
           replace H : ((some (x7_1.set (x31_1 : Int).toNat (ji17) : List Int)).bind fun y392 => (if (wrap64 ((wrap64 (ji5 + x31_1)) + 1)) < (l0.length : Int) then (if 0 ≤ (wrap64 ((wrap64 (ji5 + x31_1)) + 1)) then (if 0 ≤ (wrap64 (16 - (ji15))) then (impl_natShift.l0 k1 l0 ji5 (ji15) (y392.set (x31_1 : Int).toNat (Go.bits .or .i64 (rd y392 x31_1) (Go.bits .and .i64 (shl .i64 (rd l0 (wrap64 ((wrap64 (ji5 + x31_1)) + 1))) (wrap64 (16 - (ji15)))) 65535))) (t388.length : Int) (wrap64 (x31_1 + 1))) else (none)) else (none)) else (impl_natShift.l0 k1 l0 ji5 (ji15) y392 (t388.length : Int) (wrap64 (x31_1 + 1))))) = some r := by first | (rw [hji17] at H; exact H) | (simp only [hji17] at H ⊢; exact H)
           have hji17_ : ((rd x7_1 x31_1) / 2 ^ min (ji15).toNat 64) = ji17 := hji17
           have hji17z : (ji15) ≤ 64 → ((rd x7_1 x31_1) / 2 ^ (ji15).toNat) = ji17 := shr_small hji17
           obtain ⟨y392, hy392⟩ : ∃ y_ : List Int, y_ = (x7_1.set (x31_1 : Int).toNat (ji17)) := ⟨_, rfl⟩
           replace H : (if (wrap64 ((wrap64 (ji5 + x31_1)) + 1)) < (l0.length : Int) then (if 0 ≤ (wrap64 ((wrap64 (ji5 + x31_1)) + 1)) then (if 0 ≤ (wrap64 (16 - (ji15))) then (impl_natShift.l0 k1 l0 ji5 (ji15) (y392.set (x31_1 : Int).toNat (Go.bits .or .i64 (rd y392 x31_1) (Go.bits .and .i64 (shl .i64 (rd l0 (wrap64 ((wrap64 (ji5 + x31_1)) + 1))) (wrap64 (16 - (ji15)))) 65535))) (t388.length : Int) (wrap64 (x31_1 + 1))) else (none)) else (none)) else (impl_natShift.l0 k1 l0 ji5 (ji15) y392 (t388.length : Int) (wrap64 (x31_1 + 1)))) = some r := by first | (rw [hy392]; with_reducible exact H) | (have H2_ := (Option.bind_some _ _).symm.trans H; rw [hy392]; with_reducible exact H2_) | (have H2_ := (Option.bind_some _ _).symm.trans H; with_reducible exact H2_) | with_reducible exact H | (rw [hy392]; exact H) | exact H
           have Ny392 := A_ hy392
           clear hy392
           by_cases c19 : (wrap64 ((wrap64 (ji5 + x31_1)) + 1)) < (l0.length : Int)
           ·rw [if_pos c19] at H
            have c19b0 : decide ((wrap64 ((wrap64 (ji5 + x31_1)) + 1)) < (l0.length : Int)) = true := decide_eq_true c19
            (try (have c19b0_ := c19b0; simp only [hl7_1] at c19b0_))
            clear c19
            obtain ⟨ji20, hji20⟩ : ∃ j_ : Int, (wrap64 ((wrap64 (ji5 + x31_1)) + 1)) = j_ := ⟨_, rfl⟩
            replace H : (if 0 ≤ (ji20) then (if 0 ≤ (wrap64 (16 - (ji15))) then (impl_natShift.l0 k1 l0 ji5 (ji15) (y392.set (x31_1 : Int).toNat (Go.bits .or .i64 (rd y392 x31_1) (Go.bits .and .i64 (shl .i64 (rd l0 (ji20)) (wrap64 (16 - (ji15)))) 65535))) (t388.length : Int) (wrap64 (x31_1 + 1))) else (none)) else (none)) = some r := by first | (rw [hji20] at H; exact H) | (simp only [hji20] at H ⊢; exact H)
            (try rw [hji20] at c19b0)
            have hji20w : (IntKind.i64.wrap ((wrap64 (ji5 + x31_1)) + 1)) = ji20 := (i64_w _).trans hji20
            by_cases c21 : 0 ≤ (ji20)
            ·rw [if_pos c21] at H
             have c21b0 : decide (0 ≤ (ji20)) = true := decide_eq_true c21
             clear c21
             obtain ⟨ji22, hji22⟩ : ∃ j_ : Int, (wrap64 (16 - (ji15))) = j_ := ⟨_, rfl⟩
             replace H : (if 0 ≤ (ji22) then (impl_natShift.l0 k1 l0 ji5 (ji15) (y392.set (x31_1 : Int).toNat (Go.bits .or .i64 (rd y392 x31_1) (Go.bits .and .i64 (shl .i64 (rd l0 (ji20)) (ji22)) 65535))) (t388.length : Int) (wrap64 (x31_1 + 1))) else (none)) = some r := by first | (rw [hji22] at H; exact H) | (simp only [hji22] at H ⊢; exact H)
             have hji22w : (IntKind.i64.wrap (16 - (ji15))) = ji22 := (i64_w _).trans hji22
             by_cases c23 : 0 ≤ (ji22)
             ·rw [if_pos c23] at H
              have c23b0 := eq_true c23
              have c23b1 : decide (0 ≤ (ji22)) = true := decide_eq_true c23
              clear c23
              obtain ⟨ji24, hji24⟩ : ∃ j_ : Int, (shl .i64 (rd l0 (ji20)) (ji22)) = j_ := ⟨_, rfl⟩
              replace H : (impl_natShift.l0 k1 l0 ji5 (ji15) (y392.set (x31_1 : Int).toNat (Go.bits .or .i64 (rd y392 x31_1) (Go.bits .and .i64 (ji24) 65535))) (t388.length : Int) (wrap64 (x31_1 + 1))) = some r := by first | (rw [hji24] at H; exact H) | (simp only [hji24] at H ⊢; exact H)
              have hji24_ : (IntKind.i64.wrap ((rd l0 (ji20)) * 2 ^ min (ji22).toNat 64)) = ji24 := hji24
              have hji24z : (ji22) ≤ 64 → (IntKind.i64.wrap ((rd l0 (ji20)) * 2 ^ (ji22).toNat)) = ji24 := shl_small hji24
              have hji24y : (wrap64 ((rd l0 (ji20)) * 2 ^ min (ji22).toNat 64)) = ji24 := (i64_w _).symm.trans hji24_
              have hji24x : (ji22) ≤ 64 → (wrap64 ((rd l0 (ji20)) * 2 ^ (ji22).toNat)) = ji24 := fun h_ => (i64_w _).symm.trans (hji24z h_)
              obtain ⟨y395, hy395⟩ : ∃ y_ : List Int, y_ = (y392.set (x31_1 : Int).toNat (Go.bits .or .i64 (rd y392 x31_1) (Go.bits .and .i64 (ji24) 65535))) := ⟨_, rfl⟩
              replace H : (impl_natShift.l0 k1 l0 ji5 (ji15) y395 (t388.length : Int) (wrap64 (x31_1 + 1))) = some r := by first | (rw [hy395]; with_reducible exact H) | (have H2_ := (Option.bind_some _ _).symm.trans H; rw [hy395]; with_reducible exact H2_) | (have H2_ := (Option.bind_some _ _).symm.trans H; with_reducible exact H2_) | with_reducible exact H | (rw [hy395]; exact H) | exact H
              have Ny395 := A_ hy395
              clear hy395
              have H' := A_ H
              clear H
              have p391 : 0 ≤ (x31_1 : Int) := of_decide_eq_true as_
              have q391 : x31_1 < (x7_1.length : Int) := of_decide_eq_true as_
              obtain ⟨ad391, e391, hx391_0⟩ := Kd.at_int (Kd.R_reads' HO_7.out).2.2 x31_1 p391 q391
              cases e391
              replace p391 := eq_true p391
              replace q391 := eq_true q391
              have p18 : 0 ≤ (x31_1 : Int) := of_decide_eq_true as_
              have q18 : (x31_1 : Int) < ((x7_1.length : Int) : Int) := of_decide_eq_true as_
              obtain ⟨go18, co18, eo18, gb18, gl18, cl18, HG18⟩ := Kd.R_form HO_7.out (by omega)
              (first | cases eo18 | (injection eo18 with ea_ en_ ec_; (first | subst ea_ | (injection ea_ with ea_; subst ea_)); subst ec_; clear en_))
              have GB18 := A_ gb18
              have GG18 := A_ HG18
              clear gb18 gl18 HG18
              (first | simp only [add_plain] at hx391_0 | skip)
              obtain ⟨hx18_0, hf18_0⟩ := Kd.R_celln 0 HO_7.out (x31_1 : Int) p18 q18
              replace p18 := eq_true p18
              replace q18 := eq_true q18
              have HP26 := Kd.R_putg HO_7.out (x31_1 : Int) ji17
              try go_wp2_with (first | ((with_reducible refine gate_store (t := 3) (p := 40) rfl ?_); refine store_event (t := 3) (p := 40) (v := ?vo_w27) (w1 := (wr.setCell ⟨go18, (x31_1 : Int).toNat, none⟩ (.int .i64 ji17))) ?hg ?ho ?hn ?hr ?_; (case ho => rfl); (case hg => rfl); (case hn => rfl); (case hr => first | (go_simp; done) | (go_simp; rfl)); intro w27 hw; have hg : wr.grownBy w27 (some go18) := (by rw [hw]; exact HP26.2); have hp_ : Kd.R (Kd.int .i64) 3 w27 w.heap.size (fun k_ => (w.heap.size ≤ k_)) (.slice (some ⟨go18, 0, none⟩) x7_1.length co11) y392 := (by rw [hw, Ny392.out]; first | exact HP26.1 | exact Kd.R_mono HP26.1 (fun _ hk => (by first | (refine ⟨?_, ?_, ?_, ?_⟩ <;> first | exact hk.1 | exact hk.2.1 | exact hk.2.2.1 | exact hk.2.2.2 | exact hk.1.1 | exact hk.1.2) | (refine ⟨?_, ?_, ?_⟩ <;> first | exact hk.1 | exact hk.2.1 | exact hk.2.2 | exact hk.1.1 | exact hk.1.2)))); clear HP26; have n0_ := A_ (hp_); have n1_ := A_ ((by rw [hw]; exact below_set (HB.out) GB18.out : Below w.heap.size w w27)); clear HO_7 HB; have HO_7 := n0_; have HB := n1_; clear n0_ n1_; clear hg hw hp_))
              have n0_ := A_ (Kd.R_drew HO_7.out)
              have n1_ := A_ (below_drew1 HB.out)
              clear HO_7 HB
              have HO_7 := n0_
              have HB := n1_
              clear n0_ n1_
              have p393 : 0 ≤ (x31_1 : Int) := of_decide_eq_true as_
              have q393 : x31_1 < (y392.length : Int) := (by have h_ : (x31_1 : Int) < ((x7_1.length : Int) : Int) := of_decide_eq_true as_; first | (have e_ := (Kd.R_reads' HO_7.out).1; omega) | simpa only [Ny392.out, List.length_set] using h_)
              have ql393 : ((x31_1 : Int) < ((x7_1.length : Int) : Int)) = True := eq_true (of_decide_eq_true as_)
              obtain ⟨ad393, e393, hx393_0⟩ := Kd.at_int (Kd.R_reads' HO_7.out).2.2 x31_1 p393 q393
              obtain rfl : (⟨go18, 0, none⟩ : Addr) = ad393 := (by injection e393)
              (first | simp only [add_plain] at hx393_0 | simp only [add_at] at hx393_0 | simp only [Addr.add, Nat.zero_add] at hx393_0 | skip)
              replace p393 := eq_true p393
              replace q393 := eq_true q393
              have p394 : 0 ≤ ((ji20) : Int) := of_decide_eq_true as_
              have q394 : (ji20) < (l0.length : Int) := of_decide_eq_true as_
              obtain ⟨ad394, e394, hx394_0⟩ := Kd.at_int HR0.out (ji20) p394 q394
              have hw394_0 := hx394_0
              cases e394
              replace hx394_0 := (HB.out.cell (World.block_lt_of_cell? w _ hx394_0)).trans hx394_0
              replace p394 := eq_true p394
              replace q394 := eq_true q394
              have p25 : 0 ≤ (x31_1 : Int) := of_decide_eq_true as_
              have q25 : (x31_1 : Int) < ((x7_1.length : Int) : Int) := of_decide_eq_true as_
              obtain ⟨hx25_0, hf25_0⟩ := Kd.R_celln 0 HO_7.out (x31_1 : Int) p25 q25
              replace p25 := eq_true p25
              replace q25 := eq_true q25
              have HP29 := Kd.R_putn HO_7.out (x31_1 : Int) (Go.bits .or .i64 (rd y392 x31_1) (Go.bits .and .i64 (ji24) 65535))
              rw [← Ny395.out] at HP29
              have HQ29 := A_ HP29
              clear HP29
              refine start_ (n := 18) (S := fun w' => w'.cell? ⟨go18, (x31_1).toNat, none⟩ = some (.int .i64 (rd y392 x31_1)) ∧ w'.cell? (ad394.add ((ji20)).toNat) = some (.int .i64 (rd l0 (ji20)))) (ds := [17]) #[false, false, false, false, false, false, false, false, false, false, false, false, false, false, false, false, false, false] (by kernel_rfl) rfl rfl ⟨hx393_0, ((HB.out.cell (World.block_lt_of_cell? w _ hw394_0)).trans hw394_0)⟩ (fun hHeld => ?_); refine with_tabW impl_natShift.tab11 impl_natShift.bits11 (fun HT_ HW_ => ?_)
              generalize w27.drew = w28 at HO_7 HB HQ29 hf25_0 hx25_0 hx393_0 hx394_0 hHeld ⊢
              refine pure_ (i := 0) (N := some 48) (v := ?_) (a' := ?_) #[true, false, false, false, false, false, false, false, false, false, false, false, false, false, false, false, false, false] rfl rfl (any_of HT_.out (by kernel_rfl)) (fun _ _ _ h => h) (Or.inl ⟨by rfl, ?_⟩) ?_ ?_
              rotate_left
              ·intro w'
               go_simp
               with_reducible rfl
              rotate_left
              ·simp only [Act.put, List.setIfInBounds_toArray, List.set_cons_zero, List.set_cons_succ, i64_w, i32_w]
               rfl
              refine pure_ (i := 1) (N := some 49) (v := ?_) (a' := ?_) #[true, true, false, false, false, false, false, false, false, false, false, false, false, false, false, false, false, false] rfl rfl (any_of HT_.out (by kernel_rfl)) (fun _ _ _ h => h) (Or.inl ⟨by rfl, ?_⟩) ?_ ?_
              rotate_left
              ·intro w'
               go_simp
               with_reducible rfl
              rotate_left
              ·simp only [Act.put, List.setIfInBounds_toArray, List.set_cons_zero, List.set_cons_succ, i64_w, i32_w]
               rfl
              refine pure_ (i := 2) (N := some 50) (v := ?_) (a' := ?_) #[true, true, true, false, false, false, false, false, false, false, false, false, false, false, false, false, false, false] rfl rfl (any_of HT_.out (by kernel_rfl)) (fun _ _ _ h => h) (Or.inl ⟨by rfl, ?_⟩) ?_ ?_
              rotate_left
              ·intro w'
               go_simp
               with_reducible rfl
              rotate_left
              ·simp only [Act.put, List.setIfInBounds_toArray, List.set_cons_zero, List.set_cons_succ, i64_w, i32_w]
               rfl
              refine pure_ (i := 4) (N := some 52) (v := ?_) (a' := ?_) #[true, true, true, false, true, false, false, false, false, false, false, false, false, false, false, false, false, false] rfl rfl (any_of HT_.out (by kernel_rfl)) (fun _ _ _ h => h) (Or.inl ⟨by rfl, ?_⟩) ?_ ?_
              rotate_left
              ·intro w'
               go_simp
               with_reducible rfl
              rotate_left
              ·simp only [Act.put, List.setIfInBounds_toArray, List.set_cons_zero, List.set_cons_succ, i64_w, i32_w]
               rfl
              refine pure_ (i := 5) (N := some 53) (v := ?_) (a' := ?_) #[true, true, true, false, true, true, false, false, false, false, false, false, false, false, false, false, false, false] rfl rfl (any_of HT_.out (by kernel_rfl)) (fun _ _ _ h => h) (Or.inl ⟨by rfl, ?_⟩) ?_ ?_
              rotate_left
              ·intro w'
               go_simp
               with_reducible rfl
              rotate_left
              ·simp only [Act.put, List.setIfInBounds_toArray, List.set_cons_zero, List.set_cons_succ, i64_w, i32_w]
               rfl
              refine pure_ (i := 6) (N := some 54) (v := ?_) (a' := ?_) #[true, true, true, false, true, true, true, false, false, false, false, false, false, false, false, false, false, false] rfl rfl (any_of HT_.out (by kernel_rfl)) (fun _ _ _ h => h) (Or.inl ⟨by rfl, ?_⟩) ?_ ?_
              rotate_left
              ·intro w'
               go_simp
               with_reducible rfl
              rotate_left
              ·simp only [Act.put, List.setIfInBounds_toArray, List.set_cons_zero, List.set_cons_succ, i64_w, i32_w]
               rfl
              refine pure_ (i := 7) (N := some 55) (v := ?_) (a' := ?_) #[true, true, true, false, true, true, true, true, false, false, false, false, false, false, false, false, false, false] rfl rfl (any_of HT_.out (by kernel_rfl)) (fun _ _ _ h => h) (Or.inl ⟨by rfl, ?_⟩) ?_ ?_
              rotate_left
              ·intro w'
               go_simp
               with_reducible rfl
              rotate_left
              ·simp only [Act.put, List.setIfInBounds_toArray, List.set_cons_zero, List.set_cons_succ, i64_w, i32_w]
               rfl
              refine pure_ (i := 8) (N := some 56) (v := ?_) (a' := ?_) #[true, true, true, false, true, true, true, true, true, false, false, false, false, false, false, false, false, false] rfl rfl (any_of HT_.out (by kernel_rfl)) (fun _ _ _ h => h) (Or.inl ⟨by rfl, ?_⟩) ?_ ?_
              rotate_left
              ·intro w'
               go_simp
               with_reducible rfl
              rotate_left
              ·simp only [Act.put, List.setIfInBounds_toArray, List.set_cons_zero, List.set_cons_succ, i64_w, i32_w]
               rfl
              refine pure_ (i := 9) (N := some 57) (v := ?_) (a' := ?_) #[true, true, true, false, true, true, true, true, true, true, false, false, false, false, false, false, false, false] rfl rfl (any_of HT_.out (by kernel_rfl)) (fun _ _ _ h => h) (Or.inl ⟨by rfl, ?_⟩) ?_ ?_
              rotate_left
              ·intro w'
               go_simp
               with_reducible rfl
              rotate_left
              ·simp only [Act.put, List.setIfInBounds_toArray, List.set_cons_zero, List.set_cons_succ, i64_w, i32_w]
               rfl
              refine pure_ (i := 11) (N := some 59) (v := ?_) (a' := ?_) #[true, true, true, false, true, true, true, true, true, true, false, true, false, false, false, false, false, false] rfl rfl (any_of HT_.out (by kernel_rfl)) (fun _ _ _ h => h) (Or.inl ⟨by rfl, ?_⟩) ?_ ?_
              rotate_left
              ·intro w'
               go_simp
               with_reducible rfl
              rotate_left
              ·simp only [Act.put, List.setIfInBounds_toArray, List.set_cons_zero, List.set_cons_succ, i64_w, i32_w]
               rfl
              refine pure_ (i := 12) (N := some 60) (v := ?_) (a' := ?_) #[true, true, true, false, true, true, true, true, true, true, false, true, true, false, false, false, false, false] rfl rfl (any_of HT_.out (by kernel_rfl)) (fun _ _ _ h => h) (Or.inl ⟨by rfl, ?_⟩) ?_ ?_
              rotate_left
              ·intro w'
               go_simp
               with_reducible rfl
              rotate_left
              ·simp only [Act.put, List.setIfInBounds_toArray, List.set_cons_zero, List.set_cons_succ, i64_w, i32_w]
               rfl
              refine take_ (i := 3) (N := some 51) (v := ?_) (a' := ?_) #[true, true, true, true, true, true, true, true, true, true, false, true, true, false, false, false, false, false] rfl rfl (take_ofW HT_.out HW_.out (by kernel_rfl)) (fun _ _ _ h => h) (Or.inl ⟨by rfl, ?_⟩) hHeld ?_ ?_
              rotate_left
              ·rintro w' ⟨s0, s1⟩
               go_simp
               with_reducible rfl
              rotate_left
              ·simp only [Act.put, List.setIfInBounds_toArray, List.set_cons_zero, List.set_cons_succ, i64_w, i32_w]
               rfl
              refine take_ (i := 10) (N := some 58) (v := ?_) (a' := ?_) #[true, true, true, true, true, true, true, true, true, true, true, true, true, false, false, false, false, false] rfl rfl (take_ofW HT_.out HW_.out (by kernel_rfl)) (fun _ _ _ h => h) (Or.inl ⟨by rfl, ?_⟩) hHeld ?_ ?_
              rotate_left
              ·rintro w' ⟨s0, s1⟩
               go_simp
               with_reducible rfl
              rotate_left
              ·simp only [Act.put, List.setIfInBounds_toArray, List.set_cons_zero, List.set_cons_succ, i64_w, i32_w]
               rfl
              refine pure_ (i := 13) (N := some 61) (v := ?_) (a' := ?_) #[true, true, true, true, true, true, true, true, true, true, true, true, true, true, false, false, false, false] rfl rfl (any_of HT_.out (by kernel_rfl)) (fun _ _ _ h => h) (Or.inl ⟨by rfl, ?_⟩) ?_ ?_
              rotate_left
              ·intro w'
               go_simp
               with_reducible rfl
              rotate_left
              ·simp only [Act.put, List.setIfInBounds_toArray, List.set_cons_zero, List.set_cons_succ, i64_w, i32_w]
               rfl
              refine pure_ (i := 14) (N := some 62) (v := ?_) (a' := ?_) #[true, true, true, true, true, true, true, true, true, true, true, true, true, true, true, false, false, false] rfl rfl (any_of HT_.out (by kernel_rfl)) (fun _ _ _ h => h) (Or.inl ⟨by rfl, ?_⟩) ?_ ?_
              rotate_left
              ·intro w'
               go_simp
               with_reducible rfl
              rotate_left
              ·simp only [Act.put, List.setIfInBounds_toArray, List.set_cons_zero, List.set_cons_succ, i64_w, i32_w]
               rfl
              refine pure_ (i := 15) (N := some 63) (v := ?_) (a' := ?_) #[true, true, true, true, true, true, true, true, true, true, true, true, true, true, true, true, false, false] rfl rfl (any_of HT_.out (by kernel_rfl)) (fun _ _ _ h => h) (Or.inl ⟨by rfl, ?_⟩) ?_ ?_
              rotate_left
              ·intro w'
               go_simp
               with_reducible rfl
              rotate_left
              ·simp only [Act.put, List.setIfInBounds_toArray, List.set_cons_zero, List.set_cons_succ, i64_w, i32_w]
               rfl
              refine pure_ (i := 16) (N := some 64) (v := ?_) (a' := ?_) #[true, true, true, true, true, true, true, true, true, true, true, true, true, true, true, true, true, false] rfl rfl (any_of HT_.out (by kernel_rfl)) (fun _ _ _ h => h) (Or.inl ⟨by rfl, ?_⟩) ?_ ?_
              rotate_left
              ·intro w'
               go_simp
               with_reducible rfl
              rotate_left
              ·simp only [Act.put, List.setIfInBounds_toArray, List.set_cons_zero, List.set_cons_succ, i64_w, i32_w]
               rfl
              refine last_ (i := 17) (N := none) #[true, true, true, true, true, true, true, true, true, true, true, true, true, true, true, true, true, true] rfl rfl (one_of HT_.out (by kernel_rfl)) (by decide) (fun K hK => ?_)
              refine skip_ (w1 := ?_) (by rfl) rfl ?_ ?_
              rotate_left
              ·go_simp
               rfl
              refine hK.out _ _ ?_
              clear hK K
              refine done_ (done_of HT_.out (by kernel_rfl)) ?_
              try go_wp2
              (try simp only [← hl7_1])
              subst hji15; go_roundg k1
              case measure => have := HK1.out; omega
              case rel => exact ⟨(y395), (wrap64 (x31_1 + 1)), (by first | rfl | (simp; done) | (simp [*]; done)), H', ⟨by have := HK1.out; omega⟩, ⟨by (try simp only [hl7_1]); (with_reducible repeat (first | apply Kd.R_alloc | apply Kd.R_drewN | apply Kd.R_drew)); exact HQ29.out⟩, ⟨by repeat (first | (with_reducible first | exact HB.out | apply b1_ | apply b2_ | apply b3_ | refine bs_ ?_ GB18.out) | exact HB.out)⟩⟩
             ·rw [if_neg c23] at H
              exact absurd H (by simp)
            ·rw [if_neg c21] at H
             exact absurd H (by simp)
           ·rw [if_neg c19] at H
            have c19b0 : decide ((wrap64 ((wrap64 (ji5 + x31_1)) + 1)) < (l0.length : Int)) = false := decide_eq_false c19
            (try (have c19b0_ := c19b0; simp only [hl7_1] at c19b0_))
            clear c19
            have H' := A_ H
            clear H
            have p391 : 0 ≤ (x31_1 : Int) := of_decide_eq_true as_
            have q391 : x31_1 < (x7_1.length : Int) := of_decide_eq_true as_
            obtain ⟨ad391, e391, hx391_0⟩ := Kd.at_int (Kd.R_reads' HO_7.out).2.2 x31_1 p391 q391
            cases e391
            replace p391 := eq_true p391
            replace q391 := eq_true q391
            have p18 : 0 ≤ (x31_1 : Int) := of_decide_eq_true as_
            have q18 : (x31_1 : Int) < ((x7_1.length : Int) : Int) := of_decide_eq_true as_
            obtain ⟨go18, co18, eo18, gb18, gl18, cl18, HG18⟩ := Kd.R_form HO_7.out (by omega)
            (first | cases eo18 | (injection eo18 with ea_ en_ ec_; (first | subst ea_ | (injection ea_ with ea_; subst ea_)); subst ec_; clear en_))
            have GB18 := A_ gb18
            have GG18 := A_ HG18
            clear gb18 gl18 HG18
            (first | simp only [add_plain] at hx391_0 | skip)
            obtain ⟨hx18_0, hf18_0⟩ := Kd.R_celln 0 HO_7.out (x31_1 : Int) p18 q18
            replace p18 := eq_true p18
            replace q18 := eq_true q18
            have HP30 := Kd.R_putg HO_7.out (x31_1 : Int) ji17
            go_wp2_with (first | ((with_reducible refine gate_store (t := 3) (p := 40) rfl ?_); refine store_event (t := 3) (p := 40) (v := ?vo_w31) (w1 := (wr.setCell ⟨go18, (x31_1 : Int).toNat, none⟩ (.int .i64 ji17))) ?hg ?ho ?hn ?hr ?_; (case ho => rfl); (case hg => rfl); (case hn => rfl); (case hr => first | (go_simp; done) | (go_simp; rfl)); intro w31 hw; have hg : wr.grownBy w31 (some go18) := (by rw [hw]; exact HP30.2); have hp_ : Kd.R (Kd.int .i64) 3 w31 w.heap.size (fun k_ => (w.heap.size ≤ k_)) (.slice (some ⟨go18, 0, none⟩) x7_1.length co11) y392 := (by rw [hw, Ny392.out]; first | exact HP30.1 | exact Kd.R_mono HP30.1 (fun _ hk => (by first | (refine ⟨?_, ?_, ?_, ?_⟩ <;> first | exact hk.1 | exact hk.2.1 | exact hk.2.2.1 | exact hk.2.2.2 | exact hk.1.1 | exact hk.1.2) | (refine ⟨?_, ?_, ?_⟩ <;> first | exact hk.1 | exact hk.2.1 | exact hk.2.2 | exact hk.1.1 | exact hk.1.2)))); clear HP30; have n0_ := A_ (hp_); have n1_ := A_ ((by rw [hw]; exact below_set (HB.out) GB18.out : Below w.heap.size w w31)); clear HO_7 HB; have HO_7 := n0_; have HB := n1_; clear n0_ n1_; clear hg hw hp_))
            (try simp only [← hl7_1])
            subst hji15; go_roundg k1
            case measure => have := HK1.out; omega
            case rel => exact ⟨(y392), (wrap64 (x31_1 + 1)), (by first | rfl | (simp; done) | (simp [*]; done)), H', ⟨by have := HK1.out; omega⟩, ⟨by (try simp only [hl7_1]); (with_reducible repeat (first | apply Kd.R_alloc | apply Kd.R_drewN | apply Kd.R_drew)); exact HO_7.out⟩, ⟨hB_⟩⟩
          ·rw [if_neg c16] at H
           exact absurd H (by simp)
         ·rw [if_neg c14] at H
          exact absurd H (by simp)
        ·rw [if_neg c13] at H
         exact absurd H (by simp)
       ·rw [if_neg c12] at H
        have c12b0 : decide (x31_1 < (t388.length : Int)) = false := decide_eq_false c12
        (try (have c12b0_ := c12b0; simp only [hl7_1] at c12b0_))
        clear c12
        replace H := Option.bind_eq_some_iff.mp H
        obtain ⟨t396, A320, H⟩ := H
        replace H : (some t396) = some r := H
        have A32 := A_ A320
        clear A320
        obtain rfl := Option.some.inj H
        go_wp2_with (first | ((with_reducible refine gate_callee (f := 47) rfl ?_); refine goesL_ (some 67) rfl rfl Tryd.func47 (by kernel_rfl) rfl #[.slice Ao11 x7_1.length co11] rfl (by (try simp only [List.map_toArray, List.map_cons, List.map_nil]); first | done | rfl) ?_; (with_reducible refine (impl_trim.calls k1 (fun k_ => some k_ = (.slice Ao11 x7_1.length co11 : Value).ownBlock) _ _ x7_1 t396 _ ?side1 A32.out).mono ?_); (case side1 => exact Kd.R_V (Kd.R_tight rfl (HO_7.out))); rintro e w33 ⟨v397, rfl, ho0, hb⟩; refine ⟨_, rfl, ?_⟩; have n0_ := A_ (Kd.R_below (rz_ HO_7.out) hb); have n1_ := A_ (Kd.V_lower (Kd.V_mono (ok' := fun k_ => (w.heap.size ≤ k_)) ho0 (fun k_ hk_ => Or.elim hk_ (fun hs_ => ((HO_7.out).1 k_ hs_.symm)) (fun hn_ => (Nat.le_trans (below_size hB_) hn_)))) (below_size hB_)); have n2_ := A_ (below_step hB_ hb); clear HO_7 HB; have HO_7 := n0_; have HO398 := n1_; have HB := n2_; clear n0_ n1_ n2_; (try clear hb); (try clear hb2); (try clear hk); (try clear hi); (try clear ho0)))
        go_ret
        exact ⟨_, by first | rfl | (simp [errW_none, errW_some] <;> rfl) | (simp only [← hji5]; first | rfl | (simp [errW_none, errW_some] <;> rfl)) | (simp [*, errW_none, errW_some] <;> rfl), by (with_reducible repeat (first | apply Kd.V_alloc | apply Kd.V_drewN | apply Kd.V_drew)); exact HO398.out, hB_⟩
    ·rw [if_neg c7] at H
     exact absurd H (by simp)
   ·rw [if_neg c6] at H
    exact absurd H (by simp)
 ·rw [if_neg c3] at H
  have c3b0 : decide (a1 < 0) = false := decide_eq_false c3
  clear c3
  obtain ⟨ji34, hji34⟩ : ∃ j_ : Int, (wrap64 ((wrap64 ((wrap64 (Int.tdiv a1 16)) + (l0.length : Int))) + 1)) = j_ := ⟨_, rfl⟩
  replace H : (if 0 ≤ (ji34) then (if (ji34 : Int).toNat ≤ 35184372088832 then (impl_natShift.l1 k a1 (List.replicate (ji34 : Int).toNat 0) l0 (l0.length : Int) 0) else (none)) else (none)) = some r := by first | (rw [hji34] at H; exact H) | (simp only [hji34] at H ⊢; exact H)
  have hji34w : (IntKind.i64.wrap ((wrap64 ((wrap64 (Int.tdiv a1 16)) + (l0.length : Int))) + 1)) = ji34 := (i64_w _).trans hji34
  by_cases c35 : 0 ≤ (ji34)
  ·rw [if_pos c35] at H
   have c35b0 := eq_true c35
   have c35b1 : decide (0 ≤ (ji34)) = true := decide_eq_true c35
   clear c35
   by_cases c36 : (ji34 : Int).toNat ≤ 35184372088832
   ·rw [if_pos c36] at H
    have c36b0 := eq_true c36
    have c36b1 : decide ((ji34 : Int).toNat ≤ 35184372088832) = true := decide_eq_true c36
    clear c36
    obtain ⟨y399, hy399⟩ : ∃ y_ : List Int, y_ = (List.replicate (ji34 : Int).toNat 0) := ⟨_, rfl⟩
    replace H : (impl_natShift.l1 k a1 y399 l0 (l0.length : Int) 0) = some r := by first | (rw [hy399]; with_reducible exact H) | (have H2_ := (Option.bind_some _ _).symm.trans H; rw [hy399]; with_reducible exact H2_) | (have H2_ := (Option.bind_some _ _).symm.trans H; with_reducible exact H2_) | with_reducible exact H | (rw [hy399]; exact H) | exact H
    have Ny399 := A_ hy399
    clear hy399
    have H' := A_ H
    clear H
    go_enter Tryd.func63, Tryd.ntmps63
    go_wp2_with (first | ((with_reducible refine gate_dst (N := 74) rfl ?_); refine Kd.R_make (Kd.int .i64) _ 3 rfl (N := 74) rfl 23 _ _ rfl ji34 rfl rfl Tryd.underlying23 (.int .i64 0) 8 info3 rfl (by decide) (by omega) 0 (ok := fun _ => True) (okp := fun _ => True) rfl (fun _ hk => hk) trivial (of_decide_eq_true as_) (Nat.le_trans (Nat.mul_le_mul_right _ (of_decide_eq_true as_ : ji34.toNat ≤ 35184372088832)) (by omega)) (Below.refl _ _) (Nat.le_refl _) ?_; intro v400 w37 ho38 hb hg_ hnew_; clear hg_ hnew_; (first | rw [← Ny399.out] at ho38 | (simp only [Int.reduceToNat] at ho38; rw [← Ny399.out] at ho38)); have n0_ := A_ (Kd.R_lower (Kd.R_newM (M := fun k_ => (w.heap.size ≤ k_)) ho38 (below_size hB_) (fun k_ h_ => h_)) (below_size hB_)); have n1_ := A_ (below_step hB_ hb); clear HB; have HO401 := n0_; have HB := n1_; clear n0_ n1_; clear hb ho38))
    go_loopg [77] k (fun kq v77 w' => ∃ (x9_1 : List Int) (x77_1 : Int), v77 = .int .i64 x77_1 ∧ Aside0 (impl_natShift.l1 kq a1 x9_1 l0 (l0.length : Int) x77_1 = some r) ∧ Aside0 (kq ≤ k) ∧ Aside0 (Kd.R (Kd.int .i64) 3 w' w.heap.size (fun k_ => (w.heap.size ≤ k_)) v400 x9_1) ∧ Aside0 (Below w.heap.size w w'))
    case atStart => exact ⟨(y399), (0), (by first | rfl | (simp; done) | (simp [*]; done)), H', ⟨Nat.le_refl _⟩, ⟨by (with_reducible repeat (first | apply Kd.R_alloc | apply Kd.R_drewN | apply Kd.R_drew)); exact Kd.R_mono HO401.out (fun _ hk => hk.1)⟩, ⟨hB_⟩⟩
    case round =>
     clear H'
     (try clear c1); (try clear p1); (try clear q1); (try clear hx1); (try clear c2); (try clear p2); (try clear q2); (try clear hx2); (try clear hf2); (try clear c3); (try clear c3b0); (try clear p3); (try clear q3); (try clear hx3); (try clear c4); (try clear c4b0); (try clear c6); (try clear c6b0); (try clear c6b1); (try clear p6); (try clear c7); (try clear c7b0); (try clear c7b1); (try clear c12); (try clear c12b0); (try clear c13); (try clear c13b0); (try clear c14); (try clear c14b0); (try clear c16); (try clear c16b0); (try clear c16b1); (try clear p18); (try clear q18); (try clear hx18); (try clear hf18); (try clear c19); (try clear c19b0); (try clear c21); (try clear c21b0); (try clear c23); (try clear c23b0); (try clear c23b1); (try clear p25); (try clear q25); (try clear hx25); (try clear hf25); (try clear c35); (try clear c35b0); (try clear c35b1); (try clear c36); (try clear c36b0); (try clear c36b1); (try clear hx18_0); (try clear hx25_0); (try clear hx391_0); (try clear hx393_0); (try clear hx394_0); (try clear p18); (try clear p2); (try clear p25); (try clear p391); (try clear p393); (try clear p394); (try clear p6); (try clear q18); (try clear q25); (try clear q391); (try clear q393); (try clear q394)
     obtain ⟨x9_1, x77_1, rfl, HA, HK1, HO_9, HB⟩ := hrel
     cases gk with
     | zero => exact absurd HA.out (by simp [impl_natShift.l1])
     | succ k1 =>
      have H := HA.out
      clear HA
      simp only [impl_natShift.l1] at H
      by_cases c39 : x77_1 < (l0.length : Int)
      ·rw [if_pos c39] at H
       have c39b0 : decide (x77_1 < (l0.length : Int)) = true := decide_eq_true c39
       clear c39
       by_cases c40 : 0 ≤ x77_1
       ·rw [if_pos c40] at H
        have c40b0 : decide (0 ≤ x77_1) = true := decide_eq_true c40
        clear c40
        by_cases c41 : x77_1 < (l0.length : Int)
        ·rw [if_pos c41] at H
         have c41b0 : decide (x77_1 < (l0.length : Int)) = true := decide_eq_true c41
         clear c41
         obtain ⟨ji42, hji42⟩ : ∃ j_ : Int, (Int.tmod a1 16) = j_ := ⟨_, rfl⟩
         replace H : (if 0 ≤ (ji42) then (if 0 ≤ (wrap64 ((wrap64 (Int.tdiv a1 16)) + x77_1)) then (if (wrap64 ((wrap64 (Int.tdiv a1 16)) + x77_1)) < (x9_1.length : Int) then (if 0 ≤ (wrap64 ((wrap64 ((wrap64 (Int.tdiv a1 16)) + x77_1)) + 1)) then (if (wrap64 ((wrap64 ((wrap64 (Int.tdiv a1 16)) + x77_1)) + 1)) < (x9_1.length : Int) then (impl_natShift.l1 k1 a1 ((x9_1.set ((wrap64 ((wrap64 (Int.tdiv a1 16)) + x77_1)) : Int).toNat (Go.bits .or .i64 (rd x9_1 (wrap64 ((wrap64 (Int.tdiv a1 16)) + x77_1))) (Go.bits .and .i64 (shl .i64 (rd l0 x77_1) (ji42)) 65535))).set ((wrap64 ((wrap64 ((wrap64 (Int.tdiv a1 16)) + x77_1)) + 1)) : Int).toNat ((shl .i64 (rd l0 x77_1) (ji42)) / 65536)) l0 (l0.length : Int) (wrap64 (x77_1 + 1))) else (none)) else (none)) else (none)) else (none)) else (none)) = some r := by first | (rw [hji42] at H; exact H) | (simp only [hji42] at H ⊢; exact H)
         by_cases c43 : 0 ≤ (ji42)
         ·rw [if_pos c43] at H
          have c43b0 := eq_true c43
          have c43b1 : decide (0 ≤ (ji42)) = true := decide_eq_true c43
          clear c43
          obtain ⟨ji44, hji44⟩ : ∃ j_ : Int, (shl .i64 (rd l0 x77_1) (ji42)) = j_ := ⟨_, rfl⟩
          replace H : (if 0 ≤ (wrap64 ((wrap64 (Int.tdiv a1 16)) + x77_1)) then (if (wrap64 ((wrap64 (Int.tdiv a1 16)) + x77_1)) < (x9_1.length : Int) then (if 0 ≤ (wrap64 ((wrap64 ((wrap64 (Int.tdiv a1 16)) + x77_1)) + 1)) then (if (wrap64 ((wrap64 ((wrap64 (Int.tdiv a1 16)) + x77_1)) + 1)) < (x9_1.length : Int) then (impl_natShift.l1 k1 a1 ((x9_1.set ((wrap64 ((wrap64 (Int.tdiv a1 16)) + x77_1)) : Int).toNat (Go.bits .or .i64 (rd x9_1 (wrap64 ((wrap64 (Int.tdiv a1 16)) + x77_1))) (Go.bits .and .i64 (ji44) 65535))).set ((wrap64 ((wrap64 ((wrap64 (Int.tdiv a1 16)) + x77_1)) + 1)) : Int).toNat ((ji44) / 65536)) l0 (l0.length : Int) (wrap64 (x77_1 + 1))) else (none)) else (none)) else (none)) else (none)) = some r := by first | (rw [hji44] at H; exact H) | (simp only [hji44] at H ⊢; exact H)
          have hji44_ : (IntKind.i64.wrap ((rd l0 x77_1) * 2 ^ min (ji42).toNat 64)) = ji44 := hji44
          have hji44z : (ji42) ≤ 64 → (IntKind.i64.wrap ((rd l0 x77_1) * 2 ^ (ji42).toNat)) = ji44 := shl_small hji44
          have hji44y : (wrap64 ((rd l0 x77_1) * 2 ^ min (ji42).toNat 64)) = ji44 := (i64_w _).symm.trans hji44_
          have hji44x : (ji42) ≤ 64 → (wrap64 ((rd l0 x77_1) * 2 ^ (ji42).toNat)) = ji44 := fun h_ => (i64_w _).symm.trans (hji44z h_)
          obtain ⟨ji45, hji45⟩ : ∃ j_ : Int, (wrap64 ((wrap64 (Int.tdiv a1 16)) + x77_1)) = j_ := ⟨_, rfl⟩
          replace H : (if 0 ≤ (ji45) then (if (ji45) < (x9_1.length : Int) then (if 0 ≤ (wrap64 ((ji45) + 1)) then (if (wrap64 ((ji45) + 1)) < (x9_1.length : Int) then (impl_natShift.l1 k1 a1 ((x9_1.set ((ji45) : Int).toNat (Go.bits .or .i64 (rd x9_1 (ji45)) (Go.bits .and .i64 (ji44) 65535))).set ((wrap64 ((ji45) + 1)) : Int).toNat ((ji44) / 65536)) l0 (l0.length : Int) (wrap64 (x77_1 + 1))) else (none)) else (none)) else (none)) else (none)) = some r := by first | (rw [hji45] at H; exact H) | (simp only [hji45] at H ⊢; exact H)
          have hji45w : (IntKind.i64.wrap ((wrap64 (Int.tdiv a1 16)) + x77_1)) = ji45 := (i64_w _).trans hji45
          by_cases c46 : 0 ≤ (ji45)
          ·rw [if_pos c46] at H
           have c46b0 : decide (0 ≤ (ji45)) = true := decide_eq_true c46
           clear c46
           by_cases c47 : (ji45) < (x9_1.length : Int)
           ·rw [if_pos c47] at H
            have c47b0 : decide ((ji45) < (x9_1.length : Int)) = true := decide_eq_true c47
            clear c47
            obtain ⟨y404, hy404⟩ : ∃ y_ : List Int, y_ = (x9_1.set ((ji45) : Int).toNat (Go.bits .or .i64 (rd x9_1 (ji45)) (Go.bits .and .i64 (ji44) 65535))) := ⟨_, rfl⟩
            replace H : (if 0 ≤ (wrap64 ((ji45) + 1)) then (if (wrap64 ((ji45) + 1)) < (x9_1.length : Int) then (impl_natShift.l1 k1 a1 (y404.set ((wrap64 ((ji45) + 1)) : Int).toNat ((ji44) / 65536)) l0 (l0.length : Int) (wrap64 (x77_1 + 1))) else (none)) else (none)) = some r := by first | (rw [hy404]; with_reducible exact H) | (have H2_ := (Option.bind_some _ _).symm.trans H; rw [hy404]; with_reducible exact H2_) | (have H2_ := (Option.bind_some _ _).symm.trans H; with_reducible exact H2_) | with_reducible exact H | (rw [hy404]; exact H) | exact H
            have Ny404 := A_ hy404
            clear hy404
            obtain ⟨ji49, hji49⟩ : ∃ j_ : Int, (wrap64 ((ji45) + 1)) = j_ := ⟨_, rfl⟩
            replace H : (if 0 ≤ (ji49) then (if (ji49) < (x9_1.length : Int) then (impl_natShift.l1 k1 a1 (y404.set ((ji49) : Int).toNat ((ji44) / 65536)) l0 (l0.length : Int) (wrap64 (x77_1 + 1))) else (none)) else (none)) = some r := by first | (rw [hji49] at H; exact H) | (simp only [hji49] at H ⊢; exact H)
            have hji49w : (IntKind.i64.wrap ((ji45) + 1)) = ji49 := (i64_w _).trans hji49
            by_cases c50 : 0 ≤ (ji49)
            ·rw [if_pos c50] at H
             have c50b0 : decide (0 ≤ (ji49)) = true := decide_eq_true c50
             clear c50
             by_cases c51 : (ji49) < (x9_1.length : Int)
             ·rw [if_pos c51] at H
              have c51b0 : decide ((ji49) < (x9_1.length : Int)) = true := decide_eq_true c51
              clear c51
              obtain ⟨y405, hy405⟩ : ∃ y_ : List Int, y_ = (y404.set ((ji49) : Int).toNat ((ji44) / 65536)) := ⟨_, rfl⟩
              replace H : (impl_natShift.l1 k1 a1 y405 l0 (l0.length : Int) (wrap64 (x77_1 + 1))) = some r := by first | (rw [hy405]; with_reducible exact H) | (have H2_ := (Option.bind_some _ _).symm.trans H; rw [hy405]; with_reducible exact H2_) | (have H2_ := (Option.bind_some _ _).symm.trans H; with_reducible exact H2_) | with_reducible exact H | (rw [hy405]; exact H) | exact H
              have Ny405 := A_ hy405
              clear hy405
              have H' := A_ H
              clear H
              have p402 : 0 ≤ (x77_1 : Int) := of_decide_eq_true as_
              have q402 : x77_1 < (l0.length : Int) := of_decide_eq_true as_
              obtain ⟨ad402, e402, hx402_0⟩ := Kd.at_int HR0.out x77_1 p402 q402
              cases e402
              replace hx402_0 := (HB.out.cell (World.block_lt_of_cell? w _ hx402_0)).trans hx402_0
              replace p402 := eq_true p402
              replace q402 := eq_true q402
              obtain ⟨Ao53, co53, eo53⟩ := Kd.R_slice HO_9.out
              subst eo53
              have p403 : 0 ≤ ((ji45) : Int) := of_decide_eq_true as_
              have q403 : (ji45) < (x9_1.length : Int) := of_decide_eq_true as_
              obtain ⟨ad403, e403, hx403_0⟩ := Kd.at_int (Kd.R_reads' HO_9.out).2.2 (ji45) p403 q403
              cases e403
              replace p403 := eq_true p403
              replace q403 := eq_true q403
              have p48 : 0 ≤ ((ji45) : Int) := of_decide_eq_true as_
              have q48 : ((ji45) : Int) < ((x9_1.length : Int) : Int) := of_decide_eq_true as_
              obtain ⟨go48, co48, eo48, gb48, gl48, cl48, HG48⟩ := Kd.R_form HO_9.out (by omega)
              (first | cases eo48 | (injection eo48 with ea_ en_ ec_; (first | subst ea_ | (injection ea_ with ea_; subst ea_)); subst ec_; clear en_))
              have GB48 := A_ gb48
              have GG48 := A_ HG48
              clear gb48 gl48 HG48
              (first | simp only [add_plain] at hx403_0 | skip)
              obtain ⟨hx48_0, hf48_0⟩ := Kd.R_celln 0 HO_9.out ((ji45) : Int) p48 q48
              replace p48 := eq_true p48
              replace q48 := eq_true q48
              have HP54 := Kd.R_putg HO_9.out ((ji45) : Int) (Go.bits .or .i64 (rd x9_1 (ji45)) (Go.bits .and .i64 (ji44) 65535))
              go_wp2_with (first | ((with_reducible refine gate_store (t := 3) (p := 96) rfl ?_); refine store_event (t := 3) (p := 96) (v := ?vo_w55) (w1 := (wr.setCell ⟨go48, ((ji45) : Int).toNat, none⟩ (.int .i64 (Go.bits .or .i64 (rd x9_1 (ji45)) (Go.bits .and .i64 (ji44) 65535))))) ?hg ?ho ?hn ?hr ?_; (case ho => rfl); (case hg => rfl); (case hn => rfl); (case hr => first | (go_simp; done) | (go_simp; rfl)); intro w55 hw; have hg : wr.grownBy w55 (some go48) := (by rw [hw]; exact HP54.2); have hp_ : Kd.R (Kd.int .i64) 3 w55 w.heap.size (fun k_ => (w.heap.size ≤ k_)) (.slice (some ⟨go48, 0, none⟩) x9_1.length co53) y404 := (by rw [hw, Ny404.out]; first | exact HP54.1 | exact Kd.R_mono HP54.1 (fun _ hk => (by first | (refine ⟨?_, ?_, ?_, ?_⟩ <;> first | exact hk.1 | exact hk.2.1 | exact hk.2.2.1 | exact hk.2.2.2 | exact hk.1.1 | exact hk.1.2) | (refine ⟨?_, ?_, ?_⟩ <;> first | exact hk.1 | exact hk.2.1 | exact hk.2.2 | exact hk.1.1 | exact hk.1.2)))); clear HP54; have n0_ := A_ (hp_); have n1_ := A_ ((by rw [hw]; exact below_set (HB.out) GB48.out : Below w.heap.size w w55)); clear HO_9 HB; have HO_9 := n0_; have HB := n1_; clear n0_ n1_; clear hg hw hp_; have p52 : 0 ≤ ((ji49) : Int) := of_decide_eq_true as_; have q52 : ((ji49) : Int) < ((x9_1.length : Int) : Int) := of_decide_eq_true as_; obtain ⟨hx52_0, hf52_0⟩ := Kd.R_celln 0 HO_9.out ((ji49) : Int) p52 q52; replace p52 := eq_true p52; replace q52 := eq_true q52; obtain ⟨hy56_, hz56_⟩ := Kd.R_celln 0 HO_9.out ((ji49) : Int) (of_decide_eq_true as_) (of_decide_eq_true as_); have HP56 := Kd.R_putg HO_9.out ((ji49) : Int) ((ji44) / 65536)) | ((with_reducible refine gate_store (t := 3) (p := 105) rfl ?_); refine store_event (t := 3) (p := 105) (v := ?vo_w57) (w1 := (w55.setCell ⟨go48, ((ji49) : Int).toNat, none⟩ (.int .i64 ((ji44) / 65536)))) ?hg ?ho ?hn ?hr ?_; (case ho => rfl); (case hg => rfl); (case hn => rfl); (case hr => first | (go_simp; done) | (go_simp; rfl)); intro w57 hw; have hg : w55.grownBy w57 (some go48) := (by rw [hw]; exact HP56.2); have hp_ : Kd.R (Kd.int .i64) 3 w57 w.heap.size (fun k_ => (w.heap.size ≤ k_)) (.slice (some ⟨go48, 0, none⟩) x9_1.length co53) y405 := (by rw [hw, Ny405.out]; first | exact HP56.1 | exact Kd.R_mono HP56.1 (fun _ hk => (by first | (refine ⟨?_, ?_, ?_, ?_⟩ <;> first | exact hk.1 | exact hk.2.1 | exact hk.2.2.1 | exact hk.2.2.2 | exact hk.1.1 | exact hk.1.2) | (refine ⟨?_, ?_, ?_⟩ <;> first | exact hk.1 | exact hk.2.1 | exact hk.2.2 | exact hk.1.1 | exact hk.1.2)))); clear HP56; have n0_ := A_ (hp_); have n1_ := A_ ((by rw [hw]; exact below_set (HB.out) GB48.out : Below w.heap.size w w57)); clear HO_9 HB; have HO_9 := n0_; have HB := n1_; clear n0_ n1_; clear hg hw hp_))
              go_roundg k1
              case measure => have := HK1.out; omega
              case rel => exact ⟨(y405), (wrap64 (x77_1 + 1)), (by first | rfl | (simp; done) | (simp [*]; done)), H', ⟨by have := HK1.out; omega⟩, ⟨by (with_reducible repeat (first | apply Kd.R_alloc | apply Kd.R_drewN | apply Kd.R_drew)); exact HO_9.out⟩, ⟨hB_⟩⟩
             ·rw [if_neg c51] at H
              exact absurd H (by simp)
            ·rw [if_neg c50] at H
             exact absurd H (by simp)
           ·rw [if_neg c47] at H
            exact absurd H (by simp)
          ·rw [if_neg c46] at H
           exact absurd H (by simp)
         ·rw [if_neg c43] at H
          exact absurd H (by simp)
        ·rw [if_neg c41] at H
         exact absurd H (by simp)
       ·rw [if_neg c40] at H
        exact absurd H (by simp)
      ·rw [if_neg c39] at H
       have c39b0 : decide (x77_1 < (l0.length : Int)) = false := decide_eq_false c39
       clear c39
       replace H := Option.bind_eq_some_iff.mp H
       obtain ⟨t406, A580, H⟩ := H
       replace H : (some t406) = some r := H
       have A58 := A_ A580
       clear A580
       obtain rfl := Option.some.inj H
       obtain ⟨Ao59, co59, eo59⟩ := Kd.R_slice HO_9.out
       subst eo59
       go_wp2_with (first | ((with_reducible refine gate_callee (f := 47) rfl ?_); refine goesL_ (some 108) rfl rfl Tryd.func47 (by kernel_rfl) rfl #[.slice Ao59 x9_1.length co59] rfl (by (try simp only [List.map_toArray, List.map_cons, List.map_nil]); first | done | rfl) ?_; (with_reducible refine (impl_trim.calls k1 (fun k_ => some k_ = (.slice Ao59 x9_1.length co59 : Value).ownBlock) _ _ x9_1 t406 _ ?side1 A58.out).mono ?_); (case side1 => exact Kd.R_V (Kd.R_tight rfl (HO_9.out))); rintro e w60 ⟨v407, rfl, ho0, hb⟩; refine ⟨_, rfl, ?_⟩; have n0_ := A_ (Kd.R_below (rz_ HO_9.out) hb); have n1_ := A_ (Kd.V_lower (Kd.V_mono (ok' := fun k_ => (w.heap.size ≤ k_)) ho0 (fun k_ hk_ => Or.elim hk_ (fun hs_ => ((HO_9.out).1 k_ hs_.symm)) (fun hn_ => (Nat.le_trans (below_size hB_) hn_)))) (below_size hB_)); have n2_ := A_ (below_step hB_ hb); clear HO_9 HB; have HO_9 := n0_; have HO408 := n1_; have HB := n2_; clear n0_ n1_ n2_; (try clear hb); (try clear hb2); (try clear hk); (try clear hi); (try clear ho0)))
       go_ret
       exact ⟨_, by first | rfl | (simp [errW_none, errW_some] <;> rfl) | (simp only [← hji34]; first | rfl | (simp [errW_none, errW_some] <;> rfl)) | (simp [*, errW_none, errW_some] <;> rfl), by (with_reducible repeat (first | apply Kd.V_alloc | apply Kd.V_drewN | apply Kd.V_drew)); exact HO408.out, hB_⟩
   ·rw [if_neg c36] at H
    exact absurd H (by simp)
  ·rw [if_neg c35] at H
   exact absurd H (by simp)

end Go.Proofs.YtmdeolonjmjmgaaDoor.QFnExactDecFrac
