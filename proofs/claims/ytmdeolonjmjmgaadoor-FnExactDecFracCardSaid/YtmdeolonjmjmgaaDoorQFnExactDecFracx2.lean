/- The machine side of one law: each function and the law itself walked once, written by a program of this session (wip/xprint.py) that runs the printer of the kit.
   Conditions: none. -/
import Derived.Test.YtmdeolonjmjmgaaDoorQFnExactDecFracx0
import Derived.Test.YtmdeolonjmjmgaaDoorQFnExactDecFracx1
namespace Go.Proofs.YtmdeolonjmjmgaaDoor.QFnExactDecFrac
open Go.RowKit Go.Proofs.YtmdeolonjmjmgaaDoorW.PrintWords Go.Proofs.YtmdeolonjmjmgaaDoorW.PrintLast Go.Proofs.YtmdeolonjmjmgaaDoorW.PrintMore Go.Proofs.YtmdeolonjmjmgaaDoor.MX
attribute [local go_sem] Go.Instr.field Go.asAgg Go.Proofs.YtmdeolonjmjmgaaDoor.MS.isSome_setCell Go.Proofs.YtmdeolonjmjmgaaDoor.MT.gtr Go.Proofs.YtmdeolonjmjmgaaDoor.MT.td
attribute [local go_sem] max2_int min2_int max_two min_two max_three min_three max_four min_four   -- for this text's walks alone
set_option linter.unusedVariables false
set_option linter.unusedSimpArgs false

/-! ### spec_l7Parts: function 16 -/
mutual
def spec_l7Parts.j0 : Nat → ByteArray → Int → Bool → Option (ByteArray × Int × Int × Bool)
 | 0, _, _, _ => none
 | k + 1, x0, x6, x29 => if x29 = true then (some ((⟨#[]⟩ : ByteArray), 0, 0, false)) else (if 0 ≤ x6 then (if x6 ≤ (x0.size : Int) then (if x6 < (x0.size : Int) then (spec_l7Parts.j1 k x0 (x0.extract 0 (x6 : Int).toNat) 0 x6 ((bt x0 x6) == 46)) else (spec_l7Parts.j1 k x0 (x0.extract 0 (x6 : Int).toNat) 0 x6 false)) else (none)) else (none))
def spec_l7Parts.j1 : Nat → ByteArray → ByteArray → Int → Int → Bool → Option (ByteArray × Int × Int × Bool)
 | 0, _, _, _, _, _ => none
 | k + 1, x0, x7, x8, x9, x43 => if x43 = true then ((spec_l7Digits.f k x0 (wrap64 (x9 + 1))).bind fun t102 => (if t102 = 0 then (some ((⟨#[]⟩ : ByteArray), 0, 0, false)) else (if 0 ≤ (wrap64 (x9 + 1)) then (if (wrap64 (x9 + 1)) ≤ (wrap64 ((wrap64 (x9 + 1)) + t102)) then (if (wrap64 ((wrap64 (x9 + 1)) + t102)) ≤ (x0.size : Int) then (if x7.size + (x0.extract ((wrap64 (x9 + 1)) : Int).toNat ((wrap64 ((wrap64 (x9 + 1)) + t102)) : Int).toNat).size ≤ 9223372036854775807 then (spec_l7Parts.j2 k x0 (x7 ++ (x0.extract ((wrap64 (x9 + 1)) : Int).toNat ((wrap64 ((wrap64 (x9 + 1)) + t102)) : Int).toNat)) t102 (wrap64 ((wrap64 (x9 + 1)) + t102))) else (none)) else (none)) else (none)) else (none)))) else (spec_l7Parts.j2 k x0 x7 x8 x9)
def spec_l7Parts.j2 : Nat → ByteArray → ByteArray → Int → Int → Option (ByteArray × Int × Int × Bool)
 | 0, _, _, _, _ => none
 | k + 1, x0, x7, x8, x9 => if x9 < (x0.size : Int) then (if 0 ≤ x9 then (spec_l7Parts.j3 k x0 x7 x8 x9 0 ((bt x0 x9) == 101)) else (none)) else (spec_l7Parts.j3 k x0 x7 x8 x9 0 false)
def spec_l7Parts.j3 : Nat → ByteArray → ByteArray → Int → Int → Int → Bool → Option (ByteArray × Int × Int × Bool)
 | 0, _, _, _, _, _, _ => none
 | k + 1, x0, x7, x8, x9, x10, x73 => if x73 = true then (if (wrap64 (x9 + 1)) < (x0.size : Int) then (if 0 ≤ (wrap64 (x9 + 1)) then (spec_l7Parts.j4 k x0 x7 x8 (wrap64 (x9 + 1)) x10 ((bt x0 (wrap64 (x9 + 1))) == 45)) else (none)) else (spec_l7Parts.j4 k x0 x7 x8 (wrap64 (x9 + 1)) x10 false)) else (some (x7, x8, x10, (x9 == (x0.size : Int))))
def spec_l7Parts.j4 : Nat → ByteArray → ByteArray → Int → Int → Int → Bool → Option (ByteArray × Int × Int × Bool)
 | 0, _, _, _, _, _, _ => none
 | k + 1, x0, x7, x8, x9, x10, x11 => if x11 = true then (spec_l7Parts.j5 k x0 x7 x8 (wrap64 (x9 + 1)) x10 x11) else (spec_l7Parts.j5 k x0 x7 x8 x9 x10 x11)
def spec_l7Parts.j5 : Nat → ByteArray → ByteArray → Int → Int → Int → Bool → Option (ByteArray × Int × Int × Bool)
 | 0, _, _, _, _, _, _ => none
 | k + 1, x0, x7, x8, x9, x10, x11 => (spec_l7Digits.f k x0 x9).bind fun t103 => (if t103 = 0 then (spec_l7Parts.j6 k x0 x7 x8 x9 x10 x11 t103 true) else (if t103 > 3 then (spec_l7Parts.j6 k x0 x7 x8 x9 x10 x11 t103 true) else (if t103 > 1 then (if 0 ≤ x9 then (if x9 < (x0.size : Int) then (if (bt x0 x9) = 48 then (spec_l7Parts.j6 k x0 x7 x8 x9 x10 x11 t103 true) else (if x11 = true then (spec_l7Parts.j6 k x0 x7 x8 x9 x10 x11 t103 ((bt x0 x9) == 48)) else (spec_l7Parts.j6 k x0 x7 x8 x9 x10 x11 t103 false))) else (none)) else (none)) else (if x11 = true then (if 0 ≤ x9 then (if x9 < (x0.size : Int) then (spec_l7Parts.j6 k x0 x7 x8 x9 x10 x11 t103 ((bt x0 x9) == 48)) else (none)) else (none)) else (spec_l7Parts.j6 k x0 x7 x8 x9 x10 x11 t103 false)))))
def spec_l7Parts.j6 : Nat → ByteArray → ByteArray → Int → Int → Int → Bool → Int → Bool → Option (ByteArray × Int × Int × Bool)
 | 0, _, _, _, _, _, _, _, _ => none
 | k + 1, x0, x7, x8, x9, x10, x11, x12, x116 => if x116 = true then (some ((⟨#[]⟩ : ByteArray), 0, 0, false)) else (spec_l7Parts.l0 k x0 x7 x8 x9 x10 x11 x12 x9)
def spec_l7Parts.l0 : Nat → ByteArray → ByteArray → Int → Int → Int → Bool → Int → Int → Option (ByteArray × Int × Int × Bool)
 | 0, _, _, _, _, _, _, _, _ => none
 | k + 1, x0, x7, x8, x9, x10, x11, x12, x13 => if x13 < (wrap64 (x9 + x12)) then (if 0 ≤ x13 then (if x13 < (x0.size : Int) then (spec_l7Parts.l0 k x0 x7 x8 x9 (wrap64 ((wrap64 (x10 * 10)) + (((bt x0 x13) - 48) % 256))) x11 x12 (wrap64 (x13 + 1))) else (none)) else (none)) else (if x10 > 400 then (some ((⟨#[]⟩ : ByteArray), 0, 0, false)) else (if x11 = true then (some (x7, x8, wrap64 (-x10), ((wrap64 (x9 + x12)) == (x0.size : Int)))) else (some (x7, x8, x10, ((wrap64 (x9 + x12)) == (x0.size : Int))))))
end
def spec_l7Parts.f (k : Nat) (a0 : ByteArray) : Option (ByteArray × Int × Int × Bool) := if (a0.size : Int) > 60 then (some ((⟨#[]⟩ : ByteArray), 0, 0, false)) else ((spec_l7Digits.f k a0 0).bind fun t101 => (if t101 = 0 then (spec_l7Parts.j0 k a0 t101 true) else (if t101 > 1 then (if 0 < (a0.size : Int) then (spec_l7Parts.j0 k a0 t101 ((bt a0 0) == 48)) else (none)) else (spec_l7Parts.j0 k a0 t101 false))))
set_option maxHeartbeats 8000000 in
set_option maxRecDepth 100000 in
theorem spec_l7Parts.calls (k : Nat) (a0 : ByteArray) (r1 : ByteArray) (r2 : Int) (r3 : Int) (r4 : Bool) (w : World) (h : spec_l7Parts.f k a0 = some (r1, r2, r3, r4)) :
  Calls Tryd.prog 16 #[.string a0] w fun e w' => e = .returned (.tuple #[.string r1, .int .i64 r2, .int .i64 r3, .bool r4]) ∧ Drawn0 w w' := by
 have H : (if (a0.size : Int) > 60 then (some ((⟨#[]⟩ : ByteArray), 0, 0, false)) else ((spec_l7Digits.f k a0 0).bind fun t101 => (if t101 = 0 then (spec_l7Parts.j0 k a0 t101 true) else (if t101 > 1 then (if 0 < (a0.size : Int) then (spec_l7Parts.j0 k a0 t101 ((bt a0 0) == 48)) else (none)) else (spec_l7Parts.j0 k a0 t101 false))))) = some (r1, r2, r3, r4) := h
 clear h
 by_cases c2 : (a0.size : Int) > 60
 ·rw [if_pos c2] at H
  have c2b0 : decide (60 < (a0.size : Int)) = true := decide_eq_true c2
  have c2b1 : decide (60 < a0.size) = true := decide_eq_true (by omega)
  clear c2
  simp only [Option.some.injEq, Prod.mk.injEq] at H
  obtain ⟨rfl, rfl, rfl, rfl⟩ := H
  go_enter Tryd.func16, Tryd.ntmps16
  go_wp2
  refine bodyPost_ret (results_list (rs := [.tmp 2, .tmp 3, .tmp 4, .tmp 5]) rfl (by simp) (.tmp (.tmp (.tmp (.tmp .nil))))) rfl ?_
  exact ⟨by first | rfl | (simp; done) | (simp [*]; done), by repeat (first | exact Drawn0.refl _ | apply Drawn0.step)⟩
 ·rw [if_neg c2] at H
  have c2b0 : decide (60 < (a0.size : Int)) = false := decide_eq_false c2
  have c2b1 : decide (60 < a0.size) = false := decide_eq_false (by omega)
  clear c2
  replace H := Option.bind_eq_some_iff.mp H
  obtain ⟨t101, A30, H⟩ := H
  replace H : (if t101 = 0 then (spec_l7Parts.j0 k a0 t101 true) else (if t101 > 1 then (if 0 < (a0.size : Int) then (spec_l7Parts.j0 k a0 t101 ((bt a0 0) == 48)) else (none)) else (spec_l7Parts.j0 k a0 t101 false))) = some (r1, r2, r3, r4) := H
  have A3 := A_ A30
  clear A30
  have HC4 := A_ H
  clear H
  go_enter Tryd.func16, Tryd.ntmps16
  go_upto_region 4 with (first | ((with_reducible refine gate_callee (f := 35) rfl ?_); refine goesL_ (some 18) rfl rfl Tryd.func35 (by kernel_rfl) rfl #[.string a0, .int .i64 0] rfl (by (try simp only [List.map_toArray, List.map_cons, List.map_nil]); first | done | rfl) ?_; (with_reducible refine (spec_l7Digits.calls k a0 0 t101 _ A3.out).mono ?_); rintro e w' ⟨rfl, ⟨nd, rfl⟩⟩; refine ⟨_, rfl, ?_⟩))
  (try simp only [Act.put, List.setIfInBounds_toArray, List.set_cons_zero, List.set_cons_succ])
  go_cut [29] (fun v29 wc => ∃ (kq : Nat) (x29_3 : Bool), v29 = .bool x29_3 ∧ Aside0 (spec_l7Parts.j0 kq a0 t101 x29_3 = some (r1, r2, r3, r4)) ∧ Aside0 (kq ≤ k) ∧ Drawn0 w wc)
  case first =>
   have H := HC4.out
   clear HC4
   by_cases c5 : t101 = 0
   ·rw [if_pos c5] at H
    have c5b0 : (t101 == 0) = true := beq_iff_eq.mpr c5
    have c5b1 : (t101 != 0) = false := bne_eq_false_iff_eq.mpr c5
    clear c5
    (first | rw [c5b0] | (simp only [i64_w, i32_w]; rw [c5b0]) | skip)
    have H' := A_ H
    clear H
    go_wp2
    go_meet
    case rel => exact ⟨_, (true), (by first | rfl | (simp; done) | (simp [*]; done)), H', ⟨by first | omega | exact Nat.le_refl _⟩, by repeat (first | exact Drawn0.refl _ | apply Drawn0.step)⟩
   ·rw [if_neg c5] at H
    have c5b0 : (t101 == 0) = false := beq_eq_false_iff_ne.mpr c5
    have c5b1 : (t101 != 0) = true := bne_iff_ne.mpr c5
    (first | rw [c5b0] | (simp only [i64_w, i32_w]; rw [c5b0]) | skip)
    by_cases c6 : t101 > 1
    ·rw [if_pos c6] at H
     have c6b0 : decide (1 < t101) = true := decide_eq_true c6
     clear c6
     by_cases c7 : 0 < (a0.size : Int)
     ·rw [if_pos c7] at H
      have c7b0 : decide (0 < (a0.size : Int)) = true := decide_eq_true c7
      have c7b1 : decide (0 < a0.size) = true := decide_eq_true (by omega)
      clear c7
      have H' := A_ H
      clear H
      have p8 : 0 ≤ (0 : Int) := (by omega)
      have q8 : 0 < a0.size := (by have : (0 : Int) < (a0.size : Int) := of_decide_eq_true as_; omega)
      have hx8 : ∀ h : 0 < a0.size, ((a0[0]'h).toNat : Int) = bt a0 0 := bt_at a0 0
      clear p8
      have qi8 : (0 < (a0.size : Int)) = True := eq_true (of_decide_eq_true as_)
      replace q8 := eq_true q8
      go_wp2
      go_meet
      case rel => exact ⟨_, (((bt a0 0) == 48)), (by first | rfl | (simp; done) | (simp [*]; done)), H', ⟨by first | omega | exact Nat.le_refl _⟩, by repeat (first | exact Drawn0.refl _ | apply Drawn0.step)⟩
     ·rw [if_neg c7] at H
      exact absurd H (by simp)
    ·rw [if_neg c6] at H
     have c6b0 : decide (1 < t101) = false := decide_eq_false c6
     clear c6
     have H' := A_ H
     clear H
     go_wp2
     go_meet
     case rel => exact ⟨_, (false), (by first | rfl | (simp; done) | (simp [*]; done)), H', ⟨by first | omega | exact Nat.le_refl _⟩, by repeat (first | exact Drawn0.refl _ | apply Drawn0.step)⟩
  case rest =>
   clear HC4
   (try clear c1); (try clear c2); (try clear c2b0); (try clear c2b1); (try clear p2); (try clear c3); (try clear c5); (try clear c5b0); (try clear c5b1); (try clear c6); (try clear c6b0); (try clear c7); (try clear c7b0); (try clear c7b1); (try clear p8); (try clear q8); (try clear hx8); (try clear qi8); (try clear p8); (try clear q8)
   obtain ⟨kq, x29_3, rfl, HA, HJ3, ⟨mc3, rfl⟩⟩ := hcut
   cases kq with
   | zero => exact absurd HA.out (by simp [spec_l7Parts.j0])
   | succ kj3 =>
    have H := HA.out
    clear HA
    simp only [spec_l7Parts.j0] at H
    by_cases c9 : x29_3 = true
    ·subst c9
     have H1 : (some ((⟨#[]⟩ : ByteArray), 0, 0, false)) = some (r1, r2, r3, r4) := by rw [if_pos rfl] at H; exact H
     clear H
     have H := H1
     clear H1
     simp only [Option.some.injEq, Prod.mk.injEq] at H
     obtain ⟨rfl, rfl, rfl, rfl⟩ := H
     go_wp2
     refine bodyPost_ret (results_list (rs := [.tmp 2, .tmp 3, .tmp 4, .tmp 5]) rfl (by simp) (.tmp (.tmp (.tmp (.tmp .nil))))) rfl ?_
     exact ⟨by first | rfl | (simp; done) | (simp [*]; done), by repeat (first | exact Drawn0.refl _ | apply Drawn0.step)⟩
    ·replace c9 := Bool.eq_false_iff.mpr c9
     subst c9
     have H1 : (if 0 ≤ t101 then (if t101 ≤ (a0.size : Int) then (if t101 < (a0.size : Int) then (spec_l7Parts.j1 kj3 a0 (a0.extract 0 (t101 : Int).toNat) 0 t101 ((bt a0 t101) == 46)) else (spec_l7Parts.j1 kj3 a0 (a0.extract 0 (t101 : Int).toNat) 0 t101 false)) else (none)) else (none)) = some (r1, r2, r3, r4) := by rw [if_neg (show ¬ (false = true) by decide)] at H; exact H
     clear H
     have H := H1
     clear H1
     by_cases c10 : 0 ≤ t101
     ·rw [if_pos c10] at H
      have c10b0 := eq_true c10
      have c10b1 : decide (0 ≤ t101) = true := decide_eq_true c10
      clear c10
      by_cases c11 : t101 ≤ (a0.size : Int)
      ·rw [if_pos c11] at H
       have c11b0 := eq_true c11
       have c11b1 : decide (t101 ≤ (a0.size : Int)) = true := decide_eq_true c11
       clear c11
       have HC12 := A_ H
       clear H
       go_upto_region 9 with (fail)
       go_cut [43] (fun v43 wc => ∃ (kq : Nat) (x43_11 : Bool), v43 = .bool x43_11 ∧ Aside0 (spec_l7Parts.j1 kq a0 (a0.extract 0 (t101 : Int).toNat) 0 t101 x43_11 = some (r1, r2, r3, r4)) ∧ Aside0 (kq ≤ kj3) ∧ Drawn0 w wc)
       case first =>
        have H := HC12.out
        clear HC12
        by_cases c13 : t101 < (a0.size : Int)
        ·rw [if_pos c13] at H
         have c13b0 : decide (t101 < (a0.size : Int)) = true := decide_eq_true c13
         clear c13
         (first | rw [c13b0] | (simp only [i64_w, i32_w]; rw [c13b0]) | skip)
         have H' := A_ H
         clear H
         have p14 : 0 ≤ (t101 : Int) := of_decide_eq_true as_
         have q14 : t101 < (a0.size : Int) := of_decide_eq_true as_
         have hx14 := bt_at a0 t101
         replace p14 := eq_true p14
         replace q14 := eq_true q14
         go_wp2
         go_meet
         case rel => exact ⟨_, (((bt a0 t101) == 46)), (by first | rfl | (simp; done) | (simp [*]; done)), H', ⟨by have := HJ3.out; first | omega | exact Nat.le_refl _⟩, by repeat (first | exact Drawn0.refl _ | apply Drawn0.step)⟩
        ·rw [if_neg c13] at H
         have c13b0 : decide (t101 < (a0.size : Int)) = false := decide_eq_false c13
         clear c13
         (first | rw [c13b0] | (simp only [i64_w, i32_w]; rw [c13b0]) | skip)
         have H' := A_ H
         clear H
         go_wp2
         go_meet
         case rel => exact ⟨_, (false), (by first | rfl | (simp; done) | (simp [*]; done)), H', ⟨by have := HJ3.out; first | omega | exact Nat.le_refl _⟩, by repeat (first | exact Drawn0.refl _ | apply Drawn0.step)⟩
       case rest =>
        clear HC12
        (try clear c1); (try clear p1); (try clear q1); (try clear hx1); (try clear c2); (try clear c2b0); (try clear c2b1); (try clear p2); (try clear c3); (try clear c5); (try clear c5b0); (try clear c5b1); (try clear c6); (try clear c6b0); (try clear c7); (try clear c7b0); (try clear c7b1); (try clear p8); (try clear q8); (try clear hx8); (try clear qi8); (try clear c9); (try clear c10); (try clear c10b0); (try clear c10b1); (try clear c11); (try clear c11b0); (try clear c11b1); (try clear c13); (try clear c13b0); (try clear p14); (try clear q14); (try clear hx14); (try clear p14); (try clear p2); (try clear p8); (try clear q14); (try clear q8)
        obtain ⟨kq, x43_11, rfl, HA, HJ11, ⟨mc11, rfl⟩⟩ := hcut
        cases kq with
        | zero => exact absurd HA.out (by simp [spec_l7Parts.j1])
        | succ kj11 =>
         have H := HA.out
         clear HA
         simp only [spec_l7Parts.j1] at H
         have HC15 := A_ H
         clear H
         go_upto_if 43 with (fail)
         go_cut [7, 8, 9] (fun v7 v8 v9 wc => ∃ (kq : Nat) (x7_14 : ByteArray) (x8_14 : Int) (x9_14 : Int), v7 = .string x7_14 ∧ v8 = .int .i64 x8_14 ∧ v9 = .int .i64 x9_14 ∧ Aside0 (spec_l7Parts.j2 kq a0 x7_14 x8_14 x9_14 = some (r1, r2, r3, r4)) ∧ Aside0 (kq ≤ kj11) ∧ Drawn0 w wc)
         case first =>
          have H := HC15.out
          clear HC15
          by_cases c16 : x43_11 = true
          ·subst c16
           have H1 : ((spec_l7Digits.f kj11 a0 (wrap64 (t101 + 1))).bind fun t102 => (if t102 = 0 then (some ((⟨#[]⟩ : ByteArray), 0, 0, false)) else (if 0 ≤ (wrap64 (t101 + 1)) then (if (wrap64 (t101 + 1)) ≤ (wrap64 ((wrap64 (t101 + 1)) + t102)) then (if (wrap64 ((wrap64 (t101 + 1)) + t102)) ≤ (a0.size : Int) then (if (a0.extract 0 (t101 : Int).toNat).size + (a0.extract ((wrap64 (t101 + 1)) : Int).toNat ((wrap64 ((wrap64 (t101 + 1)) + t102)) : Int).toNat).size ≤ 9223372036854775807 then (spec_l7Parts.j2 kj11 a0 ((a0.extract 0 (t101 : Int).toNat) ++ (a0.extract ((wrap64 (t101 + 1)) : Int).toNat ((wrap64 ((wrap64 (t101 + 1)) + t102)) : Int).toNat)) t102 (wrap64 ((wrap64 (t101 + 1)) + t102))) else (none)) else (none)) else (none)) else (none)))) = some (r1, r2, r3, r4) := by rw [if_pos rfl] at H; exact H
           clear H
           have H := H1
           clear H1
           replace H := Option.bind_eq_some_iff.mp H
           obtain ⟨t102, A170, H⟩ := H
           replace H : (if t102 = 0 then (some ((⟨#[]⟩ : ByteArray), 0, 0, false)) else (if 0 ≤ (wrap64 (t101 + 1)) then (if (wrap64 (t101 + 1)) ≤ (wrap64 ((wrap64 (t101 + 1)) + t102)) then (if (wrap64 ((wrap64 (t101 + 1)) + t102)) ≤ (a0.size : Int) then (if (a0.extract 0 (t101 : Int).toNat).size + (a0.extract ((wrap64 (t101 + 1)) : Int).toNat ((wrap64 ((wrap64 (t101 + 1)) + t102)) : Int).toNat).size ≤ 9223372036854775807 then (spec_l7Parts.j2 kj11 a0 ((a0.extract 0 (t101 : Int).toNat) ++ (a0.extract ((wrap64 (t101 + 1)) : Int).toNat ((wrap64 ((wrap64 (t101 + 1)) + t102)) : Int).toNat)) t102 (wrap64 ((wrap64 (t101 + 1)) + t102))) else (none)) else (none)) else (none)) else (none))) = some (r1, r2, r3, r4) := H
           have A17 := A_ A170
           clear A170
           by_cases c18 : t102 = 0
           ·rw [if_pos c18] at H
            have c18b0 : (t102 == 0) = true := beq_iff_eq.mpr c18
            have c18b1 : (t102 != 0) = false := bne_eq_false_iff_eq.mpr c18
            clear c18
            (first | rw [c18b0] | (simp only [i64_w, i32_w]; rw [c18b0]) | skip)
            simp only [Option.some.injEq, Prod.mk.injEq] at H
            obtain ⟨rfl, rfl, rfl, rfl⟩ := H
            go_wp2_with (first | ((with_reducible refine gate_callee (f := 35) rfl ?_); refine goesL_ (some 47) rfl rfl Tryd.func35 (by kernel_rfl) rfl #[.string a0, .int .i64 (wrap64 (t101 + 1))] rfl (by (try simp only [List.map_toArray, List.map_cons, List.map_nil]); first | done | rfl) ?_; (with_reducible refine (spec_l7Digits.calls kj11 a0 (wrap64 (t101 + 1)) t102 _ A17.out).mono ?_); rintro e w' ⟨rfl, ⟨nd, rfl⟩⟩; refine ⟨_, rfl, ?_⟩))
            refine bodyPost_ret (results_list (rs := [.tmp 2, .tmp 3, .tmp 4, .tmp 5]) rfl (by simp) (.tmp (.tmp (.tmp (.tmp .nil))))) rfl ?_
            exact ⟨by first | rfl | (simp; done) | (simp [*]; done), by repeat (first | exact Drawn0.refl _ | apply Drawn0.step)⟩
           ·rw [if_neg c18] at H
            have c18b0 : (t102 == 0) = false := beq_eq_false_iff_ne.mpr c18
            have c18b1 : (t102 != 0) = true := bne_iff_ne.mpr c18
            (first | rw [c18b0] | (simp only [i64_w, i32_w]; rw [c18b0]) | skip)
            obtain ⟨ji19, hji19⟩ : ∃ j_ : Int, (wrap64 (t101 + 1)) = j_ := ⟨_, rfl⟩
            replace H : (if 0 ≤ (ji19) then (if (ji19) ≤ (wrap64 ((ji19) + t102)) then (if (wrap64 ((ji19) + t102)) ≤ (a0.size : Int) then (if (a0.extract 0 (t101 : Int).toNat).size + (a0.extract ((ji19) : Int).toNat ((wrap64 ((ji19) + t102)) : Int).toNat).size ≤ 9223372036854775807 then (spec_l7Parts.j2 kj11 a0 ((a0.extract 0 (t101 : Int).toNat) ++ (a0.extract ((ji19) : Int).toNat ((wrap64 ((ji19) + t102)) : Int).toNat)) t102 (wrap64 ((ji19) + t102))) else (none)) else (none)) else (none)) else (none)) = some (r1, r2, r3, r4) := by first | (rw [hji19] at H; exact H) | (simp only [hji19] at H ⊢; exact H)
            (try rw [hji19] at A17)
            have hji19w : (IntKind.i64.wrap (t101 + 1)) = ji19 := (i64_w _).trans hji19
            by_cases c20 : 0 ≤ (ji19)
            ·rw [if_pos c20] at H
             have c20b0 := eq_true c20
             have c20b1 : decide (0 ≤ (ji19)) = true := decide_eq_true c20
             clear c20
             by_cases c21 : (ji19) ≤ (wrap64 ((ji19) + t102))
             ·rw [if_pos c21] at H
              have c21b0 := eq_true c21
              have c21b1 : decide ((ji19) ≤ (wrap64 ((ji19) + t102))) = true := decide_eq_true c21
              by_cases c22 : (wrap64 ((ji19) + t102)) ≤ (a0.size : Int)
              ·rw [if_pos c22] at H
               have c22b0 := eq_true c22
               have c22b1 : decide ((wrap64 ((ji19) + t102)) ≤ (a0.size : Int)) = true := decide_eq_true c22
               by_cases c23 : (a0.extract 0 (t101 : Int).toNat).size + (a0.extract ((ji19) : Int).toNat ((wrap64 ((ji19) + t102)) : Int).toNat).size ≤ 9223372036854775807
               ·rw [if_pos c23] at H
                have c23b0 := eq_true c23
                have c23b1 : decide ((a0.extract 0 (t101 : Int).toNat).size + (a0.extract ((ji19) : Int).toNat ((wrap64 ((ji19) + t102)) : Int).toNat).size ≤ 9223372036854775807) = true := decide_eq_true c23
                try have c23b2 : (9223372036854775807 < (a0.extract 0 (t101 : Int).toNat).size + (a0.extract ((ji19) : Int).toNat ((wrap64 ((ji19) + t102)) : Int).toNat).size) = False := eq_false (Nat.not_lt.2 c23)
                have H' := A_ H
                clear H
                go_wp2_with (first | ((with_reducible refine gate_callee (f := 35) rfl ?_); refine goesL_ (some 47) rfl rfl Tryd.func35 (by kernel_rfl) rfl #[.string a0, .int .i64 ji19] rfl (by (try simp only [List.map_toArray, List.map_cons, List.map_nil]); first | done | (simp only [hji19]; rfl) | rfl | (simp only [List.length_drop, List.length_take]; rfl)) ?_; (with_reducible refine (spec_l7Digits.calls kj11 a0 ji19 t102 _ A17.out).mono ?_); rintro e w' ⟨rfl, ⟨nd, rfl⟩⟩; refine ⟨_, rfl, ?_⟩))
                go_meet
                case rel => exact ⟨_, ((a0.extract 0 (t101 : Int).toNat) ++ (a0.extract ((ji19) : Int).toNat ((wrap64 ((ji19) + t102)) : Int).toNat)), (t102), (wrap64 ((ji19) + t102)), (by first | rfl | (simp; done) | (simp only [← hji19] <;> (first | rfl | simp)) | (simp [*]; done)), (by first | rfl | (simp; done) | (simp [*]; done)), (by first | rfl | (simp; done) | (simp only [← hji19] <;> (first | rfl | simp)) | (simp [*]; done)), (by first | exact H' | (rw [hji19]; exact H')), ⟨by have := HJ3.out; have := HJ11.out; first | omega | exact Nat.le_refl _⟩, by repeat (first | exact Drawn0.refl _ | apply Drawn0.step)⟩
               ·rw [if_neg c23] at H
                exact absurd H (by simp)
              ·rw [if_neg c22] at H
               exact absurd H (by simp)
             ·rw [if_neg c21] at H
              exact absurd H (by simp)
            ·rw [if_neg c20] at H
             exact absurd H (by simp)
          ·replace c16 := Bool.eq_false_iff.mpr c16
           subst c16
           have H1 : (spec_l7Parts.j2 kj11 a0 (a0.extract 0 (t101 : Int).toNat) 0 t101) = some (r1, r2, r3, r4) := by rw [if_neg (show ¬ (false = true) by decide)] at H; exact H
           clear H
           have H := H1
           clear H1
           have H' := A_ H
           clear H
           go_wp2
           go_meet
           case rel => exact ⟨_, ((a0.extract 0 (t101 : Int).toNat)), (0), (t101), (by first | rfl | (simp; done) | (simp [*]; done)), (by first | rfl | (simp; done) | (simp [*]; done)), (by first | rfl | (simp; done) | (simp [*]; done)), H', ⟨by have := HJ3.out; have := HJ11.out; first | omega | exact Nat.le_refl _⟩, by repeat (first | exact Drawn0.refl _ | apply Drawn0.step)⟩
         case rest =>
          clear HC15
          (try clear c1); (try clear p1); (try clear q1); (try clear hx1); (try clear c2); (try clear c2b0); (try clear c2b1); (try clear p2); (try clear c3); (try clear c5); (try clear c5b0); (try clear c5b1); (try clear c6); (try clear c6b0); (try clear p6); (try clear c7); (try clear c7b0); (try clear c7b1); (try clear p8); (try clear q8); (try clear hx8); (try clear qi8); (try clear c9); (try clear c10); (try clear c10b0); (try clear c10b1); (try clear c11); (try clear c11b0); (try clear c11b1); (try clear c13); (try clear c13b0); (try clear p14); (try clear q14); (try clear hx14); (try clear c16); (try clear c18); (try clear c18b0); (try clear c18b1); (try clear c20); (try clear c20b0); (try clear c20b1); (try clear c21); (try clear c21b0); (try clear c21b1); (try clear c22); (try clear c22b0); (try clear c22b1); (try clear c23); (try clear c23b0); (try clear c23b1); (try clear c23b2); (try clear p1); (try clear p14); (try clear p2); (try clear p8); (try clear q1); (try clear q14); (try clear q8)
          obtain ⟨kq, x7_14, x8_14, x9_14, rfl, rfl, rfl, HA, HJ14, ⟨mc14, rfl⟩⟩ := hcut
          cases kq with
          | zero => exact absurd HA.out (by simp [spec_l7Parts.j2])
          | succ kj14 =>
           have H := HA.out
           clear HA
           simp only [spec_l7Parts.j2] at H
           have HC24 := A_ H
           clear H
           go_upto_region 16 with (fail)
           go_cut [73] (fun v73 wc => ∃ (kq : Nat) (x73_23 : Bool), v73 = .bool x73_23 ∧ Aside0 (spec_l7Parts.j3 kq a0 x7_14 x8_14 x9_14 0 x73_23 = some (r1, r2, r3, r4)) ∧ Aside0 (kq ≤ kj14) ∧ Drawn0 w wc)
           case first =>
            have H := HC24.out
            clear HC24
            by_cases c25 : x9_14 < (a0.size : Int)
            ·rw [if_pos c25] at H
             have c25b0 : decide (x9_14 < (a0.size : Int)) = true := decide_eq_true c25
             clear c25
             (first | rw [c25b0] | (simp only [i64_w, i32_w]; rw [c25b0]) | skip)
             by_cases c26 : 0 ≤ x9_14
             ·rw [if_pos c26] at H
              have c26b0 : decide (0 ≤ x9_14) = true := decide_eq_true c26
              clear c26
              have H' := A_ H
              clear H
              have p27 : 0 ≤ (x9_14 : Int) := of_decide_eq_true as_
              have q27 : x9_14 < (a0.size : Int) := of_decide_eq_true as_
              have hx27 := bt_at a0 x9_14
              replace p27 := eq_true p27
              replace q27 := eq_true q27
              go_wp2
              go_meet
              case rel => exact ⟨_, (((bt a0 x9_14) == 101)), (by first | rfl | (simp; done) | (simp [*]; done)), H', ⟨by have := HJ3.out; have := HJ11.out; have := HJ14.out; first | omega | exact Nat.le_refl _⟩, by repeat (first | exact Drawn0.refl _ | apply Drawn0.step)⟩
             ·rw [if_neg c26] at H
              exact absurd H (by simp)
            ·rw [if_neg c25] at H
             have c25b0 : decide (x9_14 < (a0.size : Int)) = false := decide_eq_false c25
             clear c25
             (first | rw [c25b0] | (simp only [i64_w, i32_w]; rw [c25b0]) | skip)
             have H' := A_ H
             clear H
             go_wp2
             go_meet
             case rel => exact ⟨_, (false), (by first | rfl | (simp; done) | (simp [*]; done)), H', ⟨by have := HJ3.out; have := HJ11.out; have := HJ14.out; first | omega | exact Nat.le_refl _⟩, by repeat (first | exact Drawn0.refl _ | apply Drawn0.step)⟩
           case rest =>
            clear HC24
            (try clear c1); (try clear p1); (try clear q1); (try clear hx1); (try clear c2); (try clear c2b0); (try clear c2b1); (try clear p2); (try clear q2); (try clear hx2); (try clear c3); (try clear c5); (try clear c5b0); (try clear c5b1); (try clear c6); (try clear c6b0); (try clear p6); (try clear c7); (try clear c7b0); (try clear c7b1); (try clear p8); (try clear q8); (try clear hx8); (try clear qi8); (try clear c9); (try clear c10); (try clear c10b0); (try clear c10b1); (try clear c11); (try clear c11b0); (try clear c11b1); (try clear c13); (try clear c13b0); (try clear c14); (try clear p14); (try clear q14); (try clear hx14); (try clear c16); (try clear c18); (try clear c18b0); (try clear c18b1); (try clear c20); (try clear c20b0); (try clear c20b1); (try clear c21); (try clear c21b0); (try clear c21b1); (try clear c22); (try clear c22b0); (try clear c22b1); (try clear c23); (try clear c23b0); (try clear c23b1); (try clear c23b2); (try clear c25); (try clear c25b0); (try clear c26); (try clear c26b0); (try clear p27); (try clear q27); (try clear hx27); (try clear p1); (try clear p14); (try clear p2); (try clear p27); (try clear p6); (try clear p8); (try clear q1); (try clear q14); (try clear q27); (try clear q8)
            obtain ⟨kq, x73_23, rfl, HA, HJ23, ⟨mc23, rfl⟩⟩ := hcut
            cases kq with
            | zero => exact absurd HA.out (by simp [spec_l7Parts.j3])
            | succ kj23 =>
             have H := HA.out
             clear HA
             simp only [spec_l7Parts.j3] at H
             by_cases c28 : x73_23 = true
             ·subst c28
              have H1 : (if (wrap64 (x9_14 + 1)) < (a0.size : Int) then (if 0 ≤ (wrap64 (x9_14 + 1)) then (spec_l7Parts.j4 kj23 a0 x7_14 x8_14 (wrap64 (x9_14 + 1)) 0 ((bt a0 (wrap64 (x9_14 + 1))) == 45)) else (none)) else (spec_l7Parts.j4 kj23 a0 x7_14 x8_14 (wrap64 (x9_14 + 1)) 0 false)) = some (r1, r2, r3, r4) := by rw [if_pos rfl] at H; exact H
              clear H
              have H := H1
              clear H1
              have HC29 := A_ H
              clear H
              go_upto_region 18 with (fail)
              go_cut [11] (fun v11 wc => ∃ (kq : Nat) (x11_28 : Bool), v11 = .bool x11_28 ∧ Aside0 (spec_l7Parts.j4 kq a0 x7_14 x8_14 (wrap64 (x9_14 + 1)) 0 x11_28 = some (r1, r2, r3, r4)) ∧ Aside0 (kq ≤ kj23) ∧ Drawn0 w wc)
              case first =>
               have H := HC29.out
               clear HC29
               by_cases c30 : (wrap64 (x9_14 + 1)) < (a0.size : Int)
               ·rw [if_pos c30] at H
                have c30b0 : decide ((wrap64 (x9_14 + 1)) < (a0.size : Int)) = true := decide_eq_true c30
                clear c30
                (first | rw [c30b0] | (simp only [i64_w, i32_w]; rw [c30b0]) | skip)
                obtain ⟨ji31, hji31⟩ : ∃ j_ : Int, (wrap64 (x9_14 + 1)) = j_ := ⟨_, rfl⟩
                replace H : (if 0 ≤ (ji31) then (spec_l7Parts.j4 kj23 a0 x7_14 x8_14 ji31 0 ((bt a0 (ji31)) == 45)) else (none)) = some (r1, r2, r3, r4) := by first | (rw [hji31] at H; exact H) | (simp only [hji31] at H ⊢; exact H)
                (try rw [hji31] at c30b0)
                have hji31w : (IntKind.i64.wrap (x9_14 + 1)) = ji31 := (i64_w _).trans hji31
                by_cases c32 : 0 ≤ (ji31)
                ·rw [if_pos c32] at H
                 have c32b0 : decide (0 ≤ (ji31)) = true := decide_eq_true c32
                 clear c32
                 have H' := A_ H
                 clear H
                 have p33 : 0 ≤ ((ji31) : Int) := of_decide_eq_true as_
                 have q33 : (ji31) < (a0.size : Int) := of_decide_eq_true as_
                 have hx33 := bt_at a0 (ji31)
                 replace p33 := eq_true p33
                 replace q33 := eq_true q33
                 go_wp2
                 go_meet
                 case rel => exact ⟨_, (((bt a0 (ji31)) == 45)), (by first | rfl | (simp; done) | (simp only [← hji31] <;> (first | rfl | simp)) | (simp [*]; done)), (by first | exact H' | (rw [hji31]; exact H')), ⟨by have := HJ3.out; have := HJ11.out; have := HJ14.out; have := HJ23.out; first | omega | exact Nat.le_refl _⟩, by repeat (first | exact Drawn0.refl _ | apply Drawn0.step)⟩
                ·rw [if_neg c32] at H
                 exact absurd H (by simp)
               ·rw [if_neg c30] at H
                have c30b0 : decide ((wrap64 (x9_14 + 1)) < (a0.size : Int)) = false := decide_eq_false c30
                clear c30
                (first | rw [c30b0] | (simp only [i64_w, i32_w]; rw [c30b0]) | skip)
                have H' := A_ H
                clear H
                go_wp2
                go_meet
                case rel => exact ⟨_, (false), (by first | rfl | (simp; done) | (simp [*]; done)), H', ⟨by have := HJ3.out; have := HJ11.out; have := HJ14.out; have := HJ23.out; first | omega | exact Nat.le_refl _⟩, by repeat (first | exact Drawn0.refl _ | apply Drawn0.step)⟩
              case rest =>
               clear HC29
               (try clear c1); (try clear p1); (try clear q1); (try clear hx1); (try clear c2); (try clear c2b0); (try clear c2b1); (try clear p2); (try clear q2); (try clear hx2); (try clear c3); (try clear p3); (try clear q3); (try clear hx3); (try clear c5); (try clear c5b0); (try clear c5b1); (try clear c6); (try clear c6b0); (try clear p6); (try clear c7); (try clear c7b0); (try clear c7b1); (try clear p8); (try clear q8); (try clear hx8); (try clear qi8); (try clear c9); (try clear c10); (try clear c10b0); (try clear c10b1); (try clear c11); (try clear c11b0); (try clear c11b1); (try clear c13); (try clear c13b0); (try clear c14); (try clear p14); (try clear q14); (try clear hx14); (try clear c16); (try clear c18); (try clear c18b0); (try clear c18b1); (try clear c20); (try clear c20b0); (try clear c20b1); (try clear c21); (try clear c21b0); (try clear c21b1); (try clear c22); (try clear c22b0); (try clear c22b1); (try clear c23); (try clear c23b0); (try clear c23b1); (try clear c23b2); (try clear c25); (try clear c25b0); (try clear c26); (try clear c26b0); (try clear p27); (try clear q27); (try clear hx27); (try clear c28); (try clear c30); (try clear c30b0); (try clear c32); (try clear c32b0); (try clear p33); (try clear q33); (try clear hx33); (try clear p1); (try clear p14); (try clear p2); (try clear p27); (try clear p33); (try clear p6); (try clear p8); (try clear q1); (try clear q14); (try clear q2); (try clear q27); (try clear q33); (try clear q8)
               obtain ⟨kq, x11_28, rfl, HA, HJ28, ⟨mc28, rfl⟩⟩ := hcut
               cases kq with
               | zero => exact absurd HA.out (by simp [spec_l7Parts.j4])
               | succ kj28 =>
                have H := HA.out
                clear HA
                simp only [spec_l7Parts.j4] at H
                have HC34 := A_ H
                clear H
                go_upto_if 86 with (fail)
                go_cut [9] (fun v9 wc => ∃ (kq : Nat) (x9_33 : Int), v9 = .int .i64 x9_33 ∧ Aside0 (spec_l7Parts.j5 kq a0 x7_14 x8_14 x9_33 0 x11_28 = some (r1, r2, r3, r4)) ∧ Aside0 (kq ≤ kj28) ∧ Drawn0 w wc)
                case first =>
                 have H := HC34.out
                 clear HC34
                 by_cases c35 : x11_28 = true
                 ·subst c35
                  have H1 : (spec_l7Parts.j5 kj28 a0 x7_14 x8_14 (wrap64 ((wrap64 (x9_14 + 1)) + 1)) 0 true) = some (r1, r2, r3, r4) := by rw [if_pos rfl] at H; exact H
                  clear H
                  have H := H1
                  clear H1
                  have H' := A_ H
                  clear H
                  go_wp2
                  go_meet
                  case rel => exact ⟨_, (wrap64 ((wrap64 (x9_14 + 1)) + 1)), (by first | rfl | (simp; done) | (simp [*]; done)), H', ⟨by have := HJ3.out; have := HJ11.out; have := HJ14.out; have := HJ23.out; have := HJ28.out; first | omega | exact Nat.le_refl _⟩, by repeat (first | exact Drawn0.refl _ | apply Drawn0.step)⟩
                 ·replace c35 := Bool.eq_false_iff.mpr c35
                  subst c35
                  have H1 : (spec_l7Parts.j5 kj28 a0 x7_14 x8_14 (wrap64 (x9_14 + 1)) 0 false) = some (r1, r2, r3, r4) := by rw [if_neg (show ¬ (false = true) by decide)] at H; exact H
                  clear H
                  have H := H1
                  clear H1
                  have H' := A_ H
                  clear H
                  go_wp2
                  go_meet
                  case rel => exact ⟨_, ((wrap64 (x9_14 + 1))), (by first | rfl | (simp; done) | (simp [*]; done)), H', ⟨by have := HJ3.out; have := HJ11.out; have := HJ14.out; have := HJ23.out; have := HJ28.out; first | omega | exact Nat.le_refl _⟩, by repeat (first | exact Drawn0.refl _ | apply Drawn0.step)⟩
                case rest =>
                 clear HC34
                 (try clear c1); (try clear p1); (try clear q1); (try clear hx1); (try clear c2); (try clear c2b0); (try clear c2b1); (try clear p2); (try clear q2); (try clear hx2); (try clear c3); (try clear p3); (try clear q3); (try clear hx3); (try clear c5); (try clear c5b0); (try clear c5b1); (try clear c6); (try clear c6b0); (try clear p6); (try clear c7); (try clear c7b0); (try clear c7b1); (try clear p8); (try clear q8); (try clear hx8); (try clear qi8); (try clear c9); (try clear c10); (try clear c10b0); (try clear c10b1); (try clear c11); (try clear c11b0); (try clear c11b1); (try clear c13); (try clear c13b0); (try clear c14); (try clear p14); (try clear q14); (try clear hx14); (try clear c16); (try clear c18); (try clear c18b0); (try clear c18b1); (try clear c20); (try clear c20b0); (try clear c20b1); (try clear c21); (try clear c21b0); (try clear c21b1); (try clear c22); (try clear c22b0); (try clear c22b1); (try clear c23); (try clear c23b0); (try clear c23b1); (try clear c23b2); (try clear c25); (try clear c25b0); (try clear c26); (try clear c26b0); (try clear p27); (try clear q27); (try clear hx27); (try clear c28); (try clear c30); (try clear c30b0); (try clear c32); (try clear c32b0); (try clear p33); (try clear q33); (try clear hx33); (try clear c35); (try clear p1); (try clear p14); (try clear p2); (try clear p27); (try clear p3); (try clear p33); (try clear p6); (try clear p8); (try clear q1); (try clear q14); (try clear q2); (try clear q27); (try clear q3); (try clear q33); (try clear q8)
                 obtain ⟨kq, x9_33, rfl, HA, HJ33, ⟨mc33, rfl⟩⟩ := hcut
                 cases kq with
                 | zero => exact absurd HA.out (by simp [spec_l7Parts.j5])
                 | succ kj33 =>
                  have H := HA.out
                  clear HA
                  simp only [spec_l7Parts.j5] at H
                  replace H := Option.bind_eq_some_iff.mp H
                  obtain ⟨t103, A360, H⟩ := H
                  replace H : (if t103 = 0 then (spec_l7Parts.j6 kj33 a0 x7_14 x8_14 x9_33 0 x11_28 t103 true) else (if t103 > 3 then (spec_l7Parts.j6 kj33 a0 x7_14 x8_14 x9_33 0 x11_28 t103 true) else (if t103 > 1 then (if 0 ≤ x9_33 then (if x9_33 < (a0.size : Int) then (if (bt a0 x9_33) = 48 then (spec_l7Parts.j6 kj33 a0 x7_14 x8_14 x9_33 0 x11_28 t103 true) else (if x11_28 = true then (spec_l7Parts.j6 kj33 a0 x7_14 x8_14 x9_33 0 x11_28 t103 ((bt a0 x9_33) == 48)) else (spec_l7Parts.j6 kj33 a0 x7_14 x8_14 x9_33 0 x11_28 t103 false))) else (none)) else (none)) else (if x11_28 = true then (if 0 ≤ x9_33 then (if x9_33 < (a0.size : Int) then (spec_l7Parts.j6 kj33 a0 x7_14 x8_14 x9_33 0 x11_28 t103 ((bt a0 x9_33) == 48)) else (none)) else (none)) else (spec_l7Parts.j6 kj33 a0 x7_14 x8_14 x9_33 0 x11_28 t103 false))))) = some (r1, r2, r3, r4) := H
                  have A36 := A_ A360
                  clear A360
                  have HC37 := A_ H
                  clear H
                  go_upto_region 22 with (first | ((with_reducible refine gate_callee (f := 35) rfl ?_); refine goesL_ (some 91) rfl rfl Tryd.func35 (by kernel_rfl) rfl #[.string a0, .int .i64 x9_33] rfl (by (try simp only [List.map_toArray, List.map_cons, List.map_nil]); first | done | rfl) ?_; (with_reducible refine (spec_l7Digits.calls kj33 a0 x9_33 t103 _ A36.out).mono ?_); rintro e w' ⟨rfl, ⟨nd, rfl⟩⟩; refine ⟨_, rfl, ?_⟩))
                  (try simp only [Act.put, List.setIfInBounds_toArray, List.set_cons_zero, List.set_cons_succ])
                  go_cut [116] (fun v116 wc => ∃ (kq : Nat) (x116_36 : Bool), v116 = .bool x116_36 ∧ Aside0 (spec_l7Parts.j6 kq a0 x7_14 x8_14 x9_33 0 x11_28 t103 x116_36 = some (r1, r2, r3, r4)) ∧ Aside0 (kq ≤ kj33) ∧ Drawn0 w wc)
                  case first =>
                   have H := HC37.out
                   clear HC37
                   by_cases c38 : t103 = 0
                   ·rw [if_pos c38] at H
                    have c38b0 : (t103 == 0) = true := beq_iff_eq.mpr c38
                    have c38b1 : (t103 != 0) = false := bne_eq_false_iff_eq.mpr c38
                    clear c38
                    (first | rw [c38b0] | (simp only [i64_w, i32_w]; rw [c38b0]) | skip)
                    have H' := A_ H
                    clear H
                    go_wp2
                    go_meet
                    case rel => exact ⟨_, (true), (by first | rfl | (simp; done) | (simp [*]; done)), H', ⟨by have := HJ3.out; have := HJ11.out; have := HJ14.out; have := HJ23.out; have := HJ28.out; have := HJ33.out; first | omega | exact Nat.le_refl _⟩, by repeat (first | exact Drawn0.refl _ | apply Drawn0.step)⟩
                   ·rw [if_neg c38] at H
                    have c38b0 : (t103 == 0) = false := beq_eq_false_iff_ne.mpr c38
                    have c38b1 : (t103 != 0) = true := bne_iff_ne.mpr c38
                    (first | rw [c38b0] | (simp only [i64_w, i32_w]; rw [c38b0]) | skip)
                    by_cases c39 : t103 > 3
                    ·rw [if_pos c39] at H
                     have c39b0 : decide (3 < t103) = true := decide_eq_true c39
                     clear c39
                     have H' := A_ H
                     clear H
                     go_wp2
                     go_meet
                     case rel => exact ⟨_, (true), (by first | rfl | (simp; done) | (simp [*]; done)), H', ⟨by have := HJ3.out; have := HJ11.out; have := HJ14.out; have := HJ23.out; have := HJ28.out; have := HJ33.out; first | omega | exact Nat.le_refl _⟩, by repeat (first | exact Drawn0.refl _ | apply Drawn0.step)⟩
                    ·rw [if_neg c39] at H
                     have c39b0 : decide (3 < t103) = false := decide_eq_false c39
                     clear c39
                     by_cases c40 : t103 > 1
                     ·rw [if_pos c40] at H
                      have c40b0 : decide (1 < t103) = true := decide_eq_true c40
                      clear c40
                      by_cases c41 : 0 ≤ x9_33
                      ·rw [if_pos c41] at H
                       have c41b0 : decide (0 ≤ x9_33) = true := decide_eq_true c41
                       clear c41
                       by_cases c42 : x9_33 < (a0.size : Int)
                       ·rw [if_pos c42] at H
                        have c42b0 : decide (x9_33 < (a0.size : Int)) = true := decide_eq_true c42
                        clear c42
                        by_cases c44 : (bt a0 x9_33) = 48
                        ·rw [if_pos c44] at H
                         have c44b0 : ((bt a0 x9_33) == 48) = true := beq_iff_eq.mpr c44
                         have c44b1 : ((bt a0 x9_33) != 48) = false := bne_eq_false_iff_eq.mpr c44
                         clear c44
                         have H' := A_ H
                         clear H
                         have p43 : 0 ≤ (x9_33 : Int) := of_decide_eq_true as_
                         have q43 : x9_33 < (a0.size : Int) := of_decide_eq_true as_
                         have hx43 := bt_at a0 x9_33
                         replace p43 := eq_true p43
                         replace q43 := eq_true q43
                         go_wp2
                         go_meet
                         case rel => exact ⟨_, (true), (by first | rfl | (simp; done) | (simp [*]; done)), H', ⟨by have := HJ3.out; have := HJ11.out; have := HJ14.out; have := HJ23.out; have := HJ28.out; have := HJ33.out; first | omega | exact Nat.le_refl _⟩, by repeat (first | exact Drawn0.refl _ | apply Drawn0.step)⟩
                        ·rw [if_neg c44] at H
                         have c44b0 : ((bt a0 x9_33) == 48) = false := beq_eq_false_iff_ne.mpr c44
                         have c44b1 : ((bt a0 x9_33) != 48) = true := bne_iff_ne.mpr c44
                         by_cases c45 : x11_28 = true
                         ·subst c45
                          have H1 : (spec_l7Parts.j6 kj33 a0 x7_14 x8_14 x9_33 0 true t103 ((bt a0 x9_33) == 48)) = some (r1, r2, r3, r4) := by rw [if_pos rfl] at H; exact H
                          clear H
                          have H := H1
                          clear H1
                          have H' := A_ H
                          clear H
                          have p43 : 0 ≤ (x9_33 : Int) := of_decide_eq_true as_
                          have q43 : x9_33 < (a0.size : Int) := of_decide_eq_true as_
                          have hx43 := bt_at a0 x9_33
                          replace p43 := eq_true p43
                          replace q43 := eq_true q43
                          have p46 : 0 ≤ (x9_33 : Int) := of_decide_eq_true as_
                          have q46 : x9_33 < (a0.size : Int) := of_decide_eq_true as_
                          have hx46 := bt_at a0 x9_33
                          replace p46 := eq_true p46
                          replace q46 := eq_true q46
                          go_wp2
                          go_meet
                          case rel => exact ⟨_, (((bt a0 x9_33) == 48)), (by first | rfl | (simp; done) | (simp [*]; done)), H', ⟨by have := HJ3.out; have := HJ11.out; have := HJ14.out; have := HJ23.out; have := HJ28.out; have := HJ33.out; first | omega | exact Nat.le_refl _⟩, by repeat (first | exact Drawn0.refl _ | apply Drawn0.step)⟩
                         ·replace c45 := Bool.eq_false_iff.mpr c45
                          subst c45
                          have H1 : (spec_l7Parts.j6 kj33 a0 x7_14 x8_14 x9_33 0 false t103 false) = some (r1, r2, r3, r4) := by rw [if_neg (show ¬ (false = true) by decide)] at H; exact H
                          clear H
                          have H := H1
                          clear H1
                          have H' := A_ H
                          clear H
                          have p43 : 0 ≤ (x9_33 : Int) := of_decide_eq_true as_
                          have q43 : x9_33 < (a0.size : Int) := of_decide_eq_true as_
                          have hx43 := bt_at a0 x9_33
                          replace p43 := eq_true p43
                          replace q43 := eq_true q43
                          go_wp2
                          go_meet
                          case rel => exact ⟨_, (false), (by first | rfl | (simp; done) | (simp [*]; done)), H', ⟨by have := HJ3.out; have := HJ11.out; have := HJ14.out; have := HJ23.out; have := HJ28.out; have := HJ33.out; first | omega | exact Nat.le_refl _⟩, by repeat (first | exact Drawn0.refl _ | apply Drawn0.step)⟩
                       ·rw [if_neg c42] at H
                        exact absurd H (by simp)
                      ·rw [if_neg c41] at H
                       exact absurd H (by simp)
                     ·rw [if_neg c40] at H
                      have c40b0 : decide (1 < t103) = false := decide_eq_false c40
                      clear c40
                      by_cases c47 : x11_28 = true
                      ·subst c47
                       have H1 : (if 0 ≤ x9_33 then (if x9_33 < (a0.size : Int) then (spec_l7Parts.j6 kj33 a0 x7_14 x8_14 x9_33 0 true t103 ((bt a0 x9_33) == 48)) else (none)) else (none)) = some (r1, r2, r3, r4) := by rw [if_pos rfl] at H; exact H
                       clear H
                       have H := H1
                       clear H1
                       by_cases c48 : 0 ≤ x9_33
                       ·rw [if_pos c48] at H
                        have c48b0 : decide (0 ≤ x9_33) = true := decide_eq_true c48
                        clear c48
                        by_cases c49 : x9_33 < (a0.size : Int)
                        ·rw [if_pos c49] at H
                         have c49b0 : decide (x9_33 < (a0.size : Int)) = true := decide_eq_true c49
                         clear c49
                         have H' := A_ H
                         clear H
                         have p50 : 0 ≤ (x9_33 : Int) := of_decide_eq_true as_
                         have q50 : x9_33 < (a0.size : Int) := of_decide_eq_true as_
                         have hx50 := bt_at a0 x9_33
                         replace p50 := eq_true p50
                         replace q50 := eq_true q50
                         go_wp2
                         go_meet
                         case rel => exact ⟨_, (((bt a0 x9_33) == 48)), (by first | rfl | (simp; done) | (simp [*]; done)), H', ⟨by have := HJ3.out; have := HJ11.out; have := HJ14.out; have := HJ23.out; have := HJ28.out; have := HJ33.out; first | omega | exact Nat.le_refl _⟩, by repeat (first | exact Drawn0.refl _ | apply Drawn0.step)⟩
                        ·rw [if_neg c49] at H
                         exact absurd H (by simp)
                       ·rw [if_neg c48] at H
                        exact absurd H (by simp)
                      ·replace c47 := Bool.eq_false_iff.mpr c47
                       subst c47
                       have H1 : (spec_l7Parts.j6 kj33 a0 x7_14 x8_14 x9_33 0 false t103 false) = some (r1, r2, r3, r4) := by rw [if_neg (show ¬ (false = true) by decide)] at H; exact H
                       clear H
                       have H := H1
                       clear H1
                       have H' := A_ H
                       clear H
                       go_wp2
                       go_meet
                       case rel => exact ⟨_, (false), (by first | rfl | (simp; done) | (simp [*]; done)), H', ⟨by have := HJ3.out; have := HJ11.out; have := HJ14.out; have := HJ23.out; have := HJ28.out; have := HJ33.out; first | omega | exact Nat.le_refl _⟩, by repeat (first | exact Drawn0.refl _ | apply Drawn0.step)⟩
                  case rest =>
                   clear HC37
                   (try clear c1); (try clear p1); (try clear q1); (try clear hx1); (try clear c2); (try clear c2b0); (try clear c2b1); (try clear p2); (try clear q2); (try clear hx2); (try clear c3); (try clear p3); (try clear q3); (try clear hx3); (try clear c4); (try clear p4); (try clear q4); (try clear hx4); (try clear c5); (try clear c5b0); (try clear c5b1); (try clear p5); (try clear q5); (try clear hx5); (try clear c6); (try clear c6b0); (try clear p6); (try clear c7); (try clear c7b0); (try clear c7b1); (try clear p8); (try clear q8); (try clear hx8); (try clear qi8); (try clear c9); (try clear c10); (try clear c10b0); (try clear c10b1); (try clear c11); (try clear c11b0); (try clear c11b1); (try clear c13); (try clear c13b0); (try clear c14); (try clear p14); (try clear q14); (try clear hx14); (try clear c16); (try clear c18); (try clear c18b0); (try clear c18b1); (try clear c20); (try clear c20b0); (try clear c20b1); (try clear c21); (try clear c21b0); (try clear c21b1); (try clear c22); (try clear c22b0); (try clear c22b1); (try clear c23); (try clear c23b0); (try clear c23b1); (try clear c23b2); (try clear c25); (try clear c25b0); (try clear c26); (try clear c26b0); (try clear p27); (try clear q27); (try clear hx27); (try clear c28); (try clear c30); (try clear c30b0); (try clear c32); (try clear c32b0); (try clear c33); (try clear p33); (try clear q33); (try clear hx33); (try clear c35); (try clear c38); (try clear c38b0); (try clear c38b1); (try clear c39); (try clear c39b0); (try clear c40); (try clear c40b0); (try clear c41); (try clear c41b0); (try clear c42); (try clear c42b0); (try clear p43); (try clear q43); (try clear hx43); (try clear c44); (try clear c44b0); (try clear c44b1); (try clear c45); (try clear p46); (try clear q46); (try clear hx46); (try clear c47); (try clear c48); (try clear c48b0); (try clear c49); (try clear c49b0); (try clear p50); (try clear q50); (try clear hx50); (try clear p1); (try clear p14); (try clear p2); (try clear p27); (try clear p3); (try clear p33); (try clear p43); (try clear p46); (try clear p50); (try clear p6); (try clear p8); (try clear q1); (try clear q14); (try clear q2); (try clear q27); (try clear q3); (try clear q33); (try clear q43); (try clear q46); (try clear q50); (try clear q8)
                   obtain ⟨kq, x116_36, rfl, HA, HJ36, ⟨mc36, rfl⟩⟩ := hcut
                   cases kq with
                   | zero => exact absurd HA.out (by simp [spec_l7Parts.j6])
                   | succ kj36 =>
                    have H := HA.out
                    clear HA
                    simp only [spec_l7Parts.j6] at H
                    by_cases c51 : x116_36 = true
                    ·subst c51
                     have H1 : (some ((⟨#[]⟩ : ByteArray), 0, 0, false)) = some (r1, r2, r3, r4) := by rw [if_pos rfl] at H; exact H
                     clear H
                     have H := H1
                     clear H1
                     simp only [Option.some.injEq, Prod.mk.injEq] at H
                     obtain ⟨rfl, rfl, rfl, rfl⟩ := H
                     go_wp2
                     refine bodyPost_ret (results_list (rs := [.tmp 2, .tmp 3, .tmp 4, .tmp 5]) rfl (by simp) (.tmp (.tmp (.tmp (.tmp .nil))))) rfl ?_
                     exact ⟨by first | rfl | (simp; done) | (simp [*]; done), by repeat (first | exact Drawn0.refl _ | apply Drawn0.step)⟩
                    ·replace c51 := Bool.eq_false_iff.mpr c51
                     subst c51
                     have H1 : (spec_l7Parts.l0 kj36 a0 x7_14 x8_14 x9_33 0 x11_28 t103 x9_33) = some (r1, r2, r3, r4) := by rw [if_neg (show ¬ (false = true) by decide)] at H; exact H
                     clear H
                     have H := H1
                     clear H1
                     have H' := A_ H
                     clear H
                     go_wp2
                     go_loopg [10, 13] kj36 (fun kq v10 v13 w' => ∃ (x10_8 : Int) (x13_8 : Int), v10 = .int .i64 x10_8 ∧ v13 = .int .i64 x13_8 ∧ Aside0 (spec_l7Parts.l0 kq a0 x7_14 x8_14 x9_33 x10_8 x11_28 t103 x13_8 = some (r1, r2, r3, r4)) ∧ Aside0 (kq ≤ kj36) ∧ Drawn0 w w')
                     case atStart => exact ⟨(0), (x9_33), (by first | rfl | (simp; done) | (simp [*]; done)), (by first | rfl | (simp; done) | (simp [*]; done)), H', ⟨Nat.le_refl _⟩, by repeat (first | exact Drawn0.refl _ | apply Drawn0.step)⟩
                     case round =>
                      clear H'
                      (try clear c1); (try clear p1); (try clear q1); (try clear hx1); (try clear c2); (try clear c2b0); (try clear c2b1); (try clear p2); (try clear q2); (try clear hx2); (try clear c3); (try clear p3); (try clear q3); (try clear hx3); (try clear c4); (try clear p4); (try clear q4); (try clear hx4); (try clear c5); (try clear c5b0); (try clear c5b1); (try clear p5); (try clear q5); (try clear hx5); (try clear c6); (try clear c6b0); (try clear p6); (try clear c7); (try clear c7b0); (try clear c7b1); (try clear p8); (try clear q8); (try clear hx8); (try clear qi8); (try clear c9); (try clear c10); (try clear c10b0); (try clear c10b1); (try clear c11); (try clear c11b0); (try clear c11b1); (try clear c13); (try clear c13b0); (try clear c14); (try clear p14); (try clear q14); (try clear hx14); (try clear c16); (try clear c18); (try clear c18b0); (try clear c18b1); (try clear c20); (try clear c20b0); (try clear c20b1); (try clear c21); (try clear c21b0); (try clear c21b1); (try clear c22); (try clear c22b0); (try clear c22b1); (try clear c23); (try clear c23b0); (try clear c23b1); (try clear c23b2); (try clear c25); (try clear c25b0); (try clear c26); (try clear c26b0); (try clear p27); (try clear q27); (try clear hx27); (try clear c28); (try clear c30); (try clear c30b0); (try clear c32); (try clear c32b0); (try clear c33); (try clear p33); (try clear q33); (try clear hx33); (try clear c35); (try clear c36); (try clear c38); (try clear c38b0); (try clear c38b1); (try clear c39); (try clear c39b0); (try clear c40); (try clear c40b0); (try clear c41); (try clear c41b0); (try clear c42); (try clear c42b0); (try clear p43); (try clear q43); (try clear hx43); (try clear c44); (try clear c44b0); (try clear c44b1); (try clear c45); (try clear p46); (try clear q46); (try clear hx46); (try clear c47); (try clear c48); (try clear c48b0); (try clear c49); (try clear c49b0); (try clear p50); (try clear q50); (try clear hx50); (try clear c51); (try clear p1); (try clear p14); (try clear p2); (try clear p27); (try clear p3); (try clear p33); (try clear p4); (try clear p43); (try clear p46); (try clear p5); (try clear p50); (try clear p6); (try clear p8); (try clear q1); (try clear q14); (try clear q2); (try clear q27); (try clear q3); (try clear q33); (try clear q4); (try clear q43); (try clear q46); (try clear q5); (try clear q50); (try clear q8)
                      obtain ⟨x10_8, x13_8, rfl, rfl, HA, HK8, ⟨m8, rfl⟩⟩ := hrel
                      cases gk with
                      | zero => exact absurd HA.out (by simp [spec_l7Parts.l0])
                      | succ k8 =>
                       have H := HA.out
                       clear HA
                       simp only [spec_l7Parts.l0] at H
                       by_cases c52 : x13_8 < (wrap64 (x9_33 + t103))
                       ·rw [if_pos c52] at H
                        have c52b0 : decide (x13_8 < (wrap64 (x9_33 + t103))) = true := decide_eq_true c52
                        clear c52
                        by_cases c53 : 0 ≤ x13_8
                        ·rw [if_pos c53] at H
                         have c53b0 : decide (0 ≤ x13_8) = true := decide_eq_true c53
                         clear c53
                         by_cases c54 : x13_8 < (a0.size : Int)
                         ·rw [if_pos c54] at H
                          have c54b0 : decide (x13_8 < (a0.size : Int)) = true := decide_eq_true c54
                          clear c54
                          have H' := A_ H
                          clear H
                          have p55 : 0 ≤ (x13_8 : Int) := of_decide_eq_true as_
                          have q55 : x13_8 < (a0.size : Int) := of_decide_eq_true as_
                          have hx55 := bt_at a0 x13_8
                          replace p55 := eq_true p55
                          replace q55 := eq_true q55
                          go_wp2
                          go_roundg k8
                          case measure => have := HJ3.out; have := HJ11.out; have := HJ14.out; have := HJ23.out; have := HJ28.out; have := HJ33.out; have := HJ36.out; have := HK8.out; omega
                          case rel => exact ⟨(wrap64 ((wrap64 (x10_8 * 10)) + (((bt a0 x13_8) - 48) % 256))), (wrap64 (x13_8 + 1)), (by first | rfl | (simp; done) | (simp [*]; done)), (by first | rfl | (simp; done) | (simp [*]; done)), H', ⟨by have := HJ3.out; have := HJ11.out; have := HJ14.out; have := HJ23.out; have := HJ28.out; have := HJ33.out; have := HJ36.out; have := HK8.out; omega⟩, by repeat (first | exact Drawn0.refl _ | apply Drawn0.step)⟩
                         ·rw [if_neg c54] at H
                          exact absurd H (by simp)
                        ·rw [if_neg c53] at H
                         exact absurd H (by simp)
                       ·rw [if_neg c52] at H
                        have c52b0 : decide (x13_8 < (wrap64 (x9_33 + t103))) = false := decide_eq_false c52
                        clear c52
                        by_cases c56 : x10_8 > 400
                        ·rw [if_pos c56] at H
                         have c56b0 : decide (400 < x10_8) = true := decide_eq_true c56
                         clear c56
                         simp only [Option.some.injEq, Prod.mk.injEq] at H
                         obtain ⟨rfl, rfl, rfl, rfl⟩ := H
                         go_wp2
                         refine bodyPost_ret (results_list (rs := [.tmp 2, .tmp 3, .tmp 4, .tmp 5]) rfl (by simp) (.tmp (.tmp (.tmp (.tmp .nil))))) rfl ?_
                         exact ⟨by first | rfl | (simp; done) | (simp [*]; done), by repeat (first | exact Drawn0.refl _ | apply Drawn0.step)⟩
                        ·rw [if_neg c56] at H
                         have c56b0 : decide (400 < x10_8) = false := decide_eq_false c56
                         clear c56
                         by_cases c57 : x11_28 = true
                         ·subst c57
                          have H1 : (some (x7_14, x8_14, wrap64 (-x10_8), ((wrap64 (x9_33 + t103)) == (a0.size : Int)))) = some (r1, r2, r3, r4) := by rw [if_pos rfl] at H; exact H
                          clear H
                          have H := H1
                          clear H1
                          simp only [Option.some.injEq, Prod.mk.injEq] at H
                          obtain ⟨rfl, rfl, rfl, rfl⟩ := H
                          go_wp2
                          refine bodyPost_ret (results_list (rs := [.tmp 2, .tmp 3, .tmp 4, .tmp 5]) rfl (by simp) (.tmp (.tmp (.tmp (.tmp .nil))))) rfl ?_
                          exact ⟨by first | rfl | (simp; done) | (simp [*]; done), by repeat (first | exact Drawn0.refl _ | apply Drawn0.step)⟩
                         ·replace c57 := Bool.eq_false_iff.mpr c57
                          subst c57
                          have H1 : (some (x7_14, x8_14, x10_8, ((wrap64 (x9_33 + t103)) == (a0.size : Int)))) = some (r1, r2, r3, r4) := by rw [if_neg (show ¬ (false = true) by decide)] at H; exact H
                          clear H
                          have H := H1
                          clear H1
                          simp only [Option.some.injEq, Prod.mk.injEq] at H
                          obtain ⟨rfl, rfl, rfl, rfl⟩ := H
                          go_wp2
                          refine bodyPost_ret (results_list (rs := [.tmp 2, .tmp 3, .tmp 4, .tmp 5]) rfl (by simp) (.tmp (.tmp (.tmp (.tmp .nil))))) rfl ?_
                          exact ⟨by first | rfl | (simp; done) | (simp [*]; done), by repeat (first | exact Drawn0.refl _ | apply Drawn0.step)⟩
             ·replace c28 := Bool.eq_false_iff.mpr c28
              subst c28
              have H1 : (some (x7_14, x8_14, 0, (x9_14 == (a0.size : Int)))) = some (r1, r2, r3, r4) := by rw [if_neg (show ¬ (false = true) by decide)] at H; exact H
              clear H
              have H := H1
              clear H1
              simp only [Option.some.injEq, Prod.mk.injEq] at H
              obtain ⟨rfl, rfl, rfl, rfl⟩ := H
              go_wp2
              refine bodyPost_ret (results_list (rs := [.tmp 2, .tmp 3, .tmp 4, .tmp 5]) rfl (by simp) (.tmp (.tmp (.tmp (.tmp .nil))))) rfl ?_
              exact ⟨by first | rfl | (simp; done) | (simp [*]; done), by repeat (first | exact Drawn0.refl _ | apply Drawn0.step)⟩
      ·rw [if_neg c11] at H
       exact absurd H (by simp)
     ·rw [if_neg c10] at H
      exact absurd H (by simp)

end Go.Proofs.YtmdeolonjmjmgaaDoor.QFnExactDecFrac
