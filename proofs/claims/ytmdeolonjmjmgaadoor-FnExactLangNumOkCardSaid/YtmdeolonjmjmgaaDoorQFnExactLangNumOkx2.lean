/- The machine side of one law: each function and the law itself walked once, written by a program of this session (wip/xprint.py) that runs the printer of the kit.
   Conditions: none. -/
import Derived.Test.YtmdeolonjmjmgaaDoorQFnExactLangNumOkx0
import Derived.Test.YtmdeolonjmjmgaaDoorQFnExactLangNumOkx1
namespace Go.Proofs.YtmdeolonjmjmgaaDoor.QFnExactLangNumOk
open Go.RowKit Go.Proofs.YtmdeolonjmjmgaaDoorW.PrintWords Go.Proofs.YtmdeolonjmjmgaaDoorW.PrintLast Go.Proofs.YtmdeolonjmjmgaaDoorW.PrintMore
attribute [local go_sem] Go.Instr.field Go.asAgg Go.Proofs.YtmdeolonjmjmgaaDoor.MS.isSome_setCell Go.Proofs.YtmdeolonjmjmgaaDoor.MT.gtr
attribute [local go_sem] max2_int min2_int max_two min_two max_three min_three max_four min_four   -- for this text's walks alone
set_option linter.unusedVariables false
set_option linter.unusedSimpArgs false

/-! ### spec_LangNumOk: function 6 -/
mutual
def spec_LangNumOk.j0 : Nat → ByteArray → Int → Bool → Option (Bool)
  | 0, _, _, _ => none
  | k + 1, x0, x3, x25 => if x25 = true then (some false) else (if x3 < (x0.size : Int) then (if 0 ≤ x3 then (spec_LangNumOk.j1 k x0 x3 ((bt x0 x3) == 46)) else (none)) else (spec_LangNumOk.j1 k x0 x3 false))
def spec_LangNumOk.j1 : Nat → ByteArray → Int → Bool → Option (Bool)
  | 0, _, _, _ => none
  | k + 1, x0, x4, x36 => if x36 = true then ((spec_l11Run.f k x0 (wrap64 (x4 + 1))).bind fun t103 => (if t103 = 0 then (some false) else (spec_LangNumOk.j2 k x0 (wrap64 ((wrap64 (x4 + 1)) + t103))))) else (spec_LangNumOk.j2 k x0 x4)
def spec_LangNumOk.j2 : Nat → ByteArray → Int → Option (Bool)
  | 0, _, _ => none
  | k + 1, x0, x4 => if x4 < (x0.size : Int) then (if 0 ≤ x4 then (spec_LangNumOk.j3 k x0 x4 ((bt x0 x4) == 101)) else (none)) else (spec_LangNumOk.j3 k x0 x4 false)
def spec_LangNumOk.j3 : Nat → ByteArray → Int → Bool → Option (Bool)
  | 0, _, _, _ => none
  | k + 1, x0, x4, x56 => if x56 = true then (if (wrap64 (x4 + 1)) < (x0.size : Int) then (if 0 ≤ (wrap64 (x4 + 1)) then (spec_LangNumOk.j4 k x0 (wrap64 (x4 + 1)) ((bt x0 (wrap64 (x4 + 1))) == 45)) else (none)) else (spec_LangNumOk.j4 k x0 (wrap64 (x4 + 1)) false)) else (some (x4 == (x0.size : Int)))
def spec_LangNumOk.j4 : Nat → ByteArray → Int → Bool → Option (Bool)
  | 0, _, _, _ => none
  | k + 1, x0, x4, x6 => if x6 = true then ((spec_l11Run.f k x0 (wrap64 (x4 + 1))).bind fun t104 => (if t104 = 0 then (some false) else (if t104 > 3 then (some false) else (if 0 ≤ (wrap64 (x4 + 1)) then (if (wrap64 (x4 + 1)) < (x0.size : Int) then (if (bt x0 (wrap64 (x4 + 1))) = 48 then (if t104 > 1 then (some false) else (some false)) else (if t104 = 3 then (if (wrap64 (x4 + 1)) ≤ (wrap64 ((wrap64 (x4 + 1)) + t104)) then (if (wrap64 ((wrap64 (x4 + 1)) + t104)) ≤ (x0.size : Int) then (if (Op.bytesLess ([52, 48, 48] : List UInt8) ((x0.extract ((wrap64 (x4 + 1)) : Int).toNat ((wrap64 ((wrap64 (x4 + 1)) + t104)) : Int).toNat).toList)) = true then (some false) else (some ((wrap64 ((wrap64 (x4 + 1)) + t104)) == (x0.size : Int)))) else (none)) else (none)) else (some ((wrap64 ((wrap64 (x4 + 1)) + t104)) == (x0.size : Int))))) else (none)) else (none))))) else ((spec_l11Run.f k x0 x4).bind fun t105 => (if t105 = 0 then (some false) else (if t105 > 3 then (some false) else (if 0 ≤ x4 then (if x4 < (x0.size : Int) then (if (bt x0 x4) = 48 then (if t105 > 1 then (some false) else (if t105 = 3 then (if x4 ≤ (wrap64 (x4 + t105)) then (if (wrap64 (x4 + t105)) ≤ (x0.size : Int) then (if (Op.bytesLess ([52, 48, 48] : List UInt8) ((x0.extract (x4 : Int).toNat ((wrap64 (x4 + t105)) : Int).toNat).toList)) = true then (some false) else (some ((wrap64 (x4 + t105)) == (x0.size : Int)))) else (none)) else (none)) else (some ((wrap64 (x4 + t105)) == (x0.size : Int))))) else (if t105 = 3 then (if x4 ≤ (wrap64 (x4 + t105)) then (if (wrap64 (x4 + t105)) ≤ (x0.size : Int) then (if (Op.bytesLess ([52, 48, 48] : List UInt8) ((x0.extract (x4 : Int).toNat ((wrap64 (x4 + t105)) : Int).toNat).toList)) = true then (some false) else (some ((wrap64 (x4 + t105)) == (x0.size : Int)))) else (none)) else (none)) else (some ((wrap64 (x4 + t105)) == (x0.size : Int))))) else (none)) else (none)))))
end
def spec_LangNumOk.f (k : Nat) (a0 : ByteArray) : Option (Bool) := (spec_l11Run.f k a0 0).bind fun t102 => (if (a0.size : Int) > 60 then (spec_LangNumOk.j0 k a0 t102 true) else (if t102 = 0 then (spec_LangNumOk.j0 k a0 t102 true) else (if t102 > 1 then (if 0 < (a0.size : Int) then (spec_LangNumOk.j0 k a0 t102 ((bt a0 0) == 48)) else (none)) else (spec_LangNumOk.j0 k a0 t102 false))))
theorem spec_LangNumOk.mono_l : ∀ k, (∀ y0 y1 y2, LeO (spec_LangNumOk.j0 k y0 y1 y2) (spec_LangNumOk.j0 (k + 1) y0 y1 y2)) ∧ (∀ y0 y1 y2, LeO (spec_LangNumOk.j1 k y0 y1 y2) (spec_LangNumOk.j1 (k + 1) y0 y1 y2)) ∧ (∀ y0 y1, LeO (spec_LangNumOk.j2 k y0 y1) (spec_LangNumOk.j2 (k + 1) y0 y1)) ∧ (∀ y0 y1 y2, LeO (spec_LangNumOk.j3 k y0 y1 y2) (spec_LangNumOk.j3 (k + 1) y0 y1 y2)) ∧ (∀ y0 y1 y2, LeO (spec_LangNumOk.j4 k y0 y1 y2) (spec_LangNumOk.j4 (k + 1) y0 y1 y2))
  | 0 => ⟨fun _ _ _ r h => by simp [spec_LangNumOk.j0] at h, fun _ _ _ r h => by simp [spec_LangNumOk.j1] at h, fun _ _ r h => by simp [spec_LangNumOk.j2] at h, fun _ _ _ r h => by simp [spec_LangNumOk.j3] at h, fun _ _ _ r h => by simp [spec_LangNumOk.j4] at h⟩
  | k + 1 => by
    obtain ⟨ih0, ih1, ih2, ih3, ih4⟩ := spec_LangNumOk.mono_l k
    refine ⟨?_, ?_, ?_, ?_, ?_⟩
    · intro y0 y1 y2
      unfold spec_LangNumOk.j0
      repeat' first
      | (with_reducible exact ih0 _ _ _)
      | (with_reducible exact ih1 _ _ _)
      | (with_reducible exact ih2 _ _)
      | (with_reducible exact ih3 _ _ _)
      | (with_reducible exact ih4 _ _ _)
      | (with_reducible exact spec_l11Run.mono _ _ _)
      | (with_reducible exact LeO.refl _)
      | (with_reducible exact LeO.none _)
      | (with_reducible refine LeO.ite ?_ ?_)
      | (with_reducible refine LeO.bind ?_ (fun _ => ?_))
      | exact ih0 _ _ _
      | exact ih1 _ _ _
      | exact ih2 _ _
      | exact ih3 _ _ _
      | exact ih4 _ _ _
      | exact spec_l11Run.mono _ _ _
      | exact LeO.none _
      | refine LeO.ite ?_ ?_
      | refine LeO.bind ?_ (fun _ => ?_)
    · intro y0 y1 y2
      unfold spec_LangNumOk.j1
      repeat' first
      | (with_reducible exact ih0 _ _ _)
      | (with_reducible exact ih1 _ _ _)
      | (with_reducible exact ih2 _ _)
      | (with_reducible exact ih3 _ _ _)
      | (with_reducible exact ih4 _ _ _)
      | (with_reducible exact spec_l11Run.mono _ _ _)
      | (with_reducible exact LeO.refl _)
      | (with_reducible exact LeO.none _)
      | (with_reducible refine LeO.ite ?_ ?_)
      | (with_reducible refine LeO.bind ?_ (fun _ => ?_))
      | exact ih0 _ _ _
      | exact ih1 _ _ _
      | exact ih2 _ _
      | exact ih3 _ _ _
      | exact ih4 _ _ _
      | exact spec_l11Run.mono _ _ _
      | exact LeO.none _
      | refine LeO.ite ?_ ?_
      | refine LeO.bind ?_ (fun _ => ?_)
    · intro y0 y1
      unfold spec_LangNumOk.j2
      repeat' first
      | (with_reducible exact ih0 _ _ _)
      | (with_reducible exact ih1 _ _ _)
      | (with_reducible exact ih2 _ _)
      | (with_reducible exact ih3 _ _ _)
      | (with_reducible exact ih4 _ _ _)
      | (with_reducible exact spec_l11Run.mono _ _ _)
      | (with_reducible exact LeO.refl _)
      | (with_reducible exact LeO.none _)
      | (with_reducible refine LeO.ite ?_ ?_)
      | (with_reducible refine LeO.bind ?_ (fun _ => ?_))
      | exact ih0 _ _ _
      | exact ih1 _ _ _
      | exact ih2 _ _
      | exact ih3 _ _ _
      | exact ih4 _ _ _
      | exact spec_l11Run.mono _ _ _
      | exact LeO.none _
      | refine LeO.ite ?_ ?_
      | refine LeO.bind ?_ (fun _ => ?_)
    · intro y0 y1 y2
      unfold spec_LangNumOk.j3
      repeat' first
      | (with_reducible exact ih0 _ _ _)
      | (with_reducible exact ih1 _ _ _)
      | (with_reducible exact ih2 _ _)
      | (with_reducible exact ih3 _ _ _)
      | (with_reducible exact ih4 _ _ _)
      | (with_reducible exact spec_l11Run.mono _ _ _)
      | (with_reducible exact LeO.refl _)
      | (with_reducible exact LeO.none _)
      | (with_reducible refine LeO.ite ?_ ?_)
      | (with_reducible refine LeO.bind ?_ (fun _ => ?_))
      | exact ih0 _ _ _
      | exact ih1 _ _ _
      | exact ih2 _ _
      | exact ih3 _ _ _
      | exact ih4 _ _ _
      | exact spec_l11Run.mono _ _ _
      | exact LeO.none _
      | refine LeO.ite ?_ ?_
      | refine LeO.bind ?_ (fun _ => ?_)
    · intro y0 y1 y2
      unfold spec_LangNumOk.j4
      repeat' first
      | (with_reducible exact ih0 _ _ _)
      | (with_reducible exact ih1 _ _ _)
      | (with_reducible exact ih2 _ _)
      | (with_reducible exact ih3 _ _ _)
      | (with_reducible exact ih4 _ _ _)
      | (with_reducible exact spec_l11Run.mono _ _ _)
      | (with_reducible exact LeO.refl _)
      | (with_reducible exact LeO.none _)
      | (with_reducible refine LeO.ite ?_ ?_)
      | (with_reducible refine LeO.bind ?_ (fun _ => ?_))
      | exact ih0 _ _ _
      | exact ih1 _ _ _
      | exact ih2 _ _
      | exact ih3 _ _ _
      | exact ih4 _ _ _
      | exact spec_l11Run.mono _ _ _
      | exact LeO.none _
      | refine LeO.ite ?_ ?_
      | refine LeO.bind ?_ (fun _ => ?_)
theorem spec_LangNumOk.mono : ∀ a0 k, LeO (spec_LangNumOk.f k a0) (spec_LangNumOk.f (k + 1) a0) := by
  intro a0 k
  obtain ⟨ih0, ih1, ih2, ih3, ih4⟩ := spec_LangNumOk.mono_l k
  unfold spec_LangNumOk.f
  repeat' first
      | (with_reducible exact ih0 _ _ _)
      | (with_reducible exact ih1 _ _ _)
      | (with_reducible exact ih2 _ _)
      | (with_reducible exact ih3 _ _ _)
      | (with_reducible exact ih4 _ _ _)
      | (with_reducible exact spec_l11Run.mono _ _ _)
      | (with_reducible exact LeO.refl _)
      | (with_reducible exact LeO.none _)
      | (with_reducible refine LeO.ite ?_ ?_)
      | (with_reducible refine LeO.bind ?_ (fun _ => ?_))
      | exact ih0 _ _ _
      | exact ih1 _ _ _
      | exact ih2 _ _
      | exact ih3 _ _ _
      | exact ih4 _ _ _
      | exact spec_l11Run.mono _ _ _
      | exact LeO.none _
      | refine LeO.ite ?_ ?_
      | refine LeO.bind ?_ (fun _ => ?_)
set_option maxHeartbeats 8000000 in
set_option maxRecDepth 100000 in
theorem spec_LangNumOk.calls (k : Nat) (a0 : ByteArray) (r : Bool) (w : World) (h : spec_LangNumOk.f k a0 = some r) :
    Calls Tryd.prog 6 #[.string a0] w fun e w' => e = .returned (.bool r) ∧ Drawn0 w w' := by
  have H : ((spec_l11Run.f k a0 0).bind fun t102 => (if (a0.size : Int) > 60 then (spec_LangNumOk.j0 k a0 t102 true) else (if t102 = 0 then (spec_LangNumOk.j0 k a0 t102 true) else (if t102 > 1 then (if 0 < (a0.size : Int) then (spec_LangNumOk.j0 k a0 t102 ((bt a0 0) == 48)) else (none)) else (spec_LangNumOk.j0 k a0 t102 false))))) = some r := h
  clear h
  replace H := Option.bind_eq_some_iff.mp H
  obtain ⟨t102, A20, H⟩ := H
  replace H : (if (a0.size : Int) > 60 then (spec_LangNumOk.j0 k a0 t102 true) else (if t102 = 0 then (spec_LangNumOk.j0 k a0 t102 true) else (if t102 > 1 then (if 0 < (a0.size : Int) then (spec_LangNumOk.j0 k a0 t102 ((bt a0 0) == 48)) else (none)) else (spec_LangNumOk.j0 k a0 t102 false)))) = some r := H
  have A2 := Aside0.mk A20
  clear A20
  have HC3 := Aside0.mk H
  clear H
  go_enter Tryd.func6, Tryd.ntmps6
  go_upto_region 2 with (first | ((with_reducible refine gate_callee (f := 15) rfl ?_); refine goesL_ (some 9) rfl rfl Tryd.func15 (by kernel_rfl) rfl #[.string a0, .int .i64 0] rfl (by (try simp only [List.map_toArray, List.map_cons, List.map_nil]); first | done | rfl | (simp only [List.length_drop, List.length_take]; rfl)) ?_; (with_reducible refine (spec_l11Run.calls k a0 0 t102 _ A2.out).mono ?_); rintro e w' ⟨rfl, ⟨nd, rfl⟩⟩; refine ⟨_, rfl, ?_⟩))
  (try simp only [Act.put, List.setIfInBounds_toArray, List.set_cons_zero, List.set_cons_succ])
  go_cut [25] (fun v25 wc => ∃ (kq : Nat) (x25_2 : Bool), v25 = .bool x25_2 ∧ Aside0 (spec_LangNumOk.j0 kq a0 t102 x25_2 = some r) ∧ Aside0 (kq ≤ k) ∧ Drawn0 w wc)
  case first =>
    have H := HC3.out
    clear HC3
    by_cases c4 : (a0.size : Int) > 60
    · rw [if_pos c4] at H
      have c4b0 : decide (60 < (a0.size : Int)) = true := decide_eq_true c4
      have c4b1 : decide (60 < a0.size) = true := decide_eq_true (by omega)
      clear c4
      (first | rw [c4b0] | (simp only [i64_w, i32_w]; rw [c4b0]) | skip)
      have H' := Aside0.mk H
      clear H
      go_wp2
      go_meet
      case rel => exact ⟨_, (true), (by first | rfl | (simp; done) | (simp [*]; done)), H', ⟨by first | omega | exact Nat.le_refl _⟩, by repeat (first | exact Drawn0.refl _ | apply Drawn0.step)⟩
    · rw [if_neg c4] at H
      have c4b0 : decide (60 < (a0.size : Int)) = false := decide_eq_false c4
      have c4b1 : decide (60 < a0.size) = false := decide_eq_false (by omega)
      clear c4
      (first | rw [c4b0] | (simp only [i64_w, i32_w]; rw [c4b0]) | skip)
      by_cases c5 : t102 = 0
      · rw [if_pos c5] at H
        have c5b0 : (t102 == 0) = true := beq_iff_eq.mpr c5
        have c5b1 : (t102 != 0) = false := bne_eq_false_iff_eq.mpr c5
        clear c5
        have H' := Aside0.mk H
        clear H
        go_wp2
        go_meet
        case rel => exact ⟨_, (true), (by first | rfl | (simp; done) | (simp [*]; done)), H', ⟨by first | omega | exact Nat.le_refl _⟩, by repeat (first | exact Drawn0.refl _ | apply Drawn0.step)⟩
      · rw [if_neg c5] at H
        have c5b0 : (t102 == 0) = false := beq_eq_false_iff_ne.mpr c5
        have c5b1 : (t102 != 0) = true := bne_iff_ne.mpr c5
        by_cases c6 : t102 > 1
        · rw [if_pos c6] at H
          have c6b0 : decide (1 < t102) = true := decide_eq_true c6
          clear c6
          by_cases c7 : 0 < (a0.size : Int)
          · rw [if_pos c7] at H
            have c7b0 : decide (0 < (a0.size : Int)) = true := decide_eq_true c7
            have c7b1 : decide (0 < a0.size) = true := decide_eq_true (by omega)
            clear c7
            have H' := Aside0.mk H
            clear H
            have p8 : 0 ≤ (0 : Int) := (by omega)
            have q8 : 0 < a0.size := (by have : (0 : Int) < (a0.size : Int) := of_decide_eq_true (by first | (with_reducible assumption) | assumption); omega)
            have hx8 : ∀ h : 0 < a0.size, ((a0[0]'h).toNat : Int) = bt a0 0 := bt_at a0 0
            clear p8
            have qi8 : (0 < (a0.size : Int)) = True := eq_true (of_decide_eq_true (by first | (with_reducible assumption) | assumption))
            replace q8 := eq_true q8
            go_wp2
            go_meet
            case rel => exact ⟨_, (((bt a0 0) == 48)), (by first | rfl | (simp; done) | (simp [*]; done)), H', ⟨by first | omega | exact Nat.le_refl _⟩, by repeat (first | exact Drawn0.refl _ | apply Drawn0.step)⟩
          · rw [if_neg c7] at H
            exact absurd H (by simp)
        · rw [if_neg c6] at H
          have c6b0 : decide (1 < t102) = false := decide_eq_false c6
          clear c6
          have H' := Aside0.mk H
          clear H
          go_wp2
          go_meet
          case rel => exact ⟨_, (false), (by first | rfl | (simp; done) | (simp [*]; done)), H', ⟨by first | omega | exact Nat.le_refl _⟩, by repeat (first | exact Drawn0.refl _ | apply Drawn0.step)⟩
  case rest =>
    clear HC3
    try clear c1
    try clear p2
    try clear c4
    try clear c4b0
    try clear c4b1
    try clear c5
    try clear c5b0
    try clear c5b1
    try clear c6
    try clear c6b0
    try clear c7
    try clear c7b0
    try clear c7b1
    try clear p8
    try clear q8
    try clear hx8
    try clear qi8
    try clear p8
    try clear q8
    obtain ⟨kq, x25_2, rfl, HA, HJ2, ⟨mc2, rfl⟩⟩ := hcut
    cases kq with
    | zero => exact absurd HA.out (by simp [spec_LangNumOk.j0])
    | succ kj2 =>
      have H := HA.out
      clear HA
      simp only [spec_LangNumOk.j0] at H
      by_cases c9 : x25_2 = true
      · subst c9
        have H1 : (some false) = some r := by rw [if_pos rfl] at H; exact H
        clear H
        have H := H1
        clear H1
        obtain rfl := Option.some.inj H
        go_wp2
        go_ret
        exact ⟨by first | rfl | (simp; done) | (simp [*]; done), by repeat (first | exact Drawn0.refl _ | apply Drawn0.step)⟩
      · replace c9 := Bool.eq_false_iff.mpr c9
        subst c9
        have H1 : (if t102 < (a0.size : Int) then (if 0 ≤ t102 then (spec_LangNumOk.j1 kj2 a0 t102 ((bt a0 t102) == 46)) else (none)) else (spec_LangNumOk.j1 kj2 a0 t102 false)) = some r := by rw [if_neg (show ¬ (false = true) by decide)] at H; exact H
        clear H
        have H := H1
        clear H1
        have HC10 := Aside0.mk H
        clear H
        go_upto_region 5 with (fail)
        go_cut [36] (fun v36 wc => ∃ (kq : Nat) (x36_9 : Bool), v36 = .bool x36_9 ∧ Aside0 (spec_LangNumOk.j1 kq a0 t102 x36_9 = some r) ∧ Aside0 (kq ≤ kj2) ∧ Drawn0 w wc)
        case first =>
          have H := HC10.out
          clear HC10
          by_cases c11 : t102 < (a0.size : Int)
          · rw [if_pos c11] at H
            have c11b0 : decide (t102 < (a0.size : Int)) = true := decide_eq_true c11
            clear c11
            (first | rw [c11b0] | (simp only [i64_w, i32_w]; rw [c11b0]) | skip)
            by_cases c12 : 0 ≤ t102
            · rw [if_pos c12] at H
              have c12b0 : decide (0 ≤ t102) = true := decide_eq_true c12
              clear c12
              have H' := Aside0.mk H
              clear H
              have p13 : 0 ≤ (t102 : Int) := of_decide_eq_true (by first | (with_reducible assumption) | assumption)
              have q13 : t102 < (a0.size : Int) := of_decide_eq_true (by first | (with_reducible assumption) | assumption)
              have hx13 := bt_at a0 t102
              replace p13 := eq_true p13
              replace q13 := eq_true q13
              go_wp2
              go_meet
              case rel => exact ⟨_, (((bt a0 t102) == 46)), (by first | rfl | (simp; done) | (simp [*]; done)), H', ⟨by have := HJ2.out; first | omega | exact Nat.le_refl _⟩, by repeat (first | exact Drawn0.refl _ | apply Drawn0.step)⟩
            · rw [if_neg c12] at H
              exact absurd H (by simp)
          · rw [if_neg c11] at H
            have c11b0 : decide (t102 < (a0.size : Int)) = false := decide_eq_false c11
            clear c11
            (first | rw [c11b0] | (simp only [i64_w, i32_w]; rw [c11b0]) | skip)
            have H' := Aside0.mk H
            clear H
            go_wp2
            go_meet
            case rel => exact ⟨_, (false), (by first | rfl | (simp; done) | (simp [*]; done)), H', ⟨by have := HJ2.out; first | omega | exact Nat.le_refl _⟩, by repeat (first | exact Drawn0.refl _ | apply Drawn0.step)⟩
        case rest =>
          clear HC10
          try clear c1
          try clear p1
          try clear q1
          try clear hx1
          try clear c2
          try clear p2
          try clear c4
          try clear c4b0
          try clear c4b1
          try clear c5
          try clear c5b0
          try clear c5b1
          try clear c6
          try clear c6b0
          try clear c7
          try clear c7b0
          try clear c7b1
          try clear p8
          try clear q8
          try clear hx8
          try clear qi8
          try clear c9
          try clear c11
          try clear c11b0
          try clear c12
          try clear c12b0
          try clear p13
          try clear q13
          try clear hx13
          try clear p13
          try clear p2
          try clear p8
          try clear q13
          try clear q8
          obtain ⟨kq, x36_9, rfl, HA, HJ9, ⟨mc9, rfl⟩⟩ := hcut
          cases kq with
          | zero => exact absurd HA.out (by simp [spec_LangNumOk.j1])
          | succ kj9 =>
            have H := HA.out
            clear HA
            simp only [spec_LangNumOk.j1] at H
            have HC14 := Aside0.mk H
            clear H
            go_upto_if 36 with (fail)
            go_cut [4] (fun v4 wc => ∃ (kq : Nat) (x4_13 : Int), v4 = .int .i64 x4_13 ∧ Aside0 (spec_LangNumOk.j2 kq a0 x4_13 = some r) ∧ Aside0 (kq ≤ kj9) ∧ Drawn0 w wc)
            case first =>
              have H := HC14.out
              clear HC14
              by_cases c15 : x36_9 = true
              · subst c15
                have H1 : ((spec_l11Run.f kj9 a0 (wrap64 (t102 + 1))).bind fun t103 => (if t103 = 0 then (some false) else (spec_LangNumOk.j2 kj9 a0 (wrap64 ((wrap64 (t102 + 1)) + t103))))) = some r := by rw [if_pos rfl] at H; exact H
                clear H
                have H := H1
                clear H1
                replace H := Option.bind_eq_some_iff.mp H
                obtain ⟨t103, A160, H⟩ := H
                replace H : (if t103 = 0 then (some false) else (spec_LangNumOk.j2 kj9 a0 (wrap64 ((wrap64 (t102 + 1)) + t103)))) = some r := H
                have A16 := Aside0.mk A160
                clear A160
                by_cases c17 : t103 = 0
                · rw [if_pos c17] at H
                  have c17b0 : (t103 == 0) = true := beq_iff_eq.mpr c17
                  have c17b1 : (t103 != 0) = false := bne_eq_false_iff_eq.mpr c17
                  clear c17
                  (first | rw [c17b0] | (simp only [i64_w, i32_w]; rw [c17b0]) | skip)
                  obtain rfl := Option.some.inj H
                  go_wp2_with (first | ((with_reducible refine gate_callee (f := 15) rfl ?_); refine goesL_ (some 40) rfl rfl Tryd.func15 (by kernel_rfl) rfl #[.string a0, .int .i64 (wrap64 (t102 + 1))] rfl (by (try simp only [List.map_toArray, List.map_cons, List.map_nil]); first | done | rfl | (simp only [List.length_drop, List.length_take]; rfl)) ?_; (with_reducible refine (spec_l11Run.calls kj9 a0 (wrap64 (t102 + 1)) t103 _ A16.out).mono ?_); rintro e w' ⟨rfl, ⟨nd, rfl⟩⟩; refine ⟨_, rfl, ?_⟩))
                  go_ret
                  exact ⟨by first | rfl | (simp; done) | (simp [*]; done), by repeat (first | exact Drawn0.refl _ | apply Drawn0.step)⟩
                · rw [if_neg c17] at H
                  have c17b0 : (t103 == 0) = false := beq_eq_false_iff_ne.mpr c17
                  have c17b1 : (t103 != 0) = true := bne_iff_ne.mpr c17
                  (first | rw [c17b0] | (simp only [i64_w, i32_w]; rw [c17b0]) | skip)
                  have H' := Aside0.mk H
                  clear H
                  go_wp2_with (first | ((with_reducible refine gate_callee (f := 15) rfl ?_); refine goesL_ (some 40) rfl rfl Tryd.func15 (by kernel_rfl) rfl #[.string a0, .int .i64 (wrap64 (t102 + 1))] rfl (by (try simp only [List.map_toArray, List.map_cons, List.map_nil]); first | done | rfl | (simp only [List.length_drop, List.length_take]; rfl)) ?_; (with_reducible refine (spec_l11Run.calls kj9 a0 (wrap64 (t102 + 1)) t103 _ A16.out).mono ?_); rintro e w' ⟨rfl, ⟨nd, rfl⟩⟩; refine ⟨_, rfl, ?_⟩))
                  go_meet
                  case rel => exact ⟨_, (wrap64 ((wrap64 (t102 + 1)) + t103)), (by first | rfl | (simp; done) | (simp [*]; done)), H', ⟨by have := HJ2.out; have := HJ9.out; first | omega | exact Nat.le_refl _⟩, by repeat (first | exact Drawn0.refl _ | apply Drawn0.step)⟩
              · replace c15 := Bool.eq_false_iff.mpr c15
                subst c15
                have H1 : (spec_LangNumOk.j2 kj9 a0 t102) = some r := by rw [if_neg (show ¬ (false = true) by decide)] at H; exact H
                clear H
                have H := H1
                clear H1
                have H' := Aside0.mk H
                clear H
                go_wp2
                go_meet
                case rel => exact ⟨_, (t102), (by first | rfl | (simp; done) | (simp [*]; done)), H', ⟨by have := HJ2.out; have := HJ9.out; first | omega | exact Nat.le_refl _⟩, by repeat (first | exact Drawn0.refl _ | apply Drawn0.step)⟩
            case rest =>
              clear HC14
              try clear c1
              try clear p1
              try clear q1
              try clear hx1
              try clear c2
              try clear p2
              try clear c4
              try clear c4b0
              try clear c4b1
              try clear c5
              try clear c5b0
              try clear c5b1
              try clear c6
              try clear c6b0
              try clear p6
              try clear c7
              try clear c7b0
              try clear c7b1
              try clear p8
              try clear q8
              try clear hx8
              try clear qi8
              try clear c9
              try clear c11
              try clear c11b0
              try clear c12
              try clear c12b0
              try clear p13
              try clear q13
              try clear hx13
              try clear c15
              try clear c17
              try clear c17b0
              try clear c17b1
              try clear p1
              try clear p13
              try clear p2
              try clear p8
              try clear q1
              try clear q13
              try clear q8
              obtain ⟨kq, x4_13, rfl, HA, HJ13, ⟨mc13, rfl⟩⟩ := hcut
              cases kq with
              | zero => exact absurd HA.out (by simp [spec_LangNumOk.j2])
              | succ kj13 =>
                have H := HA.out
                clear HA
                simp only [spec_LangNumOk.j2] at H
                have HC18 := Aside0.mk H
                clear H
                go_upto_region 10 with (fail)
                go_cut [56] (fun v56 wc => ∃ (kq : Nat) (x56_17 : Bool), v56 = .bool x56_17 ∧ Aside0 (spec_LangNumOk.j3 kq a0 x4_13 x56_17 = some r) ∧ Aside0 (kq ≤ kj13) ∧ Drawn0 w wc)
                case first =>
                  have H := HC18.out
                  clear HC18
                  by_cases c19 : x4_13 < (a0.size : Int)
                  · rw [if_pos c19] at H
                    have c19b0 : decide (x4_13 < (a0.size : Int)) = true := decide_eq_true c19
                    clear c19
                    (first | rw [c19b0] | (simp only [i64_w, i32_w]; rw [c19b0]) | skip)
                    by_cases c20 : 0 ≤ x4_13
                    · rw [if_pos c20] at H
                      have c20b0 : decide (0 ≤ x4_13) = true := decide_eq_true c20
                      clear c20
                      have H' := Aside0.mk H
                      clear H
                      have p21 : 0 ≤ (x4_13 : Int) := of_decide_eq_true (by first | (with_reducible assumption) | assumption)
                      have q21 : x4_13 < (a0.size : Int) := of_decide_eq_true (by first | (with_reducible assumption) | assumption)
                      have hx21 := bt_at a0 x4_13
                      replace p21 := eq_true p21
                      replace q21 := eq_true q21
                      go_wp2
                      go_meet
                      case rel => exact ⟨_, (((bt a0 x4_13) == 101)), (by first | rfl | (simp; done) | (simp [*]; done)), H', ⟨by have := HJ2.out; have := HJ9.out; have := HJ13.out; first | omega | exact Nat.le_refl _⟩, by repeat (first | exact Drawn0.refl _ | apply Drawn0.step)⟩
                    · rw [if_neg c20] at H
                      exact absurd H (by simp)
                  · rw [if_neg c19] at H
                    have c19b0 : decide (x4_13 < (a0.size : Int)) = false := decide_eq_false c19
                    clear c19
                    (first | rw [c19b0] | (simp only [i64_w, i32_w]; rw [c19b0]) | skip)
                    have H' := Aside0.mk H
                    clear H
                    go_wp2
                    go_meet
                    case rel => exact ⟨_, (false), (by first | rfl | (simp; done) | (simp [*]; done)), H', ⟨by have := HJ2.out; have := HJ9.out; have := HJ13.out; first | omega | exact Nat.le_refl _⟩, by repeat (first | exact Drawn0.refl _ | apply Drawn0.step)⟩
                case rest =>
                  clear HC18
                  try clear c1
                  try clear p1
                  try clear q1
                  try clear hx1
                  try clear c2
                  try clear p2
                  try clear q2
                  try clear hx2
                  try clear c4
                  try clear c4b0
                  try clear c4b1
                  try clear c5
                  try clear c5b0
                  try clear c5b1
                  try clear c6
                  try clear c6b0
                  try clear p6
                  try clear c7
                  try clear c7b0
                  try clear c7b1
                  try clear p8
                  try clear q8
                  try clear hx8
                  try clear qi8
                  try clear c9
                  try clear c11
                  try clear c11b0
                  try clear c12
                  try clear c12b0
                  try clear c13
                  try clear p13
                  try clear q13
                  try clear hx13
                  try clear c15
                  try clear c17
                  try clear c17b0
                  try clear c17b1
                  try clear c19
                  try clear c19b0
                  try clear c20
                  try clear c20b0
                  try clear p21
                  try clear q21
                  try clear hx21
                  try clear p1
                  try clear p13
                  try clear p2
                  try clear p21
                  try clear p6
                  try clear p8
                  try clear q1
                  try clear q13
                  try clear q21
                  try clear q8
                  obtain ⟨kq, x56_17, rfl, HA, HJ17, ⟨mc17, rfl⟩⟩ := hcut
                  cases kq with
                  | zero => exact absurd HA.out (by simp [spec_LangNumOk.j3])
                  | succ kj17 =>
                    have H := HA.out
                    clear HA
                    simp only [spec_LangNumOk.j3] at H
                    by_cases c22 : x56_17 = true
                    · subst c22
                      have H1 : (if (wrap64 (x4_13 + 1)) < (a0.size : Int) then (if 0 ≤ (wrap64 (x4_13 + 1)) then (spec_LangNumOk.j4 kj17 a0 (wrap64 (x4_13 + 1)) ((bt a0 (wrap64 (x4_13 + 1))) == 45)) else (none)) else (spec_LangNumOk.j4 kj17 a0 (wrap64 (x4_13 + 1)) false)) = some r := by rw [if_pos rfl] at H; exact H
                      clear H
                      have H := H1
                      clear H1
                      have HC23 := Aside0.mk H
                      clear H
                      go_upto_region 12 with (fail)
                      go_cut [6] (fun v6 wc => ∃ (kq : Nat) (x6_22 : Bool), v6 = .bool x6_22 ∧ Aside0 (spec_LangNumOk.j4 kq a0 (wrap64 (x4_13 + 1)) x6_22 = some r) ∧ Aside0 (kq ≤ kj17) ∧ Drawn0 w wc)
                      case first =>
                        have H := HC23.out
                        clear HC23
                        by_cases c24 : (wrap64 (x4_13 + 1)) < (a0.size : Int)
                        · rw [if_pos c24] at H
                          have c24b0 : decide ((wrap64 (x4_13 + 1)) < (a0.size : Int)) = true := decide_eq_true c24
                          clear c24
                          (first | rw [c24b0] | (simp only [i64_w, i32_w]; rw [c24b0]) | skip)
                          obtain ⟨ji25, hji25⟩ : ∃ j_ : Int, (wrap64 (x4_13 + 1)) = j_ := ⟨_, rfl⟩
                          replace H : (if 0 ≤ (ji25) then (spec_LangNumOk.j4 kj17 a0 ji25 ((bt a0 (ji25)) == 45)) else (none)) = some r := by first | (rw [hji25] at H; exact H) | (simp only [hji25] at H ⊢; exact H)
                          (try rw [hji25] at c24b0)
                          have hji25w : (IntKind.i64.wrap (x4_13 + 1)) = ji25 := (i64_w _).trans hji25
                          by_cases c26 : 0 ≤ (ji25)
                          · rw [if_pos c26] at H
                            have c26b0 : decide (0 ≤ (ji25)) = true := decide_eq_true c26
                            clear c26
                            have H' := Aside0.mk H
                            clear H
                            have p27 : 0 ≤ ((ji25) : Int) := of_decide_eq_true (by first | (with_reducible assumption) | assumption)
                            have q27 : (ji25) < (a0.size : Int) := of_decide_eq_true (by first | (with_reducible assumption) | assumption)
                            have hx27 := bt_at a0 (ji25)
                            replace p27 := eq_true p27
                            replace q27 := eq_true q27
                            go_wp2
                            go_meet
                            case rel => exact ⟨_, (((bt a0 (ji25)) == 45)), (by first | rfl | (simp; done) | (simp only [← hji25] <;> (first | rfl | simp)) | (simp [*]; done)), (by first | exact H' | (rw [hji25]; exact H')), ⟨by have := HJ2.out; have := HJ9.out; have := HJ13.out; have := HJ17.out; first | omega | exact Nat.le_refl _⟩, by repeat (first | exact Drawn0.refl _ | apply Drawn0.step)⟩
                          · rw [if_neg c26] at H
                            exact absurd H (by simp)
                        · rw [if_neg c24] at H
                          have c24b0 : decide ((wrap64 (x4_13 + 1)) < (a0.size : Int)) = false := decide_eq_false c24
                          clear c24
                          (first | rw [c24b0] | (simp only [i64_w, i32_w]; rw [c24b0]) | skip)
                          have H' := Aside0.mk H
                          clear H
                          go_wp2
                          go_meet
                          case rel => exact ⟨_, (false), (by first | rfl | (simp; done) | (simp [*]; done)), H', ⟨by have := HJ2.out; have := HJ9.out; have := HJ13.out; have := HJ17.out; first | omega | exact Nat.le_refl _⟩, by repeat (first | exact Drawn0.refl _ | apply Drawn0.step)⟩
                      case rest =>
                        clear HC23
                        try clear c1
                        try clear p1
                        try clear q1
                        try clear hx1
                        try clear c2
                        try clear p2
                        try clear q2
                        try clear hx2
                        try clear c4
                        try clear c4b0
                        try clear c4b1
                        try clear c5
                        try clear c5b0
                        try clear c5b1
                        try clear c6
                        try clear c6b0
                        try clear p6
                        try clear c7
                        try clear c7b0
                        try clear c7b1
                        try clear p8
                        try clear q8
                        try clear hx8
                        try clear qi8
                        try clear c9
                        try clear c11
                        try clear c11b0
                        try clear c12
                        try clear c12b0
                        try clear c13
                        try clear p13
                        try clear q13
                        try clear hx13
                        try clear c15
                        try clear c17
                        try clear c17b0
                        try clear c17b1
                        try clear c19
                        try clear c19b0
                        try clear c20
                        try clear c20b0
                        try clear p21
                        try clear q21
                        try clear hx21
                        try clear c22
                        try clear c24
                        try clear c24b0
                        try clear c26
                        try clear c26b0
                        try clear p27
                        try clear q27
                        try clear hx27
                        try clear p1
                        try clear p13
                        try clear p2
                        try clear p21
                        try clear p27
                        try clear p6
                        try clear p8
                        try clear q1
                        try clear q13
                        try clear q2
                        try clear q21
                        try clear q27
                        try clear q8
                        obtain ⟨kq, x6_22, rfl, HA, HJ22, ⟨mc22, rfl⟩⟩ := hcut
                        cases kq with
                        | zero => exact absurd HA.out (by simp [spec_LangNumOk.j4])
                        | succ kj22 =>
                          have H := HA.out
                          clear HA
                          simp only [spec_LangNumOk.j4] at H
                          by_cases c28 : x6_22 = true
                          · subst c28
                            have H1 : ((spec_l11Run.f kj22 a0 (wrap64 ((wrap64 (x4_13 + 1)) + 1))).bind fun t104 => (if t104 = 0 then (some false) else (if t104 > 3 then (some false) else (if 0 ≤ (wrap64 ((wrap64 (x4_13 + 1)) + 1)) then (if (wrap64 ((wrap64 (x4_13 + 1)) + 1)) < (a0.size : Int) then (if (bt a0 (wrap64 ((wrap64 (x4_13 + 1)) + 1))) = 48 then (if t104 > 1 then (some false) else (some false)) else (if t104 = 3 then (if (wrap64 ((wrap64 (x4_13 + 1)) + 1)) ≤ (wrap64 ((wrap64 ((wrap64 (x4_13 + 1)) + 1)) + t104)) then (if (wrap64 ((wrap64 ((wrap64 (x4_13 + 1)) + 1)) + t104)) ≤ (a0.size : Int) then (if (Op.bytesLess ([52, 48, 48] : List UInt8) ((a0.extract ((wrap64 ((wrap64 (x4_13 + 1)) + 1)) : Int).toNat ((wrap64 ((wrap64 ((wrap64 (x4_13 + 1)) + 1)) + t104)) : Int).toNat).toList)) = true then (some false) else (some ((wrap64 ((wrap64 ((wrap64 (x4_13 + 1)) + 1)) + t104)) == (a0.size : Int)))) else (none)) else (none)) else (some ((wrap64 ((wrap64 ((wrap64 (x4_13 + 1)) + 1)) + t104)) == (a0.size : Int))))) else (none)) else (none))))) = some r := by rw [if_pos rfl] at H; exact H
                            clear H
                            have H := H1
                            clear H1
                            replace H := Option.bind_eq_some_iff.mp H
                            obtain ⟨t104, A290, H⟩ := H
                            replace H : (if t104 = 0 then (some false) else (if t104 > 3 then (some false) else (if 0 ≤ (wrap64 ((wrap64 (x4_13 + 1)) + 1)) then (if (wrap64 ((wrap64 (x4_13 + 1)) + 1)) < (a0.size : Int) then (if (bt a0 (wrap64 ((wrap64 (x4_13 + 1)) + 1))) = 48 then (if t104 > 1 then (some false) else (some false)) else (if t104 = 3 then (if (wrap64 ((wrap64 (x4_13 + 1)) + 1)) ≤ (wrap64 ((wrap64 ((wrap64 (x4_13 + 1)) + 1)) + t104)) then (if (wrap64 ((wrap64 ((wrap64 (x4_13 + 1)) + 1)) + t104)) ≤ (a0.size : Int) then (if (Op.bytesLess ([52, 48, 48] : List UInt8) ((a0.extract ((wrap64 ((wrap64 (x4_13 + 1)) + 1)) : Int).toNat ((wrap64 ((wrap64 ((wrap64 (x4_13 + 1)) + 1)) + t104)) : Int).toNat).toList)) = true then (some false) else (some ((wrap64 ((wrap64 ((wrap64 (x4_13 + 1)) + 1)) + t104)) == (a0.size : Int)))) else (none)) else (none)) else (some ((wrap64 ((wrap64 ((wrap64 (x4_13 + 1)) + 1)) + t104)) == (a0.size : Int))))) else (none)) else (none)))) = some r := H
                            have A29 := Aside0.mk A290
                            clear A290
                            by_cases c30 : t104 = 0
                            · rw [if_pos c30] at H
                              have c30b0 : (t104 == 0) = true := beq_iff_eq.mpr c30
                              have c30b1 : (t104 != 0) = false := bne_eq_false_iff_eq.mpr c30
                              clear c30
                              obtain rfl := Option.some.inj H
                              go_wp2_with (first | ((with_reducible refine gate_callee (f := 15) rfl ?_); refine goesL_ (some 74) rfl rfl Tryd.func15 (by kernel_rfl) rfl #[.string a0, .int .i64 (wrap64 ((wrap64 (x4_13 + 1)) + 1))] rfl (by (try simp only [List.map_toArray, List.map_cons, List.map_nil]); first | done | rfl | (simp only [List.length_drop, List.length_take]; rfl)) ?_; (with_reducible refine (spec_l11Run.calls kj22 a0 (wrap64 ((wrap64 (x4_13 + 1)) + 1)) t104 _ A29.out).mono ?_); rintro e w' ⟨rfl, ⟨nd, rfl⟩⟩; refine ⟨_, rfl, ?_⟩))
                              go_ret
                              exact ⟨by first | rfl | (simp; done) | (simp [*]; done), by repeat (first | exact Drawn0.refl _ | apply Drawn0.step)⟩
                            · rw [if_neg c30] at H
                              have c30b0 : (t104 == 0) = false := beq_eq_false_iff_ne.mpr c30
                              have c30b1 : (t104 != 0) = true := bne_iff_ne.mpr c30
                              by_cases c31 : t104 > 3
                              · rw [if_pos c31] at H
                                have c31b0 : decide (3 < t104) = true := decide_eq_true c31
                                clear c31
                                obtain rfl := Option.some.inj H
                                go_wp2_with (first | ((with_reducible refine gate_callee (f := 15) rfl ?_); refine goesL_ (some 74) rfl rfl Tryd.func15 (by kernel_rfl) rfl #[.string a0, .int .i64 (wrap64 ((wrap64 (x4_13 + 1)) + 1))] rfl (by (try simp only [List.map_toArray, List.map_cons, List.map_nil]); first | done | rfl | (simp only [List.length_drop, List.length_take]; rfl)) ?_; (with_reducible refine (spec_l11Run.calls kj22 a0 (wrap64 ((wrap64 (x4_13 + 1)) + 1)) t104 _ A29.out).mono ?_); rintro e w' ⟨rfl, ⟨nd, rfl⟩⟩; refine ⟨_, rfl, ?_⟩))
                                go_ret
                                exact ⟨by first | rfl | (simp; done) | (simp [*]; done), by repeat (first | exact Drawn0.refl _ | apply Drawn0.step)⟩
                              · rw [if_neg c31] at H
                                have c31b0 : decide (3 < t104) = false := decide_eq_false c31
                                clear c31
                                obtain ⟨ji32, hji32⟩ : ∃ j_ : Int, (wrap64 ((wrap64 (x4_13 + 1)) + 1)) = j_ := ⟨_, rfl⟩
                                replace H : (if 0 ≤ (ji32) then (if (ji32) < (a0.size : Int) then (if (bt a0 (ji32)) = 48 then (if t104 > 1 then (some false) else (some false)) else (if t104 = 3 then (if (ji32) ≤ (wrap64 ((ji32) + t104)) then (if (wrap64 ((ji32) + t104)) ≤ (a0.size : Int) then (if (Op.bytesLess ([52, 48, 48] : List UInt8) ((a0.extract ((ji32) : Int).toNat ((wrap64 ((ji32) + t104)) : Int).toNat).toList)) = true then (some false) else (some ((wrap64 ((ji32) + t104)) == (a0.size : Int)))) else (none)) else (none)) else (some ((wrap64 ((ji32) + t104)) == (a0.size : Int))))) else (none)) else (none)) = some r := by first | (rw [hji32] at H; exact H) | (simp only [hji32] at H ⊢; exact H)
                                (try rw [hji32] at A29)
                                have hji32w : (IntKind.i64.wrap ((wrap64 (x4_13 + 1)) + 1)) = ji32 := (i64_w _).trans hji32
                                by_cases c33 : 0 ≤ (ji32)
                                · rw [if_pos c33] at H
                                  have c33b0 : decide (0 ≤ (ji32)) = true := decide_eq_true c33
                                  clear c33
                                  by_cases c34 : (ji32) < (a0.size : Int)
                                  · rw [if_pos c34] at H
                                    have c34b0 : decide ((ji32) < (a0.size : Int)) = true := decide_eq_true c34
                                    clear c34
                                    by_cases c36 : (bt a0 (ji32)) = 48
                                    · rw [if_pos c36] at H
                                      have c36b0 : ((bt a0 (ji32)) == 48) = true := beq_iff_eq.mpr c36
                                      have c36b1 : ((bt a0 (ji32)) != 48) = false := bne_eq_false_iff_eq.mpr c36
                                      clear c36
                                      by_cases c37 : t104 > 1
                                      · rw [if_pos c37] at H
                                        have c37b0 : decide (1 < t104) = true := decide_eq_true c37
                                        clear c37
                                        obtain rfl := Option.some.inj H
                                        go_wp2_with (first | ((with_reducible refine gate_callee (f := 15) rfl ?_); refine goesL_ (some 74) rfl rfl Tryd.func15 (by kernel_rfl) rfl #[.string a0, .int .i64 ji32] rfl (by (try simp only [List.map_toArray, List.map_cons, List.map_nil]); first | done | (simp only [hji32]; rfl) | rfl | (simp only [List.length_drop, List.length_take]; rfl)) ?_; (with_reducible refine (spec_l11Run.calls kj22 a0 ji32 t104 _ A29.out).mono ?_); rintro e w' ⟨rfl, ⟨nd, rfl⟩⟩; refine ⟨_, rfl, ?_⟩; have p35 : 0 ≤ ((ji32) : Int) := of_decide_eq_true (by first | (with_reducible assumption) | assumption); have q35 : (ji32) < (a0.size : Int) := of_decide_eq_true (by first | (with_reducible assumption) | assumption); have hx35 := bt_at a0 (ji32); replace p35 := eq_true p35; replace q35 := eq_true q35))
                                        go_ret
                                        exact ⟨by first | rfl | (simp; done) | (simp only [← hji32] <;> (first | rfl | simp)) | (simp [*]; done), by repeat (first | exact Drawn0.refl _ | apply Drawn0.step)⟩
                                      · rw [if_neg c37] at H
                                        have c37b0 : decide (1 < t104) = false := decide_eq_false c37
                                        clear c37
                                        obtain rfl := Option.some.inj H
                                        go_wp2_with (first | ((with_reducible refine gate_callee (f := 15) rfl ?_); refine goesL_ (some 74) rfl rfl Tryd.func15 (by kernel_rfl) rfl #[.string a0, .int .i64 ji32] rfl (by (try simp only [List.map_toArray, List.map_cons, List.map_nil]); first | done | (simp only [hji32]; rfl) | rfl | (simp only [List.length_drop, List.length_take]; rfl)) ?_; (with_reducible refine (spec_l11Run.calls kj22 a0 ji32 t104 _ A29.out).mono ?_); rintro e w' ⟨rfl, ⟨nd, rfl⟩⟩; refine ⟨_, rfl, ?_⟩; have p35 : 0 ≤ ((ji32) : Int) := of_decide_eq_true (by first | (with_reducible assumption) | assumption); have q35 : (ji32) < (a0.size : Int) := of_decide_eq_true (by first | (with_reducible assumption) | assumption); have hx35 := bt_at a0 (ji32); replace p35 := eq_true p35; replace q35 := eq_true q35))
                                        go_ret
                                        exact ⟨by first | rfl | (simp; done) | (simp only [← hji32] <;> (first | rfl | simp)) | (simp [*]; done), by repeat (first | exact Drawn0.refl _ | apply Drawn0.step)⟩
                                    · rw [if_neg c36] at H
                                      have c36b0 : ((bt a0 (ji32)) == 48) = false := beq_eq_false_iff_ne.mpr c36
                                      have c36b1 : ((bt a0 (ji32)) != 48) = true := bne_iff_ne.mpr c36
                                      by_cases c38 : t104 = 3
                                      · rw [if_pos c38] at H
                                        have c38b0 : (t104 == 3) = true := beq_iff_eq.mpr c38
                                        have c38b1 : (t104 != 3) = false := bne_eq_false_iff_eq.mpr c38
                                        clear c38
                                        have c39b0 := eq_true (of_decide_eq_true (by first | (with_reducible assumption) | assumption) : 0 ≤ (ji32))
                                        by_cases c40 : (ji32) ≤ (wrap64 ((ji32) + t104))
                                        · rw [if_pos c40] at H
                                          have c40b0 := eq_true c40
                                          have c40b1 : decide ((ji32) ≤ (wrap64 ((ji32) + t104))) = true := decide_eq_true c40
                                          by_cases c41 : (wrap64 ((ji32) + t104)) ≤ (a0.size : Int)
                                          · rw [if_pos c41] at H
                                            have c41b0 := eq_true c41
                                            have c41b1 : decide ((wrap64 ((ji32) + t104)) ≤ (a0.size : Int)) = true := decide_eq_true c41
                                            by_cases c42 : (Op.bytesLess ([52, 48, 48] : List UInt8) ((a0.extract ((ji32) : Int).toNat ((wrap64 ((ji32) + t104)) : Int).toNat).toList)) = true
                                            · rw [if_pos c42] at H
                                              have c42b0 : (Op.bytesLess ([52, 48, 48] : List UInt8) ((a0.extract ((ji32) : Int).toNat ((wrap64 ((ji32) + t104)) : Int).toNat).toList)) = true := c42
                                              clear c42
                                              obtain rfl := Option.some.inj H
                                              go_wp2_with (first | ((with_reducible refine gate_callee (f := 15) rfl ?_); refine goesL_ (some 74) rfl rfl Tryd.func15 (by kernel_rfl) rfl #[.string a0, .int .i64 ji32] rfl (by (try simp only [List.map_toArray, List.map_cons, List.map_nil]); first | done | (simp only [hji32]; rfl) | rfl | (simp only [List.length_drop, List.length_take]; rfl)) ?_; (with_reducible refine (spec_l11Run.calls kj22 a0 ji32 t104 _ A29.out).mono ?_); rintro e w' ⟨rfl, ⟨nd, rfl⟩⟩; refine ⟨_, rfl, ?_⟩; have p35 : 0 ≤ ((ji32) : Int) := of_decide_eq_true (by first | (with_reducible assumption) | assumption); have q35 : (ji32) < (a0.size : Int) := of_decide_eq_true (by first | (with_reducible assumption) | assumption); have hx35 := bt_at a0 (ji32); replace p35 := eq_true p35; replace q35 := eq_true q35))
                                              go_ret
                                              exact ⟨by first | rfl | (simp; done) | (simp only [← hji32] <;> (first | rfl | simp)) | (simp [*]; done), by repeat (first | exact Drawn0.refl _ | apply Drawn0.step)⟩
                                            · rw [if_neg c42] at H
                                              have c42b0 : (Op.bytesLess ([52, 48, 48] : List UInt8) ((a0.extract ((ji32) : Int).toNat ((wrap64 ((ji32) + t104)) : Int).toNat).toList)) = false := by simpa using c42
                                              clear c42
                                              obtain rfl := Option.some.inj H
                                              go_wp2_with (first | ((with_reducible refine gate_callee (f := 15) rfl ?_); refine goesL_ (some 74) rfl rfl Tryd.func15 (by kernel_rfl) rfl #[.string a0, .int .i64 ji32] rfl (by (try simp only [List.map_toArray, List.map_cons, List.map_nil]); first | done | (simp only [hji32]; rfl) | rfl | (simp only [List.length_drop, List.length_take]; rfl)) ?_; (with_reducible refine (spec_l11Run.calls kj22 a0 ji32 t104 _ A29.out).mono ?_); rintro e w' ⟨rfl, ⟨nd, rfl⟩⟩; refine ⟨_, rfl, ?_⟩; have p35 : 0 ≤ ((ji32) : Int) := of_decide_eq_true (by first | (with_reducible assumption) | assumption); have q35 : (ji32) < (a0.size : Int) := of_decide_eq_true (by first | (with_reducible assumption) | assumption); have hx35 := bt_at a0 (ji32); replace p35 := eq_true p35; replace q35 := eq_true q35))
                                              go_ret
                                              exact ⟨by first | rfl | (simp; done) | (simp only [← hji32] <;> (first | rfl | simp)) | (simp [*]; done), by repeat (first | exact Drawn0.refl _ | apply Drawn0.step)⟩
                                          · rw [if_neg c41] at H
                                            exact absurd H (by simp)
                                        · rw [if_neg c40] at H
                                          exact absurd H (by simp)
                                      · rw [if_neg c38] at H
                                        have c38b0 : (t104 == 3) = false := beq_eq_false_iff_ne.mpr c38
                                        have c38b1 : (t104 != 3) = true := bne_iff_ne.mpr c38
                                        obtain rfl := Option.some.inj H
                                        go_wp2_with (first | ((with_reducible refine gate_callee (f := 15) rfl ?_); refine goesL_ (some 74) rfl rfl Tryd.func15 (by kernel_rfl) rfl #[.string a0, .int .i64 ji32] rfl (by (try simp only [List.map_toArray, List.map_cons, List.map_nil]); first | done | (simp only [hji32]; rfl) | rfl | (simp only [List.length_drop, List.length_take]; rfl)) ?_; (with_reducible refine (spec_l11Run.calls kj22 a0 ji32 t104 _ A29.out).mono ?_); rintro e w' ⟨rfl, ⟨nd, rfl⟩⟩; refine ⟨_, rfl, ?_⟩; have p35 : 0 ≤ ((ji32) : Int) := of_decide_eq_true (by first | (with_reducible assumption) | assumption); have q35 : (ji32) < (a0.size : Int) := of_decide_eq_true (by first | (with_reducible assumption) | assumption); have hx35 := bt_at a0 (ji32); replace p35 := eq_true p35; replace q35 := eq_true q35))
                                        go_ret
                                        exact ⟨by first | rfl | (simp; done) | (simp only [← hji32] <;> (first | rfl | simp)) | (simp [*]; done), by repeat (first | exact Drawn0.refl _ | apply Drawn0.step)⟩
                                  · rw [if_neg c34] at H
                                    exact absurd H (by simp)
                                · rw [if_neg c33] at H
                                  exact absurd H (by simp)
                          · replace c28 := Bool.eq_false_iff.mpr c28
                            subst c28
                            have H1 : ((spec_l11Run.f kj22 a0 (wrap64 (x4_13 + 1))).bind fun t105 => (if t105 = 0 then (some false) else (if t105 > 3 then (some false) else (if 0 ≤ (wrap64 (x4_13 + 1)) then (if (wrap64 (x4_13 + 1)) < (a0.size : Int) then (if (bt a0 (wrap64 (x4_13 + 1))) = 48 then (if t105 > 1 then (some false) else (if t105 = 3 then (if (wrap64 (x4_13 + 1)) ≤ (wrap64 ((wrap64 (x4_13 + 1)) + t105)) then (if (wrap64 ((wrap64 (x4_13 + 1)) + t105)) ≤ (a0.size : Int) then (if (Op.bytesLess ([52, 48, 48] : List UInt8) ((a0.extract ((wrap64 (x4_13 + 1)) : Int).toNat ((wrap64 ((wrap64 (x4_13 + 1)) + t105)) : Int).toNat).toList)) = true then (some false) else (some ((wrap64 ((wrap64 (x4_13 + 1)) + t105)) == (a0.size : Int)))) else (none)) else (none)) else (some ((wrap64 ((wrap64 (x4_13 + 1)) + t105)) == (a0.size : Int))))) else (if t105 = 3 then (if (wrap64 (x4_13 + 1)) ≤ (wrap64 ((wrap64 (x4_13 + 1)) + t105)) then (if (wrap64 ((wrap64 (x4_13 + 1)) + t105)) ≤ (a0.size : Int) then (if (Op.bytesLess ([52, 48, 48] : List UInt8) ((a0.extract ((wrap64 (x4_13 + 1)) : Int).toNat ((wrap64 ((wrap64 (x4_13 + 1)) + t105)) : Int).toNat).toList)) = true then (some false) else (some ((wrap64 ((wrap64 (x4_13 + 1)) + t105)) == (a0.size : Int)))) else (none)) else (none)) else (some ((wrap64 ((wrap64 (x4_13 + 1)) + t105)) == (a0.size : Int))))) else (none)) else (none))))) = some r := by rw [if_neg (show ¬ (false = true) by decide)] at H; exact H
                            clear H
                            have H := H1
                            clear H1
                            replace H := Option.bind_eq_some_iff.mp H
                            obtain ⟨t105, A430, H⟩ := H
                            replace H : (if t105 = 0 then (some false) else (if t105 > 3 then (some false) else (if 0 ≤ (wrap64 (x4_13 + 1)) then (if (wrap64 (x4_13 + 1)) < (a0.size : Int) then (if (bt a0 (wrap64 (x4_13 + 1))) = 48 then (if t105 > 1 then (some false) else (if t105 = 3 then (if (wrap64 (x4_13 + 1)) ≤ (wrap64 ((wrap64 (x4_13 + 1)) + t105)) then (if (wrap64 ((wrap64 (x4_13 + 1)) + t105)) ≤ (a0.size : Int) then (if (Op.bytesLess ([52, 48, 48] : List UInt8) ((a0.extract ((wrap64 (x4_13 + 1)) : Int).toNat ((wrap64 ((wrap64 (x4_13 + 1)) + t105)) : Int).toNat).toList)) = true then (some false) else (some ((wrap64 ((wrap64 (x4_13 + 1)) + t105)) == (a0.size : Int)))) else (none)) else (none)) else (some ((wrap64 ((wrap64 (x4_13 + 1)) + t105)) == (a0.size : Int))))) else (if t105 = 3 then (if (wrap64 (x4_13 + 1)) ≤ (wrap64 ((wrap64 (x4_13 + 1)) + t105)) then (if (wrap64 ((wrap64 (x4_13 + 1)) + t105)) ≤ (a0.size : Int) then (if (Op.bytesLess ([52, 48, 48] : List UInt8) ((a0.extract ((wrap64 (x4_13 + 1)) : Int).toNat ((wrap64 ((wrap64 (x4_13 + 1)) + t105)) : Int).toNat).toList)) = true then (some false) else (some ((wrap64 ((wrap64 (x4_13 + 1)) + t105)) == (a0.size : Int)))) else (none)) else (none)) else (some ((wrap64 ((wrap64 (x4_13 + 1)) + t105)) == (a0.size : Int))))) else (none)) else (none)))) = some r := H
                            have A43 := Aside0.mk A430
                            clear A430
                            by_cases c44 : t105 = 0
                            · rw [if_pos c44] at H
                              have c44b0 : (t105 == 0) = true := beq_iff_eq.mpr c44
                              have c44b1 : (t105 != 0) = false := bne_eq_false_iff_eq.mpr c44
                              clear c44
                              obtain rfl := Option.some.inj H
                              go_wp2_with (first | ((with_reducible refine gate_callee (f := 15) rfl ?_); refine goesL_ (some 74) rfl rfl Tryd.func15 (by kernel_rfl) rfl #[.string a0, .int .i64 (wrap64 (x4_13 + 1))] rfl (by (try simp only [List.map_toArray, List.map_cons, List.map_nil]); first | done | rfl | (simp only [List.length_drop, List.length_take]; rfl)) ?_; (with_reducible refine (spec_l11Run.calls kj22 a0 (wrap64 (x4_13 + 1)) t105 _ A43.out).mono ?_); rintro e w' ⟨rfl, ⟨nd, rfl⟩⟩; refine ⟨_, rfl, ?_⟩))
                              go_ret
                              exact ⟨by first | rfl | (simp; done) | (simp [*]; done), by repeat (first | exact Drawn0.refl _ | apply Drawn0.step)⟩
                            · rw [if_neg c44] at H
                              have c44b0 : (t105 == 0) = false := beq_eq_false_iff_ne.mpr c44
                              have c44b1 : (t105 != 0) = true := bne_iff_ne.mpr c44
                              by_cases c45 : t105 > 3
                              · rw [if_pos c45] at H
                                have c45b0 : decide (3 < t105) = true := decide_eq_true c45
                                clear c45
                                obtain rfl := Option.some.inj H
                                go_wp2_with (first | ((with_reducible refine gate_callee (f := 15) rfl ?_); refine goesL_ (some 74) rfl rfl Tryd.func15 (by kernel_rfl) rfl #[.string a0, .int .i64 (wrap64 (x4_13 + 1))] rfl (by (try simp only [List.map_toArray, List.map_cons, List.map_nil]); first | done | rfl | (simp only [List.length_drop, List.length_take]; rfl)) ?_; (with_reducible refine (spec_l11Run.calls kj22 a0 (wrap64 (x4_13 + 1)) t105 _ A43.out).mono ?_); rintro e w' ⟨rfl, ⟨nd, rfl⟩⟩; refine ⟨_, rfl, ?_⟩))
                                go_ret
                                exact ⟨by first | rfl | (simp; done) | (simp [*]; done), by repeat (first | exact Drawn0.refl _ | apply Drawn0.step)⟩
                              · rw [if_neg c45] at H
                                have c45b0 : decide (3 < t105) = false := decide_eq_false c45
                                clear c45
                                obtain ⟨ji46, hji46⟩ : ∃ j_ : Int, (wrap64 (x4_13 + 1)) = j_ := ⟨_, rfl⟩
                                replace H : (if 0 ≤ (ji46) then (if (ji46) < (a0.size : Int) then (if (bt a0 (ji46)) = 48 then (if t105 > 1 then (some false) else (if t105 = 3 then (if (ji46) ≤ (wrap64 ((ji46) + t105)) then (if (wrap64 ((ji46) + t105)) ≤ (a0.size : Int) then (if (Op.bytesLess ([52, 48, 48] : List UInt8) ((a0.extract ((ji46) : Int).toNat ((wrap64 ((ji46) + t105)) : Int).toNat).toList)) = true then (some false) else (some ((wrap64 ((ji46) + t105)) == (a0.size : Int)))) else (none)) else (none)) else (some ((wrap64 ((ji46) + t105)) == (a0.size : Int))))) else (if t105 = 3 then (if (ji46) ≤ (wrap64 ((ji46) + t105)) then (if (wrap64 ((ji46) + t105)) ≤ (a0.size : Int) then (if (Op.bytesLess ([52, 48, 48] : List UInt8) ((a0.extract ((ji46) : Int).toNat ((wrap64 ((ji46) + t105)) : Int).toNat).toList)) = true then (some false) else (some ((wrap64 ((ji46) + t105)) == (a0.size : Int)))) else (none)) else (none)) else (some ((wrap64 ((ji46) + t105)) == (a0.size : Int))))) else (none)) else (none)) = some r := by first | (rw [hji46] at H; exact H) | (simp only [hji46] at H ⊢; exact H)
                                (try rw [hji46] at A43)
                                have hji46w : (IntKind.i64.wrap (x4_13 + 1)) = ji46 := (i64_w _).trans hji46
                                by_cases c47 : 0 ≤ (ji46)
                                · rw [if_pos c47] at H
                                  have c47b0 : decide (0 ≤ (ji46)) = true := decide_eq_true c47
                                  clear c47
                                  by_cases c48 : (ji46) < (a0.size : Int)
                                  · rw [if_pos c48] at H
                                    have c48b0 : decide ((ji46) < (a0.size : Int)) = true := decide_eq_true c48
                                    clear c48
                                    by_cases c50 : (bt a0 (ji46)) = 48
                                    · rw [if_pos c50] at H
                                      have c50b0 : ((bt a0 (ji46)) == 48) = true := beq_iff_eq.mpr c50
                                      have c50b1 : ((bt a0 (ji46)) != 48) = false := bne_eq_false_iff_eq.mpr c50
                                      clear c50
                                      by_cases c51 : t105 > 1
                                      · rw [if_pos c51] at H
                                        have c51b0 : decide (1 < t105) = true := decide_eq_true c51
                                        clear c51
                                        obtain rfl := Option.some.inj H
                                        go_wp2_with (first | ((with_reducible refine gate_callee (f := 15) rfl ?_); refine goesL_ (some 74) rfl rfl Tryd.func15 (by kernel_rfl) rfl #[.string a0, .int .i64 (ji46)] rfl (by (try simp only [List.map_toArray, List.map_cons, List.map_nil]); first | done | (simp only [hji46]; rfl) | rfl | (simp only [List.length_drop, List.length_take]; rfl)) ?_; (with_reducible refine (spec_l11Run.calls kj22 a0 (ji46) t105 _ A43.out).mono ?_); rintro e w' ⟨rfl, ⟨nd, rfl⟩⟩; refine ⟨_, rfl, ?_⟩; have p49 : 0 ≤ ((ji46) : Int) := of_decide_eq_true (by first | (with_reducible assumption) | assumption); have q49 : (ji46) < (a0.size : Int) := of_decide_eq_true (by first | (with_reducible assumption) | assumption); have hx49 := bt_at a0 (ji46); replace p49 := eq_true p49; replace q49 := eq_true q49))
                                        go_ret
                                        exact ⟨by first | rfl | (simp; done) | (simp only [← hji46] <;> (first | rfl | simp)) | (simp [*]; done), by repeat (first | exact Drawn0.refl _ | apply Drawn0.step)⟩
                                      · rw [if_neg c51] at H
                                        have c51b0 : decide (1 < t105) = false := decide_eq_false c51
                                        clear c51
                                        by_cases c52 : t105 = 3
                                        · rw [if_pos c52] at H
                                          have c52b0 : (t105 == 3) = true := beq_iff_eq.mpr c52
                                          have c52b1 : (t105 != 3) = false := bne_eq_false_iff_eq.mpr c52
                                          clear c52
                                          have c53b0 := eq_true (of_decide_eq_true (by first | (with_reducible assumption) | assumption) : 0 ≤ (ji46))
                                          by_cases c54 : (ji46) ≤ (wrap64 ((ji46) + t105))
                                          · rw [if_pos c54] at H
                                            have c54b0 := eq_true c54
                                            have c54b1 : decide ((ji46) ≤ (wrap64 ((ji46) + t105))) = true := decide_eq_true c54
                                            by_cases c55 : (wrap64 ((ji46) + t105)) ≤ (a0.size : Int)
                                            · rw [if_pos c55] at H
                                              have c55b0 := eq_true c55
                                              have c55b1 : decide ((wrap64 ((ji46) + t105)) ≤ (a0.size : Int)) = true := decide_eq_true c55
                                              by_cases c56 : (Op.bytesLess ([52, 48, 48] : List UInt8) ((a0.extract ((ji46) : Int).toNat ((wrap64 ((ji46) + t105)) : Int).toNat).toList)) = true
                                              · rw [if_pos c56] at H
                                                have c56b0 : (Op.bytesLess ([52, 48, 48] : List UInt8) ((a0.extract ((ji46) : Int).toNat ((wrap64 ((ji46) + t105)) : Int).toNat).toList)) = true := c56
                                                clear c56
                                                obtain rfl := Option.some.inj H
                                                go_wp2_with (first | ((with_reducible refine gate_callee (f := 15) rfl ?_); refine goesL_ (some 74) rfl rfl Tryd.func15 (by kernel_rfl) rfl #[.string a0, .int .i64 (ji46)] rfl (by (try simp only [List.map_toArray, List.map_cons, List.map_nil]); first | done | (simp only [hji46]; rfl) | rfl | (simp only [List.length_drop, List.length_take]; rfl)) ?_; (with_reducible refine (spec_l11Run.calls kj22 a0 (ji46) t105 _ A43.out).mono ?_); rintro e w' ⟨rfl, ⟨nd, rfl⟩⟩; refine ⟨_, rfl, ?_⟩; have p49 : 0 ≤ ((ji46) : Int) := of_decide_eq_true (by first | (with_reducible assumption) | assumption); have q49 : (ji46) < (a0.size : Int) := of_decide_eq_true (by first | (with_reducible assumption) | assumption); have hx49 := bt_at a0 (ji46); replace p49 := eq_true p49; replace q49 := eq_true q49))
                                                go_ret
                                                exact ⟨by first | rfl | (simp; done) | (simp only [← hji46] <;> (first | rfl | simp)) | (simp [*]; done), by repeat (first | exact Drawn0.refl _ | apply Drawn0.step)⟩
                                              · rw [if_neg c56] at H
                                                have c56b0 : (Op.bytesLess ([52, 48, 48] : List UInt8) ((a0.extract ((ji46) : Int).toNat ((wrap64 ((ji46) + t105)) : Int).toNat).toList)) = false := by simpa using c56
                                                clear c56
                                                obtain rfl := Option.some.inj H
                                                go_wp2_with (first | ((with_reducible refine gate_callee (f := 15) rfl ?_); refine goesL_ (some 74) rfl rfl Tryd.func15 (by kernel_rfl) rfl #[.string a0, .int .i64 (ji46)] rfl (by (try simp only [List.map_toArray, List.map_cons, List.map_nil]); first | done | (simp only [hji46]; rfl) | rfl | (simp only [List.length_drop, List.length_take]; rfl)) ?_; (with_reducible refine (spec_l11Run.calls kj22 a0 (ji46) t105 _ A43.out).mono ?_); rintro e w' ⟨rfl, ⟨nd, rfl⟩⟩; refine ⟨_, rfl, ?_⟩; have p49 : 0 ≤ ((ji46) : Int) := of_decide_eq_true (by first | (with_reducible assumption) | assumption); have q49 : (ji46) < (a0.size : Int) := of_decide_eq_true (by first | (with_reducible assumption) | assumption); have hx49 := bt_at a0 (ji46); replace p49 := eq_true p49; replace q49 := eq_true q49))
                                                go_ret
                                                exact ⟨by first | rfl | (simp; done) | (simp only [← hji46] <;> (first | rfl | simp)) | (simp [*]; done), by repeat (first | exact Drawn0.refl _ | apply Drawn0.step)⟩
                                            · rw [if_neg c55] at H
                                              exact absurd H (by simp)
                                          · rw [if_neg c54] at H
                                            exact absurd H (by simp)
                                        · rw [if_neg c52] at H
                                          have c52b0 : (t105 == 3) = false := beq_eq_false_iff_ne.mpr c52
                                          have c52b1 : (t105 != 3) = true := bne_iff_ne.mpr c52
                                          obtain rfl := Option.some.inj H
                                          go_wp2_with (first | ((with_reducible refine gate_callee (f := 15) rfl ?_); refine goesL_ (some 74) rfl rfl Tryd.func15 (by kernel_rfl) rfl #[.string a0, .int .i64 (ji46)] rfl (by (try simp only [List.map_toArray, List.map_cons, List.map_nil]); first | done | (simp only [hji46]; rfl) | rfl | (simp only [List.length_drop, List.length_take]; rfl)) ?_; (with_reducible refine (spec_l11Run.calls kj22 a0 (ji46) t105 _ A43.out).mono ?_); rintro e w' ⟨rfl, ⟨nd, rfl⟩⟩; refine ⟨_, rfl, ?_⟩; have p49 : 0 ≤ ((ji46) : Int) := of_decide_eq_true (by first | (with_reducible assumption) | assumption); have q49 : (ji46) < (a0.size : Int) := of_decide_eq_true (by first | (with_reducible assumption) | assumption); have hx49 := bt_at a0 (ji46); replace p49 := eq_true p49; replace q49 := eq_true q49))
                                          go_ret
                                          exact ⟨by first | rfl | (simp; done) | (simp only [← hji46] <;> (first | rfl | simp)) | (simp [*]; done), by repeat (first | exact Drawn0.refl _ | apply Drawn0.step)⟩
                                    · rw [if_neg c50] at H
                                      have c50b0 : ((bt a0 (ji46)) == 48) = false := beq_eq_false_iff_ne.mpr c50
                                      have c50b1 : ((bt a0 (ji46)) != 48) = true := bne_iff_ne.mpr c50
                                      by_cases c57 : t105 = 3
                                      · rw [if_pos c57] at H
                                        have c57b0 : (t105 == 3) = true := beq_iff_eq.mpr c57
                                        have c57b1 : (t105 != 3) = false := bne_eq_false_iff_eq.mpr c57
                                        clear c57
                                        have c58b0 := eq_true (of_decide_eq_true (by first | (with_reducible assumption) | assumption) : 0 ≤ (ji46))
                                        by_cases c59 : (ji46) ≤ (wrap64 ((ji46) + t105))
                                        · rw [if_pos c59] at H
                                          have c59b0 := eq_true c59
                                          have c59b1 : decide ((ji46) ≤ (wrap64 ((ji46) + t105))) = true := decide_eq_true c59
                                          by_cases c60 : (wrap64 ((ji46) + t105)) ≤ (a0.size : Int)
                                          · rw [if_pos c60] at H
                                            have c60b0 := eq_true c60
                                            have c60b1 : decide ((wrap64 ((ji46) + t105)) ≤ (a0.size : Int)) = true := decide_eq_true c60
                                            by_cases c61 : (Op.bytesLess ([52, 48, 48] : List UInt8) ((a0.extract ((ji46) : Int).toNat ((wrap64 ((ji46) + t105)) : Int).toNat).toList)) = true
                                            · rw [if_pos c61] at H
                                              have c61b0 : (Op.bytesLess ([52, 48, 48] : List UInt8) ((a0.extract ((ji46) : Int).toNat ((wrap64 ((ji46) + t105)) : Int).toNat).toList)) = true := c61
                                              clear c61
                                              obtain rfl := Option.some.inj H
                                              go_wp2_with (first | ((with_reducible refine gate_callee (f := 15) rfl ?_); refine goesL_ (some 74) rfl rfl Tryd.func15 (by kernel_rfl) rfl #[.string a0, .int .i64 (ji46)] rfl (by (try simp only [List.map_toArray, List.map_cons, List.map_nil]); first | done | (simp only [hji46]; rfl) | rfl | (simp only [List.length_drop, List.length_take]; rfl)) ?_; (with_reducible refine (spec_l11Run.calls kj22 a0 (ji46) t105 _ A43.out).mono ?_); rintro e w' ⟨rfl, ⟨nd, rfl⟩⟩; refine ⟨_, rfl, ?_⟩; have p49 : 0 ≤ ((ji46) : Int) := of_decide_eq_true (by first | (with_reducible assumption) | assumption); have q49 : (ji46) < (a0.size : Int) := of_decide_eq_true (by first | (with_reducible assumption) | assumption); have hx49 := bt_at a0 (ji46); replace p49 := eq_true p49; replace q49 := eq_true q49))
                                              go_ret
                                              exact ⟨by first | rfl | (simp; done) | (simp only [← hji46] <;> (first | rfl | simp)) | (simp [*]; done), by repeat (first | exact Drawn0.refl _ | apply Drawn0.step)⟩
                                            · rw [if_neg c61] at H
                                              have c61b0 : (Op.bytesLess ([52, 48, 48] : List UInt8) ((a0.extract ((ji46) : Int).toNat ((wrap64 ((ji46) + t105)) : Int).toNat).toList)) = false := by simpa using c61
                                              clear c61
                                              obtain rfl := Option.some.inj H
                                              go_wp2_with (first | ((with_reducible refine gate_callee (f := 15) rfl ?_); refine goesL_ (some 74) rfl rfl Tryd.func15 (by kernel_rfl) rfl #[.string a0, .int .i64 (ji46)] rfl (by (try simp only [List.map_toArray, List.map_cons, List.map_nil]); first | done | (simp only [hji46]; rfl) | rfl | (simp only [List.length_drop, List.length_take]; rfl)) ?_; (with_reducible refine (spec_l11Run.calls kj22 a0 (ji46) t105 _ A43.out).mono ?_); rintro e w' ⟨rfl, ⟨nd, rfl⟩⟩; refine ⟨_, rfl, ?_⟩; have p49 : 0 ≤ ((ji46) : Int) := of_decide_eq_true (by first | (with_reducible assumption) | assumption); have q49 : (ji46) < (a0.size : Int) := of_decide_eq_true (by first | (with_reducible assumption) | assumption); have hx49 := bt_at a0 (ji46); replace p49 := eq_true p49; replace q49 := eq_true q49))
                                              go_ret
                                              exact ⟨by first | rfl | (simp; done) | (simp only [← hji46] <;> (first | rfl | simp)) | (simp [*]; done), by repeat (first | exact Drawn0.refl _ | apply Drawn0.step)⟩
                                          · rw [if_neg c60] at H
                                            exact absurd H (by simp)
                                        · rw [if_neg c59] at H
                                          exact absurd H (by simp)
                                      · rw [if_neg c57] at H
                                        have c57b0 : (t105 == 3) = false := beq_eq_false_iff_ne.mpr c57
                                        have c57b1 : (t105 != 3) = true := bne_iff_ne.mpr c57
                                        obtain rfl := Option.some.inj H
                                        go_wp2_with (first | ((with_reducible refine gate_callee (f := 15) rfl ?_); refine goesL_ (some 74) rfl rfl Tryd.func15 (by kernel_rfl) rfl #[.string a0, .int .i64 (ji46)] rfl (by (try simp only [List.map_toArray, List.map_cons, List.map_nil]); first | done | (simp only [hji46]; rfl) | rfl | (simp only [List.length_drop, List.length_take]; rfl)) ?_; (with_reducible refine (spec_l11Run.calls kj22 a0 (ji46) t105 _ A43.out).mono ?_); rintro e w' ⟨rfl, ⟨nd, rfl⟩⟩; refine ⟨_, rfl, ?_⟩; have p49 : 0 ≤ ((ji46) : Int) := of_decide_eq_true (by first | (with_reducible assumption) | assumption); have q49 : (ji46) < (a0.size : Int) := of_decide_eq_true (by first | (with_reducible assumption) | assumption); have hx49 := bt_at a0 (ji46); replace p49 := eq_true p49; replace q49 := eq_true q49))
                                        go_ret
                                        exact ⟨by first | rfl | (simp; done) | (simp only [← hji46] <;> (first | rfl | simp)) | (simp [*]; done), by repeat (first | exact Drawn0.refl _ | apply Drawn0.step)⟩
                                  · rw [if_neg c48] at H
                                    exact absurd H (by simp)
                                · rw [if_neg c47] at H
                                  exact absurd H (by simp)
                    · replace c22 := Bool.eq_false_iff.mpr c22
                      subst c22
                      have H1 : (some (x4_13 == (a0.size : Int))) = some r := by rw [if_neg (show ¬ (false = true) by decide)] at H; exact H
                      clear H
                      have H := H1
                      clear H1
                      obtain rfl := Option.some.inj H
                      go_wp2
                      go_ret
                      exact ⟨by first | rfl | (simp; done) | (simp [*]; done), by repeat (first | exact Drawn0.refl _ | apply Drawn0.step)⟩

end Go.Proofs.YtmdeolonjmjmgaaDoor.QFnExactLangNumOk
