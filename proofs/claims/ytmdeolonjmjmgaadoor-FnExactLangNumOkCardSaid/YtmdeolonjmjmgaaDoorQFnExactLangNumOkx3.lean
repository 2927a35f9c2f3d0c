/- The machine side of one law: each function and the law itself walked once, written by a program of this session (wip/xprint.py) that runs the printer of the kit.
   Conditions: none. -/
import Derived.Test.YtmdeolonjmjmgaaDoorQFnExactLangNumOkx0
import Derived.Test.YtmdeolonjmjmgaaDoorQFnExactLangNumOkx2
namespace Go.Proofs.YtmdeolonjmjmgaaDoor.QFnExactLangNumOk
open Go.RowKit Go.Proofs.YtmdeolonjmjmgaaDoorW.PrintWords Go.Proofs.YtmdeolonjmjmgaaDoorW.PrintLast Go.Proofs.YtmdeolonjmjmgaaDoorW.PrintMore
attribute [local go_sem] Go.Instr.field Go.asAgg Go.Proofs.YtmdeolonjmjmgaaDoor.MS.isSome_setCell Go.Proofs.YtmdeolonjmjmgaaDoor.MT.gtr
attribute [local go_sem] max2_int min2_int max_two min_two max_three min_three max_four min_four   -- for this text's walks alone
set_option linter.unusedVariables false
set_option linter.unusedSimpArgs false

-- NOT PRINTED: function 81 (bytealg_IndexByteString)

-- NOT PRINTED: function 73 (stringslite_IndexByte)

-- NOT PRINTED: function 74 (bytealg_IndexString)

-- NOT PRINTED: function 75 (bytealg_Cutover)

-- NOT PRINTED: function 82 (bytealg_hashStr_string)

-- NOT PRINTED: function 76 (bytealg_IndexRabinKarp_string)

-- NOT PRINTED: function 64 (stringslite_Index)

-- NOT PRINTED: function 51 (stringslite_Cut)

-- NOT PRINTED: function 36 (strings_Cut)

/-! ### impl_isDigits: function 38 -/
def impl_isDigits.l0 : Nat → ByteArray → Int → Int → Option (Bool)
  | 0, _, _, _ => none
  | k + 1, x0, x5, x6 => if x6 < x5 then (if 0 ≤ x6 then (if x6 < (x0.size : Int) then (if (bt x0 x6) < 48 then (some false) else (if (bt x0 x6) > 57 then (some false) else (impl_isDigits.l0 k x0 x5 (wrap64 (x6 + 1))))) else (none)) else (none)) else (some (x0.toList != ([] : List UInt8)))
def impl_isDigits.f (k : Nat) (a0 : ByteArray) : Option (Bool) := impl_isDigits.l0 k a0 (a0.size : Int) 0
theorem impl_isDigits.mono_l : ∀ k, (∀ y0 y1 y2, LeO (impl_isDigits.l0 k y0 y1 y2) (impl_isDigits.l0 (k + 1) y0 y1 y2))
  | 0 => fun _ _ _ r h => by simp [impl_isDigits.l0] at h
  | k + 1 => by
    have ih0 := impl_isDigits.mono_l k
    · intro y0 y1 y2
      unfold impl_isDigits.l0
      repeat' first
      | (with_reducible exact ih0 _ _ _)
      | (with_reducible exact LeO.refl _)
      | (with_reducible exact LeO.none _)
      | (with_reducible refine LeO.ite ?_ ?_)
      | (with_reducible refine LeO.bind ?_ (fun _ => ?_))
      | exact ih0 _ _ _
      | exact LeO.none _
      | refine LeO.ite ?_ ?_
      | refine LeO.bind ?_ (fun _ => ?_)
theorem impl_isDigits.mono : ∀ a0 k, LeO (impl_isDigits.f k a0) (impl_isDigits.f (k + 1) a0) := by
  intro a0 k
  have ih0 := impl_isDigits.mono_l k
  unfold impl_isDigits.f
  repeat' first
      | (with_reducible exact ih0 _ _ _)
      | (with_reducible exact LeO.refl _)
      | (with_reducible exact LeO.none _)
      | (with_reducible refine LeO.ite ?_ ?_)
      | (with_reducible refine LeO.bind ?_ (fun _ => ?_))
      | exact ih0 _ _ _
      | exact LeO.none _
      | refine LeO.ite ?_ ?_
      | refine LeO.bind ?_ (fun _ => ?_)
set_option maxHeartbeats 8000000 in
set_option maxRecDepth 100000 in
theorem impl_isDigits.calls (k : Nat) (a0 : ByteArray) (r : Bool) (w : World) (h : impl_isDigits.f k a0 = some r) :
    Calls Tryd.prog 38 #[.string a0] w fun e w' => e = .returned (.bool r) ∧ Drawn0 w w' := by
  have H : (impl_isDigits.l0 k a0 (a0.size : Int) 0) = some r := h
  clear h
  have H' := Aside0.mk H
  clear H
  go_enter Tryd.func38, Tryd.ntmps38
  go_wp2
  go_loopg [6] k (fun kq v6 w' => ∃ (x6_1 : Int), v6 = .int .i64 x6_1 ∧ Aside0 (impl_isDigits.l0 kq a0 (a0.size : Int) x6_1 = some r) ∧ Aside0 (kq ≤ k) ∧ Drawn0 w w')
  case atStart => exact ⟨(0), (by first | rfl | (simp; done) | (simp [*]; done)), H', ⟨Nat.le_refl _⟩, by repeat (first | exact Drawn0.refl _ | apply Drawn0.step)⟩
  case round =>
    clear H'
    obtain ⟨x6_1, rfl, HA, HK1, ⟨m1, rfl⟩⟩ := hrel
    cases gk with
    | zero => exact absurd HA.out (by simp [impl_isDigits.l0])
    | succ k1 =>
      have H := HA.out
      clear HA
      simp only [impl_isDigits.l0] at H
      by_cases c2 : x6_1 < (a0.size : Int)
      · rw [if_pos c2] at H
        have c2b0 : decide (x6_1 < (a0.size : Int)) = true := decide_eq_true c2
        clear c2
        by_cases c3 : 0 ≤ x6_1
        · rw [if_pos c3] at H
          have c3b0 : decide (0 ≤ x6_1) = true := decide_eq_true c3
          clear c3
          by_cases c4 : x6_1 < (a0.size : Int)
          · rw [if_pos c4] at H
            have c4b0 : decide (x6_1 < (a0.size : Int)) = true := decide_eq_true c4
            clear c4
            by_cases c6 : (bt a0 x6_1) < 48
            · rw [if_pos c6] at H
              have c6b0 : decide ((bt a0 x6_1) < 48) = true := decide_eq_true c6
              clear c6
              obtain rfl := Option.some.inj H
              have p5 : 0 ≤ (x6_1 : Int) := of_decide_eq_true (by first | (with_reducible assumption) | assumption)
              have q5 : x6_1 < (a0.size : Int) := of_decide_eq_true (by first | (with_reducible assumption) | assumption)
              have hx5 := bt_at a0 x6_1
              replace p5 := eq_true p5
              replace q5 := eq_true q5
              go_wp2
              go_ret
              exact ⟨by first | rfl | (simp; done) | (simp [*]; done) | (show Ending.returned (Value.bool (!a0.toList.isEmpty)) = _; generalize a0.toList = z_; cases z_ <;> rfl), by repeat (first | exact Drawn0.refl _ | apply Drawn0.step)⟩
            · rw [if_neg c6] at H
              have c6b0 : decide ((bt a0 x6_1) < 48) = false := decide_eq_false c6
              clear c6
              by_cases c8 : (bt a0 x6_1) > 57
              · rw [if_pos c8] at H
                have c8b0 : decide (57 < (bt a0 x6_1)) = true := decide_eq_true c8
                clear c8
                obtain rfl := Option.some.inj H
                have p5 : 0 ≤ (x6_1 : Int) := of_decide_eq_true (by first | (with_reducible assumption) | assumption)
                have q5 : x6_1 < (a0.size : Int) := of_decide_eq_true (by first | (with_reducible assumption) | assumption)
                have hx5 := bt_at a0 x6_1
                replace p5 := eq_true p5
                replace q5 := eq_true q5
                have p7 : 0 ≤ (x6_1 : Int) := of_decide_eq_true (by first | (with_reducible assumption) | assumption)
                have q7 : x6_1 < (a0.size : Int) := of_decide_eq_true (by first | (with_reducible assumption) | assumption)
                have hx7 := bt_at a0 x6_1
                replace p7 := eq_true p7
                replace q7 := eq_true q7
                go_wp2
                go_ret
                exact ⟨by first | rfl | (simp; done) | (simp [*]; done) | (show Ending.returned (Value.bool (!a0.toList.isEmpty)) = _; generalize a0.toList = z_; cases z_ <;> rfl), by repeat (first | exact Drawn0.refl _ | apply Drawn0.step)⟩
              · rw [if_neg c8] at H
                have c8b0 : decide (57 < (bt a0 x6_1)) = false := decide_eq_false c8
                clear c8
                have H' := Aside0.mk H
                clear H
                have p5 : 0 ≤ (x6_1 : Int) := of_decide_eq_true (by first | (with_reducible assumption) | assumption)
                have q5 : x6_1 < (a0.size : Int) := of_decide_eq_true (by first | (with_reducible assumption) | assumption)
                have hx5 := bt_at a0 x6_1
                replace p5 := eq_true p5
                replace q5 := eq_true q5
                have p7 : 0 ≤ (x6_1 : Int) := of_decide_eq_true (by first | (with_reducible assumption) | assumption)
                have q7 : x6_1 < (a0.size : Int) := of_decide_eq_true (by first | (with_reducible assumption) | assumption)
                have hx7 := bt_at a0 x6_1
                replace p7 := eq_true p7
                replace q7 := eq_true q7
                go_wp2
                go_roundg k1
                case measure => have := HK1.out; omega
                case rel => exact ⟨(wrap64 (x6_1 + 1)), (by first | rfl | (simp; done) | (simp [*]; done)), H', ⟨by have := HK1.out; omega⟩, by repeat (first | exact Drawn0.refl _ | apply Drawn0.step)⟩
          · rw [if_neg c4] at H
            exact absurd H (by simp)
        · rw [if_neg c3] at H
          exact absurd H (by simp)
      · rw [if_neg c2] at H
        have c2b0 : decide (x6_1 < (a0.size : Int)) = false := decide_eq_false c2
        clear c2
        obtain rfl := Option.some.inj H
        go_wp2
        go_ret
        exact ⟨by first | rfl | (simp; done) | (simp [*]; done) | (show Ending.returned (Value.bool (!a0.toList.isEmpty)) = _; generalize a0.toList = z_; cases z_ <;> rfl), by repeat (first | exact Drawn0.refl _ | apply Drawn0.step)⟩

/-! ### impl_wholeDigits: function 37 -/
def impl_wholeDigits.f (k : Nat) (a0 : ByteArray) : Option (Bool) := (impl_isDigits.f k a0).bind fun t106 => (if t106 = true then (if a0.toList = ([48] : List UInt8) then (some true) else (if 0 < (a0.size : Int) then (some ((bt a0 0) != 48)) else (none))) else (some false))
theorem impl_wholeDigits.mono : ∀ a0 k, LeO (impl_wholeDigits.f k a0) (impl_wholeDigits.f (k + 1) a0) := by
  intro a0 k
  unfold impl_wholeDigits.f
  repeat' first
      | (with_reducible exact impl_isDigits.mono _ _)
      | (with_reducible exact LeO.refl _)
      | (with_reducible exact LeO.none _)
      | (with_reducible refine LeO.ite ?_ ?_)
      | (with_reducible refine LeO.bind ?_ (fun _ => ?_))
      | exact impl_isDigits.mono _ _
      | exact LeO.none _
      | refine LeO.ite ?_ ?_
      | refine LeO.bind ?_ (fun _ => ?_)
set_option maxHeartbeats 8000000 in
set_option maxRecDepth 100000 in
theorem impl_wholeDigits.calls (k : Nat) (a0 : ByteArray) (r : Bool) (w : World) (h : impl_wholeDigits.f k a0 = some r) :
    Calls Tryd.prog 37 #[.string a0] w fun e w' => e = .returned (.bool r) ∧ Drawn0 w w' := by
  have H : ((impl_isDigits.f k a0).bind fun t106 => (if t106 = true then (if a0.toList = ([48] : List UInt8) then (some true) else (if 0 < (a0.size : Int) then (some ((bt a0 0) != 48)) else (none))) else (some false))) = some r := h
  clear h
  replace H := Option.bind_eq_some_iff.mp H
  obtain ⟨t106, A20, H⟩ := H
  replace H : (if t106 = true then (if a0.toList = ([48] : List UInt8) then (some true) else (if 0 < (a0.size : Int) then (some ((bt a0 0) != 48)) else (none))) else (some false)) = some r := H
  have A2 := Aside0.mk A20
  clear A20
  by_cases c3 : t106 = true
  · subst c3
    have H1 : (if a0.toList = ([48] : List UInt8) then (some true) else (if 0 < (a0.size : Int) then (some ((bt a0 0) != 48)) else (none))) = some r := by rw [if_pos rfl] at H; exact H
    clear H
    have H := H1
    clear H1
    by_cases c4 : a0.toList = ([48] : List UInt8)
    · rw [if_pos c4] at H
      have c4b0 : (a0.toList == ([48] : List UInt8)) = true := beq_iff_eq.mpr c4
      have c4b1 : (a0.toList != ([48] : List UInt8)) = false := bne_eq_false_iff_eq.mpr c4
      clear c4
      obtain rfl := Option.some.inj H
      go_enter Tryd.func37, Tryd.ntmps37
      go_wp2_with (first | ((with_reducible refine gate_callee (f := 38) rfl ?_); refine goesL_ (some 4) rfl rfl Tryd.func38 (by kernel_rfl) rfl #[.string a0] rfl (by (try simp only [List.map_toArray, List.map_cons, List.map_nil]); first | done | rfl | (simp only [List.length_drop, List.length_take]; rfl)) ?_; (with_reducible refine (impl_isDigits.calls k a0 true _ A2.out).mono ?_); rintro e w' ⟨rfl, ⟨nd, rfl⟩⟩; refine ⟨_, rfl, ?_⟩))
      go_ret
      exact ⟨by first | rfl | (simp; done) | (simp [*]; done), by repeat (first | exact Drawn0.refl _ | apply Drawn0.step)⟩
    · rw [if_neg c4] at H
      have c4b0 : (a0.toList == ([48] : List UInt8)) = false := beq_eq_false_iff_ne.mpr c4
      have c4b1 : (a0.toList != ([48] : List UInt8)) = true := bne_iff_ne.mpr c4
      by_cases c5 : 0 < (a0.size : Int)
      · rw [if_pos c5] at H
        have c5b0 : decide (0 < (a0.size : Int)) = true := decide_eq_true c5
        have c5b1 : decide (0 < a0.size) = true := decide_eq_true (by omega)
        clear c5
        obtain rfl := Option.some.inj H
        go_enter Tryd.func37, Tryd.ntmps37
        go_wp2_with (first | ((with_reducible refine gate_callee (f := 38) rfl ?_); refine goesL_ (some 4) rfl rfl Tryd.func38 (by kernel_rfl) rfl #[.string a0] rfl (by (try simp only [List.map_toArray, List.map_cons, List.map_nil]); first | done | rfl | (simp only [List.length_drop, List.length_take]; rfl)) ?_; (with_reducible refine (impl_isDigits.calls k a0 true _ A2.out).mono ?_); rintro e w' ⟨rfl, ⟨nd, rfl⟩⟩; refine ⟨_, rfl, ?_⟩; have p6 : 0 ≤ (0 : Int) := (by omega); have q6 : 0 < a0.size := (by have : (0 : Int) < (a0.size : Int) := of_decide_eq_true (by first | (with_reducible assumption) | assumption); omega); have hx6 : ∀ h : 0 < a0.size, ((a0[0]'h).toNat : Int) = bt a0 0 := bt_at a0 0; clear p6; have qi6 : (0 < (a0.size : Int)) = True := eq_true (of_decide_eq_true (by first | (with_reducible assumption) | assumption)); replace q6 := eq_true q6))
        go_ret
        exact ⟨by first | rfl | (simp; done) | (simp [*]; done), by repeat (first | exact Drawn0.refl _ | apply Drawn0.step)⟩
      · rw [if_neg c5] at H
        exact absurd H (by simp)
  · replace c3 := Bool.eq_false_iff.mpr c3
    subst c3
    have H1 : (some false) = some r := by rw [if_neg (show ¬ (false = true) by decide)] at H; exact H
    clear H
    have H := H1
    clear H1
    obtain rfl := Option.some.inj H
    go_enter Tryd.func37, Tryd.ntmps37
    go_wp2_with (first | ((with_reducible refine gate_callee (f := 38) rfl ?_); refine goesL_ (some 4) rfl rfl Tryd.func38 (by kernel_rfl) rfl #[.string a0] rfl (by (try simp only [List.map_toArray, List.map_cons, List.map_nil]); first | done | rfl | (simp only [List.length_drop, List.length_take]; rfl)) ?_; (with_reducible refine (impl_isDigits.calls k a0 false _ A2.out).mono ?_); rintro e w' ⟨rfl, ⟨nd, rfl⟩⟩; refine ⟨_, rfl, ?_⟩))
    go_ret
    exact ⟨by first | rfl | (simp; done) | (simp [*]; done), by repeat (first | exact Drawn0.refl _ | apply Drawn0.step)⟩

-- NOT PRINTED: function 65 (stringslite_HasPrefix)

-- NOT PRINTED: function 52 (stringslite_CutPrefix)

-- NOT PRINTED: function 39 (strings_CutPrefix)

-- NOT PRINTED: function 83 (strconv_lower)

-- NOT PRINTED: function 84 (strconv_underscoreOK)

-- NOT PRINTED: function 77 (strconv_ParseUint)

-- NOT PRINTED: function 66 (strconv_ParseInt)

-- NOT PRINTED: function 53 (strconv_Atoi_53)

-- NOT PRINTED: function 78 (stringslite_Clone)

-- NOT PRINTED: function 67 (strconv_syntaxError)

-- NOT PRINTED: function 68 (strconv_rangeError)

-- NOT PRINTED: function 79 (errors_New)

-- NOT PRINTED: function 87 (strconv_small)

-- NOT PRINTED: function 72 (bits_Len64)

-- NOT PRINTED: function 91 (strconv_log10Pow2)

-- NOT PRINTED: function 92 (strconv_bool2_int)

-- NOT PRINTED: function 88 (strconv_numDigits)

-- NOT PRINTED: function 89 (strconv_formatBase10)

-- NOT PRINTED: function 93 (strconv_isPowerOfTwo)

-- NOT PRINTED: function 95 (bits_TrailingZeros32)

-- NOT PRINTED: function 96 (bits_TrailingZeros64)

-- NOT PRINTED: function 94 (bits_TrailingZeros)

-- NOT PRINTED: function 90 (strconv_formatBits)

-- NOT PRINTED: function 86 (strconv_FormatInt)

-- NOT PRINTED: function 85 (strconv_Itoa_85)

-- NOT PRINTED: function 80 (strconv_Itoa_80)

-- NOT PRINTED: function 69 (strconv_baseError)

-- NOT PRINTED: function 70 (strconv_bitSizeError)

-- NOT PRINTED: function 54 (strconv_toError)

-- NOT PRINTED: function 40 (strconv_Atoi_40)

/-! ### impl_literal: function 17 -/
/-- The power of a literal, behind the sign e. -/
def impl_literal.p (k : Nat) (ah be pw : ByteArray) : Option (ByteArray × ByteArray × Int × Bool) := match Lib.atoiAll (Go.Proofs.YtmdeolonjmjmgaaDoor.SLit.after pw).data.toList with
  | .ok v => (impl_wholeDigits.f k (Go.Proofs.YtmdeolonjmjmgaaDoor.SLit.after pw)).bind fun t => some (if t = true ∧ (Go.Proofs.YtmdeolonjmjmgaaDoor.SLit.after pw).size ≤ 3 ∧ v ≤ 400 ∧ ¬ (Go.Proofs.YtmdeolonjmjmgaaDoor.SLit.minus pw = true ∧ v = 0) then (ah, be, if Go.Proofs.YtmdeolonjmjmgaaDoor.SLit.minus pw = true then wrap64 (-v) else v, true) else (⟨#[]⟩, ⟨#[]⟩, 0, false))
  | _ => some (⟨#[]⟩, ⟨#[]⟩, 0, false)
/-- A literal's pieces, once it is cut. -/
def impl_literal.q (k : Nat) (ah be pw : ByteArray) (pt hp : Bool) : Option (ByteArray × ByteArray × Int × Bool) := (impl_wholeDigits.f k ah).bind fun t1 => if t1 = true then ((if pt = true then impl_isDigits.f k be else some true).bind fun t2 => if t2 = true then (if hp = true then impl_literal.p k ah be pw else some (ah, be, 0, true)) else some (⟨#[]⟩, ⟨#[]⟩, 0, false)) else some (⟨#[]⟩, ⟨#[]⟩, 0, false)
def impl_literal.f (k : Nat) (a0 : ByteArray) : Option (ByteArray × ByteArray × Int × Bool) := if a0.size ≤ 140737488351232 then impl_literal.q k (Go.Proofs.YtmdeolonjmjmgaaDoor.SLit.cutb 46 (Go.Proofs.YtmdeolonjmjmgaaDoor.SLit.cutb 101 a0).1).1 (Go.Proofs.YtmdeolonjmjmgaaDoor.SLit.cutb 46 (Go.Proofs.YtmdeolonjmjmgaaDoor.SLit.cutb 101 a0).1).2.1 (Go.Proofs.YtmdeolonjmjmgaaDoor.SLit.cutb 101 a0).2.1 (Go.Proofs.YtmdeolonjmjmgaaDoor.SLit.cutb 46 (Go.Proofs.YtmdeolonjmjmgaaDoor.SLit.cutb 101 a0).1).2.2 (Go.Proofs.YtmdeolonjmjmgaaDoor.SLit.cutb 101 a0).2.2 else none
theorem impl_literal.mono : ∀ a0 k, LeO (impl_literal.f k a0) (impl_literal.f (k + 1) a0) := by
  intro a0 k
  unfold impl_literal.f impl_literal.q impl_literal.p
  refine LeO.ite ?_ (LeO.none _)
  refine LeO.bind (impl_wholeDigits.mono _ _) (fun _ => LeO.ite (LeO.bind (LeO.ite (impl_isDigits.mono _ _) (LeO.refl _)) (fun _ => LeO.ite (LeO.ite ?_ (LeO.refl _)) (LeO.refl _))) (LeO.refl _))
  cases Lib.atoiAll (Go.Proofs.YtmdeolonjmjmgaaDoor.SLit.after (Go.Proofs.YtmdeolonjmjmgaaDoor.SLit.cutb 101 a0).2.1).data.toList with
  | ok v => exact LeO.bind (impl_wholeDigits.mono _ _) (fun _ => LeO.refl _)
  | _ => exact LeO.refl _
set_option maxHeartbeats 8000000 in
set_option maxRecDepth 100000 in
theorem impl_literal.calls (k : Nat) (a0 : ByteArray) (r1 : ByteArray) (r2 : ByteArray) (r3 : Int) (r4 : Bool) (w : World) (h : impl_literal.f k a0 = some (r1, r2, r3, r4)) (HTAB_ : Aside0 (Go.Proofs.YtmdeolonjmjmgaaDoor.SLit.Tab w)) :
    Calls Tryd.prog 17 #[.string a0] w fun e w' => e = .returned (.tuple #[.string r1, .string r2, .int .i64 r3, .bool r4]) ∧ Below w.heap.size w w' := by
  unfold impl_literal.f at h
  by_cases hs : a0.size ≤ 140737488351232
  case neg => rw [if_neg hs] at h; cases h
  rw [if_pos hs] at h
  have CA := Aside0.mk (fun w => Go.Proofs.YtmdeolonjmjmgaaDoor.SLit.cutAll a0 101 w (by omega))
  have sA := Go.Proofs.YtmdeolonjmjmgaaDoor.SLit.cutb_size 101 a0
  generalize Go.Proofs.YtmdeolonjmjmgaaDoor.SLit.cutb 101 a0 = x at h CA sA
  obtain ⟨bo, pw, hp⟩ := x
  simp only at h CA sA
  have CB := Aside0.mk (fun w => Go.Proofs.YtmdeolonjmjmgaaDoor.SLit.cutAll bo 46 w (by omega))
  generalize Go.Proofs.YtmdeolonjmjmgaaDoor.SLit.cutb 46 bo = y at h CB
  obtain ⟨ah, be, pt⟩ := y
  simp only at h CB
  have sD := Go.Proofs.YtmdeolonjmjmgaaDoor.SLit.after_size pw
  have CM := Aside0.mk (fun w => Go.Proofs.YtmdeolonjmjmgaaDoor.SLit.cutMinus pw w)
  unfold impl_literal.q at h
  obtain ⟨t1, h1, h⟩ := Option.bind_eq_some_iff.mp h
  have W1 := Aside0.mk (fun w => impl_wholeDigits.calls k ah t1 w h1)
  clear h1
  cases t1 with
  | false =>
    rw [if_neg (by decide)] at h
    simp only [Option.some.injEq, Prod.mk.injEq] at h
    obtain ⟨rfl, rfl, rfl, rfl⟩ := h
    clear CM sA sD HTAB_ hs
    go_enter Tryd.func17, Tryd.ntmps17
    go_wp2_with (first | (go_at_call 36; (with_reducible refine (CA.out _).mono ?_); rintro e w' ⟨rfl, n, rfl⟩) | (go_at_call 36; (with_reducible refine (CB.out _).mono ?_); rintro e w' ⟨rfl, n, rfl⟩) | (go_at_call 37; (with_reducible refine (W1.out _).mono ?_); rintro e w' ⟨rfl, ⟨nd, rfl⟩⟩))
    (try simp only [Exit.inBlock, Exit.then])
    refine bodyPost_ret (results_list (rs := [.tmp 2, .tmp 3, .tmp 4, .tmp 5]) rfl (by simp) (.tmp (.tmp (.tmp (.tmp .nil))))) rfl ?_
    exact ⟨rfl, ⟨rfl, rfl, rfl, Nat.le_refl _, fun _ _ => rfl⟩⟩
  | true =>
    rw [if_pos rfl] at h
    obtain ⟨t2, h2, h⟩ := Option.bind_eq_some_iff.mp h
    have D2 : pt = true → Aside0 (∀ w, Calls Tryd.prog 38 #[.string be] w fun e w' => e = .returned (.bool t2) ∧ Drawn0 w w') := fun hp => by
      rw [if_pos hp] at h2
      exact ⟨fun w => impl_isDigits.calls k be t2 w h2⟩
    have P2 : pt = false → t2 = true := fun hp => by
      rw [if_neg (by rw [hp]; decide)] at h2
      exact (Option.some.inj h2).symm
    clear h2
    cases t2 with
    | false =>
      rw [if_neg (by decide)] at h
      simp only [Option.some.injEq, Prod.mk.injEq] at h
      obtain ⟨rfl, rfl, rfl, rfl⟩ := h
      cases pt with
      | false => exact absurd (P2 rfl) (by decide)
      | true =>
        replace D2 := D2 rfl
        clear CM sA sD HTAB_ hs P2
        go_enter Tryd.func17, Tryd.ntmps17
        go_wp2_with (first | (go_at_call 36; (with_reducible refine (CA.out _).mono ?_); rintro e w' ⟨rfl, n, rfl⟩) | (go_at_call 36; (with_reducible refine (CB.out _).mono ?_); rintro e w' ⟨rfl, n, rfl⟩) | (go_at_call 37; (with_reducible refine (W1.out _).mono ?_); rintro e w' ⟨rfl, ⟨nd, rfl⟩⟩) | (go_at_call 38; (with_reducible refine (D2.out _).mono ?_); rintro e w' ⟨rfl, ⟨nd, rfl⟩⟩))
        (try simp only [Exit.inBlock, Exit.then])
        refine bodyPost_ret (results_list (rs := [.tmp 2, .tmp 3, .tmp 4, .tmp 5]) rfl (by simp) (.tmp (.tmp (.tmp (.tmp .nil))))) rfl ?_
        exact ⟨rfl, ⟨rfl, rfl, rfl, Nat.le_refl _, fun _ _ => rfl⟩⟩
    | true =>
      rw [if_pos rfl] at h
      clear P2
      cases hp with
      | false =>
        rw [if_neg (by decide)] at h
        simp only [Option.some.injEq, Prod.mk.injEq] at h
        obtain ⟨rfl, rfl, rfl, rfl⟩ := h
        clear CM sA sD HTAB_ hs
        cases pt with
        | false =>
          clear D2
          go_enter Tryd.func17, Tryd.ntmps17
          go_wp2_with (first | (go_at_call 36; (with_reducible refine (CA.out _).mono ?_); rintro e w' ⟨rfl, n, rfl⟩) | (go_at_call 36; (with_reducible refine (CB.out _).mono ?_); rintro e w' ⟨rfl, n, rfl⟩) | (go_at_call 37; (with_reducible refine (W1.out _).mono ?_); rintro e w' ⟨rfl, ⟨nd, rfl⟩⟩))
          (try simp only [Exit.inBlock, Exit.then])
          refine bodyPost_ret (results_list (rs := [.tmp 2, .tmp 3, .tmp 4, .tmp 5]) rfl (by simp) (.tmp (.tmp (.tmp (.tmp .nil))))) rfl ?_
          exact ⟨rfl, ⟨rfl, rfl, rfl, Nat.le_refl _, fun _ _ => rfl⟩⟩
        | true =>
          replace D2 := D2 rfl
          go_enter Tryd.func17, Tryd.ntmps17
          go_wp2_with (first | (go_at_call 36; (with_reducible refine (CA.out _).mono ?_); rintro e w' ⟨rfl, n, rfl⟩) | (go_at_call 36; (with_reducible refine (CB.out _).mono ?_); rintro e w' ⟨rfl, n, rfl⟩) | (go_at_call 37; (with_reducible refine (W1.out _).mono ?_); rintro e w' ⟨rfl, ⟨nd, rfl⟩⟩) | (go_at_call 38; (with_reducible refine (D2.out _).mono ?_); rintro e w' ⟨rfl, ⟨nd, rfl⟩⟩))
          (try simp only [Exit.inBlock, Exit.then])
          refine bodyPost_ret (results_list (rs := [.tmp 2, .tmp 3, .tmp 4, .tmp 5]) rfl (by simp) (.tmp (.tmp (.tmp (.tmp .nil))))) rfl ?_
          exact ⟨rfl, ⟨rfl, rfl, rfl, Nat.le_refl _, fun _ _ => rfl⟩⟩
      | true =>
        rw [if_pos rfl] at h
        unfold impl_literal.p at h
        have hd : (Go.Proofs.YtmdeolonjmjmgaaDoor.SLit.after pw).size ≤ 140737488351232 := by omega
        generalize Go.Proofs.YtmdeolonjmjmgaaDoor.SLit.after pw = dg at h CM sD hd
        generalize Go.Proofs.YtmdeolonjmjmgaaDoor.SLit.minus pw = mi at h CM
        by_cases hv : ∃ v, Lib.atoiAll dg.data.toList = .ok v
        · obtain ⟨v, hv⟩ := hv
          rw [hv] at h
          obtain ⟨t3, h3, h⟩ := Option.bind_eq_some_iff.mp h
          have W3 := Aside0.mk (fun w => impl_wholeDigits.calls k dg t3 w h3)
          have AT := Aside0.mk (fun w => Go.Proofs.YtmdeolonjmjmgaaDoor.SLit.atoiOk dg (by omega) v hv w)
          clear sA sD HTAB_ hs h3 hv hd
          by_cases c : t3 = true ∧ dg.size ≤ 3 ∧ v ≤ 400 ∧ ¬ (mi = true ∧ v = 0)
          · rw [if_pos c] at h
            simp only [Option.some.injEq, Prod.mk.injEq] at h
            obtain ⟨rfl, rfl, rfl, rfl⟩ := h
            obtain ⟨rfl, c1, c2, c3⟩ := c
            have cS : decide ((dg.size : Int) > 3) = false := decide_eq_false (by omega)
            have cV : decide (v > 400) = false := decide_eq_false (by omega)
            clear c1 c2
            cases mi with
            | false =>
              rw [if_neg (by decide)]
              clear c3
              cases pt with
              | false =>
                clear D2
                go_enter Tryd.func17, Tryd.ntmps17
                go_wp2_with (first | (go_at_call 36; (with_reducible refine (CA.out _).mono ?_); rintro e w' ⟨rfl, n, rfl⟩) | (go_at_call 36; (with_reducible refine (CB.out _).mono ?_); rintro e w' ⟨rfl, n, rfl⟩) | (go_at_call 37; (with_reducible refine (W1.out _).mono ?_); rintro e w' ⟨rfl, ⟨nd, rfl⟩⟩) | (go_at_call 39; (with_reducible refine (CM.out _).mono ?_); rintro e w' ⟨rfl, rfl⟩) | (go_at_call 40; refine (AT.out _).mono ?_; rintro e w1 ⟨rfl, hb⟩; replace hb := Aside0.mk hb) | (go_at_call 37; (with_reducible refine (W3.out _).mono ?_); rintro e w' ⟨rfl, ⟨nd, rfl⟩⟩))
                (try simp only [Exit.inBlock, Exit.then])
                refine bodyPost_ret (results_list (rs := [.tmp 2, .tmp 3, .tmp 4, .tmp 5]) rfl (by simp) (.tmp (.tmp (.tmp (.tmp .nil))))) rfl ?_
                exact ⟨rfl, pw_below_drewN ((pw_below_drewN (Below.refl w.heap.size w) _).trans hb.out) _⟩
              | true =>
                replace D2 := D2 rfl
                go_enter Tryd.func17, Tryd.ntmps17
                go_wp2_with (first | (go_at_call 36; (with_reducible refine (CA.out _).mono ?_); rintro e w' ⟨rfl, n, rfl⟩) | (go_at_call 36; (with_reducible refine (CB.out _).mono ?_); rintro e w' ⟨rfl, n, rfl⟩) | (go_at_call 37; (with_reducible refine (W1.out _).mono ?_); rintro e w' ⟨rfl, ⟨nd, rfl⟩⟩) | (go_at_call 38; (with_reducible refine (D2.out _).mono ?_); rintro e w' ⟨rfl, ⟨nd, rfl⟩⟩) | (go_at_call 39; (with_reducible refine (CM.out _).mono ?_); rintro e w' ⟨rfl, rfl⟩) | (go_at_call 40; refine (AT.out _).mono ?_; rintro e w1 ⟨rfl, hb⟩; replace hb := Aside0.mk hb) | (go_at_call 37; (with_reducible refine (W3.out _).mono ?_); rintro e w' ⟨rfl, ⟨nd, rfl⟩⟩))
                (try simp only [Exit.inBlock, Exit.then])
                refine bodyPost_ret (results_list (rs := [.tmp 2, .tmp 3, .tmp 4, .tmp 5]) rfl (by simp) (.tmp (.tmp (.tmp (.tmp .nil))))) rfl ?_
                exact ⟨rfl, pw_below_drewN ((pw_below_drewN (Below.refl w.heap.size w) _).trans hb.out) _⟩
            | true =>
              rw [if_pos rfl]
              have cZ : (v == 0) = false := beq_eq_false_iff_ne.mpr fun e => c3 ⟨rfl, e⟩
              clear c3
              cases pt with
              | false =>
                clear D2
                go_enter Tryd.func17, Tryd.ntmps17
                go_wp2_with (first | (go_at_call 36; (with_reducible refine (CA.out _).mono ?_); rintro e w' ⟨rfl, n, rfl⟩) | (go_at_call 36; (with_reducible refine (CB.out _).mono ?_); rintro e w' ⟨rfl, n, rfl⟩) | (go_at_call 37; (with_reducible refine (W1.out _).mono ?_); rintro e w' ⟨rfl, ⟨nd, rfl⟩⟩) | (go_at_call 39; (with_reducible refine (CM.out _).mono ?_); rintro e w' ⟨rfl, rfl⟩) | (go_at_call 40; refine (AT.out _).mono ?_; rintro e w1 ⟨rfl, hb⟩; replace hb := Aside0.mk hb) | (go_at_call 37; (with_reducible refine (W3.out _).mono ?_); rintro e w' ⟨rfl, ⟨nd, rfl⟩⟩))
                (try simp only [Exit.inBlock, Exit.then])
                refine bodyPost_ret (results_list (rs := [.tmp 2, .tmp 3, .tmp 4, .tmp 5]) rfl (by simp) (.tmp (.tmp (.tmp (.tmp .nil))))) rfl ?_
                exact ⟨rfl, pw_below_drewN ((pw_below_drewN (Below.refl w.heap.size w) _).trans hb.out) _⟩
              | true =>
                replace D2 := D2 rfl
                go_enter Tryd.func17, Tryd.ntmps17
                go_wp2_with (first | (go_at_call 36; (with_reducible refine (CA.out _).mono ?_); rintro e w' ⟨rfl, n, rfl⟩) | (go_at_call 36; (with_reducible refine (CB.out _).mono ?_); rintro e w' ⟨rfl, n, rfl⟩) | (go_at_call 37; (with_reducible refine (W1.out _).mono ?_); rintro e w' ⟨rfl, ⟨nd, rfl⟩⟩) | (go_at_call 38; (with_reducible refine (D2.out _).mono ?_); rintro e w' ⟨rfl, ⟨nd, rfl⟩⟩) | (go_at_call 39; (with_reducible refine (CM.out _).mono ?_); rintro e w' ⟨rfl, rfl⟩) | (go_at_call 40; refine (AT.out _).mono ?_; rintro e w1 ⟨rfl, hb⟩; replace hb := Aside0.mk hb) | (go_at_call 37; (with_reducible refine (W3.out _).mono ?_); rintro e w' ⟨rfl, ⟨nd, rfl⟩⟩))
                (try simp only [Exit.inBlock, Exit.then])
                refine bodyPost_ret (results_list (rs := [.tmp 2, .tmp 3, .tmp 4, .tmp 5]) rfl (by simp) (.tmp (.tmp (.tmp (.tmp .nil))))) rfl ?_
                exact ⟨rfl, pw_below_drewN ((pw_below_drewN (Below.refl w.heap.size w) _).trans hb.out) _⟩
          · rw [if_neg c] at h
            simp only [Option.some.injEq, Prod.mk.injEq] at h
            obtain ⟨rfl, rfl, rfl, rfl⟩ := h
            cases t3 with
            | false =>
              clear c
              cases pt with
              | false =>
                clear D2
                go_enter Tryd.func17, Tryd.ntmps17
                go_wp2_with (first | (go_at_call 36; (with_reducible refine (CA.out _).mono ?_); rintro e w' ⟨rfl, n, rfl⟩) | (go_at_call 36; (with_reducible refine (CB.out _).mono ?_); rintro e w' ⟨rfl, n, rfl⟩) | (go_at_call 37; (with_reducible refine (W1.out _).mono ?_); rintro e w' ⟨rfl, ⟨nd, rfl⟩⟩) | (go_at_call 39; (with_reducible refine (CM.out _).mono ?_); rintro e w' ⟨rfl, rfl⟩) | (go_at_call 40; refine (AT.out _).mono ?_; rintro e w1 ⟨rfl, hb⟩; replace hb := Aside0.mk hb) | (go_at_call 37; (with_reducible refine (W3.out _).mono ?_); rintro e w' ⟨rfl, ⟨nd, rfl⟩⟩))
                (try simp only [Exit.inBlock, Exit.then])
                refine bodyPost_ret (results_list (rs := [.tmp 2, .tmp 3, .tmp 4, .tmp 5]) rfl (by simp) (.tmp (.tmp (.tmp (.tmp .nil))))) rfl ?_
                exact ⟨rfl, pw_below_drewN ((pw_below_drewN (Below.refl w.heap.size w) _).trans hb.out) _⟩
              | true =>
                replace D2 := D2 rfl
                go_enter Tryd.func17, Tryd.ntmps17
                go_wp2_with (first | (go_at_call 36; (with_reducible refine (CA.out _).mono ?_); rintro e w' ⟨rfl, n, rfl⟩) | (go_at_call 36; (with_reducible refine (CB.out _).mono ?_); rintro e w' ⟨rfl, n, rfl⟩) | (go_at_call 37; (with_reducible refine (W1.out _).mono ?_); rintro e w' ⟨rfl, ⟨nd, rfl⟩⟩) | (go_at_call 38; (with_reducible refine (D2.out _).mono ?_); rintro e w' ⟨rfl, ⟨nd, rfl⟩⟩) | (go_at_call 39; (with_reducible refine (CM.out _).mono ?_); rintro e w' ⟨rfl, rfl⟩) | (go_at_call 40; refine (AT.out _).mono ?_; rintro e w1 ⟨rfl, hb⟩; replace hb := Aside0.mk hb) | (go_at_call 37; (with_reducible refine (W3.out _).mono ?_); rintro e w' ⟨rfl, ⟨nd, rfl⟩⟩))
                (try simp only [Exit.inBlock, Exit.then])
                refine bodyPost_ret (results_list (rs := [.tmp 2, .tmp 3, .tmp 4, .tmp 5]) rfl (by simp) (.tmp (.tmp (.tmp (.tmp .nil))))) rfl ?_
                exact ⟨rfl, pw_below_drewN ((pw_below_drewN (Below.refl w.heap.size w) _).trans hb.out) _⟩
            | true =>
              by_cases c1 : dg.size ≤ 3
              · have cS : decide ((dg.size : Int) > 3) = false := decide_eq_false (by omega)
                by_cases c2 : v ≤ 400
                · have cV : decide (v > 400) = false := decide_eq_false (by omega)
                  have c3 : mi = true ∧ v = 0 := Classical.byContradiction fun e => c ⟨rfl, c1, c2, e⟩
                  obtain ⟨rfl, c3⟩ := c3
                  have cZ : (v == 0) = true := beq_iff_eq.mpr c3
                  clear c c1 c2 c3
                  cases pt with
                  | false =>
                    clear D2
                    go_enter Tryd.func17, Tryd.ntmps17
                    go_wp2_with (first | (go_at_call 36; (with_reducible refine (CA.out _).mono ?_); rintro e w' ⟨rfl, n, rfl⟩) | (go_at_call 36; (with_reducible refine (CB.out _).mono ?_); rintro e w' ⟨rfl, n, rfl⟩) | (go_at_call 37; (with_reducible refine (W1.out _).mono ?_); rintro e w' ⟨rfl, ⟨nd, rfl⟩⟩) | (go_at_call 39; (with_reducible refine (CM.out _).mono ?_); rintro e w' ⟨rfl, rfl⟩) | (go_at_call 40; refine (AT.out _).mono ?_; rintro e w1 ⟨rfl, hb⟩; replace hb := Aside0.mk hb) | (go_at_call 37; (with_reducible refine (W3.out _).mono ?_); rintro e w' ⟨rfl, ⟨nd, rfl⟩⟩))
                    (try simp only [Exit.inBlock, Exit.then])
                    refine bodyPost_ret (results_list (rs := [.tmp 2, .tmp 3, .tmp 4, .tmp 5]) rfl (by simp) (.tmp (.tmp (.tmp (.tmp .nil))))) rfl ?_
                    exact ⟨rfl, pw_below_drewN ((pw_below_drewN (Below.refl w.heap.size w) _).trans hb.out) _⟩
                  | true =>
                    replace D2 := D2 rfl
                    go_enter Tryd.func17, Tryd.ntmps17
                    go_wp2_with (first | (go_at_call 36; (with_reducible refine (CA.out _).mono ?_); rintro e w' ⟨rfl, n, rfl⟩) | (go_at_call 36; (with_reducible refine (CB.out _).mono ?_); rintro e w' ⟨rfl, n, rfl⟩) | (go_at_call 37; (with_reducible refine (W1.out _).mono ?_); rintro e w' ⟨rfl, ⟨nd, rfl⟩⟩) | (go_at_call 38; (with_reducible refine (D2.out _).mono ?_); rintro e w' ⟨rfl, ⟨nd, rfl⟩⟩) | (go_at_call 39; (with_reducible refine (CM.out _).mono ?_); rintro e w' ⟨rfl, rfl⟩) | (go_at_call 40; refine (AT.out _).mono ?_; rintro e w1 ⟨rfl, hb⟩; replace hb := Aside0.mk hb) | (go_at_call 37; (with_reducible refine (W3.out _).mono ?_); rintro e w' ⟨rfl, ⟨nd, rfl⟩⟩))
                    (try simp only [Exit.inBlock, Exit.then])
                    refine bodyPost_ret (results_list (rs := [.tmp 2, .tmp 3, .tmp 4, .tmp 5]) rfl (by simp) (.tmp (.tmp (.tmp (.tmp .nil))))) rfl ?_
                    exact ⟨rfl, pw_below_drewN ((pw_below_drewN (Below.refl w.heap.size w) _).trans hb.out) _⟩
                · have cV : decide (v > 400) = true := decide_eq_true (by omega)
                  clear c c1 c2
                  cases pt with
                  | false =>
                    clear D2
                    go_enter Tryd.func17, Tryd.ntmps17
                    go_wp2_with (first | (go_at_call 36; (with_reducible refine (CA.out _).mono ?_); rintro e w' ⟨rfl, n, rfl⟩) | (go_at_call 36; (with_reducible refine (CB.out _).mono ?_); rintro e w' ⟨rfl, n, rfl⟩) | (go_at_call 37; (with_reducible refine (W1.out _).mono ?_); rintro e w' ⟨rfl, ⟨nd, rfl⟩⟩) | (go_at_call 39; (with_reducible refine (CM.out _).mono ?_); rintro e w' ⟨rfl, rfl⟩) | (go_at_call 40; refine (AT.out _).mono ?_; rintro e w1 ⟨rfl, hb⟩; replace hb := Aside0.mk hb) | (go_at_call 37; (with_reducible refine (W3.out _).mono ?_); rintro e w' ⟨rfl, ⟨nd, rfl⟩⟩))
                    (try simp only [Exit.inBlock, Exit.then])
                    refine bodyPost_ret (results_list (rs := [.tmp 2, .tmp 3, .tmp 4, .tmp 5]) rfl (by simp) (.tmp (.tmp (.tmp (.tmp .nil))))) rfl ?_
                    exact ⟨rfl, pw_below_drewN ((pw_below_drewN (Below.refl w.heap.size w) _).trans hb.out) _⟩
                  | true =>
                    replace D2 := D2 rfl
                    go_enter Tryd.func17, Tryd.ntmps17
                    go_wp2_with (first | (go_at_call 36; (with_reducible refine (CA.out _).mono ?_); rintro e w' ⟨rfl, n, rfl⟩) | (go_at_call 36; (with_reducible refine (CB.out _).mono ?_); rintro e w' ⟨rfl, n, rfl⟩) | (go_at_call 37; (with_reducible refine (W1.out _).mono ?_); rintro e w' ⟨rfl, ⟨nd, rfl⟩⟩) | (go_at_call 38; (with_reducible refine (D2.out _).mono ?_); rintro e w' ⟨rfl, ⟨nd, rfl⟩⟩) | (go_at_call 39; (with_reducible refine (CM.out _).mono ?_); rintro e w' ⟨rfl, rfl⟩) | (go_at_call 40; refine (AT.out _).mono ?_; rintro e w1 ⟨rfl, hb⟩; replace hb := Aside0.mk hb) | (go_at_call 37; (with_reducible refine (W3.out _).mono ?_); rintro e w' ⟨rfl, ⟨nd, rfl⟩⟩))
                    (try simp only [Exit.inBlock, Exit.then])
                    refine bodyPost_ret (results_list (rs := [.tmp 2, .tmp 3, .tmp 4, .tmp 5]) rfl (by simp) (.tmp (.tmp (.tmp (.tmp .nil))))) rfl ?_
                    exact ⟨rfl, pw_below_drewN ((pw_below_drewN (Below.refl w.heap.size w) _).trans hb.out) _⟩
              · have cS : decide ((dg.size : Int) > 3) = true := decide_eq_true (by omega)
                clear c c1
                cases pt with
                | false =>
                  clear D2
                  go_enter Tryd.func17, Tryd.ntmps17
                  go_wp2_with (first | (go_at_call 36; (with_reducible refine (CA.out _).mono ?_); rintro e w' ⟨rfl, n, rfl⟩) | (go_at_call 36; (with_reducible refine (CB.out _).mono ?_); rintro e w' ⟨rfl, n, rfl⟩) | (go_at_call 37; (with_reducible refine (W1.out _).mono ?_); rintro e w' ⟨rfl, ⟨nd, rfl⟩⟩) | (go_at_call 39; (with_reducible refine (CM.out _).mono ?_); rintro e w' ⟨rfl, rfl⟩) | (go_at_call 40; refine (AT.out _).mono ?_; rintro e w1 ⟨rfl, hb⟩; replace hb := Aside0.mk hb) | (go_at_call 37; (with_reducible refine (W3.out _).mono ?_); rintro e w' ⟨rfl, ⟨nd, rfl⟩⟩))
                  (try simp only [Exit.inBlock, Exit.then])
                  refine bodyPost_ret (results_list (rs := [.tmp 2, .tmp 3, .tmp 4, .tmp 5]) rfl (by simp) (.tmp (.tmp (.tmp (.tmp .nil))))) rfl ?_
                  exact ⟨rfl, pw_below_drewN ((pw_below_drewN (Below.refl w.heap.size w) _).trans hb.out) _⟩
                | true =>
                  replace D2 := D2 rfl
                  go_enter Tryd.func17, Tryd.ntmps17
                  go_wp2_with (first | (go_at_call 36; (with_reducible refine (CA.out _).mono ?_); rintro e w' ⟨rfl, n, rfl⟩) | (go_at_call 36; (with_reducible refine (CB.out _).mono ?_); rintro e w' ⟨rfl, n, rfl⟩) | (go_at_call 37; (with_reducible refine (W1.out _).mono ?_); rintro e w' ⟨rfl, ⟨nd, rfl⟩⟩) | (go_at_call 38; (with_reducible refine (D2.out _).mono ?_); rintro e w' ⟨rfl, ⟨nd, rfl⟩⟩) | (go_at_call 39; (with_reducible refine (CM.out _).mono ?_); rintro e w' ⟨rfl, rfl⟩) | (go_at_call 40; refine (AT.out _).mono ?_; rintro e w1 ⟨rfl, hb⟩; replace hb := Aside0.mk hb) | (go_at_call 37; (with_reducible refine (W3.out _).mono ?_); rintro e w' ⟨rfl, ⟨nd, rfl⟩⟩))
                  (try simp only [Exit.inBlock, Exit.then])
                  refine bodyPost_ret (results_list (rs := [.tmp 2, .tmp 3, .tmp 4, .tmp 5]) rfl (by simp) (.tmp (.tmp (.tmp (.tmp .nil))))) rfl ?_
                  exact ⟨rfl, pw_below_drewN ((pw_below_drewN (Below.refl w.heap.size w) _).trans hb.out) _⟩
        · have AT := Aside0.mk (fun w => Go.Proofs.YtmdeolonjmjmgaaDoor.SLit.atoiNo dg (by omega) (fun v e => hv ⟨v, e⟩) w)
          have h' : some ((⟨#[]⟩ : ByteArray), (⟨#[]⟩ : ByteArray), (0 : Int), false) = some (r1, r2, r3, r4) := by
            cases e : Lib.atoiAll dg.data.toList with
            | ok v => exact absurd ⟨v, e⟩ hv
            | _ => rw [e] at h; exact h
          simp only [Option.some.injEq, Prod.mk.injEq] at h'
          obtain ⟨rfl, rfl, rfl, rfl⟩ := h'
          clear h sA sD hs hv hd
          cases pt with
          | false =>
            clear D2
            go_enter Tryd.func17, Tryd.ntmps17
            go_wp2_with (first | (go_at_call 36; (with_reducible refine (CA.out _).mono ?_); rintro e w' ⟨rfl, n, rfl⟩) | (go_at_call 36; (with_reducible refine (CB.out _).mono ?_); rintro e w' ⟨rfl, n, rfl⟩) | (go_at_call 37; (with_reducible refine (W1.out _).mono ?_); rintro e w' ⟨rfl, ⟨nd, rfl⟩⟩) | (go_at_call 39; (with_reducible refine (CM.out _).mono ?_); rintro e w' ⟨rfl, rfl⟩) | (go_at_call 40; refine (AT.out _ (Go.Proofs.YtmdeolonjmjmgaaDoor.SLit.Tab.drewN HTAB_.out _)).mono ?_; rintro e w1 ⟨⟨z, ty, ptr, rfl⟩, hb⟩; replace hb := Aside0.mk hb))
            (try simp only [Exit.inBlock, Exit.then])
            refine bodyPost_ret (results_list (rs := [.tmp 2, .tmp 3, .tmp 4, .tmp 5]) rfl (by simp) (.tmp (.tmp (.tmp (.tmp .nil))))) rfl ?_
            exact ⟨rfl, (pw_below_drewN (Below.refl w.heap.size w) _).trans hb.out⟩
          | true =>
            replace D2 := D2 rfl
            go_enter Tryd.func17, Tryd.ntmps17
            go_wp2_with (first | (go_at_call 36; (with_reducible refine (CA.out _).mono ?_); rintro e w' ⟨rfl, n, rfl⟩) | (go_at_call 36; (with_reducible refine (CB.out _).mono ?_); rintro e w' ⟨rfl, n, rfl⟩) | (go_at_call 37; (with_reducible refine (W1.out _).mono ?_); rintro e w' ⟨rfl, ⟨nd, rfl⟩⟩) | (go_at_call 38; (with_reducible refine (D2.out _).mono ?_); rintro e w' ⟨rfl, ⟨nd, rfl⟩⟩) | (go_at_call 39; (with_reducible refine (CM.out _).mono ?_); rintro e w' ⟨rfl, rfl⟩) | (go_at_call 40; refine (AT.out _ (Go.Proofs.YtmdeolonjmjmgaaDoor.SLit.Tab.drewN HTAB_.out _)).mono ?_; rintro e w1 ⟨⟨z, ty, ptr, rfl⟩, hb⟩; replace hb := Aside0.mk hb))
            (try simp only [Exit.inBlock, Exit.then])
            refine bodyPost_ret (results_list (rs := [.tmp 2, .tmp 3, .tmp 4, .tmp 5]) rfl (by simp) (.tmp (.tmp (.tmp (.tmp .nil))))) rfl ?_
            exact ⟨rfl, (pw_below_drewN (Below.refl w.heap.size w) _).trans hb.out⟩

/-! ### impl_DecOk: function 9 -/
def impl_DecOk.f (k : Nat) (a0 : ByteArray) : Option (Bool) := (impl_literal.f k a0).bind fun bt107 => (if bt107.2.2.2 = true then (some (decide ((a0.size : Int) ≤ 60))) else (some false))
theorem impl_DecOk.mono : ∀ a0 k, LeO (impl_DecOk.f k a0) (impl_DecOk.f (k + 1) a0) := by
  intro a0 k
  unfold impl_DecOk.f
  repeat' first
      | (with_reducible exact impl_literal.mono _ _)
      | (with_reducible exact LeO.refl _)
      | (with_reducible exact LeO.none _)
      | (with_reducible refine LeO.ite ?_ ?_)
      | (with_reducible refine LeO.bind ?_ (fun _ => ?_))
      | exact impl_literal.mono _ _
      | exact LeO.none _
      | refine LeO.ite ?_ ?_
      | refine LeO.bind ?_ (fun _ => ?_)
set_option maxHeartbeats 8000000 in
set_option maxRecDepth 100000 in
theorem impl_DecOk.calls (k : Nat) (a0 : ByteArray) (r : Bool) (w : World) (h : impl_DecOk.f k a0 = some r) (HTAB_ : Aside0 (Go.Proofs.YtmdeolonjmjmgaaDoor.SLit.Tab w)) :
    Calls Tryd.prog 9 #[.string a0] w fun e w' => e = .returned (.bool r) ∧ Below w.heap.size w w' := by
  have HB := Aside0.mk (Below.refl w.heap.size w)
  have H : ((impl_literal.f k a0).bind fun bt107 => (if bt107.2.2.2 = true then (some (decide ((a0.size : Int) ≤ 60))) else (some false))) = some r := h
  clear h
  replace H := Option.bind_eq_some_iff.mp H
  obtain ⟨⟨t107, t108, t109, t110⟩, A20, H⟩ := H
  replace H : (if t110 = true then (some (decide ((a0.size : Int) ≤ 60))) else (some false)) = some r := H
  have A2 := Aside0.mk A20
  clear A20
  by_cases c3 : t110 = true
  · subst c3
    have H1 : (some (decide ((a0.size : Int) ≤ 60))) = some r := by rw [if_pos rfl] at H; exact H
    clear H
    have H := H1
    clear H1
    obtain rfl := Option.some.inj H
    go_enter Tryd.func9, Tryd.ntmps9
    go_wp2_with (first | ((with_reducible refine gate_callee (f := 17) rfl ?_); refine goesL_ (some 9) rfl rfl Tryd.func17 (by kernel_rfl) rfl #[.string a0] rfl (by (try simp only [List.map_toArray, List.map_cons, List.map_nil]); first | done | rfl | (simp only [List.length_drop, List.length_take]; rfl)) ?_; (with_reducible refine (impl_literal.calls k a0 t107 t108 t109 true _ A2.out ⟨by first | exact HTAB_.out | exact Go.Proofs.YtmdeolonjmjmgaaDoor.SLit.Tab.below HTAB_.out HB.out | exact Go.Proofs.YtmdeolonjmjmgaaDoor.SLit.Tab.below HTAB_.out (by repeat (first | (with_reducible first | exact HB.out | apply below_alloc | apply pw_below_drewN | apply below_drew1) | exact HB.out)) | exact Go.Proofs.YtmdeolonjmjmgaaDoor.SLit.Tab.below HTAB_.out (by repeat (first | (with_reducible first | exact HB.out | apply below_alloc | apply pw_below_drewN | apply below_drew1) | exact HB.out | exact Below.refl _ _))⟩).mono ?_); rintro e w4 ⟨rfl, hb⟩; refine ⟨_, rfl, ?_⟩; have n0_ := Aside0.mk (below_step (by repeat (first | (with_reducible first | exact HB.out | apply below_alloc | apply pw_below_drewN | apply below_drew1) | exact HB.out)) hb); clear HB; have HB := n0_; clear n0_; (try clear hb); (try clear hb2); (try clear hk); (try clear hi)))
    go_ret
    exact ⟨by first | rfl | (simp [errW_none, errW_some] <;> rfl) | (simp [*, errW_none, errW_some] <;> rfl), by repeat (first | (with_reducible first | exact HB.out | apply below_alloc | apply pw_below_drewN | apply below_drew1) | exact HB.out)⟩
  · replace c3 := Bool.eq_false_iff.mpr c3
    subst c3
    have H1 : (some false) = some r := by rw [if_neg (show ¬ (false = true) by decide)] at H; exact H
    clear H
    have H := H1
    clear H1
    obtain rfl := Option.some.inj H
    go_enter Tryd.func9, Tryd.ntmps9
    go_wp2_with (first | ((with_reducible refine gate_callee (f := 17) rfl ?_); refine goesL_ (some 9) rfl rfl Tryd.func17 (by kernel_rfl) rfl #[.string a0] rfl (by (try simp only [List.map_toArray, List.map_cons, List.map_nil]); first | done | rfl | (simp only [List.length_drop, List.length_take]; rfl)) ?_; (with_reducible refine (impl_literal.calls k a0 t107 t108 t109 false _ A2.out ⟨by first | exact HTAB_.out | exact Go.Proofs.YtmdeolonjmjmgaaDoor.SLit.Tab.below HTAB_.out HB.out | exact Go.Proofs.YtmdeolonjmjmgaaDoor.SLit.Tab.below HTAB_.out (by repeat (first | (with_reducible first | exact HB.out | apply below_alloc | apply pw_below_drewN | apply below_drew1) | exact HB.out)) | exact Go.Proofs.YtmdeolonjmjmgaaDoor.SLit.Tab.below HTAB_.out (by repeat (first | (with_reducible first | exact HB.out | apply below_alloc | apply pw_below_drewN | apply below_drew1) | exact HB.out | exact Below.refl _ _))⟩).mono ?_); rintro e w5 ⟨rfl, hb⟩; refine ⟨_, rfl, ?_⟩; have n0_ := Aside0.mk (below_step (by repeat (first | (with_reducible first | exact HB.out | apply below_alloc | apply pw_below_drewN | apply below_drew1) | exact HB.out)) hb); clear HB; have HB := n0_; clear n0_; (try clear hb); (try clear hb2); (try clear hk); (try clear hi)))
    go_ret
    exact ⟨by first | rfl | (simp [errW_none, errW_some] <;> rfl) | (simp [*, errW_none, errW_some] <;> rfl), by repeat (first | (with_reducible first | exact HB.out | apply below_alloc | apply pw_below_drewN | apply below_drew1) | exact HB.out)⟩

/-! ### impl_LangNumOk: function 7 -/
def impl_LangNumOk.f (k : Nat) (a0 : ByteArray) : Option (Bool) := (impl_DecOk.f k a0).bind fun t111 => (if t111 = true then (some (decide ((a0.size : Int) ≤ 60))) else (some false))
theorem impl_LangNumOk.mono : ∀ a0 k, LeO (impl_LangNumOk.f k a0) (impl_LangNumOk.f (k + 1) a0) := by
  intro a0 k
  unfold impl_LangNumOk.f
  repeat' first
      | (with_reducible exact impl_DecOk.mono _ _)
      | (with_reducible exact LeO.refl _)
      | (with_reducible exact LeO.none _)
      | (with_reducible refine LeO.ite ?_ ?_)
      | (with_reducible refine LeO.bind ?_ (fun _ => ?_))
      | exact impl_DecOk.mono _ _
      | exact LeO.none _
      | refine LeO.ite ?_ ?_
      | refine LeO.bind ?_ (fun _ => ?_)
set_option maxHeartbeats 8000000 in
set_option maxRecDepth 100000 in
theorem impl_LangNumOk.calls (k : Nat) (a0 : ByteArray) (r : Bool) (w : World) (h : impl_LangNumOk.f k a0 = some r) (HTAB_ : Aside0 (Go.Proofs.YtmdeolonjmjmgaaDoor.SLit.Tab w)) :
    Calls Tryd.prog 7 #[.string a0] w fun e w' => e = .returned (.bool r) ∧ Below w.heap.size w w' := by
  have HB := Aside0.mk (Below.refl w.heap.size w)
  have H : ((impl_DecOk.f k a0).bind fun t111 => (if t111 = true then (some (decide ((a0.size : Int) ≤ 60))) else (some false))) = some r := h
  clear h
  replace H := Option.bind_eq_some_iff.mp H
  obtain ⟨t111, A20, H⟩ := H
  replace H : (if t111 = true then (some (decide ((a0.size : Int) ≤ 60))) else (some false)) = some r := H
  have A2 := Aside0.mk A20
  clear A20
  by_cases c3 : t111 = true
  · subst c3
    have H1 : (some (decide ((a0.size : Int) ≤ 60))) = some r := by rw [if_pos rfl] at H; exact H
    clear H
    have H := H1
    clear H1
    obtain rfl := Option.some.inj H
    go_enter Tryd.func7, Tryd.ntmps7
    go_wp2_with (first | ((with_reducible refine gate_callee (f := 9) rfl ?_); refine goesL_ (some 4) rfl rfl Tryd.func9 (by kernel_rfl) rfl #[.string a0] rfl (by (try simp only [List.map_toArray, List.map_cons, List.map_nil]); first | done | rfl | (simp only [List.length_drop, List.length_take]; rfl)) ?_; (with_reducible refine (impl_DecOk.calls k a0 true _ A2.out ⟨by first | exact HTAB_.out | exact Go.Proofs.YtmdeolonjmjmgaaDoor.SLit.Tab.below HTAB_.out HB.out | exact Go.Proofs.YtmdeolonjmjmgaaDoor.SLit.Tab.below HTAB_.out (by repeat (first | (with_reducible first | exact HB.out | apply below_alloc | apply pw_below_drewN | apply below_drew1) | exact HB.out)) | exact Go.Proofs.YtmdeolonjmjmgaaDoor.SLit.Tab.below HTAB_.out (by repeat (first | (with_reducible first | exact HB.out | apply below_alloc | apply pw_below_drewN | apply below_drew1) | exact HB.out | exact Below.refl _ _))⟩).mono ?_); rintro e w4 ⟨rfl, hb⟩; refine ⟨_, rfl, ?_⟩; have n0_ := Aside0.mk (below_step (by repeat (first | (with_reducible first | exact HB.out | apply below_alloc | apply pw_below_drewN | apply below_drew1) | exact HB.out)) hb); clear HB; have HB := n0_; clear n0_; (try clear hb); (try clear hb2); (try clear hk); (try clear hi)))
    go_ret
    exact ⟨by first | rfl | (simp [errW_none, errW_some] <;> rfl) | (simp [*, errW_none, errW_some] <;> rfl), by repeat (first | (with_reducible first | exact HB.out | apply below_alloc | apply pw_below_drewN | apply below_drew1) | exact HB.out)⟩
  · replace c3 := Bool.eq_false_iff.mpr c3
    subst c3
    have H1 : (some false) = some r := by rw [if_neg (show ¬ (false = true) by decide)] at H; exact H
    clear H
    have H := H1
    clear H1
    obtain rfl := Option.some.inj H
    go_enter Tryd.func7, Tryd.ntmps7
    go_wp2_with (first | ((with_reducible refine gate_callee (f := 9) rfl ?_); refine goesL_ (some 4) rfl rfl Tryd.func9 (by kernel_rfl) rfl #[.string a0] rfl (by (try simp only [List.map_toArray, List.map_cons, List.map_nil]); first | done | rfl | (simp only [List.length_drop, List.length_take]; rfl)) ?_; (with_reducible refine (impl_DecOk.calls k a0 false _ A2.out ⟨by first | exact HTAB_.out | exact Go.Proofs.YtmdeolonjmjmgaaDoor.SLit.Tab.below HTAB_.out HB.out | exact Go.Proofs.YtmdeolonjmjmgaaDoor.SLit.Tab.below HTAB_.out (by repeat (first | (with_reducible first | exact HB.out | apply below_alloc | apply pw_below_drewN | apply below_drew1) | exact HB.out)) | exact Go.Proofs.YtmdeolonjmjmgaaDoor.SLit.Tab.below HTAB_.out (by repeat (first | (with_reducible first | exact HB.out | apply below_alloc | apply pw_below_drewN | apply below_drew1) | exact HB.out | exact Below.refl _ _))⟩).mono ?_); rintro e w5 ⟨rfl, hb⟩; refine ⟨_, rfl, ?_⟩; have n0_ := Aside0.mk (below_step (by repeat (first | (with_reducible first | exact HB.out | apply below_alloc | apply pw_below_drewN | apply below_drew1) | exact HB.out)) hb); clear HB; have HB := n0_; clear n0_; (try clear hb); (try clear hb2); (try clear hk); (try clear hi)))
    go_ret
    exact ⟨by first | rfl | (simp [errW_none, errW_some] <;> rfl) | (simp [*, errW_none, errW_some] <;> rfl), by repeat (first | (with_reducible first | exact HB.out | apply below_alloc | apply pw_below_drewN | apply below_drew1) | exact HB.out)⟩

/-! ### laws_FnExactLangNumOk: function 3 -/
def laws_FnExactLangNumOk.f (k : Nat) (a0 : ByteArray) : Option (Bool) := if (a0.size : Int) > 1048576 then (some true) else ((spec_LangNumOk.f k a0).bind fun t112 => ((impl_LangNumOk.f k a0).bind fun t113 => (if (t113 != t112) = true then (some false) else (some true))))
theorem laws_FnExactLangNumOk.mono : ∀ a0 k, LeO (laws_FnExactLangNumOk.f k a0) (laws_FnExactLangNumOk.f (k + 1) a0) := by
  intro a0 k
  unfold laws_FnExactLangNumOk.f
  repeat' first
      | (with_reducible exact impl_LangNumOk.mono _ _)
      | (with_reducible exact spec_LangNumOk.mono _ _)
      | (with_reducible exact LeO.refl _)
      | (with_reducible exact LeO.none _)
      | (with_reducible refine LeO.ite ?_ ?_)
      | (with_reducible refine LeO.bind ?_ (fun _ => ?_))
      | exact impl_LangNumOk.mono _ _
      | exact spec_LangNumOk.mono _ _
      | exact LeO.none _
      | refine LeO.ite ?_ ?_
      | refine LeO.bind ?_ (fun _ => ?_)
set_option maxHeartbeats 8000000 in
set_option maxRecDepth 100000 in
theorem laws_FnExactLangNumOk.calls (k : Nat) (a0 : ByteArray) (r : Bool) (w : World) (h : laws_FnExactLangNumOk.f k a0 = some r) (hr : Aside0 (true = r)) (HTAB_ : Aside0 (Go.Proofs.YtmdeolonjmjmgaaDoor.SLit.Tab w)) :
    Calls Tryd.prog 3 #[.string a0] w fun e w' => e = .returned (.bool r) ∧ Below w.heap.size w w' := by
  have HB := Aside0.mk (Below.refl w.heap.size w)
  have H : (if (a0.size : Int) > 1048576 then (some true) else ((spec_LangNumOk.f k a0).bind fun t112 => ((impl_LangNumOk.f k a0).bind fun t113 => (if (t113 != t112) = true then (some false) else (some true))))) = some r := h
  clear h
  by_cases c2 : (a0.size : Int) > 1048576
  · rw [if_pos c2] at H
    have c2b0 : decide (1048576 < (a0.size : Int)) = true := decide_eq_true c2
    have c2b1 : decide (1048576 < a0.size) = true := decide_eq_true (by omega)
    clear c2
    clear hr
    obtain rfl := Option.some.inj H
    go_enter Tryd.func3, Tryd.ntmps3
    go_wp2
    go_ret
    exact ⟨by first | rfl | (simp [errW_none, errW_some] <;> rfl) | (simp [*, errW_none, errW_some] <;> rfl), by repeat (first | (with_reducible first | exact HB.out | apply below_alloc | apply pw_below_drewN | apply below_drew1) | exact HB.out)⟩
  · rw [if_neg c2] at H
    have c2b0 : decide (1048576 < (a0.size : Int)) = false := decide_eq_false c2
    have c2b1 : decide (1048576 < a0.size) = false := decide_eq_false (by omega)
    clear c2
    replace H := Option.bind_eq_some_iff.mp H
    obtain ⟨t112, A30, H⟩ := H
    replace H : ((impl_LangNumOk.f k a0).bind fun t113 => (if (t113 != t112) = true then (some false) else (some true))) = some r := H
    have A3 := Aside0.mk A30
    clear A30
    replace H := Option.bind_eq_some_iff.mp H
    obtain ⟨t113, A40, H⟩ := H
    replace H : (if (t113 != t112) = true then (some false) else (some true)) = some r := H
    have A4 := Aside0.mk A40
    clear A40
    by_cases c5 : (t113 != t112) = true
    · rw [if_pos c5] at H
      have c5b0 : (t113 != t112) = true := c5
      (try (have c5b1 : decide (t113 = t112) = false := by simpa using c5))
      (try (have c5b2 : (t113 == t112) = false := by simpa using c5))
      (try (have c5b3 : ¬ (t113 = t112) := by simpa using c5))
      clear c5
      exact absurd (hr.out.trans (Option.some.inj H).symm) (by decide)
    · rw [if_neg c5] at H
      have c5b0 : (t113 != t112) = false := by simpa using c5
      (try (have c5b1 : decide (t113 = t112) = true := by simpa using c5))
      (try (have c5b2 : (t113 == t112) = true := by simpa using c5))
      clear c5
      clear hr
      obtain rfl := Option.some.inj H
      go_enter Tryd.func3, Tryd.ntmps3
      go_wp2_with (first | ((with_reducible refine gate_callee (f := 6) rfl ?_); refine goesL_ (some 9) rfl rfl Tryd.func6 (by kernel_rfl) rfl #[.string a0] rfl (by (try simp only [List.map_toArray, List.map_cons, List.map_nil]); first | done | rfl | (simp only [List.length_drop, List.length_take]; rfl)) ?_; (with_reducible refine (spec_LangNumOk.calls k a0 t112 _ A3.out).mono ?_); rintro e w' ⟨rfl, ⟨nd, rfl⟩⟩; refine ⟨_, rfl, ?_⟩) | ((with_reducible refine gate_callee (f := 7) rfl ?_); refine goesL_ (some 11) rfl rfl Tryd.func7 (by kernel_rfl) rfl #[.string a0] rfl (by (try simp only [List.map_toArray, List.map_cons, List.map_nil]); first | done | rfl | (simp only [List.length_drop, List.length_take]; rfl)) ?_; (with_reducible refine (impl_LangNumOk.calls k a0 t113 _ A4.out ⟨by first | exact HTAB_.out | exact Go.Proofs.YtmdeolonjmjmgaaDoor.SLit.Tab.below HTAB_.out HB.out | exact Go.Proofs.YtmdeolonjmjmgaaDoor.SLit.Tab.below HTAB_.out (by repeat (first | (with_reducible first | exact HB.out | apply below_alloc | apply pw_below_drewN | apply below_drew1) | exact HB.out)) | exact Go.Proofs.YtmdeolonjmjmgaaDoor.SLit.Tab.below HTAB_.out (by repeat (first | (with_reducible first | exact HB.out | apply below_alloc | apply pw_below_drewN | apply below_drew1) | exact HB.out | exact Below.refl _ _))⟩).mono ?_); rintro e w6 ⟨rfl, hb⟩; refine ⟨_, rfl, ?_⟩; have n0_ := Aside0.mk (below_step (by repeat (first | (with_reducible first | exact HB.out | apply below_alloc | apply pw_below_drewN | apply below_drew1) | exact HB.out)) hb); clear HB; have HB := n0_; clear n0_; (try clear hb); (try clear hb2); (try clear hk); (try clear hi)))
      go_ret
      exact ⟨by first | rfl | (simp [errW_none, errW_some] <;> rfl) | (simp [*, errW_none, errW_some] <;> rfl), by repeat (first | (with_reducible first | exact HB.out | apply below_alloc | apply pw_below_drewN | apply below_drew1) | exact HB.out)⟩

/-- THE ONE PURE STATEMENT of laws_FnExactLangNumOk: yours. -/
def laws_FnExactLangNumOk.Pure : Prop := ∀ (a0 : ByteArray), a0.size ≤ 140737488351232 → ∃ k, laws_FnExactLangNumOk.f k a0 = some true
theorem laws_FnExactLangNumOk.walk (P : laws_FnExactLangNumOk.Pure) (a0 : ByteArray) (w : World) (w0 : a0.size ≤ 140737488351232) (HTAB_ : Aside0 (Go.Proofs.YtmdeolonjmjmgaaDoor.SLit.Tab w)) :
    Calls Tryd.prog 3 #[.string a0] w fun e w' => e = .returned (.bool true) ∧ Below w.heap.size w w' := by
  obtain ⟨k, h⟩ := P a0 w0
  refine (laws_FnExactLangNumOk.calls k a0 true w h (Aside0.mk rfl) HTAB_).mono ?_
  rintro e w' ⟨rfl, hd⟩
  exact ⟨rfl, hd⟩

end Go.Proofs.YtmdeolonjmjmgaaDoor.QFnExactLangNumOk
