/- The machine side of one law: each function and the law itself walked once, written by a program of this session (wip/xprint.py) that runs the printer of the kit.
   Conditions: none. -/
import Derived.Test.YtmdeolonjmjmgaaDoorQFnExactDecFracx0
import Derived.Test.YtmdeolonjmjmgaaDoorQFnExactDecFracx6
namespace Go.Proofs.YtmdeolonjmjmgaaDoor.QFnExactDecFrac
open Go.RowKit Go.Proofs.YtmdeolonjmjmgaaDoorW.PrintWords Go.Proofs.YtmdeolonjmjmgaaDoorW.PrintLast Go.Proofs.YtmdeolonjmjmgaaDoorW.PrintMore Go.Proofs.YtmdeolonjmjmgaaDoor.MX
attribute [local go_sem] Go.Instr.field Go.asAgg Go.Proofs.YtmdeolonjmjmgaaDoor.MS.isSome_setCell Go.Proofs.YtmdeolonjmjmgaaDoor.MT.gtr Go.Proofs.YtmdeolonjmjmgaaDoor.MT.td
attribute [local go_sem] max2_int min2_int max_two min_two max_three min_three max_four min_four   -- for this text's walks alone
set_option linter.unusedVariables false
set_option linter.unusedSimpArgs false

/-! ### impl_wholeDigits: function 37 -/
def impl_wholeDigits.f (k : Nat) (a0 : ByteArray) : Option (Bool) := (impl_isDigits.f k a0).bind fun t313 => (if t313 = true then (if a0.toList = ([48] : List UInt8) then (some true) else (if 0 < (a0.size : Int) then (some ((bt a0 0) != 48)) else (none))) else (some false))
set_option maxHeartbeats 8000000 in
set_option maxRecDepth 100000 in
theorem impl_wholeDigits.calls (k : Nat) (a0 : ByteArray) (r : Bool) (w : World) (h : impl_wholeDigits.f k a0 = some r) :
  Calls Tryd.prog 37 #[.string a0] w fun e w' => e = .returned (.bool r) ∧ Drawn0 w w' := by
 have H : ((impl_isDigits.f k a0).bind fun t313 => (if t313 = true then (if a0.toList = ([48] : List UInt8) then (some true) else (if 0 < (a0.size : Int) then (some ((bt a0 0) != 48)) else (none))) else (some false))) = some r := h
 clear h
 replace H := Option.bind_eq_some_iff.mp H
 obtain ⟨t313, A20, H⟩ := H
 replace H : (if t313 = true then (if a0.toList = ([48] : List UInt8) then (some true) else (if 0 < (a0.size : Int) then (some ((bt a0 0) != 48)) else (none))) else (some false)) = some r := H
 have A2 := A_ A20
 clear A20
 by_cases c3 : t313 = true
 ·subst c3
  have H1 : (if a0.toList = ([48] : List UInt8) then (some true) else (if 0 < (a0.size : Int) then (some ((bt a0 0) != 48)) else (none))) = some r := by rw [if_pos rfl] at H; exact H
  clear H
  have H := H1
  clear H1
  by_cases c4 : a0.toList = ([48] : List UInt8)
  ·rw [if_pos c4] at H
   have c4b0 : (a0.toList == ([48] : List UInt8)) = true := beq_iff_eq.mpr c4
   have c4b1 : (a0.toList != ([48] : List UInt8)) = false := bne_eq_false_iff_eq.mpr c4
   clear c4
   obtain rfl := Option.some.inj H
   go_enter Tryd.func37, Tryd.ntmps37
   go_wp2_with (first | ((with_reducible refine gate_callee (f := 38) rfl ?_); refine goesL_ (some 4) rfl rfl Tryd.func38 (by kernel_rfl) rfl #[.string a0] rfl (by (try simp only [List.map_toArray, List.map_cons, List.map_nil]); first | done | rfl) ?_; (with_reducible refine (impl_isDigits.calls k a0 true _ A2.out).mono ?_); rintro e w' ⟨rfl, ⟨nd, rfl⟩⟩; refine ⟨_, rfl, ?_⟩))
   go_ret
   exact ⟨by first | rfl | (simp; done) | (simp [*]; done), by repeat (first | exact Drawn0.refl _ | apply Drawn0.step)⟩
  ·rw [if_neg c4] at H
   have c4b0 : (a0.toList == ([48] : List UInt8)) = false := beq_eq_false_iff_ne.mpr c4
   have c4b1 : (a0.toList != ([48] : List UInt8)) = true := bne_iff_ne.mpr c4
   by_cases c5 : 0 < (a0.size : Int)
   ·rw [if_pos c5] at H
    have c5b0 : decide (0 < (a0.size : Int)) = true := decide_eq_true c5
    have c5b1 : decide (0 < a0.size) = true := decide_eq_true (by omega)
    clear c5
    obtain rfl := Option.some.inj H
    go_enter Tryd.func37, Tryd.ntmps37
    go_wp2_with (first | ((with_reducible refine gate_callee (f := 38) rfl ?_); refine goesL_ (some 4) rfl rfl Tryd.func38 (by kernel_rfl) rfl #[.string a0] rfl (by (try simp only [List.map_toArray, List.map_cons, List.map_nil]); first | done | rfl) ?_; (with_reducible refine (impl_isDigits.calls k a0 true _ A2.out).mono ?_); rintro e w' ⟨rfl, ⟨nd, rfl⟩⟩; refine ⟨_, rfl, ?_⟩; have p6 : 0 ≤ (0 : Int) := (by omega); have q6 : 0 < a0.size := (by have : (0 : Int) < (a0.size : Int) := of_decide_eq_true as_; omega); have hx6 : ∀ h : 0 < a0.size, ((a0[0]'h).toNat : Int) = bt a0 0 := bt_at a0 0; clear p6; have qi6 : (0 < (a0.size : Int)) = True := eq_true (of_decide_eq_true as_); replace q6 := eq_true q6))
    go_ret
    exact ⟨by first | rfl | (simp; done) | (simp [*]; done), by repeat (first | exact Drawn0.refl _ | apply Drawn0.step)⟩
   ·rw [if_neg c5] at H
    exact absurd H (by simp)
 ·replace c3 := Bool.eq_false_iff.mpr c3
  subst c3
  have H1 : (some false) = some r := by rw [if_neg (show ¬ (false = true) by decide)] at H; exact H
  clear H
  have H := H1
  clear H1
  obtain rfl := Option.some.inj H
  go_enter Tryd.func37, Tryd.ntmps37
  go_wp2_with (first | ((with_reducible refine gate_callee (f := 38) rfl ?_); refine goesL_ (some 4) rfl rfl Tryd.func38 (by kernel_rfl) rfl #[.string a0] rfl (by (try simp only [List.map_toArray, List.map_cons, List.map_nil]); first | done | rfl) ?_; (with_reducible refine (impl_isDigits.calls k a0 false _ A2.out).mono ?_); rintro e w' ⟨rfl, ⟨nd, rfl⟩⟩; refine ⟨_, rfl, ?_⟩))
  go_ret
  exact ⟨by first | rfl | (simp; done) | (simp [*]; done), by repeat (first | exact Drawn0.refl _ | apply Drawn0.step)⟩

-- NOT PRINTED: function 65 (stringslite_HasPrefix)

-- NOT PRINTED: function 52 (stringslite_CutPrefix)

-- NOT PRINTED: function 39 (strings_CutPrefix)

-- NOT PRINTED: function 83 (strconv_lower)

-- NOT PRINTED: function 84 (strconv_underscoreOK)

-- NOT PRINTED: function 77 (strconv_ParseUint)

-- NOT PRINTED: function 66 (strconv_ParseInt)

-- NOT PRINTED: function 53 (strconv_Atoi_53)

-- NOT PRINTED: function 78 (stringslite_Clone)

-- NOT PRINTED: function 67 (strconv_syntaxError)

-- NOT PRINTED: function 68 (strconv_rangeError)

-- NOT PRINTED: function 79 (errors_New)

-- NOT PRINTED: function 87 (strconv_small)

/-! ### bits_Len64: function 72 -/
def bits_Len64.f (a0 : Int) : Option (Int) := if 0 ≤ a0 ∧ a0 ≤ 18446744073709551615 then some (Lib.bitLen a0.toNat) else none
theorem bits_Len64.calls (a0 : Int) (r : Int) (w : World) (h : bits_Len64.f a0 = some r) :
  Calls Tryd.prog 72 #[.int .u64 a0] w fun e w' => e = .returned (.int .i64 r) ∧ Drawn0 w w' := by
 unfold bits_Len64.f at h
 split at h
 ·rename_i hb
  obtain rfl := Option.some.inj h
  refine (Go.Proofs.YtmdeolonjmjmgaaDoor.SLen.shelf_Len64 a0 w hb.1 hb.2).mono ?_
  rintro e w' ⟨rfl, rfl⟩
  exact ⟨rfl, Drawn0.refl _⟩
 ·cases h

-- NOT PRINTED: function 91 (strconv_log10Pow2)

-- NOT PRINTED: function 92 (strconv_bool2_int)

-- NOT PRINTED: function 88 (strconv_numDigits)

-- NOT PRINTED: function 89 (strconv_formatBase10)

-- NOT PRINTED: function 93 (strconv_isPowerOfTwo)

-- NOT PRINTED: function 95 (bits_TrailingZeros32)

-- NOT PRINTED: function 96 (bits_TrailingZeros64)

-- NOT PRINTED: function 94 (bits_TrailingZeros)

-- NOT PRINTED: function 90 (strconv_formatBits)

-- NOT PRINTED: function 86 (strconv_FormatInt)

-- NOT PRINTED: function 85 (strconv_Itoa_85)

-- NOT PRINTED: function 80 (strconv_Itoa_80)

-- NOT PRINTED: function 69 (strconv_baseError)

-- NOT PRINTED: function 70 (strconv_bitSizeError)

-- NOT PRINTED: function 54 (strconv_toError)

-- NOT PRINTED: function 40 (strconv_Atoi_40)

/-! ### impl_literal: function 17 -/
/-- The power of a literal, behind the sign e. -/
def impl_literal.p (k : Nat) (ah be pw : ByteArray) : Option (ByteArray × ByteArray × Int × Bool) := match Lib.atoiAll (Go.Proofs.YtmdeolonjmjmgaaDoor.SLit.after pw).data.toList with
 | .ok v => (impl_wholeDigits.f k (Go.Proofs.YtmdeolonjmjmgaaDoor.SLit.after pw)).bind fun t => some (if t = true ∧ (Go.Proofs.YtmdeolonjmjmgaaDoor.SLit.after pw).size ≤ 3 ∧ v ≤ 400 ∧ ¬ (Go.Proofs.YtmdeolonjmjmgaaDoor.SLit.minus pw = true ∧ v = 0) then (ah, be, if Go.Proofs.YtmdeolonjmjmgaaDoor.SLit.minus pw = true then wrap64 (-v) else v, true) else (⟨#[]⟩, ⟨#[]⟩, 0, false))
 | _ => some (⟨#[]⟩, ⟨#[]⟩, 0, false)
/-- A literal's pieces, once it is cut. -/
def impl_literal.q (k : Nat) (ah be pw : ByteArray) (pt hp : Bool) : Option (ByteArray × ByteArray × Int × Bool) := (impl_wholeDigits.f k ah).bind fun t1 => if t1 = true then ((if pt = true then impl_isDigits.f k be else some true).bind fun t2 => if t2 = true then (if hp = true then impl_literal.p k ah be pw else some (ah, be, 0, true)) else some (⟨#[]⟩, ⟨#[]⟩, 0, false)) else some (⟨#[]⟩, ⟨#[]⟩, 0, false)
def impl_literal.f (k : Nat) (a0 : ByteArray) : Option (ByteArray × ByteArray × Int × Bool) := if a0.size ≤ 140737488351232 then impl_literal.q k (Go.Proofs.YtmdeolonjmjmgaaDoor.SLit.cutb 46 (Go.Proofs.YtmdeolonjmjmgaaDoor.SLit.cutb 101 a0).1).1 (Go.Proofs.YtmdeolonjmjmgaaDoor.SLit.cutb 46 (Go.Proofs.YtmdeolonjmjmgaaDoor.SLit.cutb 101 a0).1).2.1 (Go.Proofs.YtmdeolonjmjmgaaDoor.SLit.cutb 101 a0).2.1 (Go.Proofs.YtmdeolonjmjmgaaDoor.SLit.cutb 46 (Go.Proofs.YtmdeolonjmjmgaaDoor.SLit.cutb 101 a0).1).2.2 (Go.Proofs.YtmdeolonjmjmgaaDoor.SLit.cutb 101 a0).2.2 else none
set_option maxHeartbeats 8000000 in
set_option maxRecDepth 100000 in
theorem impl_literal.calls (k : Nat) (a0 : ByteArray) (r1 : ByteArray) (r2 : ByteArray) (r3 : Int) (r4 : Bool) (w : World) (h : impl_literal.f k a0 = some (r1, r2, r3, r4)) (HTAB_ : Aside0 (Go.Proofs.YtmdeolonjmjmgaaDoor.SLit.Tab w)) :
  Calls Tryd.prog 17 #[.string a0] w fun e w' => e = .returned (.tuple #[.string r1, .string r2, .int .i64 r3, .bool r4]) ∧ Below w.heap.size w w' := by
 unfold impl_literal.f at h
 by_cases hs : a0.size ≤ 140737488351232
 case neg => rw [if_neg hs] at h; cases h
 rw [if_pos hs] at h
 have CA := A_ (fun w => Go.Proofs.YtmdeolonjmjmgaaDoor.SLit.cutAll a0 101 w (by omega))
 have sA := Go.Proofs.YtmdeolonjmjmgaaDoor.SLit.cutb_size 101 a0
 generalize Go.Proofs.YtmdeolonjmjmgaaDoor.SLit.cutb 101 a0 = x at h CA sA
 obtain ⟨bo, pw, hp⟩ := x
 simp only at h CA sA
 have CB := A_ (fun w => Go.Proofs.YtmdeolonjmjmgaaDoor.SLit.cutAll bo 46 w (by omega))
 generalize Go.Proofs.YtmdeolonjmjmgaaDoor.SLit.cutb 46 bo = y at h CB
 obtain ⟨ah, be, pt⟩ := y
 simp only at h CB
 have sD := Go.Proofs.YtmdeolonjmjmgaaDoor.SLit.after_size pw
 have CM := A_ (fun w => Go.Proofs.YtmdeolonjmjmgaaDoor.SLit.cutMinus pw w)
 unfold impl_literal.q at h
 obtain ⟨t1, h1, h⟩ := Option.bind_eq_some_iff.mp h
 have W1 := A_ (fun w => impl_wholeDigits.calls k ah t1 w h1)
 clear h1
 cases t1 with
 | false =>
  rw [if_neg (by decide)] at h
  simp only [Option.some.injEq, Prod.mk.injEq] at h
  obtain ⟨rfl, rfl, rfl, rfl⟩ := h
  clear CM sA sD HTAB_ hs
  go_enter Tryd.func17, Tryd.ntmps17
  go_wp2_with (first | (go_at_call 36; (with_reducible refine (CA.out _).mono ?_); rintro e w' ⟨rfl, n, rfl⟩) | (go_at_call 36; (with_reducible refine (CB.out _).mono ?_); rintro e w' ⟨rfl, n, rfl⟩) | (go_at_call 37; (with_reducible refine (W1.out _).mono ?_); rintro e w' ⟨rfl, ⟨nd, rfl⟩⟩))
  (try simp only [Exit.inBlock, Exit.then])
  refine bodyPost_ret (results_list (rs := [.tmp 2, .tmp 3, .tmp 4, .tmp 5]) rfl (by simp) (.tmp (.tmp (.tmp (.tmp .nil))))) rfl ?_
  exact ⟨rfl, ⟨rfl, rfl, rfl, Nat.le_refl _, fun _ _ => rfl⟩⟩
 | true =>
  rw [if_pos rfl] at h
  obtain ⟨t2, h2, h⟩ := Option.bind_eq_some_iff.mp h
  have D2 : pt = true → Aside0 (∀ w, Calls Tryd.prog 38 #[.string be] w fun e w' => e = .returned (.bool t2) ∧ Drawn0 w w') := fun hp => by
   rw [if_pos hp] at h2
   exact ⟨fun w => impl_isDigits.calls k be t2 w h2⟩
  have P2 : pt = false → t2 = true := fun hp => by
   rw [if_neg (by rw [hp]; decide)] at h2
   exact (Option.some.inj h2).symm
  clear h2
  cases t2 with
  | false =>
   rw [if_neg (by decide)] at h
   simp only [Option.some.injEq, Prod.mk.injEq] at h
   obtain ⟨rfl, rfl, rfl, rfl⟩ := h
   cases pt with
   | false => exact absurd (P2 rfl) (by decide)
   | true =>
    replace D2 := D2 rfl
    clear CM sA sD HTAB_ hs P2
    go_enter Tryd.func17, Tryd.ntmps17
    go_wp2_with (first | (go_at_call 36; (with_reducible refine (CA.out _).mono ?_); rintro e w' ⟨rfl, n, rfl⟩) | (go_at_call 36; (with_reducible refine (CB.out _).mono ?_); rintro e w' ⟨rfl, n, rfl⟩) | (go_at_call 37; (with_reducible refine (W1.out _).mono ?_); rintro e w' ⟨rfl, ⟨nd, rfl⟩⟩) | (go_at_call 38; (with_reducible refine (D2.out _).mono ?_); rintro e w' ⟨rfl, ⟨nd, rfl⟩⟩))
    (try simp only [Exit.inBlock, Exit.then])
    refine bodyPost_ret (results_list (rs := [.tmp 2, .tmp 3, .tmp 4, .tmp 5]) rfl (by simp) (.tmp (.tmp (.tmp (.tmp .nil))))) rfl ?_
    exact ⟨rfl, ⟨rfl, rfl, rfl, Nat.le_refl _, fun _ _ => rfl⟩⟩
  | true =>
   rw [if_pos rfl] at h
   clear P2
   cases hp with
   | false =>
    rw [if_neg (by decide)] at h
    simp only [Option.some.injEq, Prod.mk.injEq] at h
    obtain ⟨rfl, rfl, rfl, rfl⟩ := h
    clear CM sA sD HTAB_ hs
    cases pt with
    | false =>
     clear D2
     go_enter Tryd.func17, Tryd.ntmps17
     go_wp2_with (first | (go_at_call 36; (with_reducible refine (CA.out _).mono ?_); rintro e w' ⟨rfl, n, rfl⟩) | (go_at_call 36; (with_reducible refine (CB.out _).mono ?_); rintro e w' ⟨rfl, n, rfl⟩) | (go_at_call 37; (with_reducible refine (W1.out _).mono ?_); rintro e w' ⟨rfl, ⟨nd, rfl⟩⟩))
     (try simp only [Exit.inBlock, Exit.then])
     refine bodyPost_ret (results_list (rs := [.tmp 2, .tmp 3, .tmp 4, .tmp 5]) rfl (by simp) (.tmp (.tmp (.tmp (.tmp .nil))))) rfl ?_
     exact ⟨rfl, ⟨rfl, rfl, rfl, Nat.le_refl _, fun _ _ => rfl⟩⟩
    | true =>
     replace D2 := D2 rfl
     go_enter Tryd.func17, Tryd.ntmps17
     go_wp2_with (first | (go_at_call 36; (with_reducible refine (CA.out _).mono ?_); rintro e w' ⟨rfl, n, rfl⟩) | (go_at_call 36; (with_reducible refine (CB.out _).mono ?_); rintro e w' ⟨rfl, n, rfl⟩) | (go_at_call 37; (with_reducible refine (W1.out _).mono ?_); rintro e w' ⟨rfl, ⟨nd, rfl⟩⟩) | (go_at_call 38; (with_reducible refine (D2.out _).mono ?_); rintro e w' ⟨rfl, ⟨nd, rfl⟩⟩))
     (try simp only [Exit.inBlock, Exit.then])
     refine bodyPost_ret (results_list (rs := [.tmp 2, .tmp 3, .tmp 4, .tmp 5]) rfl (by simp) (.tmp (.tmp (.tmp (.tmp .nil))))) rfl ?_
     exact ⟨rfl, ⟨rfl, rfl, rfl, Nat.le_refl _, fun _ _ => rfl⟩⟩
   | true =>
    rw [if_pos rfl] at h
    unfold impl_literal.p at h
    have hd : (Go.Proofs.YtmdeolonjmjmgaaDoor.SLit.after pw).size ≤ 140737488351232 := by omega
    generalize Go.Proofs.YtmdeolonjmjmgaaDoor.SLit.after pw = dg at h CM sD hd
    generalize Go.Proofs.YtmdeolonjmjmgaaDoor.SLit.minus pw = mi at h CM
    by_cases hv : ∃ v, Lib.atoiAll dg.data.toList = .ok v
    ·obtain ⟨v, hv⟩ := hv
     rw [hv] at h
     obtain ⟨t3, h3, h⟩ := Option.bind_eq_some_iff.mp h
     have W3 := A_ (fun w => impl_wholeDigits.calls k dg t3 w h3)
     have AT := A_ (fun w => Go.Proofs.YtmdeolonjmjmgaaDoor.SLit.atoiOk dg (by omega) v hv w)
     clear sA sD HTAB_ hs h3 hv hd
     by_cases c : t3 = true ∧ dg.size ≤ 3 ∧ v ≤ 400 ∧ ¬ (mi = true ∧ v = 0)
     ·rw [if_pos c] at h
      simp only [Option.some.injEq, Prod.mk.injEq] at h
      obtain ⟨rfl, rfl, rfl, rfl⟩ := h
      obtain ⟨rfl, c1, c2, c3⟩ := c
      have cS : decide ((dg.size : Int) > 3) = false := decide_eq_false (by omega)
      have cV : decide (v > 400) = false := decide_eq_false (by omega)
      clear c1 c2
      cases mi with
      | false =>
       rw [if_neg (by decide)]
       clear c3
       cases pt with
       | false =>
        clear D2
        go_enter Tryd.func17, Tryd.ntmps17
        go_wp2_with (first | (go_at_call 36; (with_reducible refine (CA.out _).mono ?_); rintro e w' ⟨rfl, n, rfl⟩) | (go_at_call 36; (with_reducible refine (CB.out _).mono ?_); rintro e w' ⟨rfl, n, rfl⟩) | (go_at_call 37; (with_reducible refine (W1.out _).mono ?_); rintro e w' ⟨rfl, ⟨nd, rfl⟩⟩) | (go_at_call 39; (with_reducible refine (CM.out _).mono ?_); rintro e w' ⟨rfl, rfl⟩) | (go_at_call 40; refine (AT.out _).mono ?_; rintro e w1 ⟨rfl, hb⟩; replace hb := A_ hb) | (go_at_call 37; (with_reducible refine (W3.out _).mono ?_); rintro e w' ⟨rfl, ⟨nd, rfl⟩⟩))
        (try simp only [Exit.inBlock, Exit.then])
        refine bodyPost_ret (results_list (rs := [.tmp 2, .tmp 3, .tmp 4, .tmp 5]) rfl (by simp) (.tmp (.tmp (.tmp (.tmp .nil))))) rfl ?_
        exact ⟨rfl, pw_below_drewN ((pw_below_drewN (Below.refl w.heap.size w) _).trans hb.out) _⟩
       | true =>
        replace D2 := D2 rfl
        go_enter Tryd.func17, Tryd.ntmps17
        go_wp2_with (first | (go_at_call 36; (with_reducible refine (CA.out _).mono ?_); rintro e w' ⟨rfl, n, rfl⟩) | (go_at_call 36; (with_reducible refine (CB.out _).mono ?_); rintro e w' ⟨rfl, n, rfl⟩) | (go_at_call 37; (with_reducible refine (W1.out _).mono ?_); rintro e w' ⟨rfl, ⟨nd, rfl⟩⟩) | (go_at_call 38; (with_reducible refine (D2.out _).mono ?_); rintro e w' ⟨rfl, ⟨nd, rfl⟩⟩) | (go_at_call 39; (with_reducible refine (CM.out _).mono ?_); rintro e w' ⟨rfl, rfl⟩) | (go_at_call 40; refine (AT.out _).mono ?_; rintro e w1 ⟨rfl, hb⟩; replace hb := A_ hb) | (go_at_call 37; (with_reducible refine (W3.out _).mono ?_); rintro e w' ⟨rfl, ⟨nd, rfl⟩⟩))
        (try simp only [Exit.inBlock, Exit.then])
        refine bodyPost_ret (results_list (rs := [.tmp 2, .tmp 3, .tmp 4, .tmp 5]) rfl (by simp) (.tmp (.tmp (.tmp (.tmp .nil))))) rfl ?_
        exact ⟨rfl, pw_below_drewN ((pw_below_drewN (Below.refl w.heap.size w) _).trans hb.out) _⟩
      | true =>
       rw [if_pos rfl]
       have cZ : (v == 0) = false := beq_eq_false_iff_ne.mpr fun e => c3 ⟨rfl, e⟩
       clear c3
       cases pt with
       | false =>
        clear D2
        go_enter Tryd.func17, Tryd.ntmps17
        go_wp2_with (first | (go_at_call 36; (with_reducible refine (CA.out _).mono ?_); rintro e w' ⟨rfl, n, rfl⟩) | (go_at_call 36; (with_reducible refine (CB.out _).mono ?_); rintro e w' ⟨rfl, n, rfl⟩) | (go_at_call 37; (with_reducible refine (W1.out _).mono ?_); rintro e w' ⟨rfl, ⟨nd, rfl⟩⟩) | (go_at_call 39; (with_reducible refine (CM.out _).mono ?_); rintro e w' ⟨rfl, rfl⟩) | (go_at_call 40; refine (AT.out _).mono ?_; rintro e w1 ⟨rfl, hb⟩; replace hb := A_ hb) | (go_at_call 37; (with_reducible refine (W3.out _).mono ?_); rintro e w' ⟨rfl, ⟨nd, rfl⟩⟩))
        (try simp only [Exit.inBlock, Exit.then])
        refine bodyPost_ret (results_list (rs := [.tmp 2, .tmp 3, .tmp 4, .tmp 5]) rfl (by simp) (.tmp (.tmp (.tmp (.tmp .nil))))) rfl ?_
        exact ⟨rfl, pw_below_drewN ((pw_below_drewN (Below.refl w.heap.size w) _).trans hb.out) _⟩
       | true =>
        replace D2 := D2 rfl
        go_enter Tryd.func17, Tryd.ntmps17
        go_wp2_with (first | (go_at_call 36; (with_reducible refine (CA.out _).mono ?_); rintro e w' ⟨rfl, n, rfl⟩) | (go_at_call 36; (with_reducible refine (CB.out _).mono ?_); rintro e w' ⟨rfl, n, rfl⟩) | (go_at_call 37; (with_reducible refine (W1.out _).mono ?_); rintro e w' ⟨rfl, ⟨nd, rfl⟩⟩) | (go_at_call 38; (with_reducible refine (D2.out _).mono ?_); rintro e w' ⟨rfl, ⟨nd, rfl⟩⟩) | (go_at_call 39; (with_reducible refine (CM.out _).mono ?_); rintro e w' ⟨rfl, rfl⟩) | (go_at_call 40; refine (AT.out _).mono ?_; rintro e w1 ⟨rfl, hb⟩; replace hb := A_ hb) | (go_at_call 37; (with_reducible refine (W3.out _).mono ?_); rintro e w' ⟨rfl, ⟨nd, rfl⟩⟩))
        (try simp only [Exit.inBlock, Exit.then])
        refine bodyPost_ret (results_list (rs := [.tmp 2, .tmp 3, .tmp 4, .tmp 5]) rfl (by simp) (.tmp (.tmp (.tmp (.tmp .nil))))) rfl ?_
        exact ⟨rfl, pw_below_drewN ((pw_below_drewN (Below.refl w.heap.size w) _).trans hb.out) _⟩
     ·rw [if_neg c] at h
      simp only [Option.some.injEq, Prod.mk.injEq] at h
      obtain ⟨rfl, rfl, rfl, rfl⟩ := h
      cases t3 with
      | false =>
       clear c
       cases pt with
       | false =>
        clear D2
        go_enter Tryd.func17, Tryd.ntmps17
        go_wp2_with (first | (go_at_call 36; (with_reducible refine (CA.out _).mono ?_); rintro e w' ⟨rfl, n, rfl⟩) | (go_at_call 36; (with_reducible refine (CB.out _).mono ?_); rintro e w' ⟨rfl, n, rfl⟩) | (go_at_call 37; (with_reducible refine (W1.out _).mono ?_); rintro e w' ⟨rfl, ⟨nd, rfl⟩⟩) | (go_at_call 39; (with_reducible refine (CM.out _).mono ?_); rintro e w' ⟨rfl, rfl⟩) | (go_at_call 40; refine (AT.out _).mono ?_; rintro e w1 ⟨rfl, hb⟩; replace hb := A_ hb) | (go_at_call 37; (with_reducible refine (W3.out _).mono ?_); rintro e w' ⟨rfl, ⟨nd, rfl⟩⟩))
        (try simp only [Exit.inBlock, Exit.then])
        refine bodyPost_ret (results_list (rs := [.tmp 2, .tmp 3, .tmp 4, .tmp 5]) rfl (by simp) (.tmp (.tmp (.tmp (.tmp .nil))))) rfl ?_
        exact ⟨rfl, pw_below_drewN ((pw_below_drewN (Below.refl w.heap.size w) _).trans hb.out) _⟩
       | true =>
        replace D2 := D2 rfl
        go_enter Tryd.func17, Tryd.ntmps17
        go_wp2_with (first | (go_at_call 36; (with_reducible refine (CA.out _).mono ?_); rintro e w' ⟨rfl, n, rfl⟩) | (go_at_call 36; (with_reducible refine (CB.out _).mono ?_); rintro e w' ⟨rfl, n, rfl⟩) | (go_at_call 37; (with_reducible refine (W1.out _).mono ?_); rintro e w' ⟨rfl, ⟨nd, rfl⟩⟩) | (go_at_call 38; (with_reducible refine (D2.out _).mono ?_); rintro e w' ⟨rfl, ⟨nd, rfl⟩⟩) | (go_at_call 39; (with_reducible refine (CM.out _).mono ?_); rintro e w' ⟨rfl, rfl⟩) | (go_at_call 40; refine (AT.out _).mono ?_; rintro e w1 ⟨rfl, hb⟩; replace hb := A_ hb) | (go_at_call 37; (with_reducible refine (W3.out _).mono ?_); rintro e w' ⟨rfl, ⟨nd, rfl⟩⟩))
        (try simp only [Exit.inBlock, Exit.then])
        refine bodyPost_ret (results_list (rs := [.tmp 2, .tmp 3, .tmp 4, .tmp 5]) rfl (by simp) (.tmp (.tmp (.tmp (.tmp .nil))))) rfl ?_
        exact ⟨rfl, pw_below_drewN ((pw_below_drewN (Below.refl w.heap.size w) _).trans hb.out) _⟩
      | true =>
       by_cases c1 : dg.size ≤ 3
       ·have cS : decide ((dg.size : Int) > 3) = false := decide_eq_false (by omega)
        by_cases c2 : v ≤ 400
        ·have cV : decide (v > 400) = false := decide_eq_false (by omega)
         have c3 : mi = true ∧ v = 0 := Classical.byContradiction fun e => c ⟨rfl, c1, c2, e⟩
         obtain ⟨rfl, c3⟩ := c3
         have cZ : (v == 0) = true := beq_iff_eq.mpr c3
         clear c c1 c2 c3
         cases pt with
         | false =>
          clear D2
          go_enter Tryd.func17, Tryd.ntmps17
          go_wp2_with (first | (go_at_call 36; (with_reducible refine (CA.out _).mono ?_); rintro e w' ⟨rfl, n, rfl⟩) | (go_at_call 36; (with_reducible refine (CB.out _).mono ?_); rintro e w' ⟨rfl, n, rfl⟩) | (go_at_call 37; (with_reducible refine (W1.out _).mono ?_); rintro e w' ⟨rfl, ⟨nd, rfl⟩⟩) | (go_at_call 39; (with_reducible refine (CM.out _).mono ?_); rintro e w' ⟨rfl, rfl⟩) | (go_at_call 40; refine (AT.out _).mono ?_; rintro e w1 ⟨rfl, hb⟩; replace hb := A_ hb) | (go_at_call 37; (with_reducible refine (W3.out _).mono ?_); rintro e w' ⟨rfl, ⟨nd, rfl⟩⟩))
          (try simp only [Exit.inBlock, Exit.then])
          refine bodyPost_ret (results_list (rs := [.tmp 2, .tmp 3, .tmp 4, .tmp 5]) rfl (by simp) (.tmp (.tmp (.tmp (.tmp .nil))))) rfl ?_
          exact ⟨rfl, pw_below_drewN ((pw_below_drewN (Below.refl w.heap.size w) _).trans hb.out) _⟩
         | true =>
          replace D2 := D2 rfl
          go_enter Tryd.func17, Tryd.ntmps17
          go_wp2_with (first | (go_at_call 36; (with_reducible refine (CA.out _).mono ?_); rintro e w' ⟨rfl, n, rfl⟩) | (go_at_call 36; (with_reducible refine (CB.out _).mono ?_); rintro e w' ⟨rfl, n, rfl⟩) | (go_at_call 37; (with_reducible refine (W1.out _).mono ?_); rintro e w' ⟨rfl, ⟨nd, rfl⟩⟩) | (go_at_call 38; (with_reducible refine (D2.out _).mono ?_); rintro e w' ⟨rfl, ⟨nd, rfl⟩⟩) | (go_at_call 39; (with_reducible refine (CM.out _).mono ?_); rintro e w' ⟨rfl, rfl⟩) | (go_at_call 40; refine (AT.out _).mono ?_; rintro e w1 ⟨rfl, hb⟩; replace hb := A_ hb) | (go_at_call 37; (with_reducible refine (W3.out _).mono ?_); rintro e w' ⟨rfl, ⟨nd, rfl⟩⟩))
          (try simp only [Exit.inBlock, Exit.then])
          refine bodyPost_ret (results_list (rs := [.tmp 2, .tmp 3, .tmp 4, .tmp 5]) rfl (by simp) (.tmp (.tmp (.tmp (.tmp .nil))))) rfl ?_
          exact ⟨rfl, pw_below_drewN ((pw_below_drewN (Below.refl w.heap.size w) _).trans hb.out) _⟩
        ·have cV : decide (v > 400) = true := decide_eq_true (by omega)
         clear c c1 c2
         cases pt with
         | false =>
          clear D2
          go_enter Tryd.func17, Tryd.ntmps17
          go_wp2_with (first | (go_at_call 36; (with_reducible refine (CA.out _).mono ?_); rintro e w' ⟨rfl, n, rfl⟩) | (go_at_call 36; (with_reducible refine (CB.out _).mono ?_); rintro e w' ⟨rfl, n, rfl⟩) | (go_at_call 37; (with_reducible refine (W1.out _).mono ?_); rintro e w' ⟨rfl, ⟨nd, rfl⟩⟩) | (go_at_call 39; (with_reducible refine (CM.out _).mono ?_); rintro e w' ⟨rfl, rfl⟩) | (go_at_call 40; refine (AT.out _).mono ?_; rintro e w1 ⟨rfl, hb⟩; replace hb := A_ hb) | (go_at_call 37; (with_reducible refine (W3.out _).mono ?_); rintro e w' ⟨rfl, ⟨nd, rfl⟩⟩))
          (try simp only [Exit.inBlock, Exit.then])
          refine bodyPost_ret (results_list (rs := [.tmp 2, .tmp 3, .tmp 4, .tmp 5]) rfl (by simp) (.tmp (.tmp (.tmp (.tmp .nil))))) rfl ?_
          exact ⟨rfl, pw_below_drewN ((pw_below_drewN (Below.refl w.heap.size w) _).trans hb.out) _⟩
         | true =>
          replace D2 := D2 rfl
          go_enter Tryd.func17, Tryd.ntmps17
          go_wp2_with (first | (go_at_call 36; (with_reducible refine (CA.out _).mono ?_); rintro e w' ⟨rfl, n, rfl⟩) | (go_at_call 36; (with_reducible refine (CB.out _).mono ?_); rintro e w' ⟨rfl, n, rfl⟩) | (go_at_call 37; (with_reducible refine (W1.out _).mono ?_); rintro e w' ⟨rfl, ⟨nd, rfl⟩⟩) | (go_at_call 38; (with_reducible refine (D2.out _).mono ?_); rintro e w' ⟨rfl, ⟨nd, rfl⟩⟩) | (go_at_call 39; (with_reducible refine (CM.out _).mono ?_); rintro e w' ⟨rfl, rfl⟩) | (go_at_call 40; refine (AT.out _).mono ?_; rintro e w1 ⟨rfl, hb⟩; replace hb := A_ hb) | (go_at_call 37; (with_reducible refine (W3.out _).mono ?_); rintro e w' ⟨rfl, ⟨nd, rfl⟩⟩))
          (try simp only [Exit.inBlock, Exit.then])
          refine bodyPost_ret (results_list (rs := [.tmp 2, .tmp 3, .tmp 4, .tmp 5]) rfl (by simp) (.tmp (.tmp (.tmp (.tmp .nil))))) rfl ?_
          exact ⟨rfl, pw_below_drewN ((pw_below_drewN (Below.refl w.heap.size w) _).trans hb.out) _⟩
       ·have cS : decide ((dg.size : Int) > 3) = true := decide_eq_true (by omega)
        clear c c1
        cases pt with
        | false =>
         clear D2
         go_enter Tryd.func17, Tryd.ntmps17
         go_wp2_with (first | (go_at_call 36; (with_reducible refine (CA.out _).mono ?_); rintro e w' ⟨rfl, n, rfl⟩) | (go_at_call 36; (with_reducible refine (CB.out _).mono ?_); rintro e w' ⟨rfl, n, rfl⟩) | (go_at_call 37; (with_reducible refine (W1.out _).mono ?_); rintro e w' ⟨rfl, ⟨nd, rfl⟩⟩) | (go_at_call 39; (with_reducible refine (CM.out _).mono ?_); rintro e w' ⟨rfl, rfl⟩) | (go_at_call 40; refine (AT.out _).mono ?_; rintro e w1 ⟨rfl, hb⟩; replace hb := A_ hb) | (go_at_call 37; (with_reducible refine (W3.out _).mono ?_); rintro e w' ⟨rfl, ⟨nd, rfl⟩⟩))
         (try simp only [Exit.inBlock, Exit.then])
         refine bodyPost_ret (results_list (rs := [.tmp 2, .tmp 3, .tmp 4, .tmp 5]) rfl (by simp) (.tmp (.tmp (.tmp (.tmp .nil))))) rfl ?_
         exact ⟨rfl, pw_below_drewN ((pw_below_drewN (Below.refl w.heap.size w) _).trans hb.out) _⟩
        | true =>
         replace D2 := D2 rfl
         go_enter Tryd.func17, Tryd.ntmps17
         go_wp2_with (first | (go_at_call 36; (with_reducible refine (CA.out _).mono ?_); rintro e w' ⟨rfl, n, rfl⟩) | (go_at_call 36; (with_reducible refine (CB.out _).mono ?_); rintro e w' ⟨rfl, n, rfl⟩) | (go_at_call 37; (with_reducible refine (W1.out _).mono ?_); rintro e w' ⟨rfl, ⟨nd, rfl⟩⟩) | (go_at_call 38; (with_reducible refine (D2.out _).mono ?_); rintro e w' ⟨rfl, ⟨nd, rfl⟩⟩) | (go_at_call 39; (with_reducible refine (CM.out _).mono ?_); rintro e w' ⟨rfl, rfl⟩) | (go_at_call 40; refine (AT.out _).mono ?_; rintro e w1 ⟨rfl, hb⟩; replace hb := A_ hb) | (go_at_call 37; (with_reducible refine (W3.out _).mono ?_); rintro e w' ⟨rfl, ⟨nd, rfl⟩⟩))
         (try simp only [Exit.inBlock, Exit.then])
         refine bodyPost_ret (results_list (rs := [.tmp 2, .tmp 3, .tmp 4, .tmp 5]) rfl (by simp) (.tmp (.tmp (.tmp (.tmp .nil))))) rfl ?_
         exact ⟨rfl, pw_below_drewN ((pw_below_drewN (Below.refl w.heap.size w) _).trans hb.out) _⟩
    ·have AT := A_ (fun w => Go.Proofs.YtmdeolonjmjmgaaDoor.SLit.atoiNo dg (by omega) (fun v e => hv ⟨v, e⟩) w)
     have h' : some ((⟨#[]⟩ : ByteArray), (⟨#[]⟩ : ByteArray), (0 : Int), false) = some (r1, r2, r3, r4) := by
      cases e : Lib.atoiAll dg.data.toList with
      | ok v => exact absurd ⟨v, e⟩ hv
      | _ => rw [e] at h; exact h
     simp only [Option.some.injEq, Prod.mk.injEq] at h'
     obtain ⟨rfl, rfl, rfl, rfl⟩ := h'
     clear h sA sD hs hv hd
     cases pt with
     | false =>
      clear D2
      go_enter Tryd.func17, Tryd.ntmps17
      go_wp2_with (first | (go_at_call 36; (with_reducible refine (CA.out _).mono ?_); rintro e w' ⟨rfl, n, rfl⟩) | (go_at_call 36; (with_reducible refine (CB.out _).mono ?_); rintro e w' ⟨rfl, n, rfl⟩) | (go_at_call 37; (with_reducible refine (W1.out _).mono ?_); rintro e w' ⟨rfl, ⟨nd, rfl⟩⟩) | (go_at_call 39; (with_reducible refine (CM.out _).mono ?_); rintro e w' ⟨rfl, rfl⟩) | (go_at_call 40; refine (AT.out _ (Go.Proofs.YtmdeolonjmjmgaaDoor.SLit.Tab.drewN HTAB_.out _)).mono ?_; rintro e w1 ⟨⟨z, ty, ptr, rfl⟩, hb⟩; replace hb := A_ hb))
      (try simp only [Exit.inBlock, Exit.then])
      refine bodyPost_ret (results_list (rs := [.tmp 2, .tmp 3, .tmp 4, .tmp 5]) rfl (by simp) (.tmp (.tmp (.tmp (.tmp .nil))))) rfl ?_
      exact ⟨rfl, (pw_below_drewN (Below.refl w.heap.size w) _).trans hb.out⟩
     | true =>
      replace D2 := D2 rfl
      go_enter Tryd.func17, Tryd.ntmps17
      go_wp2_with (first | (go_at_call 36; (with_reducible refine (CA.out _).mono ?_); rintro e w' ⟨rfl, n, rfl⟩) | (go_at_call 36; (with_reducible refine (CB.out _).mono ?_); rintro e w' ⟨rfl, n, rfl⟩) | (go_at_call 37; (with_reducible refine (W1.out _).mono ?_); rintro e w' ⟨rfl, ⟨nd, rfl⟩⟩) | (go_at_call 38; (with_reducible refine (D2.out _).mono ?_); rintro e w' ⟨rfl, ⟨nd, rfl⟩⟩) | (go_at_call 39; (with_reducible refine (CM.out _).mono ?_); rintro e w' ⟨rfl, rfl⟩) | (go_at_call 40; refine (AT.out _ (Go.Proofs.YtmdeolonjmjmgaaDoor.SLit.Tab.drewN HTAB_.out _)).mono ?_; rintro e w1 ⟨⟨z, ty, ptr, rfl⟩, hb⟩; replace hb := A_ hb))
      (try simp only [Exit.inBlock, Exit.then])
      refine bodyPost_ret (results_list (rs := [.tmp 2, .tmp 3, .tmp 4, .tmp 5]) rfl (by simp) (.tmp (.tmp (.tmp (.tmp .nil))))) rfl ?_
      exact ⟨rfl, (pw_below_drewN (Below.refl w.heap.size w) _).trans hb.out⟩

/-! ### impl_DecOk: function 9 -/
def impl_DecOk.f (k : Nat) (a0 : ByteArray) : Option (Bool) := (impl_literal.f k a0).bind fun bt314 => (if bt314.2.2.2 = true then (some (decide ((a0.size : Int) ≤ 60))) else (some false))
set_option maxHeartbeats 8000000 in
set_option maxRecDepth 100000 in
theorem impl_DecOk.calls (k : Nat) (a0 : ByteArray) (r : Bool) (w : World) (h : impl_DecOk.f k a0 = some r) (HTAB_ : Aside0 (Go.Proofs.YtmdeolonjmjmgaaDoor.SLit.Tab w)) :
  Calls Tryd.prog 9 #[.string a0] w fun e w' => e = .returned (.bool r) ∧ Below w.heap.size w w' := by
 have HB := A_ (Below.refl w.heap.size w)
 have H : ((impl_literal.f k a0).bind fun bt314 => (if bt314.2.2.2 = true then (some (decide ((a0.size : Int) ≤ 60))) else (some false))) = some r := h
 clear h
 replace H := Option.bind_eq_some_iff.mp H
 obtain ⟨⟨t314, t315, t316, t317⟩, A20, H⟩ := H
 replace H : (if t317 = true then (some (decide ((a0.size : Int) ≤ 60))) else (some false)) = some r := H
 have A2 := A_ A20
 clear A20
 by_cases c3 : t317 = true
 ·subst c3
  have H1 : (some (decide ((a0.size : Int) ≤ 60))) = some r := by rw [if_pos rfl] at H; exact H
  clear H
  have H := H1
  clear H1
  obtain rfl := Option.some.inj H
  go_enter Tryd.func9, Tryd.ntmps9
  go_wp2_with (first | ((with_reducible refine gate_callee (f := 17) rfl ?_); refine goesL_ (some 9) rfl rfl Tryd.func17 (by kernel_rfl) rfl #[.string a0] rfl (by (try simp only [List.map_toArray, List.map_cons, List.map_nil]); first | done | rfl) ?_; (with_reducible refine (impl_literal.calls k a0 t314 t315 t316 true _ A2.out ⟨by first | exact HTAB_.out | exact Go.Proofs.YtmdeolonjmjmgaaDoor.SLit.Tab.below HTAB_.out HB.out | exact Go.Proofs.YtmdeolonjmjmgaaDoor.SLit.Tab.below HTAB_.out hB_ | exact Go.Proofs.YtmdeolonjmjmgaaDoor.SLit.Tab.below HTAB_.out (by repeat (first | (with_reducible first | exact HB.out | apply b1_ | apply b2_ | apply b3_) | exact HB.out | exact Below.refl _ _))⟩).mono ?_); rintro e w4 ⟨rfl, hb⟩; refine ⟨_, rfl, ?_⟩; have n0_ := A_ (below_step hB_ hb); clear HB; have HB := n0_; clear n0_; (try clear hb); (try clear hb2); (try clear hk); (try clear hi)))
  go_ret
  exact ⟨by first | rfl | (simp [errW_none, errW_some] <;> rfl) | (simp [*, errW_none, errW_some] <;> rfl), hB_⟩
 ·replace c3 := Bool.eq_false_iff.mpr c3
  subst c3
  have H1 : (some false) = some r := by rw [if_neg (show ¬ (false = true) by decide)] at H; exact H
  clear H
  have H := H1
  clear H1
  obtain rfl := Option.some.inj H
  go_enter Tryd.func9, Tryd.ntmps9
  go_wp2_with (first | ((with_reducible refine gate_callee (f := 17) rfl ?_); refine goesL_ (some 9) rfl rfl Tryd.func17 (by kernel_rfl) rfl #[.string a0] rfl (by (try simp only [List.map_toArray, List.map_cons, List.map_nil]); first | done | rfl) ?_; (with_reducible refine (impl_literal.calls k a0 t314 t315 t316 false _ A2.out ⟨by first | exact HTAB_.out | exact Go.Proofs.YtmdeolonjmjmgaaDoor.SLit.Tab.below HTAB_.out HB.out | exact Go.Proofs.YtmdeolonjmjmgaaDoor.SLit.Tab.below HTAB_.out hB_ | exact Go.Proofs.YtmdeolonjmjmgaaDoor.SLit.Tab.below HTAB_.out (by repeat (first | (with_reducible first | exact HB.out | apply b1_ | apply b2_ | apply b3_) | exact HB.out | exact Below.refl _ _))⟩).mono ?_); rintro e w5 ⟨rfl, hb⟩; refine ⟨_, rfl, ?_⟩; have n0_ := A_ (below_step hB_ hb); clear HB; have HB := n0_; clear n0_; (try clear hb); (try clear hb2); (try clear hk); (try clear hi)))
  go_ret
  exact ⟨by first | rfl | (simp [errW_none, errW_some] <;> rfl) | (simp [*, errW_none, errW_some] <;> rfl), hB_⟩

/-! ### impl_trim: function 47 -/
def impl_trim.l0 : Nat → List Int → Option (List Int)
 | 0, _ => none
 | k + 1, x0 => if (x0.length : Int) > 0 then (if 0 ≤ (wrap64 ((x0.length : Int) - 1)) then (if (wrap64 ((x0.length : Int) - 1)) < (x0.length : Int) then (if (rd x0 (wrap64 ((x0.length : Int) - 1))) = 0 then (if (wrap64 ((x0.length : Int) - 1)) ≤ (x0.length : Int) then (impl_trim.l0 k (x0.take ((wrap64 ((x0.length : Int) - 1)) : Int).toNat)) else (none)) else (some x0)) else (none)) else (none)) else (some x0)
def impl_trim.f (k : Nat) (l0 : List Int) : Option (List Int) := impl_trim.l0 k l0
set_option maxHeartbeats 8000000 in
set_option maxRecDepth 100000 in
theorem impl_trim.calls (k : Nat) (P0_ : Nat → Prop) (A0 : Option Addr) (c0 : Nat) (l0 : List Int) (r : List Int) (w : World) (hs0 : Kd.V (Kd.int .i64) 3 w w.heap.size (fun k_ => P0_ k_) (.slice A0 l0.length c0) l0) (h : impl_trim.f k l0 = some r) :
  Calls Tryd.prog 47 #[.slice A0 l0.length c0] w fun e w' => ∃ v0_ : Value, e = .returned (v0_) ∧ Kd.V (Kd.int .i64) 3 w' w.heap.size (fun k_ => (P0_ k_ ∨ w.heap.size ≤ k_)) v0_ r ∧ Below w.heap.size w w' := by
 have HO0 := A_ (show Kd.V (Kd.int .i64) 3 w w.heap.size (fun k_ => (P0_ k_ ∨ w.heap.size ≤ k_)) (.slice A0 l0.length c0) l0 from Kd.V_mono hs0 (fun k_ hk => .inl hk))
 have HB := A_ (Below.refl w.heap.size w)
 have H : (impl_trim.l0 k l0) = some r := h
 clear h
 have H' := A_ H
 clear H
 go_enter Tryd.func47, Tryd.ntmps47
 go_wp2
 go_loopg [0] k (fun kq v0 w' => ∃ (x0_1 : List Int), Aside0 (impl_trim.l0 kq x0_1 = some r) ∧ Aside0 (kq ≤ k) ∧ Aside0 (Kd.V (Kd.int .i64) 3 w' w.heap.size (fun k_ => (P0_ k_ ∨ w.heap.size ≤ k_)) v0 x0_1) ∧ Aside0 (Below w.heap.size w w'))
 case atStart => exact ⟨(l0), H', ⟨Nat.le_refl _⟩, ⟨by (with_reducible repeat (first | apply Kd.V_alloc | apply Kd.V_drewN | apply Kd.V_drew)); exact HO0.out⟩, ⟨hB_⟩⟩
 case round =>
  clear H'
  obtain ⟨x0_1, HA, HK1, HO_0, HB⟩ := hrel
  cases gk with
  | zero => exact absurd HA.out (by simp [impl_trim.l0])
  | succ k1 =>
   have H := HA.out
   clear HA
   simp only [impl_trim.l0] at H
   by_cases c2 : (x0_1.length : Int) > 0
   ·rw [if_pos c2] at H
    have c2b0 : decide (0 < (x0_1.length : Int)) = true := decide_eq_true c2
    have c2b1 : decide (0 < x0_1.length) = true := decide_eq_true (by omega)
    clear c2
    obtain ⟨ji3, hji3⟩ : ∃ j_ : Int, (wrap64 ((x0_1.length : Int) - 1)) = j_ := ⟨_, rfl⟩
    replace H : (if 0 ≤ (ji3) then (if (ji3) < (x0_1.length : Int) then (if (rd x0_1 (ji3)) = 0 then (if (ji3) ≤ (x0_1.length : Int) then (impl_trim.l0 k1 (x0_1.take ((ji3) : Int).toNat)) else (none)) else (some x0_1)) else (none)) else (none)) = some r := by first | (rw [hji3] at H; exact H) | (simp only [hji3] at H ⊢; exact H)
    have hji3w : (IntKind.i64.wrap ((x0_1.length : Int) - 1)) = ji3 := (i64_w _).trans hji3
    by_cases c4 : 0 ≤ (ji3)
    ·rw [if_pos c4] at H
     have c4b0 : decide (0 ≤ (ji3)) = true := decide_eq_true c4
     clear c4
     by_cases c5 : (ji3) < (x0_1.length : Int)
     ·rw [if_pos c5] at H
      have c5b0 : decide ((ji3) < (x0_1.length : Int)) = true := decide_eq_true c5
      clear c5
      by_cases c6 : (rd x0_1 (ji3)) = 0
      ·rw [if_pos c6] at H
       have c6b0 : ((rd x0_1 (ji3)) == 0) = true := beq_iff_eq.mpr c6
       have c6b1 : ((rd x0_1 (ji3)) != 0) = false := bne_eq_false_iff_eq.mpr c6
       clear c6
       have c7b0 := eq_true (of_decide_eq_true as_ : 0 ≤ (ji3))
       by_cases c8 : (ji3) ≤ (x0_1.length : Int)
       ·rw [if_pos c8] at H
        have c8b0 := eq_true c8
        have c8b1 : decide ((ji3) ≤ (x0_1.length : Int)) = true := decide_eq_true c8
        clear c8
        obtain ⟨y319, hy319⟩ : ∃ y_ : List Int, y_ = (x0_1.take ((ji3) : Int).toNat) := ⟨_, rfl⟩
        replace H : (impl_trim.l0 k1 y319) = some r := by first | (rw [hy319]; with_reducible exact H) | (have H2_ := (Option.bind_some _ _).symm.trans H; rw [hy319]; with_reducible exact H2_) | (have H2_ := (Option.bind_some _ _).symm.trans H; with_reducible exact H2_) | with_reducible exact H | (rw [hy319]; exact H) | exact H
        have Ny319 := A_ hy319
        clear hy319
        have H' := A_ H
        clear H
        obtain ⟨Ao9, co9, eo9⟩ := Kd.V_slice HO_0.out
        subst eo9
        have p318 : 0 ≤ ((ji3) : Int) := of_decide_eq_true as_
        have q318 : (ji3) < (x0_1.length : Int) := of_decide_eq_true as_
        obtain ⟨ad318, e318, hx318_0⟩ := Kd.at_int (Kd.V_reads' HO_0.out).2.2 (ji3) p318 q318
        cases e318
        replace p318 := eq_true p318
        replace q318 := eq_true q318
        have q10 : ((ji3) : Int) ≤ ((x0_1.length : Int) : Int) := of_decide_eq_true as_
        obtain ⟨i010, hi010, _, hsz10, _⟩ := info_parts info3
        have hroom10 : x0_1.length ≤ co9 := (Kd.V_reads' HO_0.out).2.1
        have hC10 : Kd.F (Kd.int .i64) _ _ (some ad318) x0_1.length x0_1 := (Kd.V_at (base := w.heap.size) HO_0.out).2.2
        have hcut10 := cut_to (P := Tryd.prog) 23 3 .i64 Tryd.underlying23 hi010 (some ad318) x0_1.length co9 (ji3) (of_decide_eq_true as_) q10 hroom10
        have hr10 := Kd.F_take (m := ((ji3) : Int).toNat) hC10 (by omega)
        have hy10 : y319.length = ((ji3) : Int).toNat := (by rw [Ny319.out, List.length_take]; omega)
        rw [← Ny319.out] at hr10
        rw [← hy10] at hcut10
        have HO323 := A_ (show Kd.V (Kd.int .i64) 3 _ w.heap.size _ (.slice (some ad318) y319.length co9) y319 from Kd.V_mk (by omega) hr10)
        have HC323 := A_ (show y319.length ≤ co9 from by omega)
        clear hr10 hC10 hroom10 hi010 hsz10
        have KY10 := A_ hy10
        clear hy10
        replace q10 := eq_true q10
        go_wp2
        go_roundg k1
        case measure => have := HK1.out; omega
        case rel => exact ⟨(y319), H', ⟨by have := HK1.out; omega⟩, ⟨by (with_reducible repeat (first | apply Kd.V_alloc | apply Kd.V_drewN | apply Kd.V_drew)); exact HO323.out⟩, ⟨hB_⟩⟩
       ·rw [if_neg c8] at H
        exact absurd H (by simp)
      ·rw [if_neg c6] at H
       have c6b0 : ((rd x0_1 (ji3)) == 0) = false := beq_eq_false_iff_ne.mpr c6
       have c6b1 : ((rd x0_1 (ji3)) != 0) = true := bne_iff_ne.mpr c6
       obtain rfl := Option.some.inj H
       obtain ⟨Ao11, co11, eo11⟩ := Kd.V_slice HO_0.out
       subst eo11
       have p318 : 0 ≤ ((ji3) : Int) := of_decide_eq_true as_
       have q318 : (ji3) < (x0_1.length : Int) := of_decide_eq_true as_
       obtain ⟨ad318, e318, hx318_0⟩ := Kd.at_int (Kd.V_reads' HO_0.out).2.2 (ji3) p318 q318
       cases e318
       replace p318 := eq_true p318
       replace q318 := eq_true q318
       go_wp2
       go_ret
       exact ⟨_, by first | rfl | (simp [errW_none, errW_some] <;> rfl) | (simp only [← hji3]; first | rfl | (simp [errW_none, errW_some] <;> rfl)) | (simp [*, errW_none, errW_some] <;> rfl), by (with_reducible repeat (first | apply Kd.V_alloc | apply Kd.V_drewN | apply Kd.V_drew)); exact HO_0.out, hB_⟩
     ·rw [if_neg c5] at H
      exact absurd H (by simp)
    ·rw [if_neg c4] at H
     exact absurd H (by simp)
   ·rw [if_neg c2] at H
    have c2b0 : decide (0 < (x0_1.length : Int)) = false := decide_eq_false c2
    have c2b1 : decide (0 < x0_1.length) = false := decide_eq_false (by omega)
    clear c2
    obtain rfl := Option.some.inj H
    obtain ⟨Ao12, co12, eo12⟩ := Kd.V_slice HO_0.out
    subst eo12
    go_wp2
    go_ret
    exact ⟨_, by first | rfl | (simp [errW_none, errW_some] <;> rfl) | (simp [*, errW_none, errW_some] <;> rfl), by (with_reducible repeat (first | apply Kd.V_alloc | apply Kd.V_drewN | apply Kd.V_drew)); exact HO_0.out, hB_⟩

/-! ### impl_natMul: function 28 -/
mutual
def impl_natMul.l0 : Nat → List Int → List Int → List Int → Int → Int → Option (List Int)
 | 0, _, _, _, _, _ => none
 | k + 1, x1, x5, x19, x20, x21 => if x21 < x20 then (if 0 ≤ x21 then (if x21 < (x19.length : Int) then (impl_natMul.l1 k x1 x5 x21 (rd x19 x21) 0 x19 x20 x21 x1 (x1.length : Int) 0) else (none)) else (none)) else ((impl_trim.f k x5).bind fun t327 => (some t327))
def impl_natMul.l1 : Nat → List Int → List Int → Int → Int → Int → List Int → Int → Int → List Int → Int → Int → Option (List Int)
 | 0, _, _, _, _, _, _, _, _, _, _, _ => none
 | k + 1, x1, x5, x6, x7, x8, x19, x20, x21, x26, x27, x28 => if x28 < x27 then (if 0 ≤ x28 then (if x28 < (x26.length : Int) then (if 0 ≤ (wrap64 (x6 + x28)) then (if (wrap64 (x6 + x28)) < (x5.length : Int) then (impl_natMul.l1 k x1 (x5.set ((wrap64 (x6 + x28)) : Int).toNat (Go.bits .and .i64 (wrap64 ((wrap64 ((rd x5 (wrap64 (x6 + x28))) + (wrap64 (x7 * (rd x26 x28))))) + x8)) 65535)) x6 x7 ((wrap64 ((wrap64 ((rd x5 (wrap64 (x6 + x28))) + (wrap64 (x7 * (rd x26 x28))))) + x8)) / 65536) x19 x20 x21 x26 x27 (wrap64 (x28 + 1))) else (none)) else (none)) else (none)) else (none)) else (if 0 ≤ (wrap64 (x6 + (x1.length : Int))) then (if (wrap64 (x6 + (x1.length : Int))) < (x5.length : Int) then (impl_natMul.l0 k x1 (x5.set ((wrap64 (x6 + (x1.length : Int))) : Int).toNat (wrap64 ((rd x5 (wrap64 (x6 + (x1.length : Int)))) + x8))) x19 x20 (wrap64 (x21 + 1))) else (none)) else (none))
end
def impl_natMul.f (k : Nat) (l0 : List Int) (l1 : List Int) : Option (List Int) := if 0 ≤ (wrap64 ((wrap64 ((l0.length : Int) + (l1.length : Int))) + 1)) then (if (wrap64 ((wrap64 ((l0.length : Int) + (l1.length : Int))) + 1) : Int).toNat ≤ 35184372088832 then (impl_natMul.l0 k l1 (List.replicate (wrap64 ((wrap64 ((l0.length : Int) + (l1.length : Int))) + 1) : Int).toNat 0) l0 (l0.length : Int) 0) else (none)) else (none)
set_option maxHeartbeats 8000000 in
set_option maxRecDepth 100000 in
theorem impl_natMul.calls (k : Nat) (A0 : Option Addr) (c0 : Nat) (l0 : List Int) (A1 : Option Addr) (c1 : Nat) (l1 : List Int) (r : List Int) (w : World) (hr0 : Kd.C (Kd.int .i64) w A0 l0.length l0) (hc0 : l0.length ≤ c0) (hr1 : Kd.C (Kd.int .i64) w A1 l1.length l1) (hc1 : l1.length ≤ c1) (h : impl_natMul.f k l0 l1 = some r) :
  Calls Tryd.prog 28 #[.slice A0 l0.length c0, .slice A1 l1.length c1] w fun e w' => ∃ v0_ : Value, e = .returned (v0_) ∧ Kd.V (Kd.int .i64) 3 w' w.heap.size (fun k_ => (w.heap.size ≤ k_)) v0_ r ∧ Below w.heap.size w w' := by
 have HR0 := A_ hr0
 have HC0 := A_ hc0
 clear hr0 hc0
 have HR1 := A_ hr1
 have HC1 := A_ hc1
 clear hr1 hc1
 have HB := A_ (Below.refl w.heap.size w)
 have H : (if 0 ≤ (wrap64 ((wrap64 ((l0.length : Int) + (l1.length : Int))) + 1)) then (if (wrap64 ((wrap64 ((l0.length : Int) + (l1.length : Int))) + 1) : Int).toNat ≤ 35184372088832 then (impl_natMul.l0 k l1 (List.replicate (wrap64 ((wrap64 ((l0.length : Int) + (l1.length : Int))) + 1) : Int).toNat 0) l0 (l0.length : Int) 0) else (none)) else (none)) = some r := h
 clear h
 obtain ⟨ji3, hji3⟩ : ∃ j_ : Int, (wrap64 ((wrap64 ((l0.length : Int) + (l1.length : Int))) + 1)) = j_ := ⟨_, rfl⟩
 replace H : (if 0 ≤ (ji3) then (if (ji3 : Int).toNat ≤ 35184372088832 then (impl_natMul.l0 k l1 (List.replicate (ji3 : Int).toNat 0) l0 (l0.length : Int) 0) else (none)) else (none)) = some r := by first | (rw [hji3] at H; exact H) | (simp only [hji3] at H ⊢; exact H)
 have hji3w : (IntKind.i64.wrap ((wrap64 ((l0.length : Int) + (l1.length : Int))) + 1)) = ji3 := (i64_w _).trans hji3
 by_cases c4 : 0 ≤ (ji3)
 ·rw [if_pos c4] at H
  have c4b0 := eq_true c4
  have c4b1 : decide (0 ≤ (ji3)) = true := decide_eq_true c4
  clear c4
  by_cases c5 : (ji3 : Int).toNat ≤ 35184372088832
  ·rw [if_pos c5] at H
   have c5b0 := eq_true c5
   have c5b1 : decide ((ji3 : Int).toNat ≤ 35184372088832) = true := decide_eq_true c5
   clear c5
   obtain ⟨y324, hy324⟩ : ∃ y_ : List Int, y_ = (List.replicate (ji3 : Int).toNat 0) := ⟨_, rfl⟩
   replace H : (impl_natMul.l0 k l1 y324 l0 (l0.length : Int) 0) = some r := by first | (rw [hy324]; with_reducible exact H) | (have H2_ := (Option.bind_some _ _).symm.trans H; rw [hy324]; with_reducible exact H2_) | (have H2_ := (Option.bind_some _ _).symm.trans H; with_reducible exact H2_) | with_reducible exact H | (rw [hy324]; exact H) | exact H
   have Ny324 := A_ hy324
   clear hy324
   have H' := A_ H
   clear H
   go_enter Tryd.func28, Tryd.ntmps28
   go_wp2_with (first | ((with_reducible refine gate_dst (N := 18) rfl ?_); refine Kd.R_make (Kd.int .i64) _ 3 rfl (N := 18) rfl 23 _ _ rfl ji3 rfl rfl Tryd.underlying23 (.int .i64 0) 8 info3 rfl (by decide) (by omega) 0 (ok := fun _ => True) (okp := fun _ => True) rfl (fun _ hk => hk) trivial (of_decide_eq_true as_) (Nat.le_trans (Nat.mul_le_mul_right _ (of_decide_eq_true as_ : ji3.toNat ≤ 35184372088832)) (by omega)) (Below.refl _ _) (Nat.le_refl _) ?_; intro v325 w6 ho7 hb hg_ hnew_; clear hg_ hnew_; (first | rw [← Ny324.out] at ho7 | (simp only [Int.reduceToNat] at ho7; rw [← Ny324.out] at ho7)); have n0_ := A_ (Kd.R_lower (Kd.R_newM (M := fun k_ => (w.heap.size ≤ k_)) ho7 (below_size hB_) (fun k_ h_ => h_)) (below_size hB_)); have n1_ := A_ (below_step hB_ hb); clear HB; have HO326 := n0_; have HB := n1_; clear n0_ n1_; clear hb ho7))
   go_loopg [21] k (fun kq v21 w' => ∃ (x5_1 : List Int) (x21_1 : Int), v21 = .int .i64 x21_1 ∧ Aside0 (impl_natMul.l0 kq l1 x5_1 l0 (l0.length : Int) x21_1 = some r) ∧ Aside0 (kq ≤ k) ∧ Aside0 (Kd.R (Kd.int .i64) 3 w' w.heap.size (fun k_ => (w.heap.size ≤ k_)) v325 x5_1) ∧ Aside0 (Below w.heap.size w w'))
   case atStart => exact ⟨(y324), (0), (by first | rfl | (simp; done) | (simp [*]; done)), H', ⟨Nat.le_refl _⟩, ⟨by (with_reducible repeat (first | apply Kd.R_alloc | apply Kd.R_drewN | apply Kd.R_drew)); exact Kd.R_mono HO326.out (fun _ hk => hk.1)⟩, ⟨hB_⟩⟩
   case round =>
    clear H'
    (try clear c1); (try clear c2); (try clear p2); (try clear c4); (try clear c4b0); (try clear c4b1); (try clear c5); (try clear c5b0); (try clear c5b1); (try clear p6)
    obtain ⟨x5_1, x21_1, rfl, HA, HK1, HO_5, HB⟩ := hrel
    cases gk with
    | zero => exact absurd HA.out (by simp [impl_natMul.l0])
    | succ k1 =>
     have H := HA.out
     clear HA
     simp only [impl_natMul.l0] at H
     by_cases c8 : x21_1 < (l0.length : Int)
     ·rw [if_pos c8] at H
      have c8b0 : decide (x21_1 < (l0.length : Int)) = true := decide_eq_true c8
      clear c8
      by_cases c9 : 0 ≤ x21_1
      ·rw [if_pos c9] at H
       have c9b0 : decide (0 ≤ x21_1) = true := decide_eq_true c9
       clear c9
       by_cases c10 : x21_1 < (l0.length : Int)
       ·rw [if_pos c10] at H
        have c10b0 : decide (x21_1 < (l0.length : Int)) = true := decide_eq_true c10
        clear c10
        have H' := A_ H
        clear H
        have p330 : 0 ≤ (x21_1 : Int) := of_decide_eq_true as_
        have q330 : x21_1 < (l0.length : Int) := of_decide_eq_true as_
        obtain ⟨ad330, e330, hx330_0⟩ := Kd.at_int HR0.out x21_1 p330 q330
        cases e330
        replace hx330_0 := (HB.out.cell (World.block_lt_of_cell? w _ hx330_0)).trans hx330_0
        replace p330 := eq_true p330
        replace q330 := eq_true q330
        go_wp2
        go_loopg [8, 28] k1 (fun kq v8 v28 w' => ∃ (x5_2 : List Int) (x8_2 : Int) (x28_2 : Int), v8 = .int .i64 x8_2 ∧ v28 = .int .i64 x28_2 ∧ Aside0 (impl_natMul.l1 kq l1 x5_2 x21_1 (rd l0 x21_1) x8_2 l0 (l0.length : Int) x21_1 l1 (l1.length : Int) x28_2 = some r) ∧ Aside0 (kq ≤ k1) ∧ Aside0 (Kd.R (Kd.int .i64) 3 w' w.heap.size (fun k_ => (w.heap.size ≤ k_)) v325 x5_2) ∧ Aside0 (Below w.heap.size w w'))
        case atStart => exact ⟨(x5_1), (0), (0), (by first | rfl | (simp; done) | (simp [*]; done)), (by first | rfl | (simp; done) | (simp [*]; done)), H', ⟨Nat.le_refl _⟩, ⟨by (with_reducible repeat (first | apply Kd.R_alloc | apply Kd.R_drewN | apply Kd.R_drew)); exact HO_5.out⟩, ⟨hB_⟩⟩
        case round =>
         clear H'
         (try clear c1); (try clear c2); (try clear p2); (try clear p3); (try clear q3); (try clear hx3); (try clear c4); (try clear c4b0); (try clear c4b1); (try clear c5); (try clear c5b0); (try clear c5b1); (try clear p6); (try clear c8); (try clear c8b0); (try clear c9); (try clear c9b0); (try clear c10); (try clear c10b0); (try clear hx330_0); (try clear p2); (try clear p330); (try clear p6); (try clear q330)
         obtain ⟨x5_2, x8_2, x28_2, rfl, rfl, HA, HK2, HO_5, HB⟩ := hrel
         cases gk with
         | zero => exact absurd HA.out (by simp [impl_natMul.l1])
         | succ k2 =>
          have H := HA.out
          clear HA
          simp only [impl_natMul.l1] at H
          by_cases c11 : x28_2 < (l1.length : Int)
          ·rw [if_pos c11] at H
           have c11b0 : decide (x28_2 < (l1.length : Int)) = true := decide_eq_true c11
           clear c11
           by_cases c12 : 0 ≤ x28_2
           ·rw [if_pos c12] at H
            have c12b0 : decide (0 ≤ x28_2) = true := decide_eq_true c12
            clear c12
            by_cases c13 : x28_2 < (l1.length : Int)
            ·rw [if_pos c13] at H
             have c13b0 : decide (x28_2 < (l1.length : Int)) = true := decide_eq_true c13
             clear c13
             obtain ⟨ji14, hji14⟩ : ∃ j_ : Int, (wrap64 (x21_1 + x28_2)) = j_ := ⟨_, rfl⟩
             replace H : (if 0 ≤ (ji14) then (if (ji14) < (x5_2.length : Int) then (impl_natMul.l1 k2 l1 (x5_2.set ((ji14) : Int).toNat (Go.bits .and .i64 (wrap64 ((wrap64 ((rd x5_2 (ji14)) + (wrap64 ((rd l0 x21_1) * (rd l1 x28_2))))) + x8_2)) 65535)) x21_1 (rd l0 x21_1) ((wrap64 ((wrap64 ((rd x5_2 (ji14)) + (wrap64 ((rd l0 x21_1) * (rd l1 x28_2))))) + x8_2)) / 65536) l0 (l0.length : Int) x21_1 l1 (l1.length : Int) (wrap64 (x28_2 + 1))) else (none)) else (none)) = some r := by first | (rw [hji14] at H; exact H) | (simp only [hji14] at H ⊢; exact H)
             have hji14w : (IntKind.i64.wrap (x21_1 + x28_2)) = ji14 := (i64_w _).trans hji14
             by_cases c15 : 0 ≤ (ji14)
             ·rw [if_pos c15] at H
              have c15b0 : decide (0 ≤ (ji14)) = true := decide_eq_true c15
              clear c15
              by_cases c16 : (ji14) < (x5_2.length : Int)
              ·rw [if_pos c16] at H
               have c16b0 : decide ((ji14) < (x5_2.length : Int)) = true := decide_eq_true c16
               clear c16
               obtain ⟨y333, hy333⟩ : ∃ y_ : List Int, y_ = (x5_2.set ((ji14) : Int).toNat (Go.bits .and .i64 (wrap64 ((wrap64 ((rd x5_2 (ji14)) + (wrap64 ((rd l0 x21_1) * (rd l1 x28_2))))) + x8_2)) 65535)) := ⟨_, rfl⟩
               replace H : (impl_natMul.l1 k2 l1 y333 x21_1 (rd l0 x21_1) ((wrap64 ((wrap64 ((rd x5_2 (ji14)) + (wrap64 ((rd l0 x21_1) * (rd l1 x28_2))))) + x8_2)) / 65536) l0 (l0.length : Int) x21_1 l1 (l1.length : Int) (wrap64 (x28_2 + 1))) = some r := by first | (rw [hy333]; with_reducible exact H) | (have H2_ := (Option.bind_some _ _).symm.trans H; rw [hy333]; with_reducible exact H2_) | (have H2_ := (Option.bind_some _ _).symm.trans H; with_reducible exact H2_) | with_reducible exact H | (rw [hy333]; exact H) | exact H
               have Ny333 := A_ hy333
               clear hy333
               have H' := A_ H
               clear H
               have p331 : 0 ≤ (x28_2 : Int) := of_decide_eq_true as_
               have q331 : x28_2 < (l1.length : Int) := of_decide_eq_true as_
               obtain ⟨ad331, e331, hx331_0⟩ := Kd.at_int HR1.out x28_2 p331 q331
               cases e331
               replace hx331_0 := (HB.out.cell (World.block_lt_of_cell? w _ hx331_0)).trans hx331_0
               replace p331 := eq_true p331
               replace q331 := eq_true q331
               obtain ⟨Ao18, co18, eo18⟩ := Kd.R_slice HO_5.out
               subst eo18
               have p332 : 0 ≤ ((ji14) : Int) := of_decide_eq_true as_
               have q332 : (ji14) < (x5_2.length : Int) := of_decide_eq_true as_
               obtain ⟨ad332, e332, hx332_0⟩ := Kd.at_int (Kd.R_reads' HO_5.out).2.2 (ji14) p332 q332
               cases e332
               replace p332 := eq_true p332
               replace q332 := eq_true q332
               have p17 : 0 ≤ ((ji14) : Int) := of_decide_eq_true as_
               have q17 : ((ji14) : Int) < ((x5_2.length : Int) : Int) := of_decide_eq_true as_
               obtain ⟨go17, co17, eo17, gb17, gl17, cl17, HG17⟩ := Kd.R_form HO_5.out (by omega)
               (first | cases eo17 | (injection eo17 with ea_ en_ ec_; (first | subst ea_ | (injection ea_ with ea_; subst ea_)); subst ec_; clear en_))
               have GB17 := A_ gb17
               have GG17 := A_ HG17
               clear gb17 gl17 HG17
               (first | simp only [add_plain] at hx332_0 | skip)
               obtain ⟨hx17_0, hf17_0⟩ := Kd.R_celln 0 HO_5.out ((ji14) : Int) p17 q17
               replace p17 := eq_true p17
               replace q17 := eq_true q17
               have HP19 := Kd.R_putg HO_5.out ((ji14) : Int) (Go.bits .and .i64 (wrap64 ((wrap64 ((rd x5_2 (ji14)) + (wrap64 ((rd l0 x21_1) * (rd l1 x28_2))))) + x8_2)) 65535)
               go_wp2_with (first | ((with_reducible refine gate_store (t := 3) (p := 51) rfl ?_); refine store_event (t := 3) (p := 51) (v := ?vo_w20) (w1 := (wr.setCell ⟨go17, ((ji14) : Int).toNat, none⟩ (.int .i64 (Go.bits .and .i64 (wrap64 ((wrap64 ((rd x5_2 (ji14)) + (wrap64 ((rd l0 x21_1) * (rd l1 x28_2))))) + x8_2)) 65535)))) ?hg ?ho ?hn ?hr ?_; (case ho => rfl); (case hg => rfl); (case hn => rfl); (case hr => first | (go_simp; done) | (go_simp; rfl)); intro w20 hw; have hg : wr.grownBy w20 (some go17) := (by rw [hw]; exact HP19.2); have hp_ : Kd.R (Kd.int .i64) 3 w20 w.heap.size (fun k_ => (w.heap.size ≤ k_)) (.slice (some ⟨go17, 0, none⟩) x5_2.length co18) y333 := (by rw [hw, Ny333.out]; first | exact HP19.1 | exact Kd.R_mono HP19.1 (fun _ hk => (by first | (refine ⟨?_, ?_, ?_, ?_⟩ <;> first | exact hk.1 | exact hk.2.1 | exact hk.2.2.1 | exact hk.2.2.2 | exact hk.1.1 | exact hk.1.2) | (refine ⟨?_, ?_, ?_⟩ <;> first | exact hk.1 | exact hk.2.1 | exact hk.2.2 | exact hk.1.1 | exact hk.1.2)))); clear HP19; have n0_ := A_ (hp_); have n1_ := A_ ((by rw [hw]; exact below_set (HB.out) GB17.out : Below w.heap.size w w20)); clear HO_5 HB; have HO_5 := n0_; have HB := n1_; clear n0_ n1_; clear hg hw hp_))
               go_roundg k2
               case measure => have := HK1.out; have := HK2.out; omega
               case rel => exact ⟨(y333), ((wrap64 ((wrap64 ((rd x5_2 (ji14)) + (wrap64 ((rd l0 x21_1) * (rd l1 x28_2))))) + x8_2)) / 65536), (wrap64 (x28_2 + 1)), (by first | rfl | (simp; done) | (simp only [← hji14] <;> (first | rfl | simp)) | (simp [*]; done)), (by first | rfl | (simp; done) | (simp [*]; done)), (by first | exact H' | (rw [hji14]; exact H')), ⟨by have := HK1.out; have := HK2.out; omega⟩, ⟨by (with_reducible repeat (first | apply Kd.R_alloc | apply Kd.R_drewN | apply Kd.R_drew)); exact HO_5.out⟩, ⟨hB_⟩⟩
              ·rw [if_neg c16] at H
               exact absurd H (by simp)
             ·rw [if_neg c15] at H
              exact absurd H (by simp)
            ·rw [if_neg c13] at H
             exact absurd H (by simp)
           ·rw [if_neg c12] at H
            exact absurd H (by simp)
          ·rw [if_neg c11] at H
           have c11b0 : decide (x28_2 < (l1.length : Int)) = false := decide_eq_false c11
           clear c11
           obtain ⟨ji21, hji21⟩ : ∃ j_ : Int, (wrap64 (x21_1 + (l1.length : Int))) = j_ := ⟨_, rfl⟩
           replace H : (if 0 ≤ (ji21) then (if (ji21) < (x5_2.length : Int) then (impl_natMul.l0 k2 l1 (x5_2.set ((ji21) : Int).toNat (wrap64 ((rd x5_2 (ji21)) + x8_2))) l0 (l0.length : Int) (wrap64 (x21_1 + 1))) else (none)) else (none)) = some r := by first | (rw [hji21] at H; exact H) | (simp only [hji21] at H ⊢; exact H)
           have hji21w : (IntKind.i64.wrap (x21_1 + (l1.length : Int))) = ji21 := (i64_w _).trans hji21
           by_cases c22 : 0 ≤ (ji21)
           ·rw [if_pos c22] at H
            have c22b0 : decide (0 ≤ (ji21)) = true := decide_eq_true c22
            clear c22
            by_cases c23 : (ji21) < (x5_2.length : Int)
            ·rw [if_pos c23] at H
             have c23b0 : decide ((ji21) < (x5_2.length : Int)) = true := decide_eq_true c23
             clear c23
             obtain ⟨y335, hy335⟩ : ∃ y_ : List Int, y_ = (x5_2.set ((ji21) : Int).toNat (wrap64 ((rd x5_2 (ji21)) + x8_2))) := ⟨_, rfl⟩
             replace H : (impl_natMul.l0 k2 l1 y335 l0 (l0.length : Int) (wrap64 (x21_1 + 1))) = some r := by first | (rw [hy335]; with_reducible exact H) | (have H2_ := (Option.bind_some _ _).symm.trans H; rw [hy335]; with_reducible exact H2_) | (have H2_ := (Option.bind_some _ _).symm.trans H; with_reducible exact H2_) | with_reducible exact H | (rw [hy335]; exact H) | exact H
             have Ny335 := A_ hy335
             clear hy335
             have H' := A_ H
             clear H
             obtain ⟨Ao25, co25, eo25⟩ := Kd.R_slice HO_5.out
             subst eo25
             have p334 : 0 ≤ ((ji21) : Int) := of_decide_eq_true as_
             have q334 : (ji21) < (x5_2.length : Int) := of_decide_eq_true as_
             obtain ⟨ad334, e334, hx334_0⟩ := Kd.at_int (Kd.R_reads' HO_5.out).2.2 (ji21) p334 q334
             cases e334
             replace p334 := eq_true p334
             replace q334 := eq_true q334
             have p24 : 0 ≤ ((ji21) : Int) := of_decide_eq_true as_
             have q24 : ((ji21) : Int) < ((x5_2.length : Int) : Int) := of_decide_eq_true as_
             obtain ⟨go24, co24, eo24, gb24, gl24, cl24, HG24⟩ := Kd.R_form HO_5.out (by omega)
             (first | cases eo24 | (injection eo24 with ea_ en_ ec_; (first | subst ea_ | (injection ea_ with ea_; subst ea_)); subst ec_; clear en_))
             have GB24 := A_ gb24
             have GG24 := A_ HG24
             clear gb24 gl24 HG24
             (first | simp only [add_plain] at hx334_0 | skip)
             obtain ⟨hx24_0, hf24_0⟩ := Kd.R_celln 0 HO_5.out ((ji21) : Int) p24 q24
             replace p24 := eq_true p24
             replace q24 := eq_true q24
             have HP26 := Kd.R_putg HO_5.out ((ji21) : Int) (wrap64 ((rd x5_2 (ji21)) + x8_2))
             go_wp2_with (first | ((with_reducible refine gate_store (t := 3) (p := 64) rfl ?_); refine store_event (t := 3) (p := 64) (v := ?vo_w27) (w1 := (wr.setCell ⟨go24, ((ji21) : Int).toNat, none⟩ (.int .i64 (wrap64 ((rd x5_2 (ji21)) + x8_2))))) ?hg ?ho ?hn ?hr ?_; (case ho => rfl); (case hg => rfl); (case hn => rfl); (case hr => first | (go_simp; done) | (go_simp; rfl)); intro w27 hw; have hg : wr.grownBy w27 (some go24) := (by rw [hw]; exact HP26.2); have hp_ : Kd.R (Kd.int .i64) 3 w27 w.heap.size (fun k_ => (w.heap.size ≤ k_)) (.slice (some ⟨go24, 0, none⟩) x5_2.length co25) y335 := (by rw [hw, Ny335.out]; first | exact HP26.1 | exact Kd.R_mono HP26.1 (fun _ hk => (by first | (refine ⟨?_, ?_, ?_, ?_⟩ <;> first | exact hk.1 | exact hk.2.1 | exact hk.2.2.1 | exact hk.2.2.2 | exact hk.1.1 | exact hk.1.2) | (refine ⟨?_, ?_, ?_⟩ <;> first | exact hk.1 | exact hk.2.1 | exact hk.2.2 | exact hk.1.1 | exact hk.1.2)))); clear HP26; have n0_ := A_ (hp_); have n1_ := A_ ((by rw [hw]; exact below_set (HB.out) GB24.out : Below w.heap.size w w27)); clear HO_5 HB; have HO_5 := n0_; have HB := n1_; clear n0_ n1_; clear hg hw hp_))
             go_roundg k2
             case measure => have := HK1.out; have := HK2.out; omega
             case rel => exact ⟨(y335), (wrap64 (x21_1 + 1)), (by first | rfl | (simp; done) | (simp [*]; done)), H', ⟨by have := HK1.out; have := HK2.out; omega⟩, ⟨by (with_reducible repeat (first | apply Kd.R_alloc | apply Kd.R_drewN | apply Kd.R_drew)); exact HO_5.out⟩, ⟨hB_⟩⟩
            ·rw [if_neg c23] at H
             exact absurd H (by simp)
           ·rw [if_neg c22] at H
            exact absurd H (by simp)
       ·rw [if_neg c10] at H
        exact absurd H (by simp)
      ·rw [if_neg c9] at H
       exact absurd H (by simp)
     ·rw [if_neg c8] at H
      have c8b0 : decide (x21_1 < (l0.length : Int)) = false := decide_eq_false c8
      clear c8
      replace H := Option.bind_eq_some_iff.mp H
      obtain ⟨t327, A280, H⟩ := H
      replace H : (some t327) = some r := H
      have A28 := A_ A280
      clear A280
      obtain rfl := Option.some.inj H
      obtain ⟨Ao29, co29, eo29⟩ := Kd.R_slice HO_5.out
      subst eo29
      go_wp2_with (first | ((with_reducible refine gate_callee (f := 47) rfl ?_); refine goesL_ (some 67) rfl rfl Tryd.func47 (by kernel_rfl) rfl #[.slice Ao29 x5_1.length co29] rfl (by (try simp only [List.map_toArray, List.map_cons, List.map_nil]); first | done | rfl) ?_; (with_reducible refine (impl_trim.calls k1 (fun k_ => some k_ = (.slice Ao29 x5_1.length co29 : Value).ownBlock) _ _ x5_1 t327 _ ?side1 A28.out).mono ?_); (case side1 => exact Kd.R_V (Kd.R_tight rfl (HO_5.out))); rintro e w30 ⟨v328, rfl, ho0, hb⟩; refine ⟨_, rfl, ?_⟩; have n0_ := A_ (Kd.R_below (rz_ HO_5.out) hb); have n1_ := A_ (Kd.V_lower (Kd.V_mono (ok' := fun k_ => (w.heap.size ≤ k_)) ho0 (fun k_ hk_ => Or.elim hk_ (fun hs_ => ((HO_5.out).1 k_ hs_.symm)) (fun hn_ => (Nat.le_trans (below_size hB_) hn_)))) (below_size hB_)); have n2_ := A_ (below_step hB_ hb); clear HO_5 HB; have HO_5 := n0_; have HO329 := n1_; have HB := n2_; clear n0_ n1_ n2_; (try clear hb); (try clear hb2); (try clear hk); (try clear hi); (try clear ho0)))
      go_ret
      exact ⟨_, by first | rfl | (simp [errW_none, errW_some] <;> rfl) | (simp only [← hji3]; first | rfl | (simp [errW_none, errW_some] <;> rfl)) | (simp [*, errW_none, errW_some] <;> rfl), by (with_reducible repeat (first | apply Kd.V_alloc | apply Kd.V_drewN | apply Kd.V_drew)); exact HO329.out, hB_⟩
  ·rw [if_neg c5] at H
   exact absurd H (by simp)
 ·rw [if_neg c4] at H
  exact absurd H (by simp)

end Go.Proofs.YtmdeolonjmjmgaaDoor.QFnExactDecFrac
