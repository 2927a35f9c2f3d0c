/- The machine side of one law: each function and the law itself walked once, written by a program of this session (wip/xprint.py) that runs the printer of the kit.
   Conditions: none. -/
import Derived.Test.YtlnihglcneaonaaDoorQFnExactLangNameOkx0
import Derived.Test.YtlnihglcneaonaaDoorQFnExactLangNameOkx1
namespace Go.Proofs.YtlnihglcneaonaaDoor.QFnExactLangNameOk
open Go.RowKit Go.Proofs.YtlnihglcneaonaaDoorW.PrintWords Go.Proofs.YtlnihglcneaonaaDoorW.PrintLast Go.Proofs.YtlnihglcneaonaaDoorW.PrintMore
attribute [local go_sem] Go.Instr.field Go.asAgg Go.Proofs.YtlnihglcneaonaaDoor.MS.isSome_setCell
attribute [local go_sem] max2_int min2_int max_two min_two max_three min_three max_four min_four   -- for this text's walks alone
set_option linter.unusedVariables false
set_option linter.unusedSimpArgs false

/-! ### impl_LangNameOk: function 5 -/
def impl_LangNameOk.f (k : Nat) (a0 : ByteArray) : Option (Bool) := (impl_wordOk.f k a0).bind fun t1 => (if t1 = true then ((slices_Contains_string_string.f k Go.Proofs.YtlnihglcneaonaaDoor.SOwn.words a0).bind fun t2 => (some (!t2))) else (some false))
theorem impl_LangNameOk.mono : ∀ a0 k, LeO (impl_LangNameOk.f k a0) (impl_LangNameOk.f (k + 1) a0) := by
  intro a0 k
  unfold impl_LangNameOk.f
  repeat' first
      | (with_reducible exact impl_wordOk.mono _ _)
      | (with_reducible exact slices_Contains_string_string.mono _ _ _)
      | (with_reducible exact LeO.refl _)
      | (with_reducible exact LeO.none _)
      | (with_reducible refine LeO.ite ?_ ?_)
      | (with_reducible refine LeO.bind ?_ (fun _ => ?_))
set_option maxHeartbeats 8000000 in
set_option maxRecDepth 100000 in
theorem impl_LangNameOk.calls (k : Nat) (a0 : ByteArray) (r : Bool) (w : World) (h : impl_LangNameOk.f k a0 = some r) (HTAB_ : Aside0 (Go.Proofs.YtlnihglcneaonaaDoor.SOwn.Tab w)) :
    Calls Tryd.prog 5 #[.string a0] w fun e w' => e = .returned (.bool r) ∧ Drawn0 w w' := by
  have H : ((impl_wordOk.f k a0).bind fun t1 => (if t1 = true then ((slices_Contains_string_string.f k Go.Proofs.YtlnihglcneaonaaDoor.SOwn.words a0).bind fun t2 => (some (!t2))) else (some false))) = some r := h
  clear h
  obtain ⟨ad, c, h1, h2, h3⟩ := HTAB_.out
  have hr0 : Kd.C Kd.string w (some ad) Go.Proofs.YtlnihglcneaonaaDoor.SOwn.words.length Go.Proofs.YtlnihglcneaonaaDoor.SOwn.words := Kd.C_of_reads (d := ByteArray.empty) (h1 := fun _ => rfl) ⟨rfl, by decide, fun _ => ⟨ad, rfl, h3⟩⟩
  have HR0 := Aside0.mk hr0
  have HC0 : Aside0 (Go.Proofs.YtlnihglcneaonaaDoor.SOwn.words.length ≤ c) := ⟨h2⟩
  clear hr0 h2 h3
  replace H := Option.bind_eq_some_iff.mp H
  obtain ⟨t1, A20, H⟩ := H
  replace H : (if t1 = true then ((slices_Contains_string_string.f k Go.Proofs.YtlnihglcneaonaaDoor.SOwn.words a0).bind fun t2 => (some (!t2))) else (some false)) = some r := H
  have A2 := Aside0.mk A20
  clear A20
  by_cases c3 : t1 = true
  · subst c3
    have H1 : ((slices_Contains_string_string.f k Go.Proofs.YtlnihglcneaonaaDoor.SOwn.words a0).bind fun t2 => (some (!t2))) = some r := by rw [if_pos rfl] at H; exact H
    clear H
    have H := H1
    clear H1
    replace H := Option.bind_eq_some_iff.mp H
    obtain ⟨t2, A40, H⟩ := H
    replace H : (some (!t2)) = some r := H
    have A4 := Aside0.mk A40
    clear A40
    obtain rfl := Option.some.inj H
    go_enter Tryd.func5, Tryd.ntmps5
    go_wp2_with (first | (go_at_call 8; (with_reducible refine (impl_wordOk.calls k a0 true _ A2.out).mono ?_); rintro e w' ⟨rfl, ⟨nd, rfl⟩⟩) | (go_at_call 9; (with_reducible refine (slices_Contains_string_string.calls k (some ad) c Go.Proofs.YtlnihglcneaonaaDoor.SOwn.words a0 t2 _ ?side1 ?side2 A4.out).mono ?_); (case side1 => repeat (first | exact HR0.out | (with_reducible refine Kd.C_alloc ?_ _) | (with_reducible refine Kd.C_drewN ?_ _) | (with_reducible refine Kd.C_drew ?_))); (case side2 => exact HC0.out); rintro e w' ⟨rfl, ⟨nd, rfl⟩⟩))
    go_ret
    exact ⟨by first | rfl | (simp; done) | (simp [*]; done), by repeat (first | exact Drawn0.refl _ | apply Drawn0.step)⟩
  · replace c3 := Bool.eq_false_iff.mpr c3
    subst c3
    have H1 : (some false) = some r := by rw [if_neg (show ¬ (false = true) by decide)] at H; exact H
    clear H
    have H := H1
    clear H1
    obtain rfl := Option.some.inj H
    go_enter Tryd.func5, Tryd.ntmps5
    go_wp2_with (first | (go_at_call 8; (with_reducible refine (impl_wordOk.calls k a0 false _ A2.out).mono ?_); rintro e w' ⟨rfl, ⟨nd, rfl⟩⟩))
    go_ret
    exact ⟨by first | rfl | (simp; done) | (simp [*]; done), by repeat (first | exact Drawn0.refl _ | apply Drawn0.step)⟩

/-! ### laws_FnExactLangNameOk: function 3 -/
def laws_FnExactLangNameOk.f (k : Nat) (a0 : ByteArray) : Option (Bool) := if (a0.size : Int) > 1048576 then (some true) else ((spec_LangNameOk.f k a0).bind fun t112 => ((impl_LangNameOk.f k a0).bind fun t113 => (if (t113 != t112) = true then (some false) else (some true))))
theorem laws_FnExactLangNameOk.mono : ∀ a0 k, LeO (laws_FnExactLangNameOk.f k a0) (laws_FnExactLangNameOk.f (k + 1) a0) := by
  intro a0 k
  unfold laws_FnExactLangNameOk.f
  repeat' first
      | (with_reducible exact impl_LangNameOk.mono _ _)
      | (with_reducible exact spec_LangNameOk.mono _ _)
      | (with_reducible exact LeO.refl _)
      | (with_reducible exact LeO.none _)
      | (with_reducible refine LeO.ite ?_ ?_)
      | (with_reducible refine LeO.bind ?_ (fun _ => ?_))
      | exact impl_LangNameOk.mono _ _
      | exact spec_LangNameOk.mono _ _
      | exact LeO.none _
      | refine LeO.ite ?_ ?_
      | refine LeO.bind ?_ (fun _ => ?_)
set_option maxHeartbeats 8000000 in
set_option maxRecDepth 100000 in
theorem laws_FnExactLangNameOk.calls (k : Nat) (a0 : ByteArray) (r : Bool) (w : World) (h : laws_FnExactLangNameOk.f k a0 = some r) (hr : Aside0 (true = r)) (HTAB_ : Aside0 (Go.Proofs.YtlnihglcneaonaaDoor.SOwn.Tab w)) :
    Calls Tryd.prog 3 #[.string a0] w fun e w' => e = .returned (.bool r) ∧ Drawn0 w w' := by
  have H : (if (a0.size : Int) > 1048576 then (some true) else ((spec_LangNameOk.f k a0).bind fun t112 => ((impl_LangNameOk.f k a0).bind fun t113 => (if (t113 != t112) = true then (some false) else (some true))))) = some r := h
  clear h
  by_cases c2 : (a0.size : Int) > 1048576
  · rw [if_pos c2] at H
    have c2b0 : decide (1048576 < (a0.size : Int)) = true := decide_eq_true c2
    have c2b1 : decide (1048576 < a0.size) = true := decide_eq_true (by omega)
    clear c2
    clear hr
    obtain rfl := Option.some.inj H
    go_enter Tryd.func3, Tryd.ntmps3
    go_wp2
    go_ret
    exact ⟨by first | rfl | (simp; done) | (simp [*]; done), by repeat (first | exact Drawn0.refl _ | apply Drawn0.step)⟩
  · rw [if_neg c2] at H
    have c2b0 : decide (1048576 < (a0.size : Int)) = false := decide_eq_false c2
    have c2b1 : decide (1048576 < a0.size) = false := decide_eq_false (by omega)
    clear c2
    replace H := Option.bind_eq_some_iff.mp H
    obtain ⟨t112, A30, H⟩ := H
    replace H : ((impl_LangNameOk.f k a0).bind fun t113 => (if (t113 != t112) = true then (some false) else (some true))) = some r := H
    have A3 := Aside0.mk A30
    clear A30
    replace H := Option.bind_eq_some_iff.mp H
    obtain ⟨t113, A40, H⟩ := H
    replace H : (if (t113 != t112) = true then (some false) else (some true)) = some r := H
    have A4 := Aside0.mk A40
    clear A40
    by_cases c5 : (t113 != t112) = true
    · rw [if_pos c5] at H
      have c5b0 : (t113 != t112) = true := c5
      (try (have c5b1 : decide (t113 = t112) = false := by simpa using c5))
      (try (have c5b2 : (t113 == t112) = false := by simpa using c5))
      (try (have c5b3 : ¬ (t113 = t112) := by simpa using c5))
      clear c5
      exact absurd (hr.out.trans (Option.some.inj H).symm) (by decide)
    · rw [if_neg c5] at H
      have c5b0 : (t113 != t112) = false := by simpa using c5
      (try (have c5b1 : decide (t113 = t112) = true := by simpa using c5))
      (try (have c5b2 : (t113 == t112) = true := by simpa using c5))
      clear c5
      clear hr
      obtain rfl := Option.some.inj H
      go_enter Tryd.func3, Tryd.ntmps3
      go_wp2_with (first | ((with_reducible refine gate_callee (f := 4) rfl ?_); refine goesL_ (some 9) rfl rfl Tryd.func4 (by kernel_rfl) rfl #[.string a0] rfl (by (try simp only [List.map_toArray, List.map_cons, List.map_nil]); first | done | rfl | (simp only [List.length_drop, List.length_take]; rfl)) ?_; (with_reducible refine (spec_LangNameOk.calls k a0 t112 _ A3.out).mono ?_); rintro e w' ⟨rfl, ⟨nd, rfl⟩⟩; refine ⟨_, rfl, ?_⟩) | ((with_reducible refine gate_callee (f := 5) rfl ?_); refine goesL_ (some 11) rfl rfl Tryd.func5 (by kernel_rfl) rfl #[.string a0] rfl (by (try simp only [List.map_toArray, List.map_cons, List.map_nil]); first | done | rfl | (simp only [List.length_drop, List.length_take]; rfl)) ?_; (with_reducible refine (impl_LangNameOk.calls k a0 t113 _ A4.out ⟨by first | exact HTAB_.out | exact Go.Proofs.YtlnihglcneaonaaDoor.SOwn.Tab.below HTAB_.out HB.out | exact Go.Proofs.YtlnihglcneaonaaDoor.SOwn.Tab.below HTAB_.out (by repeat (first | (with_reducible first | exact HB.out | apply below_alloc | apply pw_below_drewN | apply below_drew1) | exact HB.out | exact Below.refl _ _))⟩).mono ?_); rintro e w' ⟨rfl, ⟨nd, rfl⟩⟩; refine ⟨_, rfl, ?_⟩))
      go_ret
      exact ⟨by first | rfl | (simp; done) | (simp [*]; done), by repeat (first | exact Drawn0.refl _ | apply Drawn0.step)⟩

/-- THE ONE PURE STATEMENT of laws_FnExactLangNameOk: yours. -/
def laws_FnExactLangNameOk.Pure : Prop := ∀ (a0 : ByteArray), a0.size ≤ 140737488351232 → ∃ k, laws_FnExactLangNameOk.f k a0 = some true
theorem laws_FnExactLangNameOk.walk (P : laws_FnExactLangNameOk.Pure) (a0 : ByteArray) (w : World) (w0 : a0.size ≤ 140737488351232) (HTAB_ : Aside0 (Go.Proofs.YtlnihglcneaonaaDoor.SOwn.Tab w)) :
    Calls Tryd.prog 3 #[.string a0] w fun e w' => e = .returned (.bool true) ∧ Below w.heap.size w w' := by
  obtain ⟨k, h⟩ := P a0 w0
  refine (laws_FnExactLangNameOk.calls k a0 true w h (Aside0.mk rfl) HTAB_).mono ?_
  rintro e w' ⟨rfl, hd⟩
  exact ⟨rfl, hd.below⟩

end Go.Proofs.YtlnihglcneaonaaDoor.QFnExactLangNameOk
