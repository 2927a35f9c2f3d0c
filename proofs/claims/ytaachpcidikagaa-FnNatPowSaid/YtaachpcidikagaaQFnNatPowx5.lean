/- The machine side of one law: each function and the law itself walked once, written by a program of this session (wip/xprint.py) that runs the printer of the kit.
   Conditions: none. -/
import Derived.Test.YtaachpcidikagaaQFnNatPowx0
import Derived.Test.YtaachpcidikagaaQFnNatPowx3
import Derived.Test.YtaachpcidikagaaQFnNatPowx4
namespace Go.Proofs.Ytaachpcidikagaa.QFnNatPow
open Go.RowKit Go.Proofs.YtaachpcidikagaaW.PrintWords Go.Proofs.YtaachpcidikagaaW.PrintLast Go.Proofs.YtaachpcidikagaaW.PrintMore Go.Proofs.Ytaachpcidikagaa.MX
attribute [local go_sem] Go.Instr.field Go.asAgg Go.Proofs.Ytaachpcidikagaa.MS.isSome_setCell
attribute [local go_sem] max2_int min2_int max_two min_two max_three min_three max_four min_four   -- for this text's walks alone
set_option linter.unusedVariables false
set_option linter.unusedSimpArgs false

/-! ### spec_l32Rd_raw: function 73 -/
def spec_l32Rd_raw.l0 : Nat → List Int → List Int → Int → Option (List Int × Int)
  | 0, _, _, _ => none
  | k + 1, x3, x1000, x1001 => if (x3.length : Int) ≤ 256 then (if x3.length < 17592186044416 then (spec_l32Rd_raw.l0 k (x3 ++ [1]) x1000 x1001) else (none)) else (some (x3, x1001))
def spec_l32Rd_raw.f (k : Nat) (s0_0 : List Int) (s0_1 : Int) : Option (List Int × Int) := (spec_l32Rd_nat.f k s0_0 s0_1).bind fun bt223 => ((spec_l32Rd_pick.f k s0_0 bt223.2 80).bind fun bt227 => (if bt227.1 = 0 then (if bt223.1.length < 17592186044416 then (some ((bt223.1 ++ [0]), bt227.2)) else (none)) else (if bt227.1 = 1 then (if bt223.1.length < 17592186044416 then (some ((bt223.1 ++ [65536]), bt227.2)) else (none)) else (if bt227.1 = 2 then (if bt223.1.length < 17592186044416 then (some ((bt223.1 ++ [(-1)]), bt227.2)) else (none)) else (if bt227.1 = 3 then (spec_l32Rd_raw.l0 k bt223.1 s0_0 bt227.2) else (some (bt223.1, bt227.2)))))))
theorem spec_l32Rd_raw.mono_l : ∀ k, (∀ y0 y1 y2, LeO (spec_l32Rd_raw.l0 k y0 y1 y2) (spec_l32Rd_raw.l0 (k + 1) y0 y1 y2))
  | 0 => fun _ _ _ r h => by simp [spec_l32Rd_raw.l0] at h
  | k + 1 => by
    have ih0 := spec_l32Rd_raw.mono_l k
    · intro y0 y1 y2
      unfold spec_l32Rd_raw.l0
      repeat' first
      | (with_reducible exact ih0 _ _ _)
      | (with_reducible exact spec_l32Rd_nat.mono _ _ _)
      | (with_reducible exact spec_l32Rd_pick.mono _ _ _ _)
      | (with_reducible exact LeO.refl _)
      | (with_reducible exact LeO.none _)
      | (with_reducible refine LeO.ite ?_ ?_)
      | (with_reducible refine LeO.bind ?_ (fun _ => ?_))
      | exact ih0 _ _ _
      | exact spec_l32Rd_nat.mono _ _ _
      | exact spec_l32Rd_pick.mono _ _ _ _
      | exact LeO.none _
      | refine LeO.ite ?_ ?_
      | refine LeO.bind ?_ (fun _ => ?_)
theorem spec_l32Rd_raw.mono : ∀ a0 a1 k, LeO (spec_l32Rd_raw.f k a0 a1) (spec_l32Rd_raw.f (k + 1) a0 a1) := by
  intro a0 a1 k
  have ih0 := spec_l32Rd_raw.mono_l k
  unfold spec_l32Rd_raw.f
  repeat' first
      | (with_reducible exact ih0 _ _ _)
      | (with_reducible exact spec_l32Rd_nat.mono _ _ _)
      | (with_reducible exact spec_l32Rd_pick.mono _ _ _ _)
      | (with_reducible exact LeO.refl _)
      | (with_reducible exact LeO.none _)
      | (with_reducible refine LeO.ite ?_ ?_)
      | (with_reducible refine LeO.bind ?_ (fun _ => ?_))
      | exact ih0 _ _ _
      | exact spec_l32Rd_nat.mono _ _ _
      | exact spec_l32Rd_pick.mono _ _ _ _
      | exact LeO.none _
      | refine LeO.ite ?_ ?_
      | refine LeO.bind ?_ (fun _ => ?_)
set_option maxHeartbeats 8000000 in
set_option maxRecDepth 100000 in
theorem spec_l32Rd_raw.calls (k : Nat) (g : Nat) (s0_0 : List Int) (s0_1 : Int) (r1 : List Int) (r2 : Int) (w0 w : World) (hI : IsS75 w0 w g s0_0 s0_1) (hB : Below w0.heap.size w0 w) (h : spec_l32Rd_raw.f k s0_0 s0_1 = some (r1, r2)) :
    Calls Try.prog 73 #[.pointer (some ⟨g, 0, none⟩)] w fun e w' => ∃ v0_ : Value, e = .returned (v0_) ∧ Kd.R (Kd.int .i64) 3 w' w.heap.size (fun _ => True) v0_ r1 ∧ IsS75 w0 w' g s0_0 r2 ∧ Below w0.heap.size w0 w' ∧ KeepBut w w' g none := by
  have HI0 := Aside0.mk hI
  have HK := Aside0.mk (KeepBut.refl w g none)
  have HL := Aside0.mk hB.size
  clear hI
  have HW0 := Aside0.mk hB.size
  have HB := Aside0.mk hB
  clear hB
  have H : ((spec_l32Rd_nat.f k s0_0 s0_1).bind fun bt223 => ((spec_l32Rd_pick.f k s0_0 bt223.2 80).bind fun bt227 => (if bt227.1 = 0 then (if bt223.1.length < 17592186044416 then (some ((bt223.1 ++ [0]), bt227.2)) else (none)) else (if bt227.1 = 1 then (if bt223.1.length < 17592186044416 then (some ((bt223.1 ++ [65536]), bt227.2)) else (none)) else (if bt227.1 = 2 then (if bt223.1.length < 17592186044416 then (some ((bt223.1 ++ [(-1)]), bt227.2)) else (none)) else (if bt227.1 = 3 then (spec_l32Rd_raw.l0 k bt223.1 s0_0 bt227.2) else (some (bt223.1, bt227.2)))))))) = some (r1, r2) := h
  clear h
  replace H := Option.bind_eq_some_iff.mp H
  obtain ⟨⟨t223, t226⟩, A20, H⟩ := H
  replace H : ((spec_l32Rd_pick.f k s0_0 t226 80).bind fun bt227 => (if bt227.1 = 0 then (if t223.length < 17592186044416 then (some ((t223 ++ [0]), bt227.2)) else (none)) else (if bt227.1 = 1 then (if t223.length < 17592186044416 then (some ((t223 ++ [65536]), bt227.2)) else (none)) else (if bt227.1 = 2 then (if t223.length < 17592186044416 then (some ((t223 ++ [(-1)]), bt227.2)) else (none)) else (if bt227.1 = 3 then (spec_l32Rd_raw.l0 k t223 s0_0 bt227.2) else (some (t223, bt227.2))))))) = some (r1, r2) := H
  have A2 := Aside0.mk A20
  clear A20
  replace H := Option.bind_eq_some_iff.mp H
  obtain ⟨⟨t227, t228⟩, A30, H⟩ := H
  replace H : (if t227 = 0 then (if t223.length < 17592186044416 then (some ((t223 ++ [0]), t228)) else (none)) else (if t227 = 1 then (if t223.length < 17592186044416 then (some ((t223 ++ [65536]), t228)) else (none)) else (if t227 = 2 then (if t223.length < 17592186044416 then (some ((t223 ++ [(-1)]), t228)) else (none)) else (if t227 = 3 then (spec_l32Rd_raw.l0 k t223 s0_0 t228) else (some (t223, t228)))))) = some (r1, r2) := H
  have A3 := Aside0.mk A30
  clear A30
  by_cases c4 : t227 = 0
  · rw [if_pos c4] at H
    have c4b0 : (t227 == 0) = true := beq_iff_eq.mpr c4
    have c4b1 : (t227 != 0) = false := bne_eq_false_iff_eq.mpr c4
    clear c4
    by_cases c5 : t223.length < 17592186044416
    · rw [if_pos c5] at H
      have LMc5 := Aside0.mk c5
      clear c5
      obtain ⟨y229, hy229⟩ : ∃ y_ : List Int, y_ = (t223 ++ [0]) := ⟨_, rfl⟩
      replace H : (some (y229, t228)) = some (r1, r2) := by first | (rw [hy229]; with_reducible exact H) | (have H2_ := (Option.bind_some _ _).symm.trans H; rw [hy229]; with_reducible exact H2_) | (have H2_ := (Option.bind_some _ _).symm.trans H; with_reducible exact H2_) | with_reducible exact H | (rw [hy229]; exact H) | exact H
      have Ny229 := Aside0.mk hy229
      clear hy229
      simp only [Option.some.injEq, Prod.mk.injEq] at H
      obtain ⟨rfl, rfl⟩ := H
      go_enter Try.func73, Try.ntmps73
      go_wp2_with (first | ((with_reducible refine gate_callee (f := 84) rfl ?_); refine goesL_ (some 5) rfl rfl Try.func84 (by kernel_rfl) rfl #[.pointer (some ⟨g, 0, none⟩)] rfl (by (try simp only [List.map_toArray, List.map_cons, List.map_nil]); first | done | rfl | (simp only [List.length_drop, List.length_take]; rfl)) ?_; (with_reducible refine (spec_l32Rd_nat.calls k g s0_0 s0_1 t223 t226 w0 _ ?side1 ?side2 A2.out).mono ?_); (case side1 => repeat (first | (with_reducible first | exact HI0.out | apply IsS75.alloc | apply IsS75.drewN | apply IsS75.drew | apply IsS75.set_1) | exact HI0.out)); (case side2 => repeat (first | (with_reducible first | exact HB.out | apply below_alloc | apply pw_below_drewN | apply below_drew1 | refine below_set ?_ (IsS75.ge HI0.out)) | exact HB.out)); rintro e w6 ⟨v224, rfl, ho0, hi, hb, hk⟩; refine ⟨_, rfl, ?_⟩; have n0_ := Aside0.mk (Kd.R_lower ho0 (keep_size (w := w) (g := g) (row := none) (by repeat (first | (with_reducible first | exact HK.out | apply KeepBut.set_ | apply keep_drewN | apply keep_drew | apply keep_alloc) | exact HK.out)))); have n1_ := Aside0.mk (KeepBut.trans (by repeat (first | (with_reducible first | exact HK.out | apply KeepBut.set_ | apply keep_drewN | apply keep_drew | apply keep_alloc) | exact HK.out)) hk (.inl rfl)); have n2_ := Aside0.mk (hb); have n3_ := Aside0.mk (hi); clear HK; clear HB; clear HI0; have HO225 := n0_; have HK := n1_; have HB := n2_; have HI0 := n3_; clear n0_ n1_ n2_ n3_; (try clear hb); (try clear hb2); (try clear hk); (try clear hi); (try clear ho0)) | ((with_reducible refine gate_callee (f := 74) rfl ?_); refine goesL_ (some 7) rfl rfl Try.func74 (by kernel_rfl) rfl #[.pointer (some ⟨g, 0, none⟩), .int .i64 80] rfl (by (try simp only [List.map_toArray, List.map_cons, List.map_nil]); first | done | rfl | (simp only [List.length_drop, List.length_take]; rfl)) ?_; (with_reducible refine (spec_l32Rd_pick.calls k g s0_0 t226 80 t227 t228 w0 _ ?side1 ?side2 A3.out).mono ?_); (case side1 => repeat (first | (with_reducible first | exact HI0.out | apply IsS75.alloc | apply IsS75.drewN | apply IsS75.drew | apply IsS75.set_1) | exact HI0.out)); (case side2 => repeat (first | (with_reducible first | exact HB.out | apply below_alloc | apply pw_below_drewN | apply below_drew1 | refine below_set ?_ (IsS75.ge HI0.out)) | exact HB.out)); rintro e w7 ⟨rfl, hi, hb, hk⟩; refine ⟨_, rfl, ?_⟩; have n0_ := Aside0.mk (Kd.R_mono (Kd.R_keep (IsS75.apart (show IsS75 w0 _ g s0_0 t226 from by repeat (first | (with_reducible first | exact HI0.out | apply IsS75.alloc | apply IsS75.drewN | apply IsS75.drew | apply IsS75.set_1) | exact HI0.out)) (by (with_reducible repeat (first | apply Kd.R_alloc | apply Kd.R_drewN | apply Kd.R_drew)); exact HO225.out) (by decide)) hk (fun _ h => h.2)) (fun _ h => h.1)); have n1_ := Aside0.mk (KeepBut.trans (by repeat (first | (with_reducible first | exact HK.out | apply KeepBut.set_ | apply keep_drewN | apply keep_drew | apply keep_alloc) | exact HK.out)) hk (.inl rfl)); have n2_ := Aside0.mk (hb); have n3_ := Aside0.mk (hi); clear HO225; clear HK; clear HB; clear HI0; have HO225 := n0_; have HK := n1_; have HB := n2_; have HI0 := n3_; clear n0_ n1_ n2_ n3_; (try clear hb); (try clear hb2); (try clear hk); (try clear hi)) | ((with_reducible refine gate_builtin (b := .append) (xs := #[.tmp 10, .tmp 11]) rfl ?_); at_builtin; refine Kd.R_append (Kd.int .i64) w.heap.size rfl (.tmp 10) (.tmp 11) 22 3 (.int .i64 0) 8 rfl Try.underlying22 info3 rfl (by decide) (by omega) v224 t223 0 [.int .i64 0] (fun _ => True) (fun _ => False) rfl rfl ?aP (fun _ hk => hk.elim) ?aF ?aO (Below.refl _ _) ?aS ?aL ?_; (case aP => exact rfl); (case aF => exact (fun _ _ => trivial)); (case aO => exact (by (with_reducible repeat (first | apply Kd.R_alloc | apply Kd.R_drewN | apply Kd.R_drew)); exact HO225.out)); (case aS => exact (keep_size (w := w) (g := g) (row := none) (by repeat (first | (with_reducible first | exact HK.out | apply KeepBut.set_ | apply keep_drewN | apply keep_drew | apply keep_alloc) | exact HK.out)))); (case aL => have := LMc5.out; omega); intro v230 w8 ho hb hg hat; rw [← Ny229.out] at ho; have n0_ := Aside0.mk (IsS75.grown (by repeat (first | (with_reducible first | exact HI0.out | apply IsS75.alloc | apply IsS75.drewN | apply IsS75.drew | apply IsS75.set_1) | exact HI0.out)) hg (IsS75.own_ne HI0.out HO225.out (by decide))); have n1_ := Aside0.mk (below_weaken (by repeat (first | (with_reducible first | exact HB.out | apply below_alloc | apply pw_below_drewN | apply below_drew1 | refine below_set ?_ (IsS75.ge HI0.out)) | exact HB.out)) HL.out hb); have n2_ := Aside0.mk (KeepBut.trans (by repeat (first | (with_reducible first | exact HK.out | apply KeepBut.set_ | apply keep_drewN | apply keep_drew | apply keep_alloc) | exact HK.out)) (KeepBut.of_grown hg g) (Kd.R_base2 HO225.out)); have n3_ := Aside0.mk (ho); clear HI0; clear HB; clear HK; clear HO225; have HI0 := n0_; have HB := n1_; have HK := n2_; have HO231 := n3_; clear n0_ n1_ n2_ n3_; clear ho hb hg hat))
      go_ret
      exact ⟨_, by first | rfl | (simp [errW_none, errW_some] <;> rfl) | (simp [*, errW_none, errW_some] <;> rfl), by (with_reducible repeat (first | apply Kd.R_alloc | apply Kd.R_drewN | apply Kd.R_drew)); exact HO231.out, by repeat (first | (with_reducible first | exact HI0.out | apply IsS75.alloc | apply IsS75.drewN | apply IsS75.drew | apply IsS75.set_1) | exact HI0.out), by repeat (first | (with_reducible first | exact HB.out | apply below_alloc | apply pw_below_drewN | apply below_drew1 | refine below_set ?_ (IsS75.ge HI0.out)) | exact HB.out), by repeat (first | (with_reducible first | exact HK.out | apply KeepBut.set_ | apply keep_drewN | apply keep_drew | apply keep_alloc) | exact HK.out)⟩
    · rw [if_neg c5] at H
      exact absurd H (by simp)
  · rw [if_neg c4] at H
    have c4b0 : (t227 == 0) = false := beq_eq_false_iff_ne.mpr c4
    have c4b1 : (t227 != 0) = true := bne_iff_ne.mpr c4
    by_cases c9 : t227 = 1
    · rw [if_pos c9] at H
      have c9b0 : (t227 == 1) = true := beq_iff_eq.mpr c9
      have c9b1 : (t227 != 1) = false := bne_eq_false_iff_eq.mpr c9
      clear c9
      by_cases c10 : t223.length < 17592186044416
      · rw [if_pos c10] at H
        have LMc10 := Aside0.mk c10
        clear c10
        obtain ⟨y232, hy232⟩ : ∃ y_ : List Int, y_ = (t223 ++ [65536]) := ⟨_, rfl⟩
        replace H : (some (y232, t228)) = some (r1, r2) := by first | (rw [hy232]; with_reducible exact H) | (have H2_ := (Option.bind_some _ _).symm.trans H; rw [hy232]; with_reducible exact H2_) | (have H2_ := (Option.bind_some _ _).symm.trans H; with_reducible exact H2_) | with_reducible exact H | (rw [hy232]; exact H) | exact H
        have Ny232 := Aside0.mk hy232
        clear hy232
        simp only [Option.some.injEq, Prod.mk.injEq] at H
        obtain ⟨rfl, rfl⟩ := H
        go_enter Try.func73, Try.ntmps73
        go_wp2_with (first | ((with_reducible refine gate_callee (f := 84) rfl ?_); refine goesL_ (some 5) rfl rfl Try.func84 (by kernel_rfl) rfl #[.pointer (some ⟨g, 0, none⟩)] rfl (by (try simp only [List.map_toArray, List.map_cons, List.map_nil]); first | done | rfl | (simp only [List.length_drop, List.length_take]; rfl)) ?_; (with_reducible refine (spec_l32Rd_nat.calls k g s0_0 s0_1 t223 t226 w0 _ ?side1 ?side2 A2.out).mono ?_); (case side1 => repeat (first | (with_reducible first | exact HI0.out | apply IsS75.alloc | apply IsS75.drewN | apply IsS75.drew | apply IsS75.set_1) | exact HI0.out)); (case side2 => repeat (first | (with_reducible first | exact HB.out | apply below_alloc | apply pw_below_drewN | apply below_drew1 | refine below_set ?_ (IsS75.ge HI0.out)) | exact HB.out)); rintro e w11 ⟨v224, rfl, ho0, hi, hb, hk⟩; refine ⟨_, rfl, ?_⟩; have n0_ := Aside0.mk (Kd.R_lower ho0 (keep_size (w := w) (g := g) (row := none) (by repeat (first | (with_reducible first | exact HK.out | apply KeepBut.set_ | apply keep_drewN | apply keep_drew | apply keep_alloc) | exact HK.out)))); have n1_ := Aside0.mk (KeepBut.trans (by repeat (first | (with_reducible first | exact HK.out | apply KeepBut.set_ | apply keep_drewN | apply keep_drew | apply keep_alloc) | exact HK.out)) hk (.inl rfl)); have n2_ := Aside0.mk (hb); have n3_ := Aside0.mk (hi); clear HK; clear HB; clear HI0; have HO225 := n0_; have HK := n1_; have HB := n2_; have HI0 := n3_; clear n0_ n1_ n2_ n3_; (try clear hb); (try clear hb2); (try clear hk); (try clear hi); (try clear ho0)) | ((with_reducible refine gate_callee (f := 74) rfl ?_); refine goesL_ (some 7) rfl rfl Try.func74 (by kernel_rfl) rfl #[.pointer (some ⟨g, 0, none⟩), .int .i64 80] rfl (by (try simp only [List.map_toArray, List.map_cons, List.map_nil]); first | done | rfl | (simp only [List.length_drop, List.length_take]; rfl)) ?_; (with_reducible refine (spec_l32Rd_pick.calls k g s0_0 t226 80 t227 t228 w0 _ ?side1 ?side2 A3.out).mono ?_); (case side1 => repeat (first | (with_reducible first | exact HI0.out | apply IsS75.alloc | apply IsS75.drewN | apply IsS75.drew | apply IsS75.set_1) | exact HI0.out)); (case side2 => repeat (first | (with_reducible first | exact HB.out | apply below_alloc | apply pw_below_drewN | apply below_drew1 | refine below_set ?_ (IsS75.ge HI0.out)) | exact HB.out)); rintro e w12 ⟨rfl, hi, hb, hk⟩; refine ⟨_, rfl, ?_⟩; have n0_ := Aside0.mk (Kd.R_mono (Kd.R_keep (IsS75.apart (show IsS75 w0 _ g s0_0 t226 from by repeat (first | (with_reducible first | exact HI0.out | apply IsS75.alloc | apply IsS75.drewN | apply IsS75.drew | apply IsS75.set_1) | exact HI0.out)) (by (with_reducible repeat (first | apply Kd.R_alloc | apply Kd.R_drewN | apply Kd.R_drew)); exact HO225.out) (by decide)) hk (fun _ h => h.2)) (fun _ h => h.1)); have n1_ := Aside0.mk (KeepBut.trans (by repeat (first | (with_reducible first | exact HK.out | apply KeepBut.set_ | apply keep_drewN | apply keep_drew | apply keep_alloc) | exact HK.out)) hk (.inl rfl)); have n2_ := Aside0.mk (hb); have n3_ := Aside0.mk (hi); clear HO225; clear HK; clear HB; clear HI0; have HO225 := n0_; have HK := n1_; have HB := n2_; have HI0 := n3_; clear n0_ n1_ n2_ n3_; (try clear hb); (try clear hb2); (try clear hk); (try clear hi)) | ((with_reducible refine gate_builtin (b := .append) (xs := #[.tmp 15, .tmp 16]) rfl ?_); at_builtin; refine Kd.R_append (Kd.int .i64) w.heap.size rfl (.tmp 15) (.tmp 16) 22 3 (.int .i64 0) 8 rfl Try.underlying22 info3 rfl (by decide) (by omega) v224 t223 65536 [.int .i64 65536] (fun _ => True) (fun _ => False) rfl rfl ?aP (fun _ hk => hk.elim) ?aF ?aO (Below.refl _ _) ?aS ?aL ?_; (case aP => exact rfl); (case aF => exact (fun _ _ => trivial)); (case aO => exact (by (with_reducible repeat (first | apply Kd.R_alloc | apply Kd.R_drewN | apply Kd.R_drew)); exact HO225.out)); (case aS => exact (keep_size (w := w) (g := g) (row := none) (by repeat (first | (with_reducible first | exact HK.out | apply KeepBut.set_ | apply keep_drewN | apply keep_drew | apply keep_alloc) | exact HK.out)))); (case aL => have := LMc10.out; omega); intro v233 w13 ho hb hg hat; rw [← Ny232.out] at ho; have n0_ := Aside0.mk (IsS75.grown (by repeat (first | (with_reducible first | exact HI0.out | apply IsS75.alloc | apply IsS75.drewN | apply IsS75.drew | apply IsS75.set_1) | exact HI0.out)) hg (IsS75.own_ne HI0.out HO225.out (by decide))); have n1_ := Aside0.mk (below_weaken (by repeat (first | (with_reducible first | exact HB.out | apply below_alloc | apply pw_below_drewN | apply below_drew1 | refine below_set ?_ (IsS75.ge HI0.out)) | exact HB.out)) HL.out hb); have n2_ := Aside0.mk (KeepBut.trans (by repeat (first | (with_reducible first | exact HK.out | apply KeepBut.set_ | apply keep_drewN | apply keep_drew | apply keep_alloc) | exact HK.out)) (KeepBut.of_grown hg g) (Kd.R_base2 HO225.out)); have n3_ := Aside0.mk (ho); clear HI0; clear HB; clear HK; clear HO225; have HI0 := n0_; have HB := n1_; have HK := n2_; have HO234 := n3_; clear n0_ n1_ n2_ n3_; clear ho hb hg hat))
        go_ret
        exact ⟨_, by first | rfl | (simp [errW_none, errW_some] <;> rfl) | (simp [*, errW_none, errW_some] <;> rfl), by (with_reducible repeat (first | apply Kd.R_alloc | apply Kd.R_drewN | apply Kd.R_drew)); exact HO234.out, by repeat (first | (with_reducible first | exact HI0.out | apply IsS75.alloc | apply IsS75.drewN | apply IsS75.drew | apply IsS75.set_1) | exact HI0.out), by repeat (first | (with_reducible first | exact HB.out | apply below_alloc | apply pw_below_drewN | apply below_drew1 | refine below_set ?_ (IsS75.ge HI0.out)) | exact HB.out), by repeat (first | (with_reducible first | exact HK.out | apply KeepBut.set_ | apply keep_drewN | apply keep_drew | apply keep_alloc) | exact HK.out)⟩
      · rw [if_neg c10] at H
        exact absurd H (by simp)
    · rw [if_neg c9] at H
      have c9b0 : (t227 == 1) = false := beq_eq_false_iff_ne.mpr c9
      have c9b1 : (t227 != 1) = true := bne_iff_ne.mpr c9
      by_cases c14 : t227 = 2
      · rw [if_pos c14] at H
        have c14b0 : (t227 == 2) = true := beq_iff_eq.mpr c14
        have c14b1 : (t227 != 2) = false := bne_eq_false_iff_eq.mpr c14
        clear c14
        by_cases c15 : t223.length < 17592186044416
        · rw [if_pos c15] at H
          have LMc15 := Aside0.mk c15
          clear c15
          obtain ⟨y235, hy235⟩ : ∃ y_ : List Int, y_ = (t223 ++ [(-1)]) := ⟨_, rfl⟩
          replace H : (some (y235, t228)) = some (r1, r2) := by first | (rw [hy235]; with_reducible exact H) | (have H2_ := (Option.bind_some _ _).symm.trans H; rw [hy235]; with_reducible exact H2_) | (have H2_ := (Option.bind_some _ _).symm.trans H; with_reducible exact H2_) | with_reducible exact H | (rw [hy235]; exact H) | exact H
          have Ny235 := Aside0.mk hy235
          clear hy235
          simp only [Option.some.injEq, Prod.mk.injEq] at H
          obtain ⟨rfl, rfl⟩ := H
          go_enter Try.func73, Try.ntmps73
          go_wp2_with (first | ((with_reducible refine gate_callee (f := 84) rfl ?_); refine goesL_ (some 5) rfl rfl Try.func84 (by kernel_rfl) rfl #[.pointer (some ⟨g, 0, none⟩)] rfl (by (try simp only [List.map_toArray, List.map_cons, List.map_nil]); first | done | rfl | (simp only [List.length_drop, List.length_take]; rfl)) ?_; (with_reducible refine (spec_l32Rd_nat.calls k g s0_0 s0_1 t223 t226 w0 _ ?side1 ?side2 A2.out).mono ?_); (case side1 => repeat (first | (with_reducible first | exact HI0.out | apply IsS75.alloc | apply IsS75.drewN | apply IsS75.drew | apply IsS75.set_1) | exact HI0.out)); (case side2 => repeat (first | (with_reducible first | exact HB.out | apply below_alloc | apply pw_below_drewN | apply below_drew1 | refine below_set ?_ (IsS75.ge HI0.out)) | exact HB.out)); rintro e w16 ⟨v224, rfl, ho0, hi, hb, hk⟩; refine ⟨_, rfl, ?_⟩; have n0_ := Aside0.mk (Kd.R_lower ho0 (keep_size (w := w) (g := g) (row := none) (by repeat (first | (with_reducible first | exact HK.out | apply KeepBut.set_ | apply keep_drewN | apply keep_drew | apply keep_alloc) | exact HK.out)))); have n1_ := Aside0.mk (KeepBut.trans (by repeat (first | (with_reducible first | exact HK.out | apply KeepBut.set_ | apply keep_drewN | apply keep_drew | apply keep_alloc) | exact HK.out)) hk (.inl rfl)); have n2_ := Aside0.mk (hb); have n3_ := Aside0.mk (hi); clear HK; clear HB; clear HI0; have HO225 := n0_; have HK := n1_; have HB := n2_; have HI0 := n3_; clear n0_ n1_ n2_ n3_; (try clear hb); (try clear hb2); (try clear hk); (try clear hi); (try clear ho0)) | ((with_reducible refine gate_callee (f := 74) rfl ?_); refine goesL_ (some 7) rfl rfl Try.func74 (by kernel_rfl) rfl #[.pointer (some ⟨g, 0, none⟩), .int .i64 80] rfl (by (try simp only [List.map_toArray, List.map_cons, List.map_nil]); first | done | rfl | (simp only [List.length_drop, List.length_take]; rfl)) ?_; (with_reducible refine (spec_l32Rd_pick.calls k g s0_0 t226 80 t227 t228 w0 _ ?side1 ?side2 A3.out).mono ?_); (case side1 => repeat (first | (with_reducible first | exact HI0.out | apply IsS75.alloc | apply IsS75.drewN | apply IsS75.drew | apply IsS75.set_1) | exact HI0.out)); (case side2 => repeat (first | (with_reducible first | exact HB.out | apply below_alloc | apply pw_below_drewN | apply below_drew1 | refine below_set ?_ (IsS75.ge HI0.out)) | exact HB.out)); rintro e w17 ⟨rfl, hi, hb, hk⟩; refine ⟨_, rfl, ?_⟩; have n0_ := Aside0.mk (Kd.R_mono (Kd.R_keep (IsS75.apart (show IsS75 w0 _ g s0_0 t226 from by repeat (first | (with_reducible first | exact HI0.out | apply IsS75.alloc | apply IsS75.drewN | apply IsS75.drew | apply IsS75.set_1) | exact HI0.out)) (by (with_reducible repeat (first | apply Kd.R_alloc | apply Kd.R_drewN | apply Kd.R_drew)); exact HO225.out) (by decide)) hk (fun _ h => h.2)) (fun _ h => h.1)); have n1_ := Aside0.mk (KeepBut.trans (by repeat (first | (with_reducible first | exact HK.out | apply KeepBut.set_ | apply keep_drewN | apply keep_drew | apply keep_alloc) | exact HK.out)) hk (.inl rfl)); have n2_ := Aside0.mk (hb); have n3_ := Aside0.mk (hi); clear HO225; clear HK; clear HB; clear HI0; have HO225 := n0_; have HK := n1_; have HB := n2_; have HI0 := n3_; clear n0_ n1_ n2_ n3_; (try clear hb); (try clear hb2); (try clear hk); (try clear hi)) | ((with_reducible refine gate_builtin (b := .append) (xs := #[.tmp 20, .tmp 21]) rfl ?_); at_builtin; refine Kd.R_append (Kd.int .i64) w.heap.size rfl (.tmp 20) (.tmp 21) 22 3 (.int .i64 0) 8 rfl Try.underlying22 info3 rfl (by decide) (by omega) v224 t223 (-1) [.int .i64 (-1)] (fun _ => True) (fun _ => False) rfl rfl ?aP (fun _ hk => hk.elim) ?aF ?aO (Below.refl _ _) ?aS ?aL ?_; (case aP => exact rfl); (case aF => exact (fun _ _ => trivial)); (case aO => exact (by (with_reducible repeat (first | apply Kd.R_alloc | apply Kd.R_drewN | apply Kd.R_drew)); exact HO225.out)); (case aS => exact (keep_size (w := w) (g := g) (row := none) (by repeat (first | (with_reducible first | exact HK.out | apply KeepBut.set_ | apply keep_drewN | apply keep_drew | apply keep_alloc) | exact HK.out)))); (case aL => have := LMc15.out; omega); intro v236 w18 ho hb hg hat; rw [← Ny235.out] at ho; have n0_ := Aside0.mk (IsS75.grown (by repeat (first | (with_reducible first | exact HI0.out | apply IsS75.alloc | apply IsS75.drewN | apply IsS75.drew | apply IsS75.set_1) | exact HI0.out)) hg (IsS75.own_ne HI0.out HO225.out (by decide))); have n1_ := Aside0.mk (below_weaken (by repeat (first | (with_reducible first | exact HB.out | apply below_alloc | apply pw_below_drewN | apply below_drew1 | refine below_set ?_ (IsS75.ge HI0.out)) | exact HB.out)) HL.out hb); have n2_ := Aside0.mk (KeepBut.trans (by repeat (first | (with_reducible first | exact HK.out | apply KeepBut.set_ | apply keep_drewN | apply keep_drew | apply keep_alloc) | exact HK.out)) (KeepBut.of_grown hg g) (Kd.R_base2 HO225.out)); have n3_ := Aside0.mk (ho); clear HI0; clear HB; clear HK; clear HO225; have HI0 := n0_; have HB := n1_; have HK := n2_; have HO237 := n3_; clear n0_ n1_ n2_ n3_; clear ho hb hg hat))
          go_ret
          exact ⟨_, by first | rfl | (simp [errW_none, errW_some] <;> rfl) | (simp [*, errW_none, errW_some] <;> rfl), by (with_reducible repeat (first | apply Kd.R_alloc | apply Kd.R_drewN | apply Kd.R_drew)); exact HO237.out, by repeat (first | (with_reducible first | exact HI0.out | apply IsS75.alloc | apply IsS75.drewN | apply IsS75.drew | apply IsS75.set_1) | exact HI0.out), by repeat (first | (with_reducible first | exact HB.out | apply below_alloc | apply pw_below_drewN | apply below_drew1 | refine below_set ?_ (IsS75.ge HI0.out)) | exact HB.out), by repeat (first | (with_reducible first | exact HK.out | apply KeepBut.set_ | apply keep_drewN | apply keep_drew | apply keep_alloc) | exact HK.out)⟩
        · rw [if_neg c15] at H
          exact absurd H (by simp)
      · rw [if_neg c14] at H
        have c14b0 : (t227 == 2) = false := beq_eq_false_iff_ne.mpr c14
        have c14b1 : (t227 != 2) = true := bne_iff_ne.mpr c14
        by_cases c19 : t227 = 3
        · rw [if_pos c19] at H
          have c19b0 : (t227 == 3) = true := beq_iff_eq.mpr c19
          have c19b1 : (t227 != 3) = false := bne_eq_false_iff_eq.mpr c19
          clear c19
          have H' := Aside0.mk H
          clear H
          go_enter Try.func73, Try.ntmps73
          go_wp2_with (first | ((with_reducible refine gate_callee (f := 84) rfl ?_); refine goesL_ (some 5) rfl rfl Try.func84 (by kernel_rfl) rfl #[.pointer (some ⟨g, 0, none⟩)] rfl (by (try simp only [List.map_toArray, List.map_cons, List.map_nil]); first | done | rfl | (simp only [List.length_drop, List.length_take]; rfl)) ?_; (with_reducible refine (spec_l32Rd_nat.calls k g s0_0 s0_1 t223 t226 w0 _ ?side1 ?side2 A2.out).mono ?_); (case side1 => repeat (first | (with_reducible first | exact HI0.out | apply IsS75.alloc | apply IsS75.drewN | apply IsS75.drew | apply IsS75.set_1) | exact HI0.out)); (case side2 => repeat (first | (with_reducible first | exact HB.out | apply below_alloc | apply pw_below_drewN | apply below_drew1 | refine below_set ?_ (IsS75.ge HI0.out)) | exact HB.out)); rintro e w20 ⟨v224, rfl, ho0, hi, hb, hk⟩; refine ⟨_, rfl, ?_⟩; have n0_ := Aside0.mk (Kd.R_lower ho0 (keep_size (w := w) (g := g) (row := none) (by repeat (first | (with_reducible first | exact HK.out | apply KeepBut.set_ | apply keep_drewN | apply keep_drew | apply keep_alloc) | exact HK.out)))); have n1_ := Aside0.mk (KeepBut.trans (by repeat (first | (with_reducible first | exact HK.out | apply KeepBut.set_ | apply keep_drewN | apply keep_drew | apply keep_alloc) | exact HK.out)) hk (.inl rfl)); have n2_ := Aside0.mk (hb); have n3_ := Aside0.mk (hi); clear HK; clear HB; clear HI0; have HO225 := n0_; have HK := n1_; have HB := n2_; have HI0 := n3_; clear n0_ n1_ n2_ n3_; (try clear hb); (try clear hb2); (try clear hk); (try clear hi); (try clear ho0)) | ((with_reducible refine gate_callee (f := 74) rfl ?_); refine goesL_ (some 7) rfl rfl Try.func74 (by kernel_rfl) rfl #[.pointer (some ⟨g, 0, none⟩), .int .i64 80] rfl (by (try simp only [List.map_toArray, List.map_cons, List.map_nil]); first | done | rfl | (simp only [List.length_drop, List.length_take]; rfl)) ?_; (with_reducible refine (spec_l32Rd_pick.calls k g s0_0 t226 80 t227 t228 w0 _ ?side1 ?side2 A3.out).mono ?_); (case side1 => repeat (first | (with_reducible first | exact HI0.out | apply IsS75.alloc | apply IsS75.drewN | apply IsS75.drew | apply IsS75.set_1) | exact HI0.out)); (case side2 => repeat (first | (with_reducible first | exact HB.out | apply below_alloc | apply pw_below_drewN | apply below_drew1 | refine below_set ?_ (IsS75.ge HI0.out)) | exact HB.out)); rintro e w21 ⟨rfl, hi, hb, hk⟩; refine ⟨_, rfl, ?_⟩; have n0_ := Aside0.mk (Kd.R_mono (Kd.R_keep (IsS75.apart (show IsS75 w0 _ g s0_0 t226 from by repeat (first | (with_reducible first | exact HI0.out | apply IsS75.alloc | apply IsS75.drewN | apply IsS75.drew | apply IsS75.set_1) | exact HI0.out)) (by (with_reducible repeat (first | apply Kd.R_alloc | apply Kd.R_drewN | apply Kd.R_drew)); exact HO225.out) (by decide)) hk (fun _ h => h.2)) (fun _ h => h.1)); have n1_ := Aside0.mk (KeepBut.trans (by repeat (first | (with_reducible first | exact HK.out | apply KeepBut.set_ | apply keep_drewN | apply keep_drew | apply keep_alloc) | exact HK.out)) hk (.inl rfl)); have n2_ := Aside0.mk (hb); have n3_ := Aside0.mk (hi); clear HO225; clear HK; clear HB; clear HI0; have HO225 := n0_; have HK := n1_; have HB := n2_; have HI0 := n3_; clear n0_ n1_ n2_ n3_; (try clear hb); (try clear hb2); (try clear hk); (try clear hi)))
          go_loopg [3] k (fun kq v3 w' => ∃ (x3_1 : List Int), Aside0 (spec_l32Rd_raw.l0 kq x3_1 s0_0 t228 = some (r1, r2)) ∧ Aside0 (kq ≤ k) ∧ Aside0 (Kd.R (Kd.int .i64) 3 w' w.heap.size (fun _ => True) v3 x3_1) ∧ Aside0 (IsS75 w0 w' g s0_0 t228) ∧ Aside0 (KeepBut w w' g none) ∧ Aside0 (Below w0.heap.size w0 w'))
          case atStart => exact ⟨(t223), H', ⟨Nat.le_refl _⟩, ⟨by (with_reducible repeat (first | apply Kd.R_alloc | apply Kd.R_drewN | apply Kd.R_drew)); exact HO225.out⟩, ⟨by repeat (first | (with_reducible first | exact HI0.out | apply IsS75.alloc | apply IsS75.drewN | apply IsS75.drew | apply IsS75.set_1) | exact HI0.out)⟩, ⟨by repeat (first | (with_reducible first | exact HK.out | apply KeepBut.set_ | apply keep_drewN | apply keep_drew | apply keep_alloc) | exact HK.out)⟩, ⟨by repeat (first | (with_reducible first | exact HB.out | apply below_alloc | apply pw_below_drewN | apply below_drew1 | refine below_set ?_ (IsS75.ge HI0.out)) | exact HB.out)⟩⟩
          case round =>
            clear H'
            try clear c1
            try clear p2
            try clear c4
            try clear c4b0
            try clear c4b1
            try clear c5
            try clear c7
            try clear c8
            try clear c9
            try clear c9b0
            try clear c9b1
            try clear c10
            try clear c14
            try clear c14b0
            try clear c14b1
            try clear c15
            try clear c19
            try clear c19b0
            try clear c19b1
            obtain ⟨x3_1, HA, HK1, HO_3, HI0, HK, HB⟩ := hrel
            cases gk with
            | zero => exact absurd HA.out (by simp [spec_l32Rd_raw.l0])
            | succ k1 =>
              have H := HA.out
              clear HA
              simp only [spec_l32Rd_raw.l0] at H
              by_cases c22 : (x3_1.length : Int) ≤ 256
              · rw [if_pos c22] at H
                have c22b0 : decide ((x3_1.length : Int) ≤ 256) = true := decide_eq_true c22
                have c22b1 : decide (x3_1.length ≤ 256) = true := decide_eq_true (by omega)
                clear c22
                by_cases c23 : x3_1.length < 17592186044416
                · rw [if_pos c23] at H
                  have LMc23 := Aside0.mk c23
                  clear c23
                  obtain ⟨y238, hy238⟩ : ∃ y_ : List Int, y_ = (x3_1 ++ [1]) := ⟨_, rfl⟩
                  replace H : (spec_l32Rd_raw.l0 k1 y238 s0_0 t228) = some (r1, r2) := by first | (rw [hy238]; with_reducible exact H) | (have H2_ := (Option.bind_some _ _).symm.trans H; rw [hy238]; with_reducible exact H2_) | (have H2_ := (Option.bind_some _ _).symm.trans H; with_reducible exact H2_) | with_reducible exact H | (rw [hy238]; exact H) | exact H
                  have Ny238 := Aside0.mk hy238
                  clear hy238
                  have H' := Aside0.mk H
                  clear H
                  obtain ⟨Ao24, co24, eo24⟩ := Kd.R_slice HO_3.out
                  subst eo24
                  go_wp2_with (first | ((with_reducible refine gate_builtin (b := .append) (xs := #[.tmp 28, .tmp 29]) rfl ?_); at_builtin; refine Kd.R_append (Kd.int .i64) w.heap.size rfl (.tmp 28) (.tmp 29) 22 3 (.int .i64 0) 8 rfl Try.underlying22 info3 rfl (by decide) (by omega) (.slice Ao24 x3_1.length co24) x3_1 1 [.int .i64 1] (fun _ => True) (fun _ => False) rfl rfl ?aP (fun _ hk => hk.elim) ?aF ?aO (Below.refl _ _) ?aS ?aL ?_; (case aP => exact rfl); (case aF => exact (fun _ _ => trivial)); (case aO => exact (by (with_reducible repeat (first | apply Kd.R_alloc | apply Kd.R_drewN | apply Kd.R_drew)); exact HO_3.out)); (case aS => exact (keep_size (w := w) (g := g) (row := none) (by repeat (first | (with_reducible first | exact HK.out | apply KeepBut.set_ | apply keep_drewN | apply keep_drew | apply keep_alloc) | exact HK.out)))); (case aL => have := LMc23.out; omega); intro v239 w25 ho hb hg hat; rw [← Ny238.out] at ho; have n0_ := Aside0.mk (IsS75.grown (by repeat (first | (with_reducible first | exact HI0.out | apply IsS75.alloc | apply IsS75.drewN | apply IsS75.drew | apply IsS75.set_1) | exact HI0.out)) hg (IsS75.own_ne HI0.out HO_3.out (by decide))); have n1_ := Aside0.mk (below_weaken (by repeat (first | (with_reducible first | exact HB.out | apply below_alloc | apply pw_below_drewN | apply below_drew1 | refine below_set ?_ (IsS75.ge HI0.out)) | exact HB.out)) HL.out hb); have n2_ := Aside0.mk (KeepBut.trans (by repeat (first | (with_reducible first | exact HK.out | apply KeepBut.set_ | apply keep_drewN | apply keep_drew | apply keep_alloc) | exact HK.out)) (KeepBut.of_grown hg g) (Kd.R_base2 HO_3.out)); have n3_ := Aside0.mk (ho); clear HI0; clear HB; clear HK; clear HO_3; have HI0 := n0_; have HB := n1_; have HK := n2_; have HO240 := n3_; clear n0_ n1_ n2_ n3_; clear ho hb hg hat))
                  go_roundg k1
                  case measure => have := HK1.out; omega
                  case rel => exact ⟨(y238), H', ⟨by have := HK1.out; omega⟩, ⟨by (with_reducible repeat (first | apply Kd.R_alloc | apply Kd.R_drewN | apply Kd.R_drew)); exact HO240.out⟩, ⟨by repeat (first | (with_reducible first | exact HI0.out | apply IsS75.alloc | apply IsS75.drewN | apply IsS75.drew | apply IsS75.set_1) | exact HI0.out)⟩, ⟨by repeat (first | (with_reducible first | exact HK.out | apply KeepBut.set_ | apply keep_drewN | apply keep_drew | apply keep_alloc) | exact HK.out)⟩, ⟨by repeat (first | (with_reducible first | exact HB.out | apply below_alloc | apply pw_below_drewN | apply below_drew1 | refine below_set ?_ (IsS75.ge HI0.out)) | exact HB.out)⟩⟩
                · rw [if_neg c23] at H
                  exact absurd H (by simp)
              · rw [if_neg c22] at H
                have c22b0 : decide ((x3_1.length : Int) ≤ 256) = false := decide_eq_false c22
                have c22b1 : decide (x3_1.length ≤ 256) = false := decide_eq_false (by omega)
                clear c22
                simp only [Option.some.injEq, Prod.mk.injEq] at H
                obtain ⟨rfl, rfl⟩ := H
                obtain ⟨Ao26, co26, eo26⟩ := Kd.R_slice HO_3.out
                subst eo26
                go_wp2
                go_ret
                exact ⟨_, by first | rfl | (simp [errW_none, errW_some] <;> rfl) | (simp [*, errW_none, errW_some] <;> rfl), by (with_reducible repeat (first | apply Kd.R_alloc | apply Kd.R_drewN | apply Kd.R_drew)); exact HO_3.out, by repeat (first | (with_reducible first | exact HI0.out | apply IsS75.alloc | apply IsS75.drewN | apply IsS75.drew | apply IsS75.set_1) | exact HI0.out), by repeat (first | (with_reducible first | exact HB.out | apply below_alloc | apply pw_below_drewN | apply below_drew1 | refine below_set ?_ (IsS75.ge HI0.out)) | exact HB.out), by repeat (first | (with_reducible first | exact HK.out | apply KeepBut.set_ | apply keep_drewN | apply keep_drew | apply keep_alloc) | exact HK.out)⟩
        · rw [if_neg c19] at H
          have c19b0 : (t227 == 3) = false := beq_eq_false_iff_ne.mpr c19
          have c19b1 : (t227 != 3) = true := bne_iff_ne.mpr c19
          simp only [Option.some.injEq, Prod.mk.injEq] at H
          obtain ⟨rfl, rfl⟩ := H
          go_enter Try.func73, Try.ntmps73
          go_wp2_with (first | ((with_reducible refine gate_callee (f := 84) rfl ?_); refine goesL_ (some 5) rfl rfl Try.func84 (by kernel_rfl) rfl #[.pointer (some ⟨g, 0, none⟩)] rfl (by (try simp only [List.map_toArray, List.map_cons, List.map_nil]); first | done | rfl | (simp only [List.length_drop, List.length_take]; rfl)) ?_; (with_reducible refine (spec_l32Rd_nat.calls k g s0_0 s0_1 t223 t226 w0 _ ?side1 ?side2 A2.out).mono ?_); (case side1 => repeat (first | (with_reducible first | exact HI0.out | apply IsS75.alloc | apply IsS75.drewN | apply IsS75.drew | apply IsS75.set_1) | exact HI0.out)); (case side2 => repeat (first | (with_reducible first | exact HB.out | apply below_alloc | apply pw_below_drewN | apply below_drew1 | refine below_set ?_ (IsS75.ge HI0.out)) | exact HB.out)); rintro e w27 ⟨v224, rfl, ho0, hi, hb, hk⟩; refine ⟨_, rfl, ?_⟩; have n0_ := Aside0.mk (Kd.R_lower ho0 (keep_size (w := w) (g := g) (row := none) (by repeat (first | (with_reducible first | exact HK.out | apply KeepBut.set_ | apply keep_drewN | apply keep_drew | apply keep_alloc) | exact HK.out)))); have n1_ := Aside0.mk (KeepBut.trans (by repeat (first | (with_reducible first | exact HK.out | apply KeepBut.set_ | apply keep_drewN | apply keep_drew | apply keep_alloc) | exact HK.out)) hk (.inl rfl)); have n2_ := Aside0.mk (hb); have n3_ := Aside0.mk (hi); clear HK; clear HB; clear HI0; have HO225 := n0_; have HK := n1_; have HB := n2_; have HI0 := n3_; clear n0_ n1_ n2_ n3_; (try clear hb); (try clear hb2); (try clear hk); (try clear hi); (try clear ho0)) | ((with_reducible refine gate_callee (f := 74) rfl ?_); refine goesL_ (some 7) rfl rfl Try.func74 (by kernel_rfl) rfl #[.pointer (some ⟨g, 0, none⟩), .int .i64 80] rfl (by (try simp only [List.map_toArray, List.map_cons, List.map_nil]); first | done | rfl | (simp only [List.length_drop, List.length_take]; rfl)) ?_; (with_reducible refine (spec_l32Rd_pick.calls k g s0_0 t226 80 t227 t228 w0 _ ?side1 ?side2 A3.out).mono ?_); (case side1 => repeat (first | (with_reducible first | exact HI0.out | apply IsS75.alloc | apply IsS75.drewN | apply IsS75.drew | apply IsS75.set_1) | exact HI0.out)); (case side2 => repeat (first | (with_reducible first | exact HB.out | apply below_alloc | apply pw_below_drewN | apply below_drew1 | refine below_set ?_ (IsS75.ge HI0.out)) | exact HB.out)); rintro e w28 ⟨rfl, hi, hb, hk⟩; refine ⟨_, rfl, ?_⟩; have n0_ := Aside0.mk (Kd.R_mono (Kd.R_keep (IsS75.apart (show IsS75 w0 _ g s0_0 t226 from by repeat (first | (with_reducible first | exact HI0.out | apply IsS75.alloc | apply IsS75.drewN | apply IsS75.drew | apply IsS75.set_1) | exact HI0.out)) (by (with_reducible repeat (first | apply Kd.R_alloc | apply Kd.R_drewN | apply Kd.R_drew)); exact HO225.out) (by decide)) hk (fun _ h => h.2)) (fun _ h => h.1)); have n1_ := Aside0.mk (KeepBut.trans (by repeat (first | (with_reducible first | exact HK.out | apply KeepBut.set_ | apply keep_drewN | apply keep_drew | apply keep_alloc) | exact HK.out)) hk (.inl rfl)); have n2_ := Aside0.mk (hb); have n3_ := Aside0.mk (hi); clear HO225; clear HK; clear HB; clear HI0; have HO225 := n0_; have HK := n1_; have HB := n2_; have HI0 := n3_; clear n0_ n1_ n2_ n3_; (try clear hb); (try clear hb2); (try clear hk); (try clear hi)))
          go_ret
          exact ⟨_, by first | rfl | (simp [errW_none, errW_some] <;> rfl) | (simp [*, errW_none, errW_some] <;> rfl), by (with_reducible repeat (first | apply Kd.R_alloc | apply Kd.R_drewN | apply Kd.R_drew)); exact HO225.out, by repeat (first | (with_reducible first | exact HI0.out | apply IsS75.alloc | apply IsS75.drewN | apply IsS75.drew | apply IsS75.set_1) | exact HI0.out), by repeat (first | (with_reducible first | exact HB.out | apply below_alloc | apply pw_below_drewN | apply below_drew1 | refine below_set ?_ (IsS75.ge HI0.out)) | exact HB.out), by repeat (first | (with_reducible first | exact HK.out | apply KeepBut.set_ | apply keep_drewN | apply keep_drew | apply keep_alloc) | exact HK.out)⟩
theorem spec_l32Rd_raw.callsX (k : Nat) (g : Nat) (s0_0 : List Int) (s0_1 : Int) (r1 : List Int) (r2 : Int) (w0 w : World) (hI : IsS75 w0 w g s0_0 s0_1) (hB : Below w0.heap.size w0 w) (h : spec_l32Rd_raw.f k s0_0 s0_1 = some (r1, r2)) :
    Calls Try.prog 73 #[.pointer (some ⟨g, 0, none⟩)] w fun e w' => ∃ v0_ : Value, e = .returned (v0_) ∧ XR (Kd.int .i64) 3 w' w.heap.size (fun _ => True) v0_ r1 ∧ IsS75 w0 w' g s0_0 r2 ∧ Below w0.heap.size w0 w' ∧ KeepBut w w' g none :=
  (spec_l32Rd_raw.calls k g s0_0 s0_1 r1 r2 w0 w hI hB h).mono fun e w' ⟨v0_, p0_, p1_, p2_, p3_, p4_⟩ => ⟨v0_, p0_, XR_of p1_, p2_, p3_, p4_⟩

/-! ### spec_DrawNatPow: function 44 -/
def spec_DrawNatPow.f (k : Nat) (l0 : List Int) : Option (List Int × Int) := (spec_l32Open.f l0).bind fun bt241 => ((spec_l32Rd_raw.f k bt241.1 bt241.2).bind fun bt244 => ((spec_l32Rd_pick.f k bt241.1 bt244.2 3).bind fun bt248 => (if bt248.1 > 0 then ((spec_l32Rd_pick.f k bt241.1 bt248.2 30).bind fun bt250 => ((spec_NatOf.f k (IntKind.u64.wrap (bt250.1))).bind fun t252 => ((spec_l32Rd_pick.f k bt241.1 bt250.2 30).bind fun bt255 => ((some (([0, 1, 2, 3, bt255.1, 64, 65, (-1)] : List Int) : List Int)).bind fun y257 => ((spec_l32Rd_pick.f k bt241.1 bt255.2 8).bind fun bt260 => (if 0 ≤ bt260.1 then (if bt260.1 < (y257.length : Int) then (some (t252, rd y257 bt260.1)) else (none)) else (none))))))) else ((spec_l32Rd_pick.f k bt241.1 bt248.2 30).bind fun bt263 => ((some (([0, 1, 2, 3, bt263.1, 64, 65, (-1)] : List Int) : List Int)).bind fun y265 => ((spec_l32Rd_pick.f k bt241.1 bt263.2 8).bind fun bt268 => (if 0 ≤ bt268.1 then (if bt268.1 < (y265.length : Int) then (some (bt244.1, rd y265 bt268.1)) else (none)) else (none))))))))
theorem spec_DrawNatPow.mono : ∀ a0 k, LeO (spec_DrawNatPow.f k a0) (spec_DrawNatPow.f (k + 1) a0) := by
  intro a0 k
  unfold spec_DrawNatPow.f
  repeat' first
      | (with_reducible exact spec_NatOf.mono _ _)
      | (with_reducible exact spec_l32Rd_pick.mono _ _ _ _)
      | (with_reducible exact spec_l32Rd_raw.mono _ _ _)
      | (with_reducible exact LeO.refl _)
      | (with_reducible exact LeO.none _)
      | (with_reducible refine LeO.ite ?_ ?_)
      | (with_reducible refine LeO.bind ?_ (fun _ => ?_))
      | exact spec_NatOf.mono _ _
      | exact spec_l32Rd_pick.mono _ _ _ _
      | exact spec_l32Rd_raw.mono _ _ _
      | exact LeO.none _
      | refine LeO.ite ?_ ?_
      | refine LeO.bind ?_ (fun _ => ?_)
def spec_DrawNatPow.T5 : Bool × List (List Nat × List Nat) := (true, [([], []), ([], []), ([1], [1]), ([2], [2]), ([], []), ([4, 2], [4]), ([3, 5], [3, 5]), ([6], [6]), ([0, 5, 0], [0]), ([7, 8, 0, 1, 2, 3, 4, 5, 6, 7, 8], [7])])
def spec_DrawNatPow.B5 : List Nat := [0, 0, 2, 6, 0, 22, 62, 126, 55, 511]
theorem spec_DrawNatPow.tab5 : rtab .any (opsOf Try.f44 5) = spec_DrawNatPow.T5 := by kernel_rfl
theorem spec_DrawNatPow.bits5 : waitsOk spec_DrawNatPow.T5.2 spec_DrawNatPow.B5 = true := by kernel_rfl
set_option maxHeartbeats 8000000 in
set_option maxRecDepth 100000 in
theorem spec_DrawNatPow.calls (k : Nat) (A0 : Option Addr) (c0 : Nat) (l0 : List Int) (r1 : List Int) (r2 : Int) (w : World) (hr0 : Kd.C (Kd.int .u8) w A0 l0.length l0) (hc0 : l0.length ≤ c0) (h : spec_DrawNatPow.f k l0 = some (r1, r2)) :
    Calls Try.prog 44 #[.slice A0 l0.length c0] w fun e w' => ∃ v0_ : Value, e = .returned (.tuple #[v0_, .int .i64 r2]) ∧ Kd.R (Kd.int .i64) 3 w' w.heap.size (fun _ => True) v0_ r1 ∧ Below w.heap.size w w' := by
  have HR0 := Aside0.mk hr0
  have HC0 := Aside0.mk hc0
  clear hr0 hc0
  have HB := Aside0.mk (Below.refl w.heap.size w)
  have H : ((spec_l32Open.f l0).bind fun bt241 => ((spec_l32Rd_raw.f k bt241.1 bt241.2).bind fun bt244 => ((spec_l32Rd_pick.f k bt241.1 bt244.2 3).bind fun bt248 => (if bt248.1 > 0 then ((spec_l32Rd_pick.f k bt241.1 bt248.2 30).bind fun bt250 => ((spec_NatOf.f k (IntKind.u64.wrap (bt250.1))).bind fun t252 => ((spec_l32Rd_pick.f k bt241.1 bt250.2 30).bind fun bt255 => ((some (([0, 1, 2, 3, bt255.1, 64, 65, (-1)] : List Int) : List Int)).bind fun y257 => ((spec_l32Rd_pick.f k bt241.1 bt255.2 8).bind fun bt260 => (if 0 ≤ bt260.1 then (if bt260.1 < (y257.length : Int) then (some (t252, rd y257 bt260.1)) else (none)) else (none))))))) else ((spec_l32Rd_pick.f k bt241.1 bt248.2 30).bind fun bt263 => ((some (([0, 1, 2, 3, bt263.1, 64, 65, (-1)] : List Int) : List Int)).bind fun y265 => ((spec_l32Rd_pick.f k bt241.1 bt263.2 8).bind fun bt268 => (if 0 ≤ bt268.1 then (if bt268.1 < (y265.length : Int) then (some (bt244.1, rd y265 bt268.1)) else (none)) else (none))))))))) = some (r1, r2) := h
  clear h
  replace H := Option.bind_eq_some_iff.mp H
  obtain ⟨⟨t241, t242⟩, A20, H⟩ := H
  replace H : ((spec_l32Rd_raw.f k t241 t242).bind fun bt244 => ((spec_l32Rd_pick.f k t241 bt244.2 3).bind fun bt248 => (if bt248.1 > 0 then ((spec_l32Rd_pick.f k t241 bt248.2 30).bind fun bt250 => ((spec_NatOf.f k (IntKind.u64.wrap (bt250.1))).bind fun t252 => ((spec_l32Rd_pick.f k t241 bt250.2 30).bind fun bt255 => ((some (([0, 1, 2, 3, bt255.1, 64, 65, (-1)] : List Int) : List Int)).bind fun y257 => ((spec_l32Rd_pick.f k t241 bt255.2 8).bind fun bt260 => (if 0 ≤ bt260.1 then (if bt260.1 < (y257.length : Int) then (some (t252, rd y257 bt260.1)) else (none)) else (none))))))) else ((spec_l32Rd_pick.f k t241 bt248.2 30).bind fun bt263 => ((some (([0, 1, 2, 3, bt263.1, 64, 65, (-1)] : List Int) : List Int)).bind fun y265 => ((spec_l32Rd_pick.f k t241 bt263.2 8).bind fun bt268 => (if 0 ≤ bt268.1 then (if bt268.1 < (y265.length : Int) then (some (bt244.1, rd y265 bt268.1)) else (none)) else (none)))))))) = some (r1, r2) := H
  have A2 := Aside0.mk A20
  clear A20
  replace H := Option.bind_eq_some_iff.mp H
  obtain ⟨⟨t244, t247⟩, A30, H⟩ := H
  replace H : ((spec_l32Rd_pick.f k t241 t247 3).bind fun bt248 => (if bt248.1 > 0 then ((spec_l32Rd_pick.f k t241 bt248.2 30).bind fun bt250 => ((spec_NatOf.f k (IntKind.u64.wrap (bt250.1))).bind fun t252 => ((spec_l32Rd_pick.f k t241 bt250.2 30).bind fun bt255 => ((some (([0, 1, 2, 3, bt255.1, 64, 65, (-1)] : List Int) : List Int)).bind fun y257 => ((spec_l32Rd_pick.f k t241 bt255.2 8).bind fun bt260 => (if 0 ≤ bt260.1 then (if bt260.1 < (y257.length : Int) then (some (t252, rd y257 bt260.1)) else (none)) else (none))))))) else ((spec_l32Rd_pick.f k t241 bt248.2 30).bind fun bt263 => ((some (([0, 1, 2, 3, bt263.1, 64, 65, (-1)] : List Int) : List Int)).bind fun y265 => ((spec_l32Rd_pick.f k t241 bt263.2 8).bind fun bt268 => (if 0 ≤ bt268.1 then (if bt268.1 < (y265.length : Int) then (some (t244, rd y265 bt268.1)) else (none)) else (none))))))) = some (r1, r2) := H
  have A3 := Aside0.mk A30
  clear A30
  replace H := Option.bind_eq_some_iff.mp H
  obtain ⟨⟨t248, t249⟩, A40, H⟩ := H
  replace H : (if t248 > 0 then ((spec_l32Rd_pick.f k t241 t249 30).bind fun bt250 => ((spec_NatOf.f k (IntKind.u64.wrap (bt250.1))).bind fun t252 => ((spec_l32Rd_pick.f k t241 bt250.2 30).bind fun bt255 => ((some (([0, 1, 2, 3, bt255.1, 64, 65, (-1)] : List Int) : List Int)).bind fun y257 => ((spec_l32Rd_pick.f k t241 bt255.2 8).bind fun bt260 => (if 0 ≤ bt260.1 then (if bt260.1 < (y257.length : Int) then (some (t252, rd y257 bt260.1)) else (none)) else (none))))))) else ((spec_l32Rd_pick.f k t241 t249 30).bind fun bt263 => ((some (([0, 1, 2, 3, bt263.1, 64, 65, (-1)] : List Int) : List Int)).bind fun y265 => ((spec_l32Rd_pick.f k t241 bt263.2 8).bind fun bt268 => (if 0 ≤ bt268.1 then (if bt268.1 < (y265.length : Int) then (some (t244, rd y265 bt268.1)) else (none)) else (none)))))) = some (r1, r2) := H
  have A4 := Aside0.mk A40
  clear A40
  by_cases c5 : t248 > 0
  · rw [if_pos c5] at H
    have c5b0 : decide (0 < t248) = true := decide_eq_true c5
    clear c5
    replace H := Option.bind_eq_some_iff.mp H
    obtain ⟨⟨t250, t251⟩, A60, H⟩ := H
    replace H : ((spec_NatOf.f k (IntKind.u64.wrap (t250))).bind fun t252 => ((spec_l32Rd_pick.f k t241 t251 30).bind fun bt255 => ((some (([0, 1, 2, 3, bt255.1, 64, 65, (-1)] : List Int) : List Int)).bind fun y257 => ((spec_l32Rd_pick.f k t241 bt255.2 8).bind fun bt260 => (if 0 ≤ bt260.1 then (if bt260.1 < (y257.length : Int) then (some (t252, rd y257 bt260.1)) else (none)) else (none)))))) = some (r1, r2) := H
    have A6 := Aside0.mk A60
    clear A60
    replace H := Option.bind_eq_some_iff.mp H
    obtain ⟨t252, A70, H⟩ := H
    replace H : ((spec_l32Rd_pick.f k t241 t251 30).bind fun bt255 => ((some (([0, 1, 2, 3, bt255.1, 64, 65, (-1)] : List Int) : List Int)).bind fun y257 => ((spec_l32Rd_pick.f k t241 bt255.2 8).bind fun bt260 => (if 0 ≤ bt260.1 then (if bt260.1 < (y257.length : Int) then (some (t252, rd y257 bt260.1)) else (none)) else (none))))) = some (r1, r2) := H
    have A7 := Aside0.mk A70
    clear A70
    replace H := Option.bind_eq_some_iff.mp H
    obtain ⟨⟨t255, t256⟩, A80, H⟩ := H
    replace H : ((some (([0, 1, 2, 3, t255, 64, 65, (-1)] : List Int) : List Int)).bind fun y257 => ((spec_l32Rd_pick.f k t241 t256 8).bind fun bt260 => (if 0 ≤ bt260.1 then (if bt260.1 < (y257.length : Int) then (some (t252, rd y257 bt260.1)) else (none)) else (none)))) = some (r1, r2) := H
    have A8 := Aside0.mk A80
    clear A80
    obtain ⟨y257, hy257⟩ : ∃ y_ : List Int, y_ = (([0, 1, 2, 3, t255, 64, 65, (-1)] : List Int)) := ⟨_, rfl⟩
    replace H : ((spec_l32Rd_pick.f k t241 t256 8).bind fun bt260 => (if 0 ≤ bt260.1 then (if bt260.1 < (y257.length : Int) then (some (t252, rd y257 bt260.1)) else (none)) else (none))) = some (r1, r2) := by first | (rw [hy257]; with_reducible exact H) | (have H2_ := (Option.bind_some _ _).symm.trans H; rw [hy257]; with_reducible exact H2_) | (have H2_ := (Option.bind_some _ _).symm.trans H; with_reducible exact H2_) | with_reducible exact H | (rw [hy257]; exact H) | exact H
    have Ny257 := Aside0.mk hy257
    clear hy257
    replace H := Option.bind_eq_some_iff.mp H
    obtain ⟨⟨t260, t261⟩, A90, H⟩ := H
    replace H : (if 0 ≤ t260 then (if t260 < (y257.length : Int) then (some (t252, rd y257 t260)) else (none)) else (none)) = some (r1, r2) := H
    have A9 := Aside0.mk A90
    clear A90
    by_cases c10 : 0 ≤ t260
    · rw [if_pos c10] at H
      have c10b0 : decide (0 ≤ t260) = true := decide_eq_true c10
      clear c10
      by_cases c11 : t260 < (y257.length : Int)
      · rw [if_pos c11] at H
        have c11b0 : decide (t260 < (y257.length : Int)) = true := decide_eq_true c11
        clear c11
        simp only [Option.some.injEq, Prod.mk.injEq] at H
        obtain ⟨rfl, rfl⟩ := H
        go_enter Try.func44, Try.ntmps44
        try go_wp2_with (first | ((with_reducible refine gate_callee (f := 72) rfl ?_); refine goesL_ (some 7) rfl rfl Try.func72 (by kernel_rfl) rfl #[.slice A0 l0.length c0] rfl (by (try simp only [List.map_toArray, List.map_cons, List.map_nil]); first | done | rfl | (simp only [List.length_drop, List.length_take]; rfl)) ?_; (with_reducible refine (spec_l32Open.calls _ _ l0 t241 t242 w _ ?side1 ?side2 ?side3 A2.out).mono ?_); (case side1 => repeat (first | (with_reducible first | exact HB.out | apply below_alloc | apply pw_below_drewN | apply below_drew1) | exact HB.out)); (case side2 => exact HR0.out); (case side3 => exact HC0.out); rintro e w12 ⟨g243, rfl, hi, hb, hb2⟩; refine ⟨_, rfl, ?_⟩; have n0_ := Aside0.mk (hb); have n1_ := Aside0.mk (hi); clear HB; have HB := n0_; have HI243 := n1_; clear n0_ n1_; (try clear hb); (try clear hb2); (try clear hk); (try clear hi)) | ((with_reducible refine gate_callee (f := 73) rfl ?_); refine goesL_ (some 9) rfl rfl Try.func73 (by kernel_rfl) rfl #[.pointer (some ⟨g243, 0, none⟩)] rfl (by (try simp only [List.map_toArray, List.map_cons, List.map_nil]); first | done | rfl | (simp only [List.length_drop, List.length_take]; rfl)) ?_; (with_reducible refine (spec_l32Rd_raw.calls k g243 t241 t242 t244 t247 w _ ?side1 ?side2 A3.out).mono ?_); (case side1 => repeat (first | (with_reducible first | exact HI243.out | apply IsS75.alloc | apply IsS75.drewN | apply IsS75.drew | apply IsS75.set_1) | exact HI243.out)); (case side2 => repeat (first | (with_reducible first | exact HB.out | apply below_alloc | apply pw_below_drewN | apply below_drew1 | refine below_set ?_ (IsS75.ge HI243.out)) | exact HB.out)); rintro e w13 ⟨v245, rfl, ho0, hi, hb, hk⟩; refine ⟨_, rfl, ?_⟩; have n0_ := Aside0.mk (Kd.R_lower ho0 (below_size (by repeat (first | (with_reducible first | exact HB.out | apply below_alloc | apply pw_below_drewN | apply below_drew1 | refine below_set ?_ (IsS75.ge HI243.out)) | exact HB.out)))); have n1_ := Aside0.mk (hb); have n2_ := Aside0.mk (hi); clear HB; clear HI243; have HO246 := n0_; have HB := n1_; have HI243 := n2_; clear n0_ n1_ n2_; (try clear hb); (try clear hb2); (try clear hk); (try clear hi); (try clear ho0)) | ((with_reducible refine gate_callee (f := 74) rfl ?_); refine goesL_ (some 11) rfl rfl Try.func74 (by kernel_rfl) rfl #[.pointer (some ⟨g243, 0, none⟩), .int .i64 3] rfl (by (try simp only [List.map_toArray, List.map_cons, List.map_nil]); first | done | rfl | (simp only [List.length_drop, List.length_take]; rfl)) ?_; (with_reducible refine (spec_l32Rd_pick.calls k g243 t241 t247 3 t248 t249 w _ ?side1 ?side2 A4.out).mono ?_); (case side1 => repeat (first | (with_reducible first | exact HI243.out | apply IsS75.alloc | apply IsS75.drewN | apply IsS75.drew | apply IsS75.set_1) | exact HI243.out)); (case side2 => repeat (first | (with_reducible first | exact HB.out | apply below_alloc | apply pw_below_drewN | apply below_drew1 | refine below_set ?_ (IsS75.ge HI243.out)) | exact HB.out)); rintro e w14 ⟨rfl, hi, hb, hk⟩; refine ⟨_, rfl, ?_⟩; have n0_ := Aside0.mk (Kd.R_mono (Kd.R_keep (IsS75.apart (show IsS75 w _ g243 t241 t247 from by repeat (first | (with_reducible first | exact HI243.out | apply IsS75.alloc | apply IsS75.drewN | apply IsS75.drew | apply IsS75.set_1) | exact HI243.out)) (by (with_reducible repeat (first | apply Kd.R_alloc | apply Kd.R_drewN | apply Kd.R_drew)); exact HO246.out) (by decide)) hk (fun _ h => h.2)) (fun _ h => h.1)); have n1_ := Aside0.mk (hb); have n2_ := Aside0.mk (hi); clear HO246; clear HB; clear HI243; have HO246 := n0_; have HB := n1_; have HI243 := n2_; clear n0_ n1_ n2_; (try clear hb); (try clear hb2); (try clear hk); (try clear hi)) | ((with_reducible refine gate_callee (f := 74) rfl ?_); refine goesL_ (some 14) rfl rfl Try.func74 (by kernel_rfl) rfl #[.pointer (some ⟨g243, 0, none⟩), .int .i64 30] rfl (by (try simp only [List.map_toArray, List.map_cons, List.map_nil]); first | done | rfl | (simp only [List.length_drop, List.length_take]; rfl)) ?_; (with_reducible refine (spec_l32Rd_pick.calls k g243 t241 t249 30 t250 t251 w _ ?side1 ?side2 A6.out).mono ?_); (case side1 => repeat (first | (with_reducible first | exact HI243.out | apply IsS75.alloc | apply IsS75.drewN | apply IsS75.drew | apply IsS75.set_1) | exact HI243.out)); (case side2 => repeat (first | (with_reducible first | exact HB.out | apply below_alloc | apply pw_below_drewN | apply below_drew1 | refine below_set ?_ (IsS75.ge HI243.out)) | exact HB.out)); rintro e w15 ⟨rfl, hi, hb, hk⟩; refine ⟨_, rfl, ?_⟩; have n0_ := Aside0.mk (Kd.R_mono (Kd.R_keep (IsS75.apart (show IsS75 w _ g243 t241 t249 from by repeat (first | (with_reducible first | exact HI243.out | apply IsS75.alloc | apply IsS75.drewN | apply IsS75.drew | apply IsS75.set_1) | exact HI243.out)) (by (with_reducible repeat (first | apply Kd.R_alloc | apply Kd.R_drewN | apply Kd.R_drew)); exact HO246.out) (by decide)) hk (fun _ h => h.2)) (fun _ h => h.1)); have n1_ := Aside0.mk (hb); have n2_ := Aside0.mk (hi); clear HO246; clear HB; clear HI243; have HO246 := n0_; have HB := n1_; have HI243 := n2_; clear n0_ n1_ n2_; (try clear hb); (try clear hb2); (try clear hk); (try clear hi)) | ((with_reducible refine gate_callee (f := 19) rfl ?_); refine goesL_ (some 16) rfl rfl Try.func19 (by kernel_rfl) rfl #[.int .u64 (IntKind.u64.wrap (t250))] rfl (by (try simp only [List.map_toArray, List.map_cons, List.map_nil]); first | done | rfl | (simp only [List.length_drop, List.length_take]; rfl)) ?_; (with_reducible refine (spec_NatOf.calls k (IntKind.u64.wrap (t250)) t252 _ A7.out).mono ?_); rintro e w16 ⟨v253, rfl, ho0, hb⟩; refine ⟨_, rfl, ?_⟩; have n0_ := Aside0.mk (Kd.R_elder' (by (with_reducible repeat (first | apply Kd.R_alloc | apply Kd.R_drewN | apply Kd.R_drew)); exact HO246.out) (Kd.R_base ho0) hb); have n1_ := Aside0.mk (Kd.R_lower (Kd.R_new' ho0 (Kd.R_lt (by (with_reducible repeat (first | apply Kd.R_alloc | apply Kd.R_drewN | apply Kd.R_drew)); exact HO246.out))) (below_size (by repeat (first | (with_reducible first | exact HB.out | apply below_alloc | apply pw_below_drewN | apply below_drew1 | refine below_set ?_ (IsS75.ge HI243.out)) | exact HB.out)))); have n2_ := Aside0.mk (IsS75.below (by repeat (first | (with_reducible first | exact HI243.out | apply IsS75.alloc | apply IsS75.drewN | apply IsS75.drew | apply IsS75.set_1) | exact HI243.out)) hb); have n3_ := Aside0.mk (below_step (by repeat (first | (with_reducible first | exact HB.out | apply below_alloc | apply pw_below_drewN | apply below_drew1 | refine below_set ?_ (IsS75.ge HI243.out)) | exact HB.out)) hb); clear HO246; clear HI243; clear HB; have HO246 := n0_; have HO254 := n1_; have HI243 := n2_; have HB := n3_; clear n0_ n1_ n2_ n3_; (try clear hb); (try clear hb2); (try clear hk); (try clear hi); (try clear ho0)))
        have pi262 : (0 ≤ (t260 : Int)) = True := eq_true (of_decide_eq_true (by first | (with_reducible assumption) | assumption))
        have qi262 : (t260 < (y257.length : Int)) = True := eq_true (of_decide_eq_true (by first | (with_reducible assumption) | assumption))
        have n0_ := Aside0.mk (Kd.R_drew HO246.out)
        have n1_ := Aside0.mk (Kd.R_drew HO254.out)
        have n2_ := Aside0.mk (IsS75.drew HI243.out)
        have n3_ := Aside0.mk (below_drew1 HB.out)
        clear HO246
        clear HO254
        clear HI243
        clear HB
        have HO246 := n0_
        have HO254 := n1_
        have HI243 := n2_
        have HB := n3_
        clear n0_ n1_ n2_ n3_
        refine start_ (n := 10) (S := fun w' => True) (ds := []) #[false, false, false, false, false, false, false, false, false, false] (by kernel_rfl) rfl rfl trivial (fun hHeld => ?_); refine with_tabW spec_DrawNatPow.tab5 spec_DrawNatPow.bits5 (fun HT_ HW_ => ?_)
        generalize w16.drew = w17 at HO246 HO254 HI243 HB hHeld ⊢
        refine pure_ (i := 0) (N := some 17) (v := ?_) (a' := ?_) #[true, false, false, false, false, false, false, false, false, false] rfl rfl (any_of HT_.out (by kernel_rfl)) (fun _ _ _ h => h) (Or.inl ⟨by rfl, ?_⟩) ?_ ?_
        rotate_left
        · intro w'
          go_simp
          with_reducible rfl
        rotate_left
        · simp only [Act.put, List.setIfInBounds_toArray, List.set_cons_zero, List.set_cons_succ, i64_w, i32_w]
          rfl
        refine pure_ (i := 1) (N := some 18) (v := ?_) (a' := ?_) #[true, true, false, false, false, false, false, false, false, false] rfl rfl (any_of HT_.out (by kernel_rfl)) (fun _ _ _ h => h) (Or.inl ⟨by rfl, ?_⟩) ?_ ?_
        rotate_left
        · intro w'
          go_simp
          with_reducible rfl
        rotate_left
        · simp only [Act.put, List.setIfInBounds_toArray, List.set_cons_zero, List.set_cons_succ, i64_w, i32_w]
          rfl
        refine pure_ (i := 4) (N := some 21) (v := ?_) (a' := ?_) #[true, true, false, false, true, false, false, false, false, false] rfl rfl (any_of HT_.out (by kernel_rfl)) (fun _ _ _ h => h) (Or.inl ⟨by rfl, ?_⟩) ?_ ?_
        rotate_left
        · intro w'
          go_simp
          with_reducible rfl
        rotate_left
        · simp only [Act.put, List.setIfInBounds_toArray, List.set_cons_zero, List.set_cons_succ, i64_w, i32_w]
          rfl
        refine inv_at [2, 3, 5, 6, 7, 8, 9] (fun a0_ b a w' => ∃ (v258 : Value) (adz_v258 : Addr) (m6_ : Value), a = putSel a0_ b [(2, 19, .int .i64 t255), (3, 20, v258), (5, 22, .int .i64 t260), (6, 23, m6_), (7, 24, .int .i64 (rd y257 t260)), (8, 2, v253), (9, 3, .int .i64 (rd y257 t260))] ∧ (Kd.R (Kd.int .i64) 3 w' w.heap.size (fun k_ => some k_ ≠ (v253 : Value).ownBlock) v245 t244) ∧ (Kd.R (Kd.int .i64) 3 w' w.heap.size (fun k_ => some k_ ≠ (v245 : Value).ownBlock) v253 t252) ∧ (b 2 = false → IsS75 w w' g243 t241 t251) ∧ (Below w.heap.size w w') ∧ (b 2 = true → b 5 = false → IsS75 w w' g243 t241 t256) ∧ (b 3 = true → Kd.R (Kd.int .i64) 3 w' w.heap.size (fun k_ => some k_ ≠ (v245 : Value).ownBlock ∧ some k_ ≠ (v253 : Value).ownBlock) v258 y257) ∧ (b 3 = true → ∃ c_, (v258 : Value) = .slice (some adz_v258) y257.length c_) ∧ (b 5 = true → IsS75 w w' g243 t241 t261) ∧ (b 6 = true → (m6_ : Value) = .pointer (some (adz_v258.add (t260).toNat)))) HT_.out HW_.out (by kernel_rfl) (by kernel_rfl) ?_ ?_ ?_
        · exact ⟨.bool false, ⟨0, 0, none⟩, .bool false, by simp only [putSel, Bool.false_eq_true, if_false], (by first | exact Kd.R_mono HO246.out (fun _ hk => hk.2) | exact HO246.out | exact Kd.R_mono HO246.out (fun _ hk => hk.1) | exact Kd.R_mono HO246.out (fun _ _ => trivial)), (by first | exact Kd.R_mono HO254.out (fun _ hk => hk.2) | exact HO254.out | exact Kd.R_mono HO254.out (fun _ hk => hk.1) | exact Kd.R_mono HO254.out (fun _ _ => trivial)), fun _ => HI243.out, HB.out, fun h_ => absurd h_ (by decide), fun h_ => absurd h_ (by decide), fun h_ => absurd h_ (by decide), fun h_ => absurd h_ (by decide), fun h_ => absurd h_ (by decide)⟩
        · skip
          clear HB HI243 HO246 HO254
          refine steps_cons ?_ ?_
          · rintro b a w' ⟨v258, adz_v258, m6_, ha, Q_HO246, Q_HO254, Q_HI243, Q_HB, Q_HI243_e2, Q_HO259, Q_HA_HO259, Q_HI243_e5, Q_X6_⟩ hb_ hon hoff
            refine ⟨_, rfl, fun K hK => ?_⟩
            have e18 : a.tmps[18]? = some (.pointer (some ⟨g243, 0, none⟩)) := by rw [ha]; exact (putSel_off rfl).trans rfl
            replace ha := Aside0.mk ha
            have HO246 := Aside0.mk Q_HO246
            have HO254 := Aside0.mk Q_HO254
            have HI243 := Aside0.mk (Q_HI243 hb_)
            have HB := Aside0.mk Q_HB
            refine goes_ Try.func74 (by kernel_rfl) rfl #[.pointer (some ⟨g243, 0, none⟩), .int .i64 30] (by rfl) rfl rfl (by first | (simp only [List.map_toArray, List.map_cons, List.map_nil, Act.eval, Array.getD_eq_getD_getElem?, Option.getD_some, e18]; done) | (simp only [List.map_toArray, List.map_cons, List.map_nil, Act.eval, Array.getD_eq_getD_getElem?, Option.getD_some, e18]; rfl)) ?_
            with_reducible refine (spec_l32Rd_pick.calls k g243 t241 t251 30 t255 t256 w _ ?side1 ?side2 A8.out).mono ?_
            (case side1 => repeat (first | (with_reducible first | exact HI243.out | apply IsS75.alloc | apply IsS75.drewN | apply IsS75.drew | apply IsS75.set_1) | exact HI243.out))
            (case side2 => repeat (first | (with_reducible first | exact HB.out | apply below_alloc | apply pw_below_drewN | apply below_drew1 | refine below_set ?_ (IsS75.ge HI243.out)) | exact HB.out))
            rintro e w18 ⟨rfl, hi, hb, hk⟩
            refine ⟨_, rfl, ?_⟩
            have n0_ := Aside0.mk (Kd.R_mono (Kd.R_keep (IsS75.apart (show IsS75 w _ g243 t241 t251 from by repeat (first | (with_reducible first | exact HI243.out | apply IsS75.alloc | apply IsS75.drewN | apply IsS75.drew | apply IsS75.set_1) | exact HI243.out)) (by (with_reducible repeat (first | apply Kd.R_alloc | apply Kd.R_drewN | apply Kd.R_drew)); exact HO246.out) (by decide)) hk (fun _ h => h.2)) (fun _ h => h.1))
            have n1_ := Aside0.mk (Kd.R_mono (Kd.R_keep (IsS75.apart (show IsS75 w _ g243 t241 t251 from by repeat (first | (with_reducible first | exact HI243.out | apply IsS75.alloc | apply IsS75.drewN | apply IsS75.drew | apply IsS75.set_1) | exact HI243.out)) (by (with_reducible repeat (first | apply Kd.R_alloc | apply Kd.R_drewN | apply Kd.R_drew)); exact HO254.out) (by decide)) hk (fun _ h => h.2)) (fun _ h => h.1))
            have n2_ := Aside0.mk (hb)
            have n3_ := Aside0.mk (hi)
            clear HO246
            clear HO254
            clear HB
            clear HI243
            have HO246 := n0_
            have HO254 := n1_
            have HB := n2_
            have HI243 := n3_
            clear n0_ n1_ n2_ n3_
            (try clear hb)
            (try clear hb2)
            (try clear hk)
            (try clear hi)
            refine hK.out _ _ ⟨v258, adz_v258, m6_, (by rw [ha.out]; exact putSel_upk 0 hb_ rfl rfl rfl), (by (with_reducible repeat (first | apply Kd.R_alloc | apply Kd.R_drewN | apply Kd.R_drew)); (first | exact Kd.R_mono HO246.out (fun _ hk => hk.2) | exact HO246.out | exact Kd.R_mono HO246.out (fun _ hk => hk.1) | exact Kd.R_mono HO246.out (fun _ _ => trivial))), (by (with_reducible repeat (first | apply Kd.R_alloc | apply Kd.R_drewN | apply Kd.R_drew)); (first | exact Kd.R_mono HO254.out (fun _ hk => hk.2) | exact HO254.out | exact Kd.R_mono HO254.out (fun _ hk => hk.1) | exact Kd.R_mono HO254.out (fun _ _ => trivial))), fun h0_ => absurd ((up_self b 2).symm.trans h0_) (by decide), (by repeat (first | (with_reducible first | exact HB.out | apply below_alloc | apply pw_below_drewN | apply below_drew1 | refine below_set ?_ (IsS75.ge HI243.out)) | exact HB.out)), fun _ _ => (by repeat (first | (with_reducible first | exact HI243.out | apply IsS75.alloc | apply IsS75.drewN | apply IsS75.drew | apply IsS75.set_1) | exact HI243.out)), fun h0_ => absurd ((hoff 3 (by kernel_rfl)).symm.trans h0_) (by decide), fun h0_ => absurd ((hoff 3 (by kernel_rfl)).symm.trans h0_) (by decide), fun h0_ => absurd ((hoff 5 (by kernel_rfl)).symm.trans h0_) (by decide), fun h0_ => absurd ((hoff 6 (by kernel_rfl)).symm.trans h0_) (by decide)⟩
          refine steps_cons ?_ ?_
          · rintro b a w' ⟨v258, adz_v258, m6_, ha, Q_HO246, Q_HO254, Q_HI243, Q_HB, Q_HI243_e2, Q_HO259, Q_HA_HO259, Q_HI243_e5, Q_X6_⟩ hb_ hon hoff
            refine ⟨_, rfl, fun K hK => ?_⟩
            have e19 : a.tmps[19]? = some (.int .i64 t255) := by rw [ha]; exact putSel_on (e := (2, 19, .int .i64 t255)) 0 rfl rfl (hon 2 (by kernel_rfl)) rfl
            replace ha := Aside0.mk ha
            have HO246 := Aside0.mk Q_HO246
            have HO254 := Aside0.mk Q_HO254
            have HB := Aside0.mk Q_HB
            refine Kd.R_lit_step (Kd.int .i64) _ 3 ?hg (N := 20) ?hd (xs := ([0, 1, 2, 3, t255, 64, 65, (-1)] : List Int)) (inner := [.int .i64 0, .int .i64 1, .int .i64 2, .int .i64 3, .int .i64 t255, .int .i64 64, .int .i64 65, .int .i64 (-1)]) (ok := fun _ => True) (okp := fun _ => True) ?hr ?hp (fun _ hk => hk) trivial (Below.refl _ _) (Nat.le_refl _) (by simp) ?_; (case hd => rfl); (case hg => rfl); (case hr => first | (go_simp; done) | (go_simp; rfl)); (case hp => exact (Reps.one (show Kd.M (Kd.int .i64) _ _ _ 0 [.int .i64 0] from rfl) (Reps.one (show Kd.M (Kd.int .i64) _ _ _ 1 [.int .i64 1] from rfl) (Reps.one (show Kd.M (Kd.int .i64) _ _ _ 2 [.int .i64 2] from rfl) (Reps.one (show Kd.M (Kd.int .i64) _ _ _ 3 [.int .i64 3] from rfl) (Reps.one (show Kd.M (Kd.int .i64) _ _ _ t255 [.int .i64 t255] from rfl) (Reps.one (show Kd.M (Kd.int .i64) _ _ _ 64 [.int .i64 64] from rfl) (Reps.one (show Kd.M (Kd.int .i64) _ _ _ 65 [.int .i64 65] from rfl) (Reps.one (show Kd.M (Kd.int .i64) _ _ _ (-1) [.int .i64 (-1)] from rfl) (Reps.none _ _))))))))))
            intro v258 w20 ho21 hb hg_ hnew_
            clear hg_ hnew_
            (first | rw [← Ny257.out] at ho21 | (simp only [Int.reduceToNat] at ho21; rw [← Ny257.out] at ho21))
            have n0_ := Aside0.mk (Kd.R_elder' (by (with_reducible repeat (first | apply Kd.R_alloc | apply Kd.R_drewN | apply Kd.R_drew)); exact HO246.out) (Kd.R_base ho21) hb)
            have n1_ := Aside0.mk (Kd.R_elder' (by (with_reducible repeat (first | apply Kd.R_alloc | apply Kd.R_drewN | apply Kd.R_drew)); exact HO254.out) (Kd.R_base ho21) hb)
            have n2_ := Aside0.mk (Kd.R_lower (Kd.R_new' (Kd.R_new' ho21 (Kd.R_lt (by (with_reducible repeat (first | apply Kd.R_alloc | apply Kd.R_drewN | apply Kd.R_drew)); exact HO246.out))) (Kd.R_lt (by (with_reducible repeat (first | apply Kd.R_alloc | apply Kd.R_drewN | apply Kd.R_drew)); exact HO254.out))) (below_size (by repeat (first | (with_reducible first | exact HB.out | apply below_alloc | apply pw_below_drewN | apply below_drew1) | exact HB.out))))
            have n4_ := Aside0.mk (below_step (by repeat (first | (with_reducible first | exact HB.out | apply below_alloc | apply pw_below_drewN | apply below_drew1) | exact HB.out)) hb)
            have z_HI243_e2 := fun (h0_ : b 2 = true) (h1_ : b 5 = false) => (show IsS75 w w20 g243 t241 t256 from by first | exact (IsS75.below (by repeat (first | (with_reducible first | exact (Q_HI243_e2 h0_ h1_) | apply IsS75.alloc | apply IsS75.drewN | apply IsS75.drew | apply IsS75.set_1) | exact (Q_HI243_e2 h0_ h1_))) hb))
            have z_HI243_e5 := fun (h0_ : b 5 = true) => (show IsS75 w w20 g243 t241 t261 from by first | exact (IsS75.below (by repeat (first | (with_reducible first | exact (Q_HI243_e5 h0_) | apply IsS75.alloc | apply IsS75.drewN | apply IsS75.drew | apply IsS75.set_1) | exact (Q_HI243_e5 h0_))) hb))
            clear HO246
            clear HO254
            clear HB
            have HO246 := n0_
            have HO254 := n1_
            have HO259 := n2_
            have HB := n4_
            clear n0_ n1_ n2_ n4_
            clear hb ho21
            obtain ⟨Ao22, co22, eo22⟩ := Kd.R_slice HO259.out
            subst eo22
            obtain ⟨ado22, fo22, _⟩ := Kd.at_int (Kd.R_reads' HO259.out).2.2 0 (by decide) (by rw [Ny257.out]; simp)
            cases fo22
            refine hK.out _ _ ⟨.slice (some ado22) y257.length co22, ado22, m6_, (by rw [ha.out]; exact putSel_upk 1 hb_ rfl rfl rfl), (by (with_reducible repeat (first | apply Kd.R_alloc | apply Kd.R_drewN | apply Kd.R_drew)); (first | exact Kd.R_mono HO246.out (fun _ hk => hk.2) | exact HO246.out | exact Kd.R_mono HO246.out (fun _ hk => hk.1) | exact Kd.R_mono HO246.out (fun _ _ => trivial))), (by (with_reducible repeat (first | apply Kd.R_alloc | apply Kd.R_drewN | apply Kd.R_drew)); (first | exact Kd.R_mono HO254.out (fun _ hk => hk.2) | exact HO254.out | exact Kd.R_mono HO254.out (fun _ hk => hk.1) | exact Kd.R_mono HO254.out (fun _ _ => trivial))), fun h0_ => absurd ((hon 2 (by kernel_rfl)).symm.trans h0_) (by decide), (by repeat (first | (with_reducible first | exact HB.out | apply below_alloc | apply pw_below_drewN | apply below_drew1) | exact HB.out)), z_HI243_e2, fun _ => (by (with_reducible repeat (first | apply Kd.R_alloc | apply Kd.R_drewN | apply Kd.R_drew)); exact Kd.R_mono HO259.out (fun _ hk => ⟨hk.1.2, hk.2⟩)), fun _ => ⟨_, rfl⟩, z_HI243_e5, fun h0_ => absurd ((hoff 6 (by kernel_rfl)).symm.trans h0_) (by decide)⟩
          refine steps_cons ?_ ?_
          · rintro b a w' ⟨v258, adz_v258, m6_, ha, Q_HO246, Q_HO254, Q_HI243, Q_HB, Q_HI243_e2, Q_HO259, Q_HA_HO259, Q_HI243_e5, Q_X6_⟩ hb_ hon hoff
            refine ⟨_, rfl, fun K hK => ?_⟩
            have e21 : a.tmps[21]? = some (.pointer (some ⟨g243, 0, none⟩)) := by rw [ha]; exact (putSel_off rfl).trans rfl
            replace ha := Aside0.mk ha
            have HO246 := Aside0.mk Q_HO246
            have HO254 := Aside0.mk Q_HO254
            have HB := Aside0.mk Q_HB
            have HI243 := Aside0.mk (Q_HI243_e2 (hon 2 (by kernel_rfl)) hb_)
            refine goes_ Try.func74 (by kernel_rfl) rfl #[.pointer (some ⟨g243, 0, none⟩), .int .i64 8] (by rfl) rfl rfl (by first | (simp only [List.map_toArray, List.map_cons, List.map_nil, Act.eval, Array.getD_eq_getD_getElem?, Option.getD_some, e21]; done) | (simp only [List.map_toArray, List.map_cons, List.map_nil, Act.eval, Array.getD_eq_getD_getElem?, Option.getD_some, e21]; rfl)) ?_
            with_reducible refine (spec_l32Rd_pick.calls k g243 t241 t256 8 t260 t261 w _ ?side1 ?side2 A9.out).mono ?_
            (case side1 => repeat (first | (with_reducible first | exact HI243.out | apply IsS75.alloc | apply IsS75.drewN | apply IsS75.drew | apply IsS75.set_1) | exact HI243.out))
            (case side2 => repeat (first | (with_reducible first | exact HB.out | apply below_alloc | apply pw_below_drewN | apply below_drew1 | refine below_set ?_ (IsS75.ge HI243.out)) | exact HB.out))
            rintro e w20 ⟨rfl, hi, hb, hk⟩
            refine ⟨_, rfl, ?_⟩
            have n0_ := Aside0.mk (Kd.R_mono (Kd.R_keep (IsS75.apart (show IsS75 w _ g243 t241 t256 from by repeat (first | (with_reducible first | exact HI243.out | apply IsS75.alloc | apply IsS75.drewN | apply IsS75.drew | apply IsS75.set_1) | exact HI243.out)) (by (with_reducible repeat (first | apply Kd.R_alloc | apply Kd.R_drewN | apply Kd.R_drew)); exact HO246.out) (by decide)) hk (fun _ h => h.2)) (fun _ h => h.1))
            have n1_ := Aside0.mk (Kd.R_mono (Kd.R_keep (IsS75.apart (show IsS75 w _ g243 t241 t256 from by repeat (first | (with_reducible first | exact HI243.out | apply IsS75.alloc | apply IsS75.drewN | apply IsS75.drew | apply IsS75.set_1) | exact HI243.out)) (by (with_reducible repeat (first | apply Kd.R_alloc | apply Kd.R_drewN | apply Kd.R_drew)); exact HO254.out) (by decide)) hk (fun _ h => h.2)) (fun _ h => h.1))
            have n2_ := Aside0.mk (hb)
            have n3_ := Aside0.mk (hi)
            have z_HO259 := fun (h0_ : b 3 = true) => (show Kd.R (Kd.int .i64) 3 w20 w.heap.size (fun k_ => some k_ ≠ (v245 : Value).ownBlock ∧ some k_ ≠ (v253 : Value).ownBlock) v258 y257 from by first | exact (Kd.R_mono (Kd.R_keep (IsS75.apart (show IsS75 w _ g243 t241 t256 from by repeat (first | (with_reducible first | exact HI243.out | apply IsS75.alloc | apply IsS75.drewN | apply IsS75.drew | apply IsS75.set_1) | exact HI243.out)) (by (with_reducible repeat (first | apply Kd.R_alloc | apply Kd.R_drewN | apply Kd.R_drew)); exact (Q_HO259 h0_)) (by decide)) hk (fun _ h => h.2)) (fun _ h => h.1)) | exact Kd.R_mono (Kd.R_mono (Kd.R_keep (IsS75.apart (show IsS75 w _ g243 t241 t256 from by repeat (first | (with_reducible first | exact HI243.out | apply IsS75.alloc | apply IsS75.drewN | apply IsS75.drew | apply IsS75.set_1) | exact HI243.out)) (by (with_reducible repeat (first | apply Kd.R_alloc | apply Kd.R_drewN | apply Kd.R_drew)); exact (Q_HO259 h0_)) (by decide)) hk (fun _ h => h.2)) (fun _ h => h.1)) (fun _ h_ => by first | trivial | exact h_ | exact h_.1))
            clear HO246
            clear HO254
            clear HB
            clear HI243
            have HO246 := n0_
            have HO254 := n1_
            have HB := n2_
            have HI243 := n3_
            clear n0_ n1_ n2_ n3_
            (try clear hb)
            (try clear hb2)
            (try clear hk)
            (try clear hi)
            refine hK.out _ _ ⟨v258, adz_v258, m6_, (by rw [ha.out]; exact putSel_upk 2 hb_ rfl rfl rfl), (by (with_reducible repeat (first | apply Kd.R_alloc | apply Kd.R_drewN | apply Kd.R_drew)); (first | exact Kd.R_mono HO246.out (fun _ hk => hk.2) | exact HO246.out | exact Kd.R_mono HO246.out (fun _ hk => hk.1) | exact Kd.R_mono HO246.out (fun _ _ => trivial))), (by (with_reducible repeat (first | apply Kd.R_alloc | apply Kd.R_drewN | apply Kd.R_drew)); (first | exact Kd.R_mono HO254.out (fun _ hk => hk.2) | exact HO254.out | exact Kd.R_mono HO254.out (fun _ hk => hk.1) | exact Kd.R_mono HO254.out (fun _ _ => trivial))), fun h0_ => absurd ((hon 2 (by kernel_rfl)).symm.trans h0_) (by decide), (by repeat (first | (with_reducible first | exact HB.out | apply below_alloc | apply pw_below_drewN | apply below_drew1 | refine below_set ?_ (IsS75.ge HI243.out)) | exact HB.out)), fun _ h1_ => absurd ((up_self b 5).symm.trans h1_) (by decide), z_HO259, Q_HA_HO259, fun _ => (by repeat (first | (with_reducible first | exact HI243.out | apply IsS75.alloc | apply IsS75.drewN | apply IsS75.drew | apply IsS75.set_1) | exact HI243.out)), fun h0_ => absurd ((hoff 6 (by kernel_rfl)).symm.trans h0_) (by decide)⟩
          refine steps_cons ?_ ?_
          · rintro b a w' ⟨v258, adz_v258, m6_, ha, Q_HO246, Q_HO254, Q_HI243, Q_HB, Q_HI243_e2, Q_HO259, Q_HA_HO259, Q_HI243_e5, Q_X6_⟩ hb_ hon hoff
            refine ⟨_, rfl, fun K hK => ?_⟩
            have e20 : a.tmps[20]? = some (v258) := by rw [ha]; exact putSel_on (e := (3, 20, v258)) 1 rfl rfl (hon 3 (by kernel_rfl)) rfl
            have e22 : a.tmps[22]? = some (.int .i64 t260) := by rw [ha]; exact putSel_on (e := (5, 22, .int .i64 t260)) 2 rfl rfl (hon 5 (by kernel_rfl)) rfl
            replace ha := Aside0.mk ha
            have HO246 := Aside0.mk Q_HO246
            have HO254 := Aside0.mk Q_HO254
            have HB := Aside0.mk Q_HB
            have HO259 := Aside0.mk (Q_HO259 (hon 3 (by kernel_rfl)))
            have HA_HO259 := Aside0.mk (Q_HA_HO259 (hon 3 (by kernel_rfl)))
            have HI243 := Aside0.mk (Q_HI243_e5 (hon 5 (by kernel_rfl)))
            obtain ⟨c_, hv_⟩ := HA_HO259.out
            rw [hv_] at e20
            refine value_ (w1 := w') (v := .pointer (some (adz_v258.add (t260).toNat))) (by rfl) rfl ?_ ?_
            · go_simp
              (try simp only [i64_w])
              try rfl
            refine hK.out _ _ ⟨v258, adz_v258, (.pointer (some (adz_v258.add (t260).toNat))), (by rw [ha.out]; exact putSel_upk 3 hb_ rfl rfl rfl), Q_HO246, Q_HO254, fun h0_ => absurd ((hon 2 (by kernel_rfl)).symm.trans h0_) (by decide), Q_HB, fun _ h1_ => absurd ((hon 5 (by kernel_rfl)).symm.trans h1_) (by decide), Q_HO259, Q_HA_HO259, Q_HI243_e5, fun _ => rfl⟩
          refine steps_cons ?_ ?_
          · rintro b a w' ⟨v258, adz_v258, m6_, ha, Q_HO246, Q_HO254, Q_HI243, Q_HB, Q_HI243_e2, Q_HO259, Q_HA_HO259, Q_HI243_e5, Q_X6_⟩ hb_ hon hoff
            refine ⟨_, rfl, fun K hK => ?_⟩
            have e23 : a.tmps[23]? = some (m6_) := by rw [ha]; exact putSel_on (e := (6, 23, m6_)) 3 rfl rfl (hon 6 (by kernel_rfl)) rfl
            rw [Q_X6_ (hon 6 (by kernel_rfl))] at e23
            replace ha := Aside0.mk ha
            have HO246 := Aside0.mk Q_HO246
            have HO254 := Aside0.mk Q_HO254
            have HB := Aside0.mk Q_HB
            have HO259 := Aside0.mk (Q_HO259 (hon 3 (by kernel_rfl)))
            have HA_HO259 := Aside0.mk (Q_HA_HO259 (hon 3 (by kernel_rfl)))
            have HI243 := Aside0.mk (Q_HI243_e5 (hon 5 (by kernel_rfl)))
            obtain ⟨c_, hv_⟩ := HA_HO259.out
            have hF_ := HO259.out
            rw [hv_] at hF_
            obtain ⟨ad_, ea_, hx_⟩ := Kd.at_int (Kd.R_reads' hF_).2.2 t260 (of_eq_true pi262) (of_eq_true qi262)
            cases ea_
            refine value_ (w1 := w') (v := .int .i64 (rd y257 t260)) (by rfl) rfl ?_ ?_
            · go_simp
              (try simp only [i64_w])
              try rfl
            refine hK.out _ _ ⟨v258, adz_v258, m6_, (by rw [ha.out]; exact putSel_upk 4 hb_ rfl rfl rfl), Q_HO246, Q_HO254, fun h0_ => absurd ((hon 2 (by kernel_rfl)).symm.trans h0_) (by decide), Q_HB, fun _ h1_ => absurd ((hon 5 (by kernel_rfl)).symm.trans h1_) (by decide), Q_HO259, Q_HA_HO259, Q_HI243_e5, Q_X6_⟩
          refine steps_cons ?_ ?_
          · rintro b a w' ⟨v258, adz_v258, m6_, ha, Q_HO246, Q_HO254, Q_HI243, Q_HB, Q_HI243_e2, Q_HO259, Q_HA_HO259, Q_HI243_e5, Q_X6_⟩ hb_ hon hoff
            refine ⟨_, rfl, fun K hK => ?_⟩
            have e17 : a.tmps[17]? = some (v253) := by rw [ha]; exact (putSel_off rfl).trans rfl
            replace ha := Aside0.mk ha
            have HO246 := Aside0.mk Q_HO246
            have HO254 := Aside0.mk Q_HO254
            have HB := Aside0.mk Q_HB
            have HI243 := Aside0.mk (Q_HI243_e5 (hon 5 (by kernel_rfl)))
            refine value_ (w1 := w') (v := v253) (by rfl) rfl ?_ ?_
            · go_simp
              (try simp only [i64_w])
              try rfl
            refine hK.out _ _ ⟨v258, adz_v258, m6_, (by rw [ha.out]; exact putSel_upk 5 hb_ rfl rfl rfl), Q_HO246, Q_HO254, fun h0_ => absurd ((hon 2 (by kernel_rfl)).symm.trans h0_) (by decide), Q_HB, fun _ h1_ => absurd ((hon 5 (by kernel_rfl)).symm.trans h1_) (by decide), Q_HO259, Q_HA_HO259, Q_HI243_e5, Q_X6_⟩
          refine steps_cons ?_ ?_
          · rintro b a w' ⟨v258, adz_v258, m6_, ha, Q_HO246, Q_HO254, Q_HI243, Q_HB, Q_HI243_e2, Q_HO259, Q_HA_HO259, Q_HI243_e5, Q_X6_⟩ hb_ hon hoff
            refine ⟨_, rfl, fun K hK => ?_⟩
            have e24 : a.tmps[24]? = some (.int .i64 (rd y257 t260)) := by rw [ha]; exact putSel_on (e := (7, 24, .int .i64 (rd y257 t260))) 4 rfl rfl (hon 7 (by kernel_rfl)) rfl
            replace ha := Aside0.mk ha
            have HO246 := Aside0.mk Q_HO246
            have HO254 := Aside0.mk Q_HO254
            have HB := Aside0.mk Q_HB
            have HO259 := Aside0.mk (Q_HO259 (hon 3 (by kernel_rfl)))
            have HA_HO259 := Aside0.mk (Q_HA_HO259 (hon 3 (by kernel_rfl)))
            have HI243 := Aside0.mk (Q_HI243_e5 (hon 5 (by kernel_rfl)))
            refine value_ (w1 := w') (v := .int .i64 (rd y257 t260)) (by rfl) rfl ?_ ?_
            · go_simp
              (try simp only [i64_w])
              try rfl
            refine hK.out _ _ ⟨v258, adz_v258, m6_, (by rw [ha.out]; exact putSel_upk 6 hb_ rfl rfl rfl), Q_HO246, Q_HO254, fun h0_ => absurd ((hon 2 (by kernel_rfl)).symm.trans h0_) (by decide), Q_HB, fun _ h1_ => absurd ((hon 5 (by kernel_rfl)).symm.trans h1_) (by decide), Q_HO259, Q_HA_HO259, Q_HI243_e5, Q_X6_⟩
          exact steps_nil
        rintro b a w23 hall ⟨v258, adz_v258, m6_, ha, Q_HO246, Q_HO254, Q_HI243, Q_HB, Q_HI243_e2, Q_HO259, Q_HA_HO259, Q_HI243_e5, Q_X6_⟩
        clear HB HI243 HO246 HO254
        have hb2_ := hall 2 (by kernel_rfl)
        have hb3_ := hall 3 (by kernel_rfl)
        have hb5_ := hall 5 (by kernel_rfl)
        have hb6_ := hall 6 (by kernel_rfl)
        have hb7_ := hall 7 (by kernel_rfl)
        have hb8_ := hall 8 (by kernel_rfl)
        have hb9_ := hall 9 (by kernel_rfl)
        subst ha
        obtain rfl := Q_X6_ hb6_
        simp only [putSel, hb2_, hb3_, hb5_, hb6_, hb7_, hb8_, hb9_, if_true, Act.put, List.setIfInBounds_toArray, List.set_cons_zero, List.set_cons_succ]
        have HO246 := Aside0.mk Q_HO246
        clear Q_HO246
        have HO254 := Aside0.mk Q_HO254
        clear Q_HO254
        clear Q_HI243
        have HB := Aside0.mk Q_HB
        clear Q_HB
        clear Q_HI243_e2
        have HO259 := Aside0.mk (Q_HO259 hb3_)
        clear Q_HO259
        have HA_HO259 := Aside0.mk (Q_HA_HO259 hb3_)
        clear Q_HA_HO259
        have HI243 := Aside0.mk (Q_HI243_e5 hb5_)
        clear Q_HI243_e5
        clear hall hb2_ hb3_ hb5_ hb6_ hb7_ hb8_ hb9_
        obtain ⟨co24, eo24⟩ := HA_HO259.out
        clear HA_HO259
        subst eo24
        try go_wp2
        go_ret2
        exact ⟨_, by first | rfl | (simp [errW_none, errW_some] <;> rfl) | (simp [*, errW_none, errW_some] <;> rfl), by (with_reducible repeat (first | apply Kd.R_alloc | apply Kd.R_drewN | apply Kd.R_drew)); exact Kd.R_mono HO254.out (fun _ hk => trivial), by repeat (first | (with_reducible first | exact HB.out | apply below_alloc | apply pw_below_drewN | apply below_drew1 | refine below_set ?_ (IsS75.ge HI243.out)) | exact HB.out)⟩
      · rw [if_neg c11] at H
        exact absurd H (by simp)
    · rw [if_neg c10] at H
      exact absurd H (by simp)
  · rw [if_neg c5] at H
    have c5b0 : decide (0 < t248) = false := decide_eq_false c5
    clear c5
    replace H := Option.bind_eq_some_iff.mp H
    obtain ⟨⟨t263, t264⟩, A250, H⟩ := H
    replace H : ((some (([0, 1, 2, 3, t263, 64, 65, (-1)] : List Int) : List Int)).bind fun y265 => ((spec_l32Rd_pick.f k t241 t264 8).bind fun bt268 => (if 0 ≤ bt268.1 then (if bt268.1 < (y265.length : Int) then (some (t244, rd y265 bt268.1)) else (none)) else (none)))) = some (r1, r2) := H
    have A25 := Aside0.mk A250
    clear A250
    obtain ⟨y265, hy265⟩ : ∃ y_ : List Int, y_ = (([0, 1, 2, 3, t263, 64, 65, (-1)] : List Int)) := ⟨_, rfl⟩
    replace H : ((spec_l32Rd_pick.f k t241 t264 8).bind fun bt268 => (if 0 ≤ bt268.1 then (if bt268.1 < (y265.length : Int) then (some (t244, rd y265 bt268.1)) else (none)) else (none))) = some (r1, r2) := by first | (rw [hy265]; with_reducible exact H) | (have H2_ := (Option.bind_some _ _).symm.trans H; rw [hy265]; with_reducible exact H2_) | (have H2_ := (Option.bind_some _ _).symm.trans H; with_reducible exact H2_) | with_reducible exact H | (rw [hy265]; exact H) | exact H
    have Ny265 := Aside0.mk hy265
    clear hy265
    replace H := Option.bind_eq_some_iff.mp H
    obtain ⟨⟨t268, t269⟩, A260, H⟩ := H
    replace H : (if 0 ≤ t268 then (if t268 < (y265.length : Int) then (some (t244, rd y265 t268)) else (none)) else (none)) = some (r1, r2) := H
    have A26 := Aside0.mk A260
    clear A260
    by_cases c27 : 0 ≤ t268
    · rw [if_pos c27] at H
      have c27b0 : decide (0 ≤ t268) = true := decide_eq_true c27
      clear c27
      by_cases c28 : t268 < (y265.length : Int)
      · rw [if_pos c28] at H
        have c28b0 : decide (t268 < (y265.length : Int)) = true := decide_eq_true c28
        clear c28
        simp only [Option.some.injEq, Prod.mk.injEq] at H
        obtain ⟨rfl, rfl⟩ := H
        go_enter Try.func44, Try.ntmps44
        try go_wp2_with (first | ((with_reducible refine gate_callee (f := 72) rfl ?_); refine goesL_ (some 7) rfl rfl Try.func72 (by kernel_rfl) rfl #[.slice A0 l0.length c0] rfl (by (try simp only [List.map_toArray, List.map_cons, List.map_nil]); first | done | rfl | (simp only [List.length_drop, List.length_take]; rfl)) ?_; (with_reducible refine (spec_l32Open.calls _ _ l0 t241 t242 w _ ?side1 ?side2 ?side3 A2.out).mono ?_); (case side1 => repeat (first | (with_reducible first | exact HB.out | apply below_alloc | apply pw_below_drewN | apply below_drew1) | exact HB.out)); (case side2 => exact HR0.out); (case side3 => exact HC0.out); rintro e w29 ⟨g243, rfl, hi, hb, hb2⟩; refine ⟨_, rfl, ?_⟩; have n0_ := Aside0.mk (hb); have n1_ := Aside0.mk (hi); clear HB; have HB := n0_; have HI243 := n1_; clear n0_ n1_; (try clear hb); (try clear hb2); (try clear hk); (try clear hi)) | ((with_reducible refine gate_callee (f := 73) rfl ?_); refine goesL_ (some 9) rfl rfl Try.func73 (by kernel_rfl) rfl #[.pointer (some ⟨g243, 0, none⟩)] rfl (by (try simp only [List.map_toArray, List.map_cons, List.map_nil]); first | done | rfl | (simp only [List.length_drop, List.length_take]; rfl)) ?_; (with_reducible refine (spec_l32Rd_raw.calls k g243 t241 t242 t244 t247 w _ ?side1 ?side2 A3.out).mono ?_); (case side1 => repeat (first | (with_reducible first | exact HI243.out | apply IsS75.alloc | apply IsS75.drewN | apply IsS75.drew | apply IsS75.set_1) | exact HI243.out)); (case side2 => repeat (first | (with_reducible first | exact HB.out | apply below_alloc | apply pw_below_drewN | apply below_drew1 | refine below_set ?_ (IsS75.ge HI243.out)) | exact HB.out)); rintro e w30 ⟨v245, rfl, ho0, hi, hb, hk⟩; refine ⟨_, rfl, ?_⟩; have n0_ := Aside0.mk (Kd.R_lower ho0 (below_size (by repeat (first | (with_reducible first | exact HB.out | apply below_alloc | apply pw_below_drewN | apply below_drew1 | refine below_set ?_ (IsS75.ge HI243.out)) | exact HB.out)))); have n1_ := Aside0.mk (hb); have n2_ := Aside0.mk (hi); clear HB; clear HI243; have HO246 := n0_; have HB := n1_; have HI243 := n2_; clear n0_ n1_ n2_; (try clear hb); (try clear hb2); (try clear hk); (try clear hi); (try clear ho0)) | ((with_reducible refine gate_callee (f := 74) rfl ?_); refine goesL_ (some 11) rfl rfl Try.func74 (by kernel_rfl) rfl #[.pointer (some ⟨g243, 0, none⟩), .int .i64 3] rfl (by (try simp only [List.map_toArray, List.map_cons, List.map_nil]); first | done | rfl | (simp only [List.length_drop, List.length_take]; rfl)) ?_; (with_reducible refine (spec_l32Rd_pick.calls k g243 t241 t247 3 t248 t249 w _ ?side1 ?side2 A4.out).mono ?_); (case side1 => repeat (first | (with_reducible first | exact HI243.out | apply IsS75.alloc | apply IsS75.drewN | apply IsS75.drew | apply IsS75.set_1) | exact HI243.out)); (case side2 => repeat (first | (with_reducible first | exact HB.out | apply below_alloc | apply pw_below_drewN | apply below_drew1 | refine below_set ?_ (IsS75.ge HI243.out)) | exact HB.out)); rintro e w31 ⟨rfl, hi, hb, hk⟩; refine ⟨_, rfl, ?_⟩; have n0_ := Aside0.mk (Kd.R_mono (Kd.R_keep (IsS75.apart (show IsS75 w _ g243 t241 t247 from by repeat (first | (with_reducible first | exact HI243.out | apply IsS75.alloc | apply IsS75.drewN | apply IsS75.drew | apply IsS75.set_1) | exact HI243.out)) (by (with_reducible repeat (first | apply Kd.R_alloc | apply Kd.R_drewN | apply Kd.R_drew)); exact HO246.out) (by decide)) hk (fun _ h => h.2)) (fun _ h => h.1)); have n1_ := Aside0.mk (hb); have n2_ := Aside0.mk (hi); clear HO246; clear HB; clear HI243; have HO246 := n0_; have HB := n1_; have HI243 := n2_; clear n0_ n1_ n2_; (try clear hb); (try clear hb2); (try clear hk); (try clear hi)))
        have pi270 : (0 ≤ (t268 : Int)) = True := eq_true (of_decide_eq_true (by first | (with_reducible assumption) | assumption))
        have qi270 : (t268 < (y265.length : Int)) = True := eq_true (of_decide_eq_true (by first | (with_reducible assumption) | assumption))
        have n0_ := Aside0.mk (Kd.R_drew HO246.out)
        have n1_ := Aside0.mk (IsS75.drew HI243.out)
        have n2_ := Aside0.mk (below_drew1 HB.out)
        clear HO246
        clear HI243
        clear HB
        have HO246 := n0_
        have HI243 := n1_
        have HB := n2_
        clear n0_ n1_ n2_
        refine start_ (n := 10) (S := fun w' => True) (ds := []) #[false, false, false, false, false, false, false, false, false, false] (by kernel_rfl) rfl rfl trivial (fun hHeld => ?_); refine with_tabW spec_DrawNatPow.tab5 spec_DrawNatPow.bits5 (fun HT_ HW_ => ?_)
        generalize w31.drew = w32 at HO246 HI243 HB hHeld ⊢
        refine pure_ (i := 0) (N := some 17) (v := ?_) (a' := ?_) #[true, false, false, false, false, false, false, false, false, false] rfl rfl (any_of HT_.out (by kernel_rfl)) (fun _ _ _ h => h) (Or.inl ⟨by rfl, ?_⟩) ?_ ?_
        rotate_left
        · intro w'
          go_simp
          with_reducible rfl
        rotate_left
        · simp only [Act.put, List.setIfInBounds_toArray, List.set_cons_zero, List.set_cons_succ, i64_w, i32_w]
          rfl
        refine pure_ (i := 1) (N := some 18) (v := ?_) (a' := ?_) #[true, true, false, false, false, false, false, false, false, false] rfl rfl (any_of HT_.out (by kernel_rfl)) (fun _ _ _ h => h) (Or.inl ⟨by rfl, ?_⟩) ?_ ?_
        rotate_left
        · intro w'
          go_simp
          with_reducible rfl
        rotate_left
        · simp only [Act.put, List.setIfInBounds_toArray, List.set_cons_zero, List.set_cons_succ, i64_w, i32_w]
          rfl
        refine pure_ (i := 4) (N := some 21) (v := ?_) (a' := ?_) #[true, true, false, false, true, false, false, false, false, false] rfl rfl (any_of HT_.out (by kernel_rfl)) (fun _ _ _ h => h) (Or.inl ⟨by rfl, ?_⟩) ?_ ?_
        rotate_left
        · intro w'
          go_simp
          with_reducible rfl
        rotate_left
        · simp only [Act.put, List.setIfInBounds_toArray, List.set_cons_zero, List.set_cons_succ, i64_w, i32_w]
          rfl
        refine inv_at [2, 3, 5, 6, 7, 8, 9] (fun a0_ b a w' => ∃ (v266 : Value) (adz_v266 : Addr) (m6_ : Value), a = putSel a0_ b [(2, 19, .int .i64 t263), (3, 20, v266), (5, 22, .int .i64 t268), (6, 23, m6_), (7, 24, .int .i64 (rd y265 t268)), (8, 2, v245), (9, 3, .int .i64 (rd y265 t268))] ∧ (Kd.R (Kd.int .i64) 3 w' w.heap.size (fun _ => True) v245 t244) ∧ (b 2 = false → IsS75 w w' g243 t241 t249) ∧ (Below w.heap.size w w') ∧ (b 2 = true → b 5 = false → IsS75 w w' g243 t241 t264) ∧ (b 3 = true → Kd.R (Kd.int .i64) 3 w' w.heap.size (fun k_ => some k_ ≠ (v245 : Value).ownBlock) v266 y265) ∧ (b 3 = true → ∃ c_, (v266 : Value) = .slice (some adz_v266) y265.length c_) ∧ (b 5 = true → IsS75 w w' g243 t241 t269) ∧ (b 6 = true → (m6_ : Value) = .pointer (some (adz_v266.add (t268).toNat)))) HT_.out HW_.out (by kernel_rfl) (by kernel_rfl) ?_ ?_ ?_
        · exact ⟨.bool false, ⟨0, 0, none⟩, .bool false, by simp only [putSel, Bool.false_eq_true, if_false], (by first | exact Kd.R_mono HO246.out (fun _ hk => hk.2) | exact HO246.out | exact Kd.R_mono HO246.out (fun _ hk => hk.1) | exact Kd.R_mono HO246.out (fun _ _ => trivial)), fun _ => HI243.out, HB.out, fun h_ => absurd h_ (by decide), fun h_ => absurd h_ (by decide), fun h_ => absurd h_ (by decide), fun h_ => absurd h_ (by decide), fun h_ => absurd h_ (by decide)⟩
        · skip
          clear HB HI243 HO246
          refine steps_cons ?_ ?_
          · rintro b a w' ⟨v266, adz_v266, m6_, ha, Q_HO246, Q_HI243, Q_HB, Q_HI243_e2, Q_HO267, Q_HA_HO267, Q_HI243_e5, Q_X6_⟩ hb_ hon hoff
            refine ⟨_, rfl, fun K hK => ?_⟩
            have e18 : a.tmps[18]? = some (.pointer (some ⟨g243, 0, none⟩)) := by rw [ha]; exact (putSel_off rfl).trans rfl
            replace ha := Aside0.mk ha
            have HO246 := Aside0.mk Q_HO246
            have HI243 := Aside0.mk (Q_HI243 hb_)
            have HB := Aside0.mk Q_HB
            refine goes_ Try.func74 (by kernel_rfl) rfl #[.pointer (some ⟨g243, 0, none⟩), .int .i64 30] (by rfl) rfl rfl (by first | (simp only [List.map_toArray, List.map_cons, List.map_nil, Act.eval, Array.getD_eq_getD_getElem?, Option.getD_some, e18]; done) | (simp only [List.map_toArray, List.map_cons, List.map_nil, Act.eval, Array.getD_eq_getD_getElem?, Option.getD_some, e18]; rfl)) ?_
            with_reducible refine (spec_l32Rd_pick.calls k g243 t241 t249 30 t263 t264 w _ ?side1 ?side2 A25.out).mono ?_
            (case side1 => repeat (first | (with_reducible first | exact HI243.out | apply IsS75.alloc | apply IsS75.drewN | apply IsS75.drew | apply IsS75.set_1) | exact HI243.out))
            (case side2 => repeat (first | (with_reducible first | exact HB.out | apply below_alloc | apply pw_below_drewN | apply below_drew1 | refine below_set ?_ (IsS75.ge HI243.out)) | exact HB.out))
            rintro e w33 ⟨rfl, hi, hb, hk⟩
            refine ⟨_, rfl, ?_⟩
            have n0_ := Aside0.mk (Kd.R_mono (Kd.R_keep (IsS75.apart (show IsS75 w _ g243 t241 t249 from by repeat (first | (with_reducible first | exact HI243.out | apply IsS75.alloc | apply IsS75.drewN | apply IsS75.drew | apply IsS75.set_1) | exact HI243.out)) (by (with_reducible repeat (first | apply Kd.R_alloc | apply Kd.R_drewN | apply Kd.R_drew)); exact HO246.out) (by decide)) hk (fun _ h => h.2)) (fun _ h => h.1))
            have n1_ := Aside0.mk (hb)
            have n2_ := Aside0.mk (hi)
            clear HO246
            clear HB
            clear HI243
            have HO246 := n0_
            have HB := n1_
            have HI243 := n2_
            clear n0_ n1_ n2_
            (try clear hb)
            (try clear hb2)
            (try clear hk)
            (try clear hi)
            refine hK.out _ _ ⟨v266, adz_v266, m6_, (by rw [ha.out]; exact putSel_upk 0 hb_ rfl rfl rfl), (by (with_reducible repeat (first | apply Kd.R_alloc | apply Kd.R_drewN | apply Kd.R_drew)); (first | exact Kd.R_mono HO246.out (fun _ hk => hk.2) | exact HO246.out | exact Kd.R_mono HO246.out (fun _ hk => hk.1) | exact Kd.R_mono HO246.out (fun _ _ => trivial))), fun h0_ => absurd ((up_self b 2).symm.trans h0_) (by decide), (by repeat (first | (with_reducible first | exact HB.out | apply below_alloc | apply pw_below_drewN | apply below_drew1 | refine below_set ?_ (IsS75.ge HI243.out)) | exact HB.out)), fun _ _ => (by repeat (first | (with_reducible first | exact HI243.out | apply IsS75.alloc | apply IsS75.drewN | apply IsS75.drew | apply IsS75.set_1) | exact HI243.out)), fun h0_ => absurd ((hoff 3 (by kernel_rfl)).symm.trans h0_) (by decide), fun h0_ => absurd ((hoff 3 (by kernel_rfl)).symm.trans h0_) (by decide), fun h0_ => absurd ((hoff 5 (by kernel_rfl)).symm.trans h0_) (by decide), fun h0_ => absurd ((hoff 6 (by kernel_rfl)).symm.trans h0_) (by decide)⟩
          refine steps_cons ?_ ?_
          · rintro b a w' ⟨v266, adz_v266, m6_, ha, Q_HO246, Q_HI243, Q_HB, Q_HI243_e2, Q_HO267, Q_HA_HO267, Q_HI243_e5, Q_X6_⟩ hb_ hon hoff
            refine ⟨_, rfl, fun K hK => ?_⟩
            have e19 : a.tmps[19]? = some (.int .i64 t263) := by rw [ha]; exact putSel_on (e := (2, 19, .int .i64 t263)) 0 rfl rfl (hon 2 (by kernel_rfl)) rfl
            replace ha := Aside0.mk ha
            have HO246 := Aside0.mk Q_HO246
            have HB := Aside0.mk Q_HB
            refine Kd.R_lit_step (Kd.int .i64) _ 3 ?hg (N := 20) ?hd (xs := ([0, 1, 2, 3, t263, 64, 65, (-1)] : List Int)) (inner := [.int .i64 0, .int .i64 1, .int .i64 2, .int .i64 3, .int .i64 t263, .int .i64 64, .int .i64 65, .int .i64 (-1)]) (ok := fun _ => True) (okp := fun _ => True) ?hr ?hp (fun _ hk => hk) trivial (Below.refl _ _) (Nat.le_refl _) (by simp) ?_; (case hd => rfl); (case hg => rfl); (case hr => first | (go_simp; done) | (go_simp; rfl)); (case hp => exact (Reps.one (show Kd.M (Kd.int .i64) _ _ _ 0 [.int .i64 0] from rfl) (Reps.one (show Kd.M (Kd.int .i64) _ _ _ 1 [.int .i64 1] from rfl) (Reps.one (show Kd.M (Kd.int .i64) _ _ _ 2 [.int .i64 2] from rfl) (Reps.one (show Kd.M (Kd.int .i64) _ _ _ 3 [.int .i64 3] from rfl) (Reps.one (show Kd.M (Kd.int .i64) _ _ _ t263 [.int .i64 t263] from rfl) (Reps.one (show Kd.M (Kd.int .i64) _ _ _ 64 [.int .i64 64] from rfl) (Reps.one (show Kd.M (Kd.int .i64) _ _ _ 65 [.int .i64 65] from rfl) (Reps.one (show Kd.M (Kd.int .i64) _ _ _ (-1) [.int .i64 (-1)] from rfl) (Reps.none _ _))))))))))
            intro v266 w35 ho36 hb hg_ hnew_
            clear hg_ hnew_
            (first | rw [← Ny265.out] at ho36 | (simp only [Int.reduceToNat] at ho36; rw [← Ny265.out] at ho36))
            have n0_ := Aside0.mk (Kd.R_elder' (by (with_reducible repeat (first | apply Kd.R_alloc | apply Kd.R_drewN | apply Kd.R_drew)); exact HO246.out) (Kd.R_base ho36) hb)
            have n1_ := Aside0.mk (Kd.R_lower (Kd.R_new' ho36 (Kd.R_lt (by (with_reducible repeat (first | apply Kd.R_alloc | apply Kd.R_drewN | apply Kd.R_drew)); exact HO246.out))) (below_size (by repeat (first | (with_reducible first | exact HB.out | apply below_alloc | apply pw_below_drewN | apply below_drew1) | exact HB.out))))
            have n3_ := Aside0.mk (below_step (by repeat (first | (with_reducible first | exact HB.out | apply below_alloc | apply pw_below_drewN | apply below_drew1) | exact HB.out)) hb)
            have z_HI243_e2 := fun (h0_ : b 2 = true) (h1_ : b 5 = false) => (show IsS75 w w35 g243 t241 t264 from by first | exact (IsS75.below (by repeat (first | (with_reducible first | exact (Q_HI243_e2 h0_ h1_) | apply IsS75.alloc | apply IsS75.drewN | apply IsS75.drew | apply IsS75.set_1) | exact (Q_HI243_e2 h0_ h1_))) hb))
            have z_HI243_e5 := fun (h0_ : b 5 = true) => (show IsS75 w w35 g243 t241 t269 from by first | exact (IsS75.below (by repeat (first | (with_reducible first | exact (Q_HI243_e5 h0_) | apply IsS75.alloc | apply IsS75.drewN | apply IsS75.drew | apply IsS75.set_1) | exact (Q_HI243_e5 h0_))) hb))
            clear HO246
            clear HB
            have HO246 := n0_
            have HO267 := n1_
            have HB := n3_
            clear n0_ n1_ n3_
            clear hb ho36
            obtain ⟨Ao37, co37, eo37⟩ := Kd.R_slice HO267.out
            subst eo37
            obtain ⟨ado37, fo37, _⟩ := Kd.at_int (Kd.R_reads' HO267.out).2.2 0 (by decide) (by rw [Ny265.out]; simp)
            cases fo37
            refine hK.out _ _ ⟨.slice (some ado37) y265.length co37, ado37, m6_, (by rw [ha.out]; exact putSel_upk 1 hb_ rfl rfl rfl), (by (with_reducible repeat (first | apply Kd.R_alloc | apply Kd.R_drewN | apply Kd.R_drew)); (first | exact Kd.R_mono HO246.out (fun _ hk => hk.2) | exact HO246.out | exact Kd.R_mono HO246.out (fun _ hk => hk.1) | exact Kd.R_mono HO246.out (fun _ _ => trivial))), fun h0_ => absurd ((hon 2 (by kernel_rfl)).symm.trans h0_) (by decide), (by repeat (first | (with_reducible first | exact HB.out | apply below_alloc | apply pw_below_drewN | apply below_drew1) | exact HB.out)), z_HI243_e2, fun _ => (by (with_reducible repeat (first | apply Kd.R_alloc | apply Kd.R_drewN | apply Kd.R_drew)); (first | exact Kd.R_mono HO267.out (fun _ hk => hk.2) | exact HO267.out | exact Kd.R_mono HO267.out (fun _ hk => hk.1) | exact Kd.R_mono HO267.out (fun _ _ => trivial))), fun _ => ⟨_, rfl⟩, z_HI243_e5, fun h0_ => absurd ((hoff 6 (by kernel_rfl)).symm.trans h0_) (by decide)⟩
          refine steps_cons ?_ ?_
          · rintro b a w' ⟨v266, adz_v266, m6_, ha, Q_HO246, Q_HI243, Q_HB, Q_HI243_e2, Q_HO267, Q_HA_HO267, Q_HI243_e5, Q_X6_⟩ hb_ hon hoff
            refine ⟨_, rfl, fun K hK => ?_⟩
            have e21 : a.tmps[21]? = some (.pointer (some ⟨g243, 0, none⟩)) := by rw [ha]; exact (putSel_off rfl).trans rfl
            replace ha := Aside0.mk ha
            have HO246 := Aside0.mk Q_HO246
            have HB := Aside0.mk Q_HB
            have HI243 := Aside0.mk (Q_HI243_e2 (hon 2 (by kernel_rfl)) hb_)
            refine goes_ Try.func74 (by kernel_rfl) rfl #[.pointer (some ⟨g243, 0, none⟩), .int .i64 8] (by rfl) rfl rfl (by first | (simp only [List.map_toArray, List.map_cons, List.map_nil, Act.eval, Array.getD_eq_getD_getElem?, Option.getD_some, e21]; done) | (simp only [List.map_toArray, List.map_cons, List.map_nil, Act.eval, Array.getD_eq_getD_getElem?, Option.getD_some, e21]; rfl)) ?_
            with_reducible refine (spec_l32Rd_pick.calls k g243 t241 t264 8 t268 t269 w _ ?side1 ?side2 A26.out).mono ?_
            (case side1 => repeat (first | (with_reducible first | exact HI243.out | apply IsS75.alloc | apply IsS75.drewN | apply IsS75.drew | apply IsS75.set_1) | exact HI243.out))
            (case side2 => repeat (first | (with_reducible first | exact HB.out | apply below_alloc | apply pw_below_drewN | apply below_drew1 | refine below_set ?_ (IsS75.ge HI243.out)) | exact HB.out))
            rintro e w35 ⟨rfl, hi, hb, hk⟩
            refine ⟨_, rfl, ?_⟩
            have n0_ := Aside0.mk (Kd.R_mono (Kd.R_keep (IsS75.apart (show IsS75 w _ g243 t241 t264 from by repeat (first | (with_reducible first | exact HI243.out | apply IsS75.alloc | apply IsS75.drewN | apply IsS75.drew | apply IsS75.set_1) | exact HI243.out)) (by (with_reducible repeat (first | apply Kd.R_alloc | apply Kd.R_drewN | apply Kd.R_drew)); exact HO246.out) (by decide)) hk (fun _ h => h.2)) (fun _ h => h.1))
            have n1_ := Aside0.mk (hb)
            have n2_ := Aside0.mk (hi)
            have z_HO267 := fun (h0_ : b 3 = true) => (show Kd.R (Kd.int .i64) 3 w35 w.heap.size (fun k_ => some k_ ≠ (v245 : Value).ownBlock) v266 y265 from by first | exact (Kd.R_mono (Kd.R_keep (IsS75.apart (show IsS75 w _ g243 t241 t264 from by repeat (first | (with_reducible first | exact HI243.out | apply IsS75.alloc | apply IsS75.drewN | apply IsS75.drew | apply IsS75.set_1) | exact HI243.out)) (by (with_reducible repeat (first | apply Kd.R_alloc | apply Kd.R_drewN | apply Kd.R_drew)); exact (Q_HO267 h0_)) (by decide)) hk (fun _ h => h.2)) (fun _ h => h.1)) | exact Kd.R_mono (Kd.R_mono (Kd.R_keep (IsS75.apart (show IsS75 w _ g243 t241 t264 from by repeat (first | (with_reducible first | exact HI243.out | apply IsS75.alloc | apply IsS75.drewN | apply IsS75.drew | apply IsS75.set_1) | exact HI243.out)) (by (with_reducible repeat (first | apply Kd.R_alloc | apply Kd.R_drewN | apply Kd.R_drew)); exact (Q_HO267 h0_)) (by decide)) hk (fun _ h => h.2)) (fun _ h => h.1)) (fun _ h_ => by first | trivial | exact h_ | exact h_.1))
            clear HO246
            clear HB
            clear HI243
            have HO246 := n0_
            have HB := n1_
            have HI243 := n2_
            clear n0_ n1_ n2_
            (try clear hb)
            (try clear hb2)
            (try clear hk)
            (try clear hi)
            refine hK.out _ _ ⟨v266, adz_v266, m6_, (by rw [ha.out]; exact putSel_upk 2 hb_ rfl rfl rfl), (by (with_reducible repeat (first | apply Kd.R_alloc | apply Kd.R_drewN | apply Kd.R_drew)); (first | exact Kd.R_mono HO246.out (fun _ hk => hk.2) | exact HO246.out | exact Kd.R_mono HO246.out (fun _ hk => hk.1) | exact Kd.R_mono HO246.out (fun _ _ => trivial))), fun h0_ => absurd ((hon 2 (by kernel_rfl)).symm.trans h0_) (by decide), (by repeat (first | (with_reducible first | exact HB.out | apply below_alloc | apply pw_below_drewN | apply below_drew1 | refine below_set ?_ (IsS75.ge HI243.out)) | exact HB.out)), fun _ h1_ => absurd ((up_self b 5).symm.trans h1_) (by decide), z_HO267, Q_HA_HO267, fun _ => (by repeat (first | (with_reducible first | exact HI243.out | apply IsS75.alloc | apply IsS75.drewN | apply IsS75.drew | apply IsS75.set_1) | exact HI243.out)), fun h0_ => absurd ((hoff 6 (by kernel_rfl)).symm.trans h0_) (by decide)⟩
          refine steps_cons ?_ ?_
          · rintro b a w' ⟨v266, adz_v266, m6_, ha, Q_HO246, Q_HI243, Q_HB, Q_HI243_e2, Q_HO267, Q_HA_HO267, Q_HI243_e5, Q_X6_⟩ hb_ hon hoff
            refine ⟨_, rfl, fun K hK => ?_⟩
            have e20 : a.tmps[20]? = some (v266) := by rw [ha]; exact putSel_on (e := (3, 20, v266)) 1 rfl rfl (hon 3 (by kernel_rfl)) rfl
            have e22 : a.tmps[22]? = some (.int .i64 t268) := by rw [ha]; exact putSel_on (e := (5, 22, .int .i64 t268)) 2 rfl rfl (hon 5 (by kernel_rfl)) rfl
            replace ha := Aside0.mk ha
            have HO246 := Aside0.mk Q_HO246
            have HB := Aside0.mk Q_HB
            have HO267 := Aside0.mk (Q_HO267 (hon 3 (by kernel_rfl)))
            have HA_HO267 := Aside0.mk (Q_HA_HO267 (hon 3 (by kernel_rfl)))
            have HI243 := Aside0.mk (Q_HI243_e5 (hon 5 (by kernel_rfl)))
            obtain ⟨c_, hv_⟩ := HA_HO267.out
            rw [hv_] at e20
            refine value_ (w1 := w') (v := .pointer (some (adz_v266.add (t268).toNat))) (by rfl) rfl ?_ ?_
            · go_simp
              (try simp only [i64_w])
              try rfl
            refine hK.out _ _ ⟨v266, adz_v266, (.pointer (some (adz_v266.add (t268).toNat))), (by rw [ha.out]; exact putSel_upk 3 hb_ rfl rfl rfl), Q_HO246, fun h0_ => absurd ((hon 2 (by kernel_rfl)).symm.trans h0_) (by decide), Q_HB, fun _ h1_ => absurd ((hon 5 (by kernel_rfl)).symm.trans h1_) (by decide), Q_HO267, Q_HA_HO267, Q_HI243_e5, fun _ => rfl⟩
          refine steps_cons ?_ ?_
          · rintro b a w' ⟨v266, adz_v266, m6_, ha, Q_HO246, Q_HI243, Q_HB, Q_HI243_e2, Q_HO267, Q_HA_HO267, Q_HI243_e5, Q_X6_⟩ hb_ hon hoff
            refine ⟨_, rfl, fun K hK => ?_⟩
            have e23 : a.tmps[23]? = some (m6_) := by rw [ha]; exact putSel_on (e := (6, 23, m6_)) 3 rfl rfl (hon 6 (by kernel_rfl)) rfl
            rw [Q_X6_ (hon 6 (by kernel_rfl))] at e23
            replace ha := Aside0.mk ha
            have HO246 := Aside0.mk Q_HO246
            have HB := Aside0.mk Q_HB
            have HO267 := Aside0.mk (Q_HO267 (hon 3 (by kernel_rfl)))
            have HA_HO267 := Aside0.mk (Q_HA_HO267 (hon 3 (by kernel_rfl)))
            have HI243 := Aside0.mk (Q_HI243_e5 (hon 5 (by kernel_rfl)))
            obtain ⟨c_, hv_⟩ := HA_HO267.out
            have hF_ := HO267.out
            rw [hv_] at hF_
            obtain ⟨ad_, ea_, hx_⟩ := Kd.at_int (Kd.R_reads' hF_).2.2 t268 (of_eq_true pi270) (of_eq_true qi270)
            cases ea_
            refine value_ (w1 := w') (v := .int .i64 (rd y265 t268)) (by rfl) rfl ?_ ?_
            · go_simp
              (try simp only [i64_w])
              try rfl
            refine hK.out _ _ ⟨v266, adz_v266, m6_, (by rw [ha.out]; exact putSel_upk 4 hb_ rfl rfl rfl), Q_HO246, fun h0_ => absurd ((hon 2 (by kernel_rfl)).symm.trans h0_) (by decide), Q_HB, fun _ h1_ => absurd ((hon 5 (by kernel_rfl)).symm.trans h1_) (by decide), Q_HO267, Q_HA_HO267, Q_HI243_e5, Q_X6_⟩
          refine steps_cons ?_ ?_
          · rintro b a w' ⟨v266, adz_v266, m6_, ha, Q_HO246, Q_HI243, Q_HB, Q_HI243_e2, Q_HO267, Q_HA_HO267, Q_HI243_e5, Q_X6_⟩ hb_ hon hoff
            refine ⟨_, rfl, fun K hK => ?_⟩
            have e17 : a.tmps[17]? = some (v245) := by rw [ha]; exact (putSel_off rfl).trans rfl
            replace ha := Aside0.mk ha
            have HO246 := Aside0.mk Q_HO246
            have HB := Aside0.mk Q_HB
            have HI243 := Aside0.mk (Q_HI243_e5 (hon 5 (by kernel_rfl)))
            refine value_ (w1 := w') (v := v245) (by rfl) rfl ?_ ?_
            · go_simp
              (try simp only [i64_w])
              try rfl
            refine hK.out _ _ ⟨v266, adz_v266, m6_, (by rw [ha.out]; exact putSel_upk 5 hb_ rfl rfl rfl), Q_HO246, fun h0_ => absurd ((hon 2 (by kernel_rfl)).symm.trans h0_) (by decide), Q_HB, fun _ h1_ => absurd ((hon 5 (by kernel_rfl)).symm.trans h1_) (by decide), Q_HO267, Q_HA_HO267, Q_HI243_e5, Q_X6_⟩
          refine steps_cons ?_ ?_
          · rintro b a w' ⟨v266, adz_v266, m6_, ha, Q_HO246, Q_HI243, Q_HB, Q_HI243_e2, Q_HO267, Q_HA_HO267, Q_HI243_e5, Q_X6_⟩ hb_ hon hoff
            refine ⟨_, rfl, fun K hK => ?_⟩
            have e24 : a.tmps[24]? = some (.int .i64 (rd y265 t268)) := by rw [ha]; exact putSel_on (e := (7, 24, .int .i64 (rd y265 t268))) 4 rfl rfl (hon 7 (by kernel_rfl)) rfl
            replace ha := Aside0.mk ha
            have HO246 := Aside0.mk Q_HO246
            have HB := Aside0.mk Q_HB
            have HO267 := Aside0.mk (Q_HO267 (hon 3 (by kernel_rfl)))
            have HA_HO267 := Aside0.mk (Q_HA_HO267 (hon 3 (by kernel_rfl)))
            have HI243 := Aside0.mk (Q_HI243_e5 (hon 5 (by kernel_rfl)))
            refine value_ (w1 := w') (v := .int .i64 (rd y265 t268)) (by rfl) rfl ?_ ?_
            · go_simp
              (try simp only [i64_w])
              try rfl
            refine hK.out _ _ ⟨v266, adz_v266, m6_, (by rw [ha.out]; exact putSel_upk 6 hb_ rfl rfl rfl), Q_HO246, fun h0_ => absurd ((hon 2 (by kernel_rfl)).symm.trans h0_) (by decide), Q_HB, fun _ h1_ => absurd ((hon 5 (by kernel_rfl)).symm.trans h1_) (by decide), Q_HO267, Q_HA_HO267, Q_HI243_e5, Q_X6_⟩
          exact steps_nil
        rintro b a w38 hall ⟨v266, adz_v266, m6_, ha, Q_HO246, Q_HI243, Q_HB, Q_HI243_e2, Q_HO267, Q_HA_HO267, Q_HI243_e5, Q_X6_⟩
        clear HB HI243 HO246
        have hb2_ := hall 2 (by kernel_rfl)
        have hb3_ := hall 3 (by kernel_rfl)
        have hb5_ := hall 5 (by kernel_rfl)
        have hb6_ := hall 6 (by kernel_rfl)
        have hb7_ := hall 7 (by kernel_rfl)
        have hb8_ := hall 8 (by kernel_rfl)
        have hb9_ := hall 9 (by kernel_rfl)
        subst ha
        obtain rfl := Q_X6_ hb6_
        simp only [putSel, hb2_, hb3_, hb5_, hb6_, hb7_, hb8_, hb9_, if_true, Act.put, List.setIfInBounds_toArray, List.set_cons_zero, List.set_cons_succ]
        have HO246 := Aside0.mk Q_HO246
        clear Q_HO246
        clear Q_HI243
        have HB := Aside0.mk Q_HB
        clear Q_HB
        clear Q_HI243_e2
        have HO267 := Aside0.mk (Q_HO267 hb3_)
        clear Q_HO267
        have HA_HO267 := Aside0.mk (Q_HA_HO267 hb3_)
        clear Q_HA_HO267
        have HI243 := Aside0.mk (Q_HI243_e5 hb5_)
        clear Q_HI243_e5
        clear hall hb2_ hb3_ hb5_ hb6_ hb7_ hb8_ hb9_
        obtain ⟨co39, eo39⟩ := HA_HO267.out
        clear HA_HO267
        subst eo39
        try go_wp2
        go_ret2
        exact ⟨_, by first | rfl | (simp [errW_none, errW_some] <;> rfl) | (simp [*, errW_none, errW_some] <;> rfl), by (with_reducible repeat (first | apply Kd.R_alloc | apply Kd.R_drewN | apply Kd.R_drew)); exact Kd.R_mono HO246.out (fun _ hk => trivial), by repeat (first | (with_reducible first | exact HB.out | apply below_alloc | apply pw_below_drewN | apply below_drew1 | refine below_set ?_ (IsS75.ge HI243.out)) | exact HB.out)⟩
      · rw [if_neg c28] at H
        exact absurd H (by simp)
    · rw [if_neg c27] at H
      exact absurd H (by simp)
theorem spec_DrawNatPow.callsX (k : Nat) (A0 : Option Addr) (c0 : Nat) (l0 : List Int) (r1 : List Int) (r2 : Int) (w : World) (hr0 : Kd.C (Kd.int .u8) w A0 l0.length l0) (hc0 : l0.length ≤ c0) (h : spec_DrawNatPow.f k l0 = some (r1, r2)) :
    Calls Try.prog 44 #[.slice A0 l0.length c0] w fun e w' => ∃ v0_ : Value, e = .returned (.tuple #[v0_, .int .i64 r2]) ∧ XR (Kd.int .i64) 3 w' w.heap.size (fun _ => True) v0_ r1 ∧ Below w.heap.size w w' :=
  (spec_DrawNatPow.calls k A0 c0 l0 r1 r2 w hr0 hc0 h).mono fun e w' ⟨v0_, p0_, p1_, p2_⟩ => ⟨v0_, p0_, XR_of p1_, p2_⟩

end Go.Proofs.Ytaachpcidikagaa.QFnNatPow
