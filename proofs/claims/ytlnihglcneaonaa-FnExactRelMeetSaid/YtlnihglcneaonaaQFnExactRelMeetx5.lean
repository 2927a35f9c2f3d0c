/- The machine side of one law: each function and the law itself walked once, written by a program of this session (wip/xprint.py) that runs the printer of the kit.
   Conditions: none. -/
import Derived.Test.YtlnihglcneaonaaQFnExactRelMeetx0
import Derived.Test.YtlnihglcneaonaaQFnExactRelMeetx2
import Derived.Test.YtlnihglcneaonaaQFnExactRelMeetx4
namespace Go.Proofs.Ytlnihglcneaonaa.QFnExactRelMeet
open Go.RowKit Go.Proofs.YtlnihglcneaonaaW.PrintWords Go.Proofs.YtlnihglcneaonaaW.PrintLast Go.Proofs.YtlnihglcneaonaaW.PrintMore
attribute [local go_sem] Go.Instr.field Go.asAgg Go.Proofs.Ytlnihglcneaonaa.MS.isSome_setCell
attribute [local go_sem] max2_int min2_int max_two min_two max_three min_three max_four min_four   -- for this text's walks alone
set_option linter.unusedVariables false
set_option linter.unusedSimpArgs false

/-! ### spec_RelMeet: function 9 -/
mutual
def spec_RelMeet.j0 : Nat → Int → Int → Bool → Bool → Int → Int → Bool → Int → Int → Option (Bool × Int × Int × Bool × Int × Int)
 | 0, _, _, _, _, _, _, _, _, _ => none
 | k + 1, x0, x1, x23, x144000, x144001, x144002, x145000, x145001, x145002 => if x23 = true then (some (false, 0, 0, false, 0, 0)) else (if x1 = 2 then ((spec_RelMeet.f k x0 1 x145000 x145001 x145002 x144000 x144001 x144002).bind fun bt149 => (some (bt149.2.2.2.1, bt149.2.2.2.2.1, bt149.2.2.2.2.2, bt149.1, bt149.2.1, bt149.2.2.1))) else ((spec_SpanMeet.f x0 x144000 x144001 x144002 x145000 x145001 x145002).bind fun bt157 => (if x1 = 1 then ((spec_BitTop.f x0).bind fun t162 => ((spec_l9Of.f (wrap64 (-t162)) x145002).bind fun bt163 => ((spec_SpanMeet.f x0 x144000 x144001 x144002 bt163.1 bt163.2.1 bt163.2.2).bind fun bt166 => ((spec_BitTop.f x0).bind fun t169 => ((spec_l9Of.f x144001 t169).bind fun bt170 => ((spec_SpanMeet.f x0 x145000 x145001 x145002 bt170.1 bt170.2.1 bt170.2.2).bind fun bt173 => (if bt166.1 = true then (if bt173.1 = true then (some (bt166.1, bt166.2.1, bt166.2.2, bt173.1, bt173.2.1, bt173.2.2)) else (some (false, 0, 0, false, 0, 0))) else (some (false, 0, 0, false, 0, 0))))))))) else (if bt157.1 = true then (some (bt157.1, bt157.2.1, bt157.2.2, bt157.1, bt157.2.1, bt157.2.2)) else (some (false, 0, 0, false, 0, 0))))))
def spec_RelMeet.f : Nat → Int → Int → Bool → Int → Int → Bool → Int → Int → Option (Bool × Int × Int × Bool × Int × Int)
 | 0, _, _, _, _, _, _, _, _ => none
 | k + 1, a0, a1, a2_0, a2_1, a2_2, a3_0, a3_1, a3_2 => (spec_l9Both.f a0 a2_0 a2_1 a2_2 a3_0 a3_1 a3_2).bind fun t147 => (if t147 = true then ((spec_l10Rel.f a1).bind fun t148 => (spec_RelMeet.j0 k a0 a1 (!t148) a2_0 a2_1 a2_2 a3_0 a3_1 a3_2)) else (spec_RelMeet.j0 k a0 a1 true a2_0 a2_1 a2_2 a3_0 a3_1 a3_2))
end
theorem spec_RelMeet.mono_l : ∀ k, (∀ y0 y1 y2 y3 y4 y5 y6 y7, LeO (spec_RelMeet.f k y0 y1 y2 y3 y4 y5 y6 y7) (spec_RelMeet.f (k + 1) y0 y1 y2 y3 y4 y5 y6 y7)) ∧ (∀ y0 y1 y2 y3 y4 y5 y6 y7 y8, LeO (spec_RelMeet.j0 k y0 y1 y2 y3 y4 y5 y6 y7 y8) (spec_RelMeet.j0 (k + 1) y0 y1 y2 y3 y4 y5 y6 y7 y8))
 | 0 => ⟨fun _ _ _ _ _ _ _ _ r h => by simp [spec_RelMeet.f] at h, fun _ _ _ _ _ _ _ _ _ r h => by simp [spec_RelMeet.j0] at h⟩
 | k + 1 => by
  obtain ⟨ih0, ih1⟩ := spec_RelMeet.mono_l k
  refine ⟨?_, ?_⟩
  ·intro y0 y1 y2 y3 y4 y5 y6 y7
   unfold spec_RelMeet.f
   repeat' first
   | (with_reducible exact ih0 _ _ _ _ _ _ _ _)
   | (with_reducible exact ih1 _ _ _ _ _ _ _ _ _)
   | (with_reducible exact LeO.refl _)
   | (with_reducible exact LeO.none _)
   | (with_reducible refine LeO.ite ?_ ?_)
   | (with_reducible refine LeO.bind ?_ (fun _ => ?_))
   | exact ih0 _ _ _ _ _ _ _ _
   | exact ih1 _ _ _ _ _ _ _ _ _
   | exact LeO.none _
   | refine LeO.ite ?_ ?_
   | refine LeO.bind ?_ (fun _ => ?_)
  ·intro y0 y1 y2 y3 y4 y5 y6 y7 y8
   unfold spec_RelMeet.j0
   repeat' first
   | (with_reducible exact ih0 _ _ _ _ _ _ _ _)
   | (with_reducible exact ih1 _ _ _ _ _ _ _ _ _)
   | (with_reducible exact LeO.refl _)
   | (with_reducible exact LeO.none _)
   | (with_reducible refine LeO.ite ?_ ?_)
   | (with_reducible refine LeO.bind ?_ (fun _ => ?_))
   | exact ih0 _ _ _ _ _ _ _ _
   | exact ih1 _ _ _ _ _ _ _ _ _
   | exact LeO.none _
   | refine LeO.ite ?_ ?_
   | refine LeO.bind ?_ (fun _ => ?_)
theorem spec_RelMeet.mono : ∀ a0 a1 a2 a3 a4 a5 a6 a7 k, LeO (spec_RelMeet.f k a0 a1 a2 a3 a4 a5 a6 a7) (spec_RelMeet.f (k + 1) a0 a1 a2 a3 a4 a5 a6 a7) := by
 intro a0 a1 a2 a3 a4 a5 a6 a7 k
 obtain ⟨ih0, ih1⟩ := spec_RelMeet.mono_l k
 exact ih0 a0 a1 a2 a3 a4 a5 a6 a7
def spec_RelMeet.T9 : Bool × List (List Nat × List Nat) := (true, [([], []), ([], []), ([], []), ([2], [2]), ([3], [3]), ([], []), ([5], [5]), ([4, 6, 3], [4, 6]), ([0, 1, 7, 7], [0, 1, 7]), ([8, 8, 0, 1, 2, 3, 4, 5, 6, 7, 8], [8])])
def spec_RelMeet.B9 : List Nat := [0, 0, 0, 4, 12, 0, 32, 124, 255, 511]
theorem spec_RelMeet.tab9 : rtab .any (opsOf Try.f9 9) = spec_RelMeet.T9 := by kernel_rfl
theorem spec_RelMeet.bits9 : waitsOk spec_RelMeet.T9.2 spec_RelMeet.B9 = true := by kernel_rfl
def spec_RelMeet.T10 : Bool × List (List Nat × List Nat) := (true, [([], []), ([], []), ([], []), ([2], [2]), ([], []), ([4], [4]), ([3, 5, 5], [3, 5]), ([0, 1, 6, 6], [0, 1, 6]), ([7, 7, 0, 1, 2, 3, 4, 5, 6, 7], [7])])
def spec_RelMeet.B10 : List Nat := [0, 0, 0, 4, 0, 16, 60, 127, 255]
theorem spec_RelMeet.tab10 : rtab .any (opsOf Try.f9 10) = spec_RelMeet.T10 := by kernel_rfl
theorem spec_RelMeet.bits10 : waitsOk spec_RelMeet.T10.2 spec_RelMeet.B10 = true := by kernel_rfl
set_option maxHeartbeats 8000000 in
set_option maxRecDepth 100000 in
theorem spec_RelMeet.calls (k : Nat) : ∀ (a0 : Int) (a1 : Int) (a2_0 : Bool) (a2_1 : Int) (a2_2 : Int) (a3_0 : Bool) (a3_1 : Int) (a3_2 : Int) (r1 : Bool) (r2 : Int) (r3 : Int) (r4 : Bool) (r5 : Int) (r6 : Int) (w : World) (h : spec_RelMeet.f k a0 a1 a2_0 a2_1 a2_2 a3_0 a3_1 a3_2 = some (r1, r2, r3, r4, r5, r6)),
  Calls Try.prog 9 #[.int .i64 a0, .int .i64 a1, .agg #[.bool a2_0, .int .i64 a2_1, .int .i64 a2_2], .agg #[.bool a3_0, .int .i64 a3_1, .int .i64 a3_2]] w fun e w' => e = .returned (.tuple #[.agg #[.bool r1, .int .i64 r2, .int .i64 r3], .agg #[.bool r4, .int .i64 r5, .int .i64 r6]]) ∧ Below w.heap.size w w' := by
 induction k using Nat.strongRecOn with
 | _ k ih =>
 intro a0 a1 a2_0 a2_1 a2_2 a3_0 a3_1 a3_2 r1 r2 r3 r4 r5 r6 w h
 cases k with
 | zero => exact absurd h (by simp [spec_RelMeet.f])
 | succ k =>
 simp only [spec_RelMeet.f] at h
 have hu24 := Try.underlying24
 have HB := A_ (Below.refl w.heap.size w)
 have H : ((spec_l9Both.f a0 a2_0 a2_1 a2_2 a3_0 a3_1 a3_2).bind fun t147 => (if t147 = true then ((spec_l10Rel.f a1).bind fun t148 => (spec_RelMeet.j0 k a0 a1 (!t148) a2_0 a2_1 a2_2 a3_0 a3_1 a3_2)) else (spec_RelMeet.j0 k a0 a1 true a2_0 a2_1 a2_2 a3_0 a3_1 a3_2))) = some (r1, r2, r3, r4, r5, r6) := h
 clear h
 have HC5 := A_ H
 clear H
 go_enter Try.func9, Try.ntmps9
 go_upto_region 1 with (first | ((with_reducible refine gate_dst (N := 6) rfl ?_); refine box_event ?hg (N := 6) ?hd (cs := #[.bool a2_0, .int .i64 a2_1, .int .i64 a2_2]) (t := 24) ?hr ?_; (case hd => rfl); (case hg => rfl); (case hr => first | (go_simp; done) | (go_simp; rfl)); intro gb143 hg w6 hbox hb; have n0_ := A_ (below_step (by repeat (first | (with_reducible first | exact HB.out | apply b1_ | apply b2_ | apply b3_) | exact HB.out)) hb); have n1_ := A_ (hbox); have n2_ := A_ ((by rw [hg]; exact (below_size (by repeat (first | (with_reducible first | exact HB.out | apply b1_ | apply b2_ | apply b3_) | exact HB.out))) : w.heap.size ≤ gb143)); have n3_ := n2_; clear HB; have HB := n0_; have BK143 := n1_; have GW143 := n2_; have GE143 := n3_; clear n0_ n1_ n2_ n3_; clear hb hbox hg) | ((with_reducible refine gate_dst (N := 7) rfl ?_); refine box_event ?hg (N := 7) ?hd (cs := #[.bool a3_0, .int .i64 a3_1, .int .i64 a3_2]) (t := 24) ?hr ?_; (case hd => rfl); (case hg => rfl); (case hr => first | (go_simp; done) | (go_simp; rfl)); intro gb144 hg w7 hbox hb; have n0_ := A_ (blk_below (bz_ BK143.out) hb); have n1_ := A_ (below_step (by repeat (first | (with_reducible first | exact HB.out | apply b1_ | apply b2_ | apply b3_ | apply c_ GE143) | exact HB.out)) hb); have n2_ := A_ (hbox); have n3_ := A_ ((by rw [hg]; exact (below_size (by repeat (first | (with_reducible first | exact HB.out | apply b1_ | apply b2_ | apply b3_ | apply c_ GE143) | exact HB.out))) : w.heap.size ≤ gb144)); have n4_ := n3_; have n5_ := A_ ((by rw [hg]; exact Nat.ne_of_lt (blk_lt (bz_ BK143.out)) : gb143 ≠ gb144)); have n6_ := A_ ((by rw [hg]; exact Nat.ne_of_gt (blk_lt (bz_ BK143.out)) : gb144 ≠ gb143)); clear BK143 HB; have BK143 := n0_; have HB := n1_; have BK144 := n2_; have GW144 := n3_; have GE144 := n4_; have NB143_144 := n5_; have NB144_143 := n6_; clear n0_ n1_ n2_ n3_ n4_ n5_ n6_; clear hb hbox hg) | ((with_reducible refine gate_dst (N := 8) rfl ?_); refine box_event ?hg (N := 8) ?hd (cs := #[.bool false, .int .i64 0, .int .i64 0]) (t := 24) ?hr ?_; (case hd => rfl); (case hg => rfl); (case hr => first | (go_simp; done) | (go_simp; rfl)); intro gb145 hg w8 hbox hb; have n0_ := A_ (blk_below (bz_ BK143.out) hb); have n1_ := A_ (blk_below (bz_ BK144.out) hb); have n2_ := A_ (below_step (by repeat (first | (with_reducible first | exact HB.out | apply b1_ | apply b2_ | apply b3_ | apply c_ GE143 | apply c_ GE144) | exact HB.out)) hb); have n3_ := A_ (hbox); have n4_ := A_ ((by rw [hg]; exact (below_size (by repeat (first | (with_reducible first | exact HB.out | apply b1_ | apply b2_ | apply b3_ | apply c_ GE143 | apply c_ GE144) | exact HB.out))) : w.heap.size ≤ gb145)); have n5_ := n4_; have n6_ := A_ ((by rw [hg]; exact Nat.ne_of_lt (blk_lt (bz_ BK143.out)) : gb143 ≠ gb145)); have n7_ := A_ ((by rw [hg]; exact Nat.ne_of_gt (blk_lt (bz_ BK143.out)) : gb145 ≠ gb143)); have n8_ := A_ ((by rw [hg]; exact Nat.ne_of_lt (blk_lt (bz_ BK144.out)) : gb144 ≠ gb145)); have n9_ := A_ ((by rw [hg]; exact Nat.ne_of_gt (blk_lt (bz_ BK144.out)) : gb145 ≠ gb144)); clear BK143 BK144 HB; have BK143 := n0_; have BK144 := n1_; have HB := n2_; have BK145 := n3_; have GW145 := n4_; have GE145 := n5_; have NB143_145 := n6_; have NB145_143 := n7_; have NB144_145 := n8_; have NB145_144 := n9_; clear n0_ n1_ n2_ n3_ n4_ n5_ n6_ n7_ n8_ n9_; clear hb hbox hg) | ((with_reducible refine gate_dst (N := 9) rfl ?_); refine box_event ?hg (N := 9) ?hd (cs := #[.bool false, .int .i64 0, .int .i64 0]) (t := 24) ?hr ?_; (case hd => rfl); (case hg => rfl); (case hr => first | (go_simp; done) | (go_simp; rfl)); intro gb146 hg w9 hbox hb; have n0_ := A_ (blk_below (bz_ BK143.out) hb); have n1_ := A_ (blk_below (bz_ BK144.out) hb); have n2_ := A_ (blk_below (bz_ BK145.out) hb); have n3_ := A_ (below_step (by repeat (first | (with_reducible first | exact HB.out | apply b1_ | apply b2_ | apply b3_ | apply c_ GE143 | apply c_ GE144 | apply c_ GE145) | exact HB.out)) hb); have n4_ := A_ (hbox); have n5_ := A_ ((by rw [hg]; exact (below_size (by repeat (first | (with_reducible first | exact HB.out | apply b1_ | apply b2_ | apply b3_ | apply c_ GE143 | apply c_ GE144 | apply c_ GE145) | exact HB.out))) : w.heap.size ≤ gb146)); have n6_ := n5_; have n7_ := A_ ((by rw [hg]; exact Nat.ne_of_lt (blk_lt (bz_ BK143.out)) : gb143 ≠ gb146)); have n8_ := A_ ((by rw [hg]; exact Nat.ne_of_gt (blk_lt (bz_ BK143.out)) : gb146 ≠ gb143)); have n9_ := A_ ((by rw [hg]; exact Nat.ne_of_lt (blk_lt (bz_ BK144.out)) : gb144 ≠ gb146)); have n10_ := A_ ((by rw [hg]; exact Nat.ne_of_gt (blk_lt (bz_ BK144.out)) : gb146 ≠ gb144)); have n11_ := A_ ((by rw [hg]; exact Nat.ne_of_lt (blk_lt (bz_ BK145.out)) : gb145 ≠ gb146)); have n12_ := A_ ((by rw [hg]; exact Nat.ne_of_gt (blk_lt (bz_ BK145.out)) : gb146 ≠ gb145)); clear BK143 BK144 BK145 HB; have BK143 := n0_; have BK144 := n1_; have BK145 := n2_; have HB := n3_; have BK146 := n4_; have GW146 := n5_; have GE146 := n6_; have NB143_146 := n7_; have NB146_143 := n8_; have NB144_146 := n9_; have NB146_144 := n10_; have NB145_146 := n11_; have NB146_145 := n12_; clear n0_ n1_ n2_ n3_ n4_ n5_ n6_ n7_ n8_ n9_ n10_ n11_ n12_; clear hb hbox hg))
 (try simp only [Act.put, List.setIfInBounds_toArray, List.set_cons_zero, List.set_cons_succ])
 go_cut [23] (fun v23 wc => ∃ (kq : Nat) (x23_4 : Bool), v23 = .bool x23_4 ∧ Aside0 (spec_RelMeet.j0 kq a0 a1 x23_4 a2_0 a2_1 a2_2 a3_0 a3_1 a3_2 = some (r1, r2, r3, r4, r5, r6)) ∧ Aside0 (kq ≤ k) ∧ Aside0 (wc.heap[gb143]? = some (.cells #[.bool a2_0, .int .i64 a2_1, .int .i64 a2_2] 24 (0, 0))) ∧ Aside0 (wc.heap[gb144]? = some (.cells #[.bool a3_0, .int .i64 a3_1, .int .i64 a3_2] 24 (0, 0))) ∧ Aside0 (wc.heap[gb145]? = some (.cells #[.bool false, .int .i64 0, .int .i64 0] 24 (0, 0))) ∧ Aside0 (wc.heap[gb146]? = some (.cells #[.bool false, .int .i64 0, .int .i64 0] 24 (0, 0))) ∧ Aside0 (Below w.heap.size w wc))
 case first =>
  have H := HC5.out
  clear HC5
  replace H := Option.bind_eq_some_iff.mp H
  obtain ⟨t147, A100, H⟩ := H
  replace H : (if t147 = true then ((spec_l10Rel.f a1).bind fun t148 => (spec_RelMeet.j0 k a0 a1 (!t148) a2_0 a2_1 a2_2 a3_0 a3_1 a3_2)) else (spec_RelMeet.j0 k a0 a1 true a2_0 a2_1 a2_2 a3_0 a3_1 a3_2)) = some (r1, r2, r3, r4, r5, r6) := H
  have A10 := A_ A100
  clear A100
  by_cases c11 : t147 = true
  ·subst c11
   have H1 : ((spec_l10Rel.f a1).bind fun t148 => (spec_RelMeet.j0 k a0 a1 (!t148) a2_0 a2_1 a2_2 a3_0 a3_1 a3_2)) = some (r1, r2, r3, r4, r5, r6) := by rw [if_pos rfl] at H; exact H
   clear H
   have H := H1
   clear H1
   replace H := Option.bind_eq_some_iff.mp H
   obtain ⟨t148, A120, H⟩ := H
   replace H : (spec_RelMeet.j0 k a0 a1 (!t148) a2_0 a2_1 a2_2 a3_0 a3_1 a3_2) = some (r1, r2, r3, r4, r5, r6) := H
   have A12 := A_ A120
   clear A120
   have H' := A_ H
   clear H
   have hnb13 := NB143_144.out
   have hnc13 := NB144_143.out
   have hnb14 := NB143_145.out
   have hnc14 := NB145_143.out
   have hnb15 := NB143_146.out
   have hnc15 := NB146_143.out
   have hcz16_0 : w9.cell? ⟨gb143, 0, none⟩ = some (.bool a2_0) := (blk_cell BK143.out 0).trans rfl
   have hcz16_1 : w9.cell? ⟨gb143, 1, none⟩ = some (.int .i64 a2_1) := (blk_cell BK143.out 1).trans rfl
   have hcz16_2 : w9.cell? ⟨gb143, 2, none⟩ = some (.int .i64 a2_2) := (blk_cell BK143.out 2).trans rfl
   have hfz16_0 := blk_frozen BK143.out 0
   have hfz16_1 := blk_frozen BK143.out 1
   have hfz16_2 := blk_frozen BK143.out 2
   have hnb17 := NB144_145.out
   have hnc17 := NB145_144.out
   have hnb18 := NB144_146.out
   have hnc18 := NB146_144.out
   have hcz19_0 : w9.cell? ⟨gb144, 0, none⟩ = some (.bool a3_0) := (blk_cell BK144.out 0).trans rfl
   have hcz19_1 : w9.cell? ⟨gb144, 1, none⟩ = some (.int .i64 a3_1) := (blk_cell BK144.out 1).trans rfl
   have hcz19_2 : w9.cell? ⟨gb144, 2, none⟩ = some (.int .i64 a3_2) := (blk_cell BK144.out 2).trans rfl
   have hfz19_0 := blk_frozen BK144.out 0
   have hfz19_1 := blk_frozen BK144.out 1
   have hfz19_2 := blk_frozen BK144.out 2
   go_wp2_with (first | ((with_reducible refine gate_callee (f := 32) rfl ?_); refine goesL_ (some 17) rfl rfl Try.func32 (by kernel_rfl) rfl #[.int .i64 a0, .agg #[.bool a2_0, .int .i64 a2_1, .int .i64 a2_2], .agg #[.bool a3_0, .int .i64 a3_1, .int .i64 a3_2]] rfl (by (try simp only [List.map_toArray, List.map_cons, List.map_nil]); first | done | rfl) ?_; (with_reducible refine (spec_l9Both.calls a0 a2_0 a2_1 a2_2 a3_0 a3_1 a3_2 true _ A10.out).mono ?_); rintro e w20 ⟨rfl, hb⟩; refine ⟨_, rfl, ?_⟩; have n0_ := A_ (blk_below (bz_ BK143.out) hb); have n1_ := A_ (blk_below (bz_ BK144.out) hb); have n2_ := A_ (blk_below (bz_ BK145.out) hb); have n3_ := A_ (blk_below (bz_ BK146.out) hb); have n4_ := A_ (below_step (by repeat (first | (with_reducible first | exact HB.out | apply b1_ | apply b2_ | apply b3_ | apply c_ GE143 | apply c_ GE144 | apply c_ GE145 | apply c_ GE146) | exact HB.out)) hb); clear BK143 BK144 BK145 BK146 HB; have BK143 := n0_; have BK144 := n1_; have BK145 := n2_; have BK146 := n3_; have HB := n4_; clear n0_ n1_ n2_ n3_ n4_; (try clear hb); (try clear hb2); (try clear hk); (try clear hi)) | (go_at_call 33; (with_reducible refine (spec_l10Rel.calls a1 t148 _ A12.out).mono ?_); rintro e w' ⟨rfl, ⟨nd, rfl⟩⟩))
   go_meet
   case rel => exact ⟨_, (!t148), (by first | rfl | (simp; done) | (simp [*]; done)), H', ⟨by first | omega | exact Nat.le_refl _⟩, ⟨by (with_reducible repeat (first | apply bn_ | apply bd_ | apply ba_)); exact BK143.out⟩, ⟨by (with_reducible repeat (first | apply bn_ | apply bd_ | apply ba_)); exact BK144.out⟩, ⟨by (with_reducible repeat (first | apply bn_ | apply bd_ | apply ba_)); exact BK145.out⟩, ⟨by (with_reducible repeat (first | apply bn_ | apply bd_ | apply ba_)); exact BK146.out⟩, ⟨by repeat (first | (with_reducible first | exact HB.out | apply b1_ | apply b2_ | apply b3_ | apply c_ GE143 | apply c_ GE144 | apply c_ GE145 | apply c_ GE146) | exact HB.out)⟩⟩
  ·replace c11 := Bool.eq_false_iff.mpr c11
   subst c11
   have H1 : (spec_RelMeet.j0 k a0 a1 true a2_0 a2_1 a2_2 a3_0 a3_1 a3_2) = some (r1, r2, r3, r4, r5, r6) := by rw [if_neg (show ¬ (false = true) by decide)] at H; exact H
   clear H
   have H := H1
   clear H1
   have H' := A_ H
   clear H
   have hnb21 := NB143_144.out
   have hnc21 := NB144_143.out
   have hnb22 := NB143_145.out
   have hnc22 := NB145_143.out
   have hnb23 := NB143_146.out
   have hnc23 := NB146_143.out
   have hcz24_0 : w9.cell? ⟨gb143, 0, none⟩ = some (.bool a2_0) := (blk_cell BK143.out 0).trans rfl
   have hcz24_1 : w9.cell? ⟨gb143, 1, none⟩ = some (.int .i64 a2_1) := (blk_cell BK143.out 1).trans rfl
   have hcz24_2 : w9.cell? ⟨gb143, 2, none⟩ = some (.int .i64 a2_2) := (blk_cell BK143.out 2).trans rfl
   have hfz24_0 := blk_frozen BK143.out 0
   have hfz24_1 := blk_frozen BK143.out 1
   have hfz24_2 := blk_frozen BK143.out 2
   have hnb25 := NB144_145.out
   have hnc25 := NB145_144.out
   have hnb26 := NB144_146.out
   have hnc26 := NB146_144.out
   have hcz27_0 : w9.cell? ⟨gb144, 0, none⟩ = some (.bool a3_0) := (blk_cell BK144.out 0).trans rfl
   have hcz27_1 : w9.cell? ⟨gb144, 1, none⟩ = some (.int .i64 a3_1) := (blk_cell BK144.out 1).trans rfl
   have hcz27_2 : w9.cell? ⟨gb144, 2, none⟩ = some (.int .i64 a3_2) := (blk_cell BK144.out 2).trans rfl
   have hfz27_0 := blk_frozen BK144.out 0
   have hfz27_1 := blk_frozen BK144.out 1
   have hfz27_2 := blk_frozen BK144.out 2
   go_wp2_with (first | ((with_reducible refine gate_callee (f := 32) rfl ?_); refine goesL_ (some 17) rfl rfl Try.func32 (by kernel_rfl) rfl #[.int .i64 a0, .agg #[.bool a2_0, .int .i64 a2_1, .int .i64 a2_2], .agg #[.bool a3_0, .int .i64 a3_1, .int .i64 a3_2]] rfl (by (try simp only [List.map_toArray, List.map_cons, List.map_nil]); first | done | rfl) ?_; (with_reducible refine (spec_l9Both.calls a0 a2_0 a2_1 a2_2 a3_0 a3_1 a3_2 false _ A10.out).mono ?_); rintro e w28 ⟨rfl, hb⟩; refine ⟨_, rfl, ?_⟩; have n0_ := A_ (blk_below (bz_ BK143.out) hb); have n1_ := A_ (blk_below (bz_ BK144.out) hb); have n2_ := A_ (blk_below (bz_ BK145.out) hb); have n3_ := A_ (blk_below (bz_ BK146.out) hb); have n4_ := A_ (below_step (by repeat (first | (with_reducible first | exact HB.out | apply b1_ | apply b2_ | apply b3_ | apply c_ GE143 | apply c_ GE144 | apply c_ GE145 | apply c_ GE146) | exact HB.out)) hb); clear BK143 BK144 BK145 BK146 HB; have BK143 := n0_; have BK144 := n1_; have BK145 := n2_; have BK146 := n3_; have HB := n4_; clear n0_ n1_ n2_ n3_ n4_; (try clear hb); (try clear hb2); (try clear hk); (try clear hi)))
   go_meet
   case rel => exact ⟨_, (true), (by first | rfl | (simp; done) | (simp [*]; done)), H', ⟨by first | omega | exact Nat.le_refl _⟩, ⟨by (with_reducible repeat (first | apply bn_ | apply bd_ | apply ba_)); exact BK143.out⟩, ⟨by (with_reducible repeat (first | apply bn_ | apply bd_ | apply ba_)); exact BK144.out⟩, ⟨by (with_reducible repeat (first | apply bn_ | apply bd_ | apply ba_)); exact BK145.out⟩, ⟨by (with_reducible repeat (first | apply bn_ | apply bd_ | apply ba_)); exact BK146.out⟩, ⟨by repeat (first | (with_reducible first | exact HB.out | apply b1_ | apply b2_ | apply b3_ | apply c_ GE143 | apply c_ GE144 | apply c_ GE145 | apply c_ GE146) | exact HB.out)⟩⟩
 case rest =>
  clear HC5
  (try clear c1); (try clear c2); (try clear p2); (try clear c3); (try clear c9); (try clear c11); (try clear c13); (try clear c14); (try clear c15); (try clear c17); (try clear c18); (try clear c21); (try clear c22); (try clear c23); (try clear c25); (try clear c26); (try clear hcz16_0); (try clear hcz16_1); (try clear hcz16_2); (try clear hcz19_0); (try clear hcz19_1); (try clear hcz19_2); (try clear hcz24_0); (try clear hcz24_1); (try clear hcz24_2); (try clear hcz27_0); (try clear hcz27_1); (try clear hcz27_2); (try clear hfz16_0); (try clear hfz16_1); (try clear hfz16_2); (try clear hfz19_0); (try clear hfz19_1); (try clear hfz19_2); (try clear hfz24_0); (try clear hfz24_1); (try clear hfz24_2); (try clear hfz27_0); (try clear hfz27_1); (try clear hfz27_2)
  obtain ⟨kq, x23_4, rfl, HA, HJ4, BK143, BK144, BK145, BK146, HB⟩ := hcut
  cases kq with
  | zero => exact absurd HA.out (by simp [spec_RelMeet.j0])
  | succ kj4 =>
   have H := HA.out
   clear HA
   simp only [spec_RelMeet.j0] at H
   by_cases c29 : x23_4 = true
   ·subst c29
    have H1 : (some (false, 0, 0, false, 0, 0)) = some (r1, r2, r3, r4, r5, r6) := by rw [if_pos rfl] at H; exact H
    clear H
    have H := H1
    clear H1
    simp only [Option.some.injEq, Prod.mk.injEq] at H
    obtain ⟨rfl, rfl, rfl, rfl, rfl, rfl⟩ := H
    have hnb30 := NB145_143.out
    have hnc30 := NB143_145.out
    have hnb31 := NB145_144.out
    have hnc31 := NB144_145.out
    have hnb32 := NB145_146.out
    have hnc32 := NB146_145.out
    have hcz33_0 : wc.cell? ⟨gb145, 0, none⟩ = some (.bool false) := (blk_cell BK145.out 0).trans rfl
    have hcz33_1 : wc.cell? ⟨gb145, 1, none⟩ = some (.int .i64 0) := (blk_cell BK145.out 1).trans rfl
    have hcz33_2 : wc.cell? ⟨gb145, 2, none⟩ = some (.int .i64 0) := (blk_cell BK145.out 2).trans rfl
    have hfz33_0 := blk_frozen BK145.out 0
    have hfz33_1 := blk_frozen BK145.out 1
    have hfz33_2 := blk_frozen BK145.out 2
    have hnb34 := NB146_143.out
    have hnc34 := NB143_146.out
    have hnb35 := NB146_144.out
    have hnc35 := NB144_146.out
    have hcz36_0 : wc.cell? ⟨gb146, 0, none⟩ = some (.bool false) := (blk_cell BK146.out 0).trans rfl
    have hcz36_1 : wc.cell? ⟨gb146, 1, none⟩ = some (.int .i64 0) := (blk_cell BK146.out 1).trans rfl
    have hcz36_2 : wc.cell? ⟨gb146, 2, none⟩ = some (.int .i64 0) := (blk_cell BK146.out 2).trans rfl
    have hfz36_0 := blk_frozen BK146.out 0
    have hfz36_1 := blk_frozen BK146.out 1
    have hfz36_2 := blk_frozen BK146.out 2
    go_wp2
    refine bodyPost_ret (results_cc rfl _ _ gb145 gb146 24 24 #[.bool false, .int .i64 0, .int .i64 0] #[.bool false, .int .i64 0, .int .i64 0] (0, 0) (0, 0) _ _ rfl (by (with_reducible repeat (first | apply bn_ | apply bd_ | apply ba_)); refine blk_far ?_ NB145_146.out _; (with_reducible repeat (first | apply bn_ | apply bd_ | apply ba_)); refine blk_far ?_ NB145_146.out _; (with_reducible repeat (first | apply bn_ | apply bd_ | apply ba_)); refine blk_far ?_ NB145_146.out _; (with_reducible repeat (first | apply bn_ | apply bd_ | apply ba_)); refine blk_put (cs := #[.bool false, .int .i64 0, .int .i64 0]) ?_ 2 _ (by first | rfl | (simp [*]; done)); (with_reducible repeat (first | apply bn_ | apply bd_ | apply ba_)); refine blk_put (cs := #[.bool false, .int .i64 0, .int .i64 0]) ?_ 1 _ (by first | rfl | (simp [*]; done)); (with_reducible repeat (first | apply bn_ | apply bd_ | apply ba_)); refine blk_put (cs := #[.bool false, .int .i64 0, .int .i64 0]) ?_ 0 _ (by first | rfl | (simp [*]; done)); (with_reducible repeat (first | apply bn_ | apply bd_ | apply ba_)); exact BK145.out) Try.underlying24 rfl (by kernel_rfl) rfl (by (with_reducible repeat (first | apply bn_ | apply bd_ | apply ba_)); refine blk_put (cs := #[.bool false, .int .i64 0, .int .i64 0]) ?_ 2 _ (by first | rfl | (simp [*]; done)); (with_reducible repeat (first | apply bn_ | apply bd_ | apply ba_)); refine blk_put (cs := #[.bool false, .int .i64 0, .int .i64 0]) ?_ 1 _ (by first | rfl | (simp [*]; done)); (with_reducible repeat (first | apply bn_ | apply bd_ | apply ba_)); refine blk_put (cs := #[.bool false, .int .i64 0, .int .i64 0]) ?_ 0 _ (by first | rfl | (simp [*]; done)); (with_reducible repeat (first | apply bn_ | apply bd_ | apply ba_)); refine blk_far ?_ NB146_145.out _; (with_reducible repeat (first | apply bn_ | apply bd_ | apply ba_)); refine blk_far ?_ NB146_145.out _; (with_reducible repeat (first | apply bn_ | apply bd_ | apply ba_)); refine blk_far ?_ NB146_145.out _; (with_reducible repeat (first | apply bn_ | apply bd_ | apply ba_)); exact BK146.out) Try.underlying24 rfl (by kernel_rfl)) rfl ?_
    exact ⟨by first | rfl | (simp [errW_none, errW_some] <;> rfl) | (simp [*, errW_none, errW_some] <;> rfl), by repeat (first | (with_reducible first | exact HB.out | apply b1_ | apply b2_ | apply b3_ | apply c_ GE143 | apply c_ GE144 | apply c_ GE145 | apply c_ GE146) | exact HB.out)⟩
   ·replace c29 := Bool.eq_false_iff.mpr c29
    subst c29
    have H1 : (if a1 = 2 then ((spec_RelMeet.f kj4 a0 1 a3_0 a3_1 a3_2 a2_0 a2_1 a2_2).bind fun bt149 => (some (bt149.2.2.2.1, bt149.2.2.2.2.1, bt149.2.2.2.2.2, bt149.1, bt149.2.1, bt149.2.2.1))) else ((spec_SpanMeet.f a0 a2_0 a2_1 a2_2 a3_0 a3_1 a3_2).bind fun bt157 => (if a1 = 1 then ((spec_BitTop.f a0).bind fun t162 => ((spec_l9Of.f (wrap64 (-t162)) a3_2).bind fun bt163 => ((spec_SpanMeet.f a0 a2_0 a2_1 a2_2 bt163.1 bt163.2.1 bt163.2.2).bind fun bt166 => ((spec_BitTop.f a0).bind fun t169 => ((spec_l9Of.f a2_1 t169).bind fun bt170 => ((spec_SpanMeet.f a0 a3_0 a3_1 a3_2 bt170.1 bt170.2.1 bt170.2.2).bind fun bt173 => (if bt166.1 = true then (if bt173.1 = true then (some (bt166.1, bt166.2.1, bt166.2.2, bt173.1, bt173.2.1, bt173.2.2)) else (some (false, 0, 0, false, 0, 0))) else (some (false, 0, 0, false, 0, 0))))))))) else (if bt157.1 = true then (some (bt157.1, bt157.2.1, bt157.2.2, bt157.1, bt157.2.1, bt157.2.2)) else (some (false, 0, 0, false, 0, 0)))))) = some (r1, r2, r3, r4, r5, r6) := by rw [if_neg (show ¬ (false = true) by decide)] at H; exact H
    clear H
    have H := H1
    clear H1
    by_cases c37 : a1 = 2
    ·rw [if_pos c37] at H
     have c37b0 : (a1 == 2) = true := beq_iff_eq.mpr c37
     have c37b1 : (a1 != 2) = false := bne_eq_false_iff_eq.mpr c37
     clear c37
     replace H := Option.bind_eq_some_iff.mp H
     obtain ⟨⟨t149, t150, t151, t152, t153, t154⟩, A380, H⟩ := H
     replace H : (some (t152, t153, t154, t149, t150, t151)) = some (r1, r2, r3, r4, r5, r6) := H
     have A38 := A_ A380
     clear A380
     simp only [Option.some.injEq, Prod.mk.injEq] at H
     obtain ⟨rfl, rfl, rfl, rfl, rfl, rfl⟩ := H
     have hnb39 := NB144_143.out
     have hnc39 := NB143_144.out
     have hnb40 := NB144_145.out
     have hnc40 := NB145_144.out
     have hnb41 := NB144_146.out
     have hnc41 := NB146_144.out
     have hcz42_0 : wc.cell? ⟨gb144, 0, none⟩ = some (.bool a3_0) := (blk_cell BK144.out 0).trans rfl
     have hcz42_1 : wc.cell? ⟨gb144, 1, none⟩ = some (.int .i64 a3_1) := (blk_cell BK144.out 1).trans rfl
     have hcz42_2 : wc.cell? ⟨gb144, 2, none⟩ = some (.int .i64 a3_2) := (blk_cell BK144.out 2).trans rfl
     have hfz42_0 := blk_frozen BK144.out 0
     have hfz42_1 := blk_frozen BK144.out 1
     have hfz42_2 := blk_frozen BK144.out 2
     have hnb43 := NB143_145.out
     have hnc43 := NB145_143.out
     have hnb44 := NB143_146.out
     have hnc44 := NB146_143.out
     have hcz45_0 : wc.cell? ⟨gb143, 0, none⟩ = some (.bool a2_0) := (blk_cell BK143.out 0).trans rfl
     have hcz45_1 : wc.cell? ⟨gb143, 1, none⟩ = some (.int .i64 a2_1) := (blk_cell BK143.out 1).trans rfl
     have hcz45_2 : wc.cell? ⟨gb143, 2, none⟩ = some (.int .i64 a2_2) := (blk_cell BK143.out 2).trans rfl
     have hfz45_0 := blk_frozen BK143.out 0
     have hfz45_1 := blk_frozen BK143.out 1
     have hfz45_2 := blk_frozen BK143.out 2
     try go_wp2_with (first | ((with_reducible refine gate_callee (f := 9) rfl ?_); refine goesL_ (some 32) rfl rfl Try.func9 (by kernel_rfl) rfl #[.int .i64 a0, .int .i64 1, .agg #[.bool a3_0, .int .i64 a3_1, .int .i64 a3_2], .agg #[.bool a2_0, .int .i64 a2_1, .int .i64 a2_2]] rfl (by (try simp only [List.map_toArray, List.map_cons, List.map_nil]); first | done | rfl) ?_; (with_reducible refine (ih kj4 (by have := HJ4.out; omega) a0 1 a3_0 a3_1 a3_2 a2_0 a2_1 a2_2 t149 t150 t151 t152 t153 t154 _ A38.out).mono ?_); rintro e w46 ⟨rfl, hb⟩; refine ⟨_, rfl, ?_⟩; have n0_ := A_ (blk_below (bz_ BK143.out) hb); have n1_ := A_ (blk_below (bz_ BK144.out) hb); have n2_ := A_ (blk_below (bz_ BK145.out) hb); have n3_ := A_ (blk_below (bz_ BK146.out) hb); have n4_ := A_ (below_step (by repeat (first | (with_reducible first | exact HB.out | apply b1_ | apply b2_ | apply b3_ | apply c_ GE143 | apply c_ GE144 | apply c_ GE145 | apply c_ GE146) | exact HB.out)) hb); clear BK143 BK144 BK145 BK146 HB; have BK143 := n0_; have BK144 := n1_; have BK145 := n2_; have BK146 := n3_; have HB := n4_; clear n0_ n1_ n2_ n3_ n4_; (try clear hb); (try clear hb2); (try clear hk); (try clear hi)) | ((with_reducible refine gate_dst (N := 10) rfl ?_); refine box_event ?hg (N := 10) ?hd (cs := #[.bool false, .int .i64 0, .int .i64 0]) (t := 24) ?hr ?_; (case hd => rfl); (case hg => rfl); (case hr => first | (go_simp; done) | (go_simp; rfl)); intro gb155 hg w47 hbox hb; have n0_ := A_ (blk_below (bz_ BK143.out) hb); have n1_ := A_ (blk_below (bz_ BK144.out) hb); have n2_ := A_ (blk_below (bz_ BK145.out) hb); have n3_ := A_ (blk_below (bz_ BK146.out) hb); have n4_ := A_ (below_step (by repeat (first | (with_reducible first | exact HB.out | apply b1_ | apply b2_ | apply b3_ | apply c_ GE143 | apply c_ GE144 | apply c_ GE145 | apply c_ GE146) | exact HB.out)) hb); have n5_ := A_ (hbox); have n6_ := A_ ((by rw [hg]; exact (below_size (by repeat (first | (with_reducible first | exact HB.out | apply b1_ | apply b2_ | apply b3_ | apply c_ GE143 | apply c_ GE144 | apply c_ GE145 | apply c_ GE146) | exact HB.out))) : w.heap.size ≤ gb155)); have n7_ := n6_; have n8_ := A_ ((by rw [hg]; exact Nat.ne_of_lt (blk_lt (bz_ BK143.out)) : gb143 ≠ gb155)); have n9_ := A_ ((by rw [hg]; exact Nat.ne_of_gt (blk_lt (bz_ BK143.out)) : gb155 ≠ gb143)); have n10_ := A_ ((by rw [hg]; exact Nat.ne_of_lt (blk_lt (bz_ BK144.out)) : gb144 ≠ gb155)); have n11_ := A_ ((by rw [hg]; exact Nat.ne_of_gt (blk_lt (bz_ BK144.out)) : gb155 ≠ gb144)); have n12_ := A_ ((by rw [hg]; exact Nat.ne_of_lt (blk_lt (bz_ BK145.out)) : gb145 ≠ gb155)); have n13_ := A_ ((by rw [hg]; exact Nat.ne_of_gt (blk_lt (bz_ BK145.out)) : gb155 ≠ gb145)); have n14_ := A_ ((by rw [hg]; exact Nat.ne_of_lt (blk_lt (bz_ BK146.out)) : gb146 ≠ gb155)); have n15_ := A_ ((by rw [hg]; exact Nat.ne_of_gt (blk_lt (bz_ BK146.out)) : gb155 ≠ gb146)); clear BK143 BK144 BK145 BK146 HB; have BK143 := n0_; have BK144 := n1_; have BK145 := n2_; have BK146 := n3_; have HB := n4_; have BK155 := n5_; have GW155 := n6_; have GE155 := n7_; have NB143_155 := n8_; have NB155_143 := n9_; have NB144_155 := n10_; have NB155_144 := n11_; have NB145_155 := n12_; have NB155_145 := n13_; have NB146_155 := n14_; have NB155_146 := n15_; clear n0_ n1_ n2_ n3_ n4_ n5_ n6_ n7_ n8_ n9_ n10_ n11_ n12_ n13_ n14_ n15_; clear hb hbox hg) | ((with_reducible refine gate_dst (N := 11) rfl ?_); refine box_event ?hg (N := 11) ?hd (cs := #[.bool false, .int .i64 0, .int .i64 0]) (t := 24) ?hr ?_; (case hd => rfl); (case hg => rfl); (case hr => first | (go_simp; done) | (go_simp; rfl)); intro gb156 hg w48 hbox hb; have n0_ := A_ (blk_below (bz_ BK143.out) hb); have n1_ := A_ (blk_below (bz_ BK144.out) hb); have n2_ := A_ (blk_below (bz_ BK145.out) hb); have n3_ := A_ (blk_below (bz_ BK146.out) hb); have n4_ := A_ (blk_below (bz_ BK155.out) hb); have n5_ := A_ (below_step (by repeat (first | (with_reducible first | exact HB.out | apply b1_ | apply b2_ | apply b3_ | apply c_ GE143 | apply c_ GE144 | apply c_ GE145 | apply c_ GE146 | apply c_ GE155) | exact HB.out)) hb); have n6_ := A_ (hbox); have n7_ := A_ ((by rw [hg]; exact (below_size (by repeat (first | (with_reducible first | exact HB.out | apply b1_ | apply b2_ | apply b3_ | apply c_ GE143 | apply c_ GE144 | apply c_ GE145 | apply c_ GE146 | apply c_ GE155) | exact HB.out))) : w.heap.size ≤ gb156)); have n8_ := n7_; have n9_ := A_ ((by rw [hg]; exact Nat.ne_of_lt (blk_lt (bz_ BK143.out)) : gb143 ≠ gb156)); have n10_ := A_ ((by rw [hg]; exact Nat.ne_of_gt (blk_lt (bz_ BK143.out)) : gb156 ≠ gb143)); have n11_ := A_ ((by rw [hg]; exact Nat.ne_of_lt (blk_lt (bz_ BK144.out)) : gb144 ≠ gb156)); have n12_ := A_ ((by rw [hg]; exact Nat.ne_of_gt (blk_lt (bz_ BK144.out)) : gb156 ≠ gb144)); have n13_ := A_ ((by rw [hg]; exact Nat.ne_of_lt (blk_lt (bz_ BK145.out)) : gb145 ≠ gb156)); have n14_ := A_ ((by rw [hg]; exact Nat.ne_of_gt (blk_lt (bz_ BK145.out)) : gb156 ≠ gb145)); have n15_ := A_ ((by rw [hg]; exact Nat.ne_of_lt (blk_lt (bz_ BK146.out)) : gb146 ≠ gb156)); have n16_ := A_ ((by rw [hg]; exact Nat.ne_of_gt (blk_lt (bz_ BK146.out)) : gb156 ≠ gb146)); have n17_ := A_ ((by rw [hg]; exact Nat.ne_of_lt (blk_lt (bz_ BK155.out)) : gb155 ≠ gb156)); have n18_ := A_ ((by rw [hg]; exact Nat.ne_of_gt (blk_lt (bz_ BK155.out)) : gb156 ≠ gb155)); clear BK143 BK144 BK145 BK146 BK155 HB; have BK143 := n0_; have BK144 := n1_; have BK145 := n2_; have BK146 := n3_; have BK155 := n4_; have HB := n5_; have BK156 := n6_; have GW156 := n7_; have GE156 := n8_; have NB143_156 := n9_; have NB156_143 := n10_; have NB144_156 := n11_; have NB156_144 := n12_; have NB145_156 := n13_; have NB156_145 := n14_; have NB146_156 := n15_; have NB156_146 := n16_; have NB155_156 := n17_; have NB156_155 := n18_; clear n0_ n1_ n2_ n3_ n4_ n5_ n6_ n7_ n8_ n9_ n10_ n11_ n12_ n13_ n14_ n15_ n16_ n17_ n18_; clear hb hbox hg; have hnb49 := NB155_143.out; have hnc49 := NB143_155.out; have hnb50 := NB155_144.out; have hnc50 := NB144_155.out; have hnb51 := NB155_145.out; have hnc51 := NB145_155.out; have hnb52 := NB155_146.out; have hnc52 := NB146_155.out; have hnb53 := NB155_156.out; have hnc53 := NB156_155.out; have hcz54_0 : w48.cell? ⟨gb155, 0, none⟩ = some (.bool false) := (blk_cell BK155.out 0).trans rfl; have hcz54_1 : w48.cell? ⟨gb155, 1, none⟩ = some (.int .i64 0) := (blk_cell BK155.out 1).trans rfl; have hcz54_2 : w48.cell? ⟨gb155, 2, none⟩ = some (.int .i64 0) := (blk_cell BK155.out 2).trans rfl; have hfz54_0 := blk_frozen BK155.out 0; have hfz54_1 := blk_frozen BK155.out 1; have hfz54_2 := blk_frozen BK155.out 2; have hnb55 := NB156_143.out; have hnc55 := NB143_156.out; have hnb56 := NB156_144.out; have hnc56 := NB144_156.out; have hnb57 := NB156_145.out; have hnc57 := NB145_156.out; have hnb58 := NB156_146.out; have hnc58 := NB146_156.out; have hcz59_0 : w48.cell? ⟨gb156, 0, none⟩ = some (.bool false) := (blk_cell BK156.out 0).trans rfl; have hcz59_1 : w48.cell? ⟨gb156, 1, none⟩ = some (.int .i64 0) := (blk_cell BK156.out 1).trans rfl; have hcz59_2 : w48.cell? ⟨gb156, 2, none⟩ = some (.int .i64 0) := (blk_cell BK156.out 2).trans rfl; have hfz59_0 := blk_frozen BK156.out 0; have hfz59_1 := blk_frozen BK156.out 1; have hfz59_2 := blk_frozen BK156.out 2))
     have n0_ : Aside0 (((((((w48.setCell ⟨gb155, 0, none⟩ (.bool t149)).setCell ⟨gb155, 1, none⟩ (.int .i64 t150)).setCell ⟨gb155, 2, none⟩ (.int .i64 t151)).setCell ⟨gb156, 0, none⟩ (.bool t152)).setCell ⟨gb156, 1, none⟩ (.int .i64 t153)).setCell ⟨gb156, 2, none⟩ (.int .i64 t154)).heap[gb143]? = some (.cells #[.bool a2_0, .int .i64 a2_1, .int .i64 a2_2] 24 (0, 0))) := ⟨by (with_reducible repeat (first | apply bn_ | apply bd_ | apply ba_)); refine blk_far ?_ NB143_156.out _; (with_reducible repeat (first | apply bn_ | apply bd_ | apply ba_)); refine blk_far ?_ NB143_156.out _; (with_reducible repeat (first | apply bn_ | apply bd_ | apply ba_)); refine blk_far ?_ NB143_156.out _; (with_reducible repeat (first | apply bn_ | apply bd_ | apply ba_)); refine blk_far ?_ NB143_155.out _; (with_reducible repeat (first | apply bn_ | apply bd_ | apply ba_)); refine blk_far ?_ NB143_155.out _; (with_reducible repeat (first | apply bn_ | apply bd_ | apply ba_)); refine blk_far ?_ NB143_155.out _; (with_reducible repeat (first | apply bn_ | apply bd_ | apply ba_)); exact BK143.out⟩
     have n1_ : Aside0 (((((((w48.setCell ⟨gb155, 0, none⟩ (.bool t149)).setCell ⟨gb155, 1, none⟩ (.int .i64 t150)).setCell ⟨gb155, 2, none⟩ (.int .i64 t151)).setCell ⟨gb156, 0, none⟩ (.bool t152)).setCell ⟨gb156, 1, none⟩ (.int .i64 t153)).setCell ⟨gb156, 2, none⟩ (.int .i64 t154)).heap[gb144]? = some (.cells #[.bool a3_0, .int .i64 a3_1, .int .i64 a3_2] 24 (0, 0))) := ⟨by (with_reducible repeat (first | apply bn_ | apply bd_ | apply ba_)); refine blk_far ?_ NB144_156.out _; (with_reducible repeat (first | apply bn_ | apply bd_ | apply ba_)); refine blk_far ?_ NB144_156.out _; (with_reducible repeat (first | apply bn_ | apply bd_ | apply ba_)); refine blk_far ?_ NB144_156.out _; (with_reducible repeat (first | apply bn_ | apply bd_ | apply ba_)); refine blk_far ?_ NB144_155.out _; (with_reducible repeat (first | apply bn_ | apply bd_ | apply ba_)); refine blk_far ?_ NB144_155.out _; (with_reducible repeat (first | apply bn_ | apply bd_ | apply ba_)); refine blk_far ?_ NB144_155.out _; (with_reducible repeat (first | apply bn_ | apply bd_ | apply ba_)); exact BK144.out⟩
     have n2_ : Aside0 (((((((w48.setCell ⟨gb155, 0, none⟩ (.bool t149)).setCell ⟨gb155, 1, none⟩ (.int .i64 t150)).setCell ⟨gb155, 2, none⟩ (.int .i64 t151)).setCell ⟨gb156, 0, none⟩ (.bool t152)).setCell ⟨gb156, 1, none⟩ (.int .i64 t153)).setCell ⟨gb156, 2, none⟩ (.int .i64 t154)).heap[gb145]? = some (.cells #[.bool false, .int .i64 0, .int .i64 0] 24 (0, 0))) := ⟨by (with_reducible repeat (first | apply bn_ | apply bd_ | apply ba_)); refine blk_far ?_ NB145_156.out _; (with_reducible repeat (first | apply bn_ | apply bd_ | apply ba_)); refine blk_far ?_ NB145_156.out _; (with_reducible repeat (first | apply bn_ | apply bd_ | apply ba_)); refine blk_far ?_ NB145_156.out _; (with_reducible repeat (first | apply bn_ | apply bd_ | apply ba_)); refine blk_far ?_ NB145_155.out _; (with_reducible repeat (first | apply bn_ | apply bd_ | apply ba_)); refine blk_far ?_ NB145_155.out _; (with_reducible repeat (first | apply bn_ | apply bd_ | apply ba_)); refine blk_far ?_ NB145_155.out _; (with_reducible repeat (first | apply bn_ | apply bd_ | apply ba_)); exact BK145.out⟩
     have n3_ : Aside0 (((((((w48.setCell ⟨gb155, 0, none⟩ (.bool t149)).setCell ⟨gb155, 1, none⟩ (.int .i64 t150)).setCell ⟨gb155, 2, none⟩ (.int .i64 t151)).setCell ⟨gb156, 0, none⟩ (.bool t152)).setCell ⟨gb156, 1, none⟩ (.int .i64 t153)).setCell ⟨gb156, 2, none⟩ (.int .i64 t154)).heap[gb146]? = some (.cells #[.bool false, .int .i64 0, .int .i64 0] 24 (0, 0))) := ⟨by (with_reducible repeat (first | apply bn_ | apply bd_ | apply ba_)); refine blk_far ?_ NB146_156.out _; (with_reducible repeat (first | apply bn_ | apply bd_ | apply ba_)); refine blk_far ?_ NB146_156.out _; (with_reducible repeat (first | apply bn_ | apply bd_ | apply ba_)); refine blk_far ?_ NB146_156.out _; (with_reducible repeat (first | apply bn_ | apply bd_ | apply ba_)); refine blk_far ?_ NB146_155.out _; (with_reducible repeat (first | apply bn_ | apply bd_ | apply ba_)); refine blk_far ?_ NB146_155.out _; (with_reducible repeat (first | apply bn_ | apply bd_ | apply ba_)); refine blk_far ?_ NB146_155.out _; (with_reducible repeat (first | apply bn_ | apply bd_ | apply ba_)); exact BK146.out⟩
     have n4_ : Aside0 (((((((w48.setCell ⟨gb155, 0, none⟩ (.bool t149)).setCell ⟨gb155, 1, none⟩ (.int .i64 t150)).setCell ⟨gb155, 2, none⟩ (.int .i64 t151)).setCell ⟨gb156, 0, none⟩ (.bool t152)).setCell ⟨gb156, 1, none⟩ (.int .i64 t153)).setCell ⟨gb156, 2, none⟩ (.int .i64 t154)).heap[gb155]? = some (.cells #[.bool t149, .int .i64 t150, .int .i64 t151] 24 (0, 0))) := ⟨by (with_reducible repeat (first | apply bn_ | apply bd_ | apply ba_)); refine blk_far ?_ NB155_156.out _; (with_reducible repeat (first | apply bn_ | apply bd_ | apply ba_)); refine blk_far ?_ NB155_156.out _; (with_reducible repeat (first | apply bn_ | apply bd_ | apply ba_)); refine blk_far ?_ NB155_156.out _; (with_reducible repeat (first | apply bn_ | apply bd_ | apply ba_)); refine blk_put (cs := #[.bool t149, .int .i64 t150, .int .i64 0]) ?_ 2 _ (by first | rfl | (simp [*]; done)); (with_reducible repeat (first | apply bn_ | apply bd_ | apply ba_)); refine blk_put (cs := #[.bool t149, .int .i64 0, .int .i64 0]) ?_ 1 _ (by first | rfl | (simp [*]; done)); (with_reducible repeat (first | apply bn_ | apply bd_ | apply ba_)); refine blk_put (cs := #[.bool false, .int .i64 0, .int .i64 0]) ?_ 0 _ (by first | rfl | (simp [*]; done)); (with_reducible repeat (first | apply bn_ | apply bd_ | apply ba_)); exact BK155.out⟩
     have n5_ : Aside0 (((((((w48.setCell ⟨gb155, 0, none⟩ (.bool t149)).setCell ⟨gb155, 1, none⟩ (.int .i64 t150)).setCell ⟨gb155, 2, none⟩ (.int .i64 t151)).setCell ⟨gb156, 0, none⟩ (.bool t152)).setCell ⟨gb156, 1, none⟩ (.int .i64 t153)).setCell ⟨gb156, 2, none⟩ (.int .i64 t154)).heap[gb156]? = some (.cells #[.bool t152, .int .i64 t153, .int .i64 t154] 24 (0, 0))) := ⟨by (with_reducible repeat (first | apply bn_ | apply bd_ | apply ba_)); refine blk_put (cs := #[.bool t152, .int .i64 t153, .int .i64 0]) ?_ 2 _ (by first | rfl | (simp [*]; done)); (with_reducible repeat (first | apply bn_ | apply bd_ | apply ba_)); refine blk_put (cs := #[.bool t152, .int .i64 0, .int .i64 0]) ?_ 1 _ (by first | rfl | (simp [*]; done)); (with_reducible repeat (first | apply bn_ | apply bd_ | apply ba_)); refine blk_put (cs := #[.bool false, .int .i64 0, .int .i64 0]) ?_ 0 _ (by first | rfl | (simp [*]; done)); (with_reducible repeat (first | apply bn_ | apply bd_ | apply ba_)); refine blk_far ?_ NB156_155.out _; (with_reducible repeat (first | apply bn_ | apply bd_ | apply ba_)); refine blk_far ?_ NB156_155.out _; (with_reducible repeat (first | apply bn_ | apply bd_ | apply ba_)); refine blk_far ?_ NB156_155.out _; (with_reducible repeat (first | apply bn_ | apply bd_ | apply ba_)); exact BK156.out⟩
     have n6_ : Aside0 (Below w.heap.size w ((((((w48.setCell ⟨gb155, 0, none⟩ (.bool t149)).setCell ⟨gb155, 1, none⟩ (.int .i64 t150)).setCell ⟨gb155, 2, none⟩ (.int .i64 t151)).setCell ⟨gb156, 0, none⟩ (.bool t152)).setCell ⟨gb156, 1, none⟩ (.int .i64 t153)).setCell ⟨gb156, 2, none⟩ (.int .i64 t154))) := ⟨by repeat (first | (with_reducible first | exact HB.out | apply b1_ | apply b2_ | apply b3_ | apply c_ GE143 | apply c_ GE144 | apply c_ GE145 | apply c_ GE146 | apply c_ GE155 | apply c_ GE156) | exact HB.out)⟩
     (try clear BK143)
     (try clear BK144)
     (try clear BK145)
     (try clear BK146)
     (try clear BK155)
     (try clear BK156)
     (try clear HB)
     generalize ((((((w48.setCell ⟨gb155, 0, none⟩ (.bool t149)).setCell ⟨gb155, 1, none⟩ (.int .i64 t150)).setCell ⟨gb155, 2, none⟩ (.int .i64 t151)).setCell ⟨gb156, 0, none⟩ (.bool t152)).setCell ⟨gb156, 1, none⟩ (.int .i64 t153)).setCell ⟨gb156, 2, none⟩ (.int .i64 t154)) = w60 at n0_ n1_ n2_ n3_ n4_ n5_ n6_ ⊢
     have BK143 := n0_
     have BK144 := n1_
     have BK145 := n2_
     have BK146 := n3_
     have BK155 := n4_
     have BK156 := n5_
     have HB := n6_
     clear n0_ n1_ n2_ n3_ n4_ n5_ n6_
     have n0_ := A_ (blk_drew BK143.out)
     have n1_ := A_ (blk_drew BK144.out)
     have n2_ := A_ (blk_drew BK145.out)
     have n3_ := A_ (blk_drew BK146.out)
     have n4_ := A_ (blk_drew BK155.out)
     have n5_ := A_ (blk_drew BK156.out)
     have n6_ := A_ (below_drew1 HB.out)
     clear BK143 BK144
     clear BK145 BK146
     clear BK155 BK156 HB
     have BK143 := n0_
     have BK144 := n1_
     have BK145 := n2_
     have BK146 := n3_
     have BK155 := n4_
     have BK156 := n5_
     have HB := n6_
     clear n0_ n1_ n2_ n3_ n4_ n5_ n6_
     refine start_ (n := 4) (S := fun w' => w'.cell? ⟨gb156, 0, none⟩ = some (.bool t152) ∧ w'.cell? ⟨gb156, 1, none⟩ = some (.int .i64 t153) ∧ w'.cell? ⟨gb156, 2, none⟩ = some (.int .i64 t154) ∧ w'.cell? ⟨gb155, 0, none⟩ = some (.bool t149) ∧ w'.cell? ⟨gb155, 1, none⟩ = some (.int .i64 t150) ∧ w'.cell? ⟨gb155, 2, none⟩ = some (.int .i64 t151)) (ds := []) #[false, false, false, false] (by kernel_rfl) rfl rfl ⟨(blk_cell BK156.out 0).trans rfl, (blk_cell BK156.out 1).trans rfl, (blk_cell BK156.out 2).trans rfl, (blk_cell BK155.out 0).trans rfl, (blk_cell BK155.out 1).trans rfl, (blk_cell BK155.out 2).trans rfl⟩ (fun hHeld => ?_)
     generalize w60.drew = w61 at BK143 BK144 BK145 BK146 BK155 BK156 HB hHeld ⊢
     refine take_ (i := 0) (N := some 35) (v := ?_) (a' := ?_) #[true, false, false, false] rfl rfl (by kernel_rfl) (fun _ _ _ h => h) (Or.inl ⟨by rfl, ?_⟩) hHeld ?_ ?_
     rotate_left
     ·rintro w' ⟨s0, s1, s2, s3, s4, s5⟩
      go_simp
      with_reducible rfl
     rotate_left
     ·simp only [Act.put, List.setIfInBounds_toArray, List.set_cons_zero, List.set_cons_succ, i64_w, i32_w]
      rfl
     refine take_ (i := 1) (N := some 36) (v := ?_) (a' := ?_) #[true, true, false, false] rfl rfl (by kernel_rfl) (fun _ _ _ h => h) (Or.inl ⟨by rfl, ?_⟩) hHeld ?_ ?_
     rotate_left
     ·rintro w' ⟨s0, s1, s2, s3, s4, s5⟩
      go_simp
      with_reducible rfl
     rotate_left
     ·simp only [Act.put, List.setIfInBounds_toArray, List.set_cons_zero, List.set_cons_succ, i64_w, i32_w]
      rfl
     refine one_ (i := 2) (N := none) #[true, true, true, false] rfl rfl (by kernel_rfl) (by decide) (fun K hK => ?_)
     have hs62 : w61.cell? ⟨gb145, 0, none⟩ = some (.bool false) := (blk_cell BK145.out 0).trans rfl
     have hfs62 := blk_frozen BK145.out 0
     have hns62_0 := NB143_145.out
     have hns62_1 := NB144_145.out
     have hns62_3 := NB146_145.out
     have hns62_4 := NB155_145.out
     have hns62_5 := NB156_145.out
     have hms62_0 := NB145_143.out
     have hms62_1 := NB145_144.out
     have hms62_3 := NB145_146.out
     have hms62_4 := NB145_155.out
     have hms62_5 := NB145_156.out
     have hs63 : w61.cell? ⟨gb145, 1, none⟩ = some (.int .i64 0) := (blk_cell BK145.out 1).trans rfl
     have hfs63 := blk_frozen BK145.out 1
     have hns63_0 := NB143_145.out
     have hns63_1 := NB144_145.out
     have hns63_3 := NB146_145.out
     have hns63_4 := NB155_145.out
     have hns63_5 := NB156_145.out
     have hms63_0 := NB145_143.out
     have hms63_1 := NB145_144.out
     have hms63_3 := NB145_146.out
     have hms63_4 := NB145_155.out
     have hms63_5 := NB145_156.out
     have hs64 : w61.cell? ⟨gb145, 2, none⟩ = some (.int .i64 0) := (blk_cell BK145.out 2).trans rfl
     have hfs64 := blk_frozen BK145.out 2
     have hns64_0 := NB143_145.out
     have hns64_1 := NB144_145.out
     have hns64_3 := NB146_145.out
     have hns64_4 := NB155_145.out
     have hns64_5 := NB156_145.out
     have hms64_0 := NB145_143.out
     have hms64_1 := NB145_144.out
     have hms64_3 := NB145_146.out
     have hms64_4 := NB145_155.out
     have hms64_5 := NB145_156.out
     refine skip_ (w1 := ?_) (by rfl) rfl ?_ ?_
     rotate_left
     ·go_simp
      rfl
     refine hK.out _ _ ⟨((cell_far (p := ⟨gb145, _, none⟩) NB156_145.out _).trans (((cell_far (p := ⟨gb145, _, none⟩) NB156_145.out _).trans (((cell_far (p := ⟨gb145, _, none⟩) NB156_145.out _).trans (hHeld.1)))))), ((cell_far (p := ⟨gb145, _, none⟩) NB156_145.out _).trans (((cell_far (p := ⟨gb145, _, none⟩) NB156_145.out _).trans (((cell_far (p := ⟨gb145, _, none⟩) NB156_145.out _).trans (hHeld.2.1)))))), ((cell_far (p := ⟨gb145, _, none⟩) NB156_145.out _).trans (((cell_far (p := ⟨gb145, _, none⟩) NB156_145.out _).trans (((cell_far (p := ⟨gb145, _, none⟩) NB156_145.out _).trans (hHeld.2.2.1)))))), ((cell_far (p := ⟨gb145, _, none⟩) NB155_145.out _).trans (((cell_far (p := ⟨gb145, _, none⟩) NB155_145.out _).trans (((cell_far (p := ⟨gb145, _, none⟩) NB155_145.out _).trans (hHeld.2.2.2.1)))))), ((cell_far (p := ⟨gb145, _, none⟩) NB155_145.out _).trans (((cell_far (p := ⟨gb145, _, none⟩) NB155_145.out _).trans (((cell_far (p := ⟨gb145, _, none⟩) NB155_145.out _).trans (hHeld.2.2.2.2.1)))))), ((cell_far (p := ⟨gb145, _, none⟩) NB155_145.out _).trans (((cell_far (p := ⟨gb145, _, none⟩) NB155_145.out _).trans (((cell_far (p := ⟨gb145, _, none⟩) NB155_145.out _).trans (hHeld.2.2.2.2.2))))))⟩ (fun hHeld => ?_)
     clear hK K
     refine one_ (i := 3) (N := none) #[true, true, true, true] rfl rfl (by kernel_rfl) (by decide) (fun K hK => ?_)
     have hs65 : w61.cell? ⟨gb146, 0, none⟩ = some (.bool false) := (blk_cell BK146.out 0).trans rfl
     have hfs65 := blk_frozen BK146.out 0
     have hns65_0 := NB143_146.out
     have hns65_1 := NB144_146.out
     have hns65_2 := NB145_146.out
     have hns65_4 := NB155_146.out
     have hns65_5 := NB156_146.out
     have hms65_0 := NB146_143.out
     have hms65_1 := NB146_144.out
     have hms65_2 := NB146_145.out
     have hms65_4 := NB146_155.out
     have hms65_5 := NB146_156.out
     have hs66 : w61.cell? ⟨gb146, 1, none⟩ = some (.int .i64 0) := (blk_cell BK146.out 1).trans rfl
     have hfs66 := blk_frozen BK146.out 1
     have hns66_0 := NB143_146.out
     have hns66_1 := NB144_146.out
     have hns66_2 := NB145_146.out
     have hns66_4 := NB155_146.out
     have hns66_5 := NB156_146.out
     have hms66_0 := NB146_143.out
     have hms66_1 := NB146_144.out
     have hms66_2 := NB146_145.out
     have hms66_4 := NB146_155.out
     have hms66_5 := NB146_156.out
     have hs67 : w61.cell? ⟨gb146, 2, none⟩ = some (.int .i64 0) := (blk_cell BK146.out 2).trans rfl
     have hfs67 := blk_frozen BK146.out 2
     have hns67_0 := NB143_146.out
     have hns67_1 := NB144_146.out
     have hns67_2 := NB145_146.out
     have hns67_4 := NB155_146.out
     have hns67_5 := NB156_146.out
     have hms67_0 := NB146_143.out
     have hms67_1 := NB146_144.out
     have hms67_2 := NB146_145.out
     have hms67_4 := NB146_155.out
     have hms67_5 := NB146_156.out
     refine skip_ (w1 := ?_) (by rfl) rfl ?_ ?_
     rotate_left
     ·go_simp
      rfl
     refine hK.out _ _ ⟨((cell_far (p := ⟨gb146, _, none⟩) NB156_146.out _).trans (((cell_far (p := ⟨gb146, _, none⟩) NB156_146.out _).trans (((cell_far (p := ⟨gb146, _, none⟩) NB156_146.out _).trans (hHeld.1)))))), ((cell_far (p := ⟨gb146, _, none⟩) NB156_146.out _).trans (((cell_far (p := ⟨gb146, _, none⟩) NB156_146.out _).trans (((cell_far (p := ⟨gb146, _, none⟩) NB156_146.out _).trans (hHeld.2.1)))))), ((cell_far (p := ⟨gb146, _, none⟩) NB156_146.out _).trans (((cell_far (p := ⟨gb146, _, none⟩) NB156_146.out _).trans (((cell_far (p := ⟨gb146, _, none⟩) NB156_146.out _).trans (hHeld.2.2.1)))))), ((cell_far (p := ⟨gb146, _, none⟩) NB155_146.out _).trans (((cell_far (p := ⟨gb146, _, none⟩) NB155_146.out _).trans (((cell_far (p := ⟨gb146, _, none⟩) NB155_146.out _).trans (hHeld.2.2.2.1)))))), ((cell_far (p := ⟨gb146, _, none⟩) NB155_146.out _).trans (((cell_far (p := ⟨gb146, _, none⟩) NB155_146.out _).trans (((cell_far (p := ⟨gb146, _, none⟩) NB155_146.out _).trans (hHeld.2.2.2.2.1)))))), ((cell_far (p := ⟨gb146, _, none⟩) NB155_146.out _).trans (((cell_far (p := ⟨gb146, _, none⟩) NB155_146.out _).trans (((cell_far (p := ⟨gb146, _, none⟩) NB155_146.out _).trans (hHeld.2.2.2.2.2))))))⟩ (fun hHeld => ?_)
     clear hK K
     refine done_ (by kernel_rfl) ?_
     try go_wp2
     refine bodyPost_ret (results_cc rfl _ _ gb145 gb146 24 24 #[.bool t152, .int .i64 t153, .int .i64 t154] #[.bool t149, .int .i64 t150, .int .i64 t151] (0, 0) (0, 0) _ _ rfl (by (with_reducible repeat (first | apply bn_ | apply bd_ | apply ba_)); refine blk_far ?_ NB145_146.out _; (with_reducible repeat (first | apply bn_ | apply bd_ | apply ba_)); refine blk_far ?_ NB145_146.out _; (with_reducible repeat (first | apply bn_ | apply bd_ | apply ba_)); refine blk_far ?_ NB145_146.out _; (with_reducible repeat (first | apply bn_ | apply bd_ | apply ba_)); refine blk_put (cs := #[.bool t152, .int .i64 t153, .int .i64 0]) ?_ 2 _ (by first | rfl | (simp [*]; done)); (with_reducible repeat (first | apply bn_ | apply bd_ | apply ba_)); refine blk_put (cs := #[.bool t152, .int .i64 0, .int .i64 0]) ?_ 1 _ (by first | rfl | (simp [*]; done)); (with_reducible repeat (first | apply bn_ | apply bd_ | apply ba_)); refine blk_put (cs := #[.bool false, .int .i64 0, .int .i64 0]) ?_ 0 _ (by first | rfl | (simp [*]; done)); (with_reducible repeat (first | apply bn_ | apply bd_ | apply ba_)); exact BK145.out) Try.underlying24 rfl (by kernel_rfl) rfl (by (with_reducible repeat (first | apply bn_ | apply bd_ | apply ba_)); refine blk_put (cs := #[.bool t149, .int .i64 t150, .int .i64 0]) ?_ 2 _ (by first | rfl | (simp [*]; done)); (with_reducible repeat (first | apply bn_ | apply bd_ | apply ba_)); refine blk_put (cs := #[.bool t149, .int .i64 0, .int .i64 0]) ?_ 1 _ (by first | rfl | (simp [*]; done)); (with_reducible repeat (first | apply bn_ | apply bd_ | apply ba_)); refine blk_put (cs := #[.bool false, .int .i64 0, .int .i64 0]) ?_ 0 _ (by first | rfl | (simp [*]; done)); (with_reducible repeat (first | apply bn_ | apply bd_ | apply ba_)); refine blk_far ?_ NB146_145.out _; (with_reducible repeat (first | apply bn_ | apply bd_ | apply ba_)); refine blk_far ?_ NB146_145.out _; (with_reducible repeat (first | apply bn_ | apply bd_ | apply ba_)); refine blk_far ?_ NB146_145.out _; (with_reducible repeat (first | apply bn_ | apply bd_ | apply ba_)); exact BK146.out) Try.underlying24 rfl (by kernel_rfl)) rfl ?_
     exact ⟨by first | rfl | (simp [errW_none, errW_some] <;> rfl) | (simp [*, errW_none, errW_some] <;> rfl), by repeat (first | (with_reducible first | exact HB.out | apply b1_ | apply b2_ | apply b3_ | apply c_ GE143 | apply c_ GE144 | apply c_ GE145 | apply c_ GE146 | apply c_ GE155 | apply c_ GE156) | exact HB.out)⟩
    ·rw [if_neg c37] at H
     have c37b0 : (a1 == 2) = false := beq_eq_false_iff_ne.mpr c37
     have c37b1 : (a1 != 2) = true := bne_iff_ne.mpr c37
     replace H := Option.bind_eq_some_iff.mp H
     obtain ⟨⟨t157, t158, t159⟩, A680, H⟩ := H
     replace H : (if a1 = 1 then ((spec_BitTop.f a0).bind fun t162 => ((spec_l9Of.f (wrap64 (-t162)) a3_2).bind fun bt163 => ((spec_SpanMeet.f a0 a2_0 a2_1 a2_2 bt163.1 bt163.2.1 bt163.2.2).bind fun bt166 => ((spec_BitTop.f a0).bind fun t169 => ((spec_l9Of.f a2_1 t169).bind fun bt170 => ((spec_SpanMeet.f a0 a3_0 a3_1 a3_2 bt170.1 bt170.2.1 bt170.2.2).bind fun bt173 => (if bt166.1 = true then (if bt173.1 = true then (some (bt166.1, bt166.2.1, bt166.2.2, bt173.1, bt173.2.1, bt173.2.2)) else (some (false, 0, 0, false, 0, 0))) else (some (false, 0, 0, false, 0, 0))))))))) else (if t157 = true then (some (t157, t158, t159, t157, t158, t159)) else (some (false, 0, 0, false, 0, 0)))) = some (r1, r2, r3, r4, r5, r6) := H
     have A68 := A_ A680
     clear A680
     by_cases c69 : a1 = 1
     ·rw [if_pos c69] at H
      have c69b0 : (a1 == 1) = true := beq_iff_eq.mpr c69
      have c69b1 : (a1 != 1) = false := bne_eq_false_iff_eq.mpr c69
      clear c69
      replace H := Option.bind_eq_some_iff.mp H
      obtain ⟨t162, A700, H⟩ := H
      replace H : ((spec_l9Of.f (wrap64 (-t162)) a3_2).bind fun bt163 => ((spec_SpanMeet.f a0 a2_0 a2_1 a2_2 bt163.1 bt163.2.1 bt163.2.2).bind fun bt166 => ((spec_BitTop.f a0).bind fun t169 => ((spec_l9Of.f a2_1 t169).bind fun bt170 => ((spec_SpanMeet.f a0 a3_0 a3_1 a3_2 bt170.1 bt170.2.1 bt170.2.2).bind fun bt173 => (if bt166.1 = true then (if bt173.1 = true then (some (bt166.1, bt166.2.1, bt166.2.2, bt173.1, bt173.2.1, bt173.2.2)) else (some (false, 0, 0, false, 0, 0))) else (some (false, 0, 0, false, 0, 0)))))))) = some (r1, r2, r3, r4, r5, r6) := H
      have A70 := A_ A700
      clear A700
      replace H := Option.bind_eq_some_iff.mp H
      obtain ⟨⟨t163, t164, t165⟩, A710, H⟩ := H
      replace H : ((spec_SpanMeet.f a0 a2_0 a2_1 a2_2 t163 t164 t165).bind fun bt166 => ((spec_BitTop.f a0).bind fun t169 => ((spec_l9Of.f a2_1 t169).bind fun bt170 => ((spec_SpanMeet.f a0 a3_0 a3_1 a3_2 bt170.1 bt170.2.1 bt170.2.2).bind fun bt173 => (if bt166.1 = true then (if bt173.1 = true then (some (bt166.1, bt166.2.1, bt166.2.2, bt173.1, bt173.2.1, bt173.2.2)) else (some (false, 0, 0, false, 0, 0))) else (some (false, 0, 0, false, 0, 0))))))) = some (r1, r2, r3, r4, r5, r6) := H
      have A71 := A_ A710
      clear A710
      replace H := Option.bind_eq_some_iff.mp H
      obtain ⟨⟨t166, t167, t168⟩, A720, H⟩ := H
      replace H : ((spec_BitTop.f a0).bind fun t169 => ((spec_l9Of.f a2_1 t169).bind fun bt170 => ((spec_SpanMeet.f a0 a3_0 a3_1 a3_2 bt170.1 bt170.2.1 bt170.2.2).bind fun bt173 => (if t166 = true then (if bt173.1 = true then (some (t166, t167, t168, bt173.1, bt173.2.1, bt173.2.2)) else (some (false, 0, 0, false, 0, 0))) else (some (false, 0, 0, false, 0, 0)))))) = some (r1, r2, r3, r4, r5, r6) := H
      have A72 := A_ A720
      clear A720
      replace H := Option.bind_eq_some_iff.mp H
      obtain ⟨t169, A730, H⟩ := H
      replace H : ((spec_l9Of.f a2_1 t169).bind fun bt170 => ((spec_SpanMeet.f a0 a3_0 a3_1 a3_2 bt170.1 bt170.2.1 bt170.2.2).bind fun bt173 => (if t166 = true then (if bt173.1 = true then (some (t166, t167, t168, bt173.1, bt173.2.1, bt173.2.2)) else (some (false, 0, 0, false, 0, 0))) else (some (false, 0, 0, false, 0, 0))))) = some (r1, r2, r3, r4, r5, r6) := H
      have A73 := A_ A730
      clear A730
      obtain rfl : t162 = t169 := Option.some.inj (A70.out.symm.trans A73.out)
      replace H := Option.bind_eq_some_iff.mp H
      obtain ⟨⟨t170, t171, t172⟩, A740, H⟩ := H
      replace H : ((spec_SpanMeet.f a0 a3_0 a3_1 a3_2 t170 t171 t172).bind fun bt173 => (if t166 = true then (if bt173.1 = true then (some (t166, t167, t168, bt173.1, bt173.2.1, bt173.2.2)) else (some (false, 0, 0, false, 0, 0))) else (some (false, 0, 0, false, 0, 0)))) = some (r1, r2, r3, r4, r5, r6) := H
      have A74 := A_ A740
      clear A740
      replace H := Option.bind_eq_some_iff.mp H
      obtain ⟨⟨t173, t174, t175⟩, A750, H⟩ := H
      replace H : (if t166 = true then (if t173 = true then (some (t166, t167, t168, t173, t174, t175)) else (some (false, 0, 0, false, 0, 0))) else (some (false, 0, 0, false, 0, 0))) = some (r1, r2, r3, r4, r5, r6) := H
      have A75 := A_ A750
      clear A750
      by_cases c76 : t166 = true
      ·subst c76
       have H1 : (if t173 = true then (some (true, t167, t168, t173, t174, t175)) else (some (false, 0, 0, false, 0, 0))) = some (r1, r2, r3, r4, r5, r6) := by rw [if_pos rfl] at H; exact H
       clear H
       have H := H1
       clear H1
       by_cases c77 : t173 = true
       ·subst c77
        have H1 : (some (true, t167, t168, true, t174, t175)) = some (r1, r2, r3, r4, r5, r6) := by rw [if_pos rfl] at H; exact H
        clear H
        have H := H1
        clear H1
        simp only [Option.some.injEq, Prod.mk.injEq] at H
        obtain ⟨rfl, rfl, rfl, rfl, rfl, rfl⟩ := H
        have hnb78 := NB143_144.out
        have hnc78 := NB144_143.out
        have hnb79 := NB143_145.out
        have hnc79 := NB145_143.out
        have hnb80 := NB143_146.out
        have hnc80 := NB146_143.out
        have hcz81_0 : wc.cell? ⟨gb143, 0, none⟩ = some (.bool a2_0) := (blk_cell BK143.out 0).trans rfl
        have hcz81_1 : wc.cell? ⟨gb143, 1, none⟩ = some (.int .i64 a2_1) := (blk_cell BK143.out 1).trans rfl
        have hcz81_2 : wc.cell? ⟨gb143, 2, none⟩ = some (.int .i64 a2_2) := (blk_cell BK143.out 2).trans rfl
        have hfz81_0 := blk_frozen BK143.out 0
        have hfz81_1 := blk_frozen BK143.out 1
        have hfz81_2 := blk_frozen BK143.out 2
        have hnb82 := NB144_145.out
        have hnc82 := NB145_144.out
        have hnb83 := NB144_146.out
        have hnc83 := NB146_144.out
        have hcz84_0 : wc.cell? ⟨gb144, 0, none⟩ = some (.bool a3_0) := (blk_cell BK144.out 0).trans rfl
        have hcz84_1 : wc.cell? ⟨gb144, 1, none⟩ = some (.int .i64 a3_1) := (blk_cell BK144.out 1).trans rfl
        have hcz84_2 : wc.cell? ⟨gb144, 2, none⟩ = some (.int .i64 a3_2) := (blk_cell BK144.out 2).trans rfl
        have hfz84_0 := blk_frozen BK144.out 0
        have hfz84_1 := blk_frozen BK144.out 1
        have hfz84_2 := blk_frozen BK144.out 2
        try go_wp2_with (first | ((with_reducible refine gate_callee (f := 34) rfl ?_); refine goesL_ (some 40) rfl rfl Try.func34 (by kernel_rfl) rfl #[.int .i64 a0, .agg #[.bool a2_0, .int .i64 a2_1, .int .i64 a2_2], .agg #[.bool a3_0, .int .i64 a3_1, .int .i64 a3_2]] rfl (by (try simp only [List.map_toArray, List.map_cons, List.map_nil]); first | done | rfl) ?_; (with_reducible refine (spec_SpanMeet.calls a0 a2_0 a2_1 a2_2 a3_0 a3_1 a3_2 t157 t158 t159 _ A68.out).mono ?_); rintro e w85 ⟨rfl, hb⟩; refine ⟨_, rfl, ?_⟩; have n0_ := A_ (blk_below (bz_ BK143.out) hb); have n1_ := A_ (blk_below (bz_ BK144.out) hb); have n2_ := A_ (blk_below (bz_ BK145.out) hb); have n3_ := A_ (blk_below (bz_ BK146.out) hb); have n4_ := A_ (below_step (by repeat (first | (with_reducible first | exact HB.out | apply b1_ | apply b2_ | apply b3_ | apply c_ GE143 | apply c_ GE144 | apply c_ GE145 | apply c_ GE146) | exact HB.out)) hb); clear BK143 BK144 BK145 BK146 HB; have BK143 := n0_; have BK144 := n1_; have BK145 := n2_; have BK146 := n3_; have HB := n4_; clear n0_ n1_ n2_ n3_ n4_; (try clear hb); (try clear hb2); (try clear hk); (try clear hi)) | ((with_reducible refine gate_dst (N := 12) rfl ?_); refine box_event ?hg (N := 12) ?hd (cs := #[.bool false, .int .i64 0, .int .i64 0]) (t := 24) ?hr ?_; (case hd => rfl); (case hg => rfl); (case hr => first | (go_simp; done) | (go_simp; rfl)); intro gb160 hg w86 hbox hb; have n0_ := A_ (blk_below (bz_ BK143.out) hb); have n1_ := A_ (blk_below (bz_ BK144.out) hb); have n2_ := A_ (blk_below (bz_ BK145.out) hb); have n3_ := A_ (blk_below (bz_ BK146.out) hb); have n4_ := A_ (below_step (by repeat (first | (with_reducible first | exact HB.out | apply b1_ | apply b2_ | apply b3_ | apply c_ GE143 | apply c_ GE144 | apply c_ GE145 | apply c_ GE146) | exact HB.out)) hb); have n5_ := A_ (hbox); have n6_ := A_ ((by rw [hg]; exact (below_size (by repeat (first | (with_reducible first | exact HB.out | apply b1_ | apply b2_ | apply b3_ | apply c_ GE143 | apply c_ GE144 | apply c_ GE145 | apply c_ GE146) | exact HB.out))) : w.heap.size ≤ gb160)); have n7_ := n6_; have n8_ := A_ ((by rw [hg]; exact Nat.ne_of_lt (blk_lt (bz_ BK143.out)) : gb143 ≠ gb160)); have n9_ := A_ ((by rw [hg]; exact Nat.ne_of_gt (blk_lt (bz_ BK143.out)) : gb160 ≠ gb143)); have n10_ := A_ ((by rw [hg]; exact Nat.ne_of_lt (blk_lt (bz_ BK144.out)) : gb144 ≠ gb160)); have n11_ := A_ ((by rw [hg]; exact Nat.ne_of_gt (blk_lt (bz_ BK144.out)) : gb160 ≠ gb144)); have n12_ := A_ ((by rw [hg]; exact Nat.ne_of_lt (blk_lt (bz_ BK145.out)) : gb145 ≠ gb160)); have n13_ := A_ ((by rw [hg]; exact Nat.ne_of_gt (blk_lt (bz_ BK145.out)) : gb160 ≠ gb145)); have n14_ := A_ ((by rw [hg]; exact Nat.ne_of_lt (blk_lt (bz_ BK146.out)) : gb146 ≠ gb160)); have n15_ := A_ ((by rw [hg]; exact Nat.ne_of_gt (blk_lt (bz_ BK146.out)) : gb160 ≠ gb146)); clear BK143 BK144 BK145 BK146 HB; have BK143 := n0_; have BK144 := n1_; have BK145 := n2_; have BK146 := n3_; have HB := n4_; have BK160 := n5_; have GW160 := n6_; have GE160 := n7_; have NB143_160 := n8_; have NB160_143 := n9_; have NB144_160 := n10_; have NB160_144 := n11_; have NB145_160 := n12_; have NB160_145 := n13_; have NB146_160 := n14_; have NB160_146 := n15_; clear n0_ n1_ n2_ n3_ n4_ n5_ n6_ n7_ n8_ n9_ n10_ n11_ n12_ n13_ n14_ n15_; clear hb hbox hg; have hnb87 := NB160_143.out; have hnc87 := NB143_160.out; have hnb88 := NB160_144.out; have hnc88 := NB144_160.out; have hnb89 := NB160_145.out; have hnc89 := NB145_160.out; have hnb90 := NB160_146.out; have hnc90 := NB146_160.out; have hcz91_0 : w86.cell? ⟨gb160, 0, none⟩ = some (.bool false) := (blk_cell BK160.out 0).trans rfl; have hcz91_1 : w86.cell? ⟨gb160, 1, none⟩ = some (.int .i64 0) := (blk_cell BK160.out 1).trans rfl; have hcz91_2 : w86.cell? ⟨gb160, 2, none⟩ = some (.int .i64 0) := (blk_cell BK160.out 2).trans rfl; have hfz91_0 := blk_frozen BK160.out 0; have hfz91_1 := blk_frozen BK160.out 1; have hfz91_2 := blk_frozen BK160.out 2) | ((with_reducible refine gate_dst (N := 13) rfl ?_); refine box_event ?hg (N := 13) ?hd (cs := #[.bool false, .int .i64 0, .int .i64 0]) (t := 24) ?hr ?_; (case hd => rfl); (case hg => rfl); (case hr => first | (go_simp; done) | (go_simp; rfl)); intro gb161 hg w92 hbox hb; have n0_ := A_ (blk_below (g := gb143) (o := .cells #[.bool a2_0, .int .i64 a2_1, .int .i64 a2_2] 24 (0, 0)) (by (with_reducible repeat (first | apply bn_ | apply bd_ | apply ba_)); refine blk_far ?_ NB143_160.out _; (with_reducible repeat (first | apply bn_ | apply bd_ | apply ba_)); refine blk_far ?_ NB143_160.out _; (with_reducible repeat (first | apply bn_ | apply bd_ | apply ba_)); refine blk_far ?_ NB143_160.out _; (with_reducible repeat (first | apply bn_ | apply bd_ | apply ba_)); exact BK143.out) hb); have n1_ := A_ (blk_below (g := gb144) (o := .cells #[.bool a3_0, .int .i64 a3_1, .int .i64 a3_2] 24 (0, 0)) (by (with_reducible repeat (first | apply bn_ | apply bd_ | apply ba_)); refine blk_far ?_ NB144_160.out _; (with_reducible repeat (first | apply bn_ | apply bd_ | apply ba_)); refine blk_far ?_ NB144_160.out _; (with_reducible repeat (first | apply bn_ | apply bd_ | apply ba_)); refine blk_far ?_ NB144_160.out _; (with_reducible repeat (first | apply bn_ | apply bd_ | apply ba_)); exact BK144.out) hb); have n2_ := A_ (blk_below (g := gb145) (o := .cells #[.bool false, .int .i64 0, .int .i64 0] 24 (0, 0)) (by (with_reducible repeat (first | apply bn_ | apply bd_ | apply ba_)); refine blk_far ?_ NB145_160.out _; (with_reducible repeat (first | apply bn_ | apply bd_ | apply ba_)); refine blk_far ?_ NB145_160.out _; (with_reducible repeat (first | apply bn_ | apply bd_ | apply ba_)); refine blk_far ?_ NB145_160.out _; (with_reducible repeat (first | apply bn_ | apply bd_ | apply ba_)); exact BK145.out) hb); have n3_ := A_ (blk_below (g := gb146) (o := .cells #[.bool false, .int .i64 0, .int .i64 0] 24 (0, 0)) (by (with_reducible repeat (first | apply bn_ | apply bd_ | apply ba_)); refine blk_far ?_ NB146_160.out _; (with_reducible repeat (first | apply bn_ | apply bd_ | apply ba_)); refine blk_far ?_ NB146_160.out _; (with_reducible repeat (first | apply bn_ | apply bd_ | apply ba_)); refine blk_far ?_ NB146_160.out _; (with_reducible repeat (first | apply bn_ | apply bd_ | apply ba_)); exact BK146.out) hb); have n4_ := A_ (blk_below (g := gb160) (o := .cells #[.bool t157, .int .i64 t158, .int .i64 t159] 24 (0, 0)) (by (with_reducible repeat (first | apply bn_ | apply bd_ | apply ba_)); refine blk_put (cs := #[.bool t157, .int .i64 t158, .int .i64 0]) ?_ 2 _ (by first | rfl | (simp [*]; done)); (with_reducible repeat (first | apply bn_ | apply bd_ | apply ba_)); refine blk_put (cs := #[.bool t157, .int .i64 0, .int .i64 0]) ?_ 1 _ (by first | rfl | (simp [*]; done)); (with_reducible repeat (first | apply bn_ | apply bd_ | apply ba_)); refine blk_put (cs := #[.bool false, .int .i64 0, .int .i64 0]) ?_ 0 _ (by first | rfl | (simp [*]; done)); (with_reducible repeat (first | apply bn_ | apply bd_ | apply ba_)); exact BK160.out) hb); have n5_ := A_ (below_step (by repeat (first | (with_reducible first | exact HB.out | apply b1_ | apply b2_ | apply b3_ | apply c_ GE143 | apply c_ GE144 | apply c_ GE145 | apply c_ GE146 | apply c_ GE160) | exact HB.out)) hb); have n6_ := A_ (hbox); have n7_ := A_ ((by rw [hg]; exact (below_size (by repeat (first | (with_reducible first | exact HB.out | apply b1_ | apply b2_ | apply b3_ | apply c_ GE143 | apply c_ GE144 | apply c_ GE145 | apply c_ GE146 | apply c_ GE160) | exact HB.out))) : w.heap.size ≤ gb161)); have n8_ := n7_; have n9_ := A_ ((by rw [hg]; exact Nat.ne_of_lt (blk_lt (g := gb143) (o := .cells #[.bool a2_0, .int .i64 a2_1, .int .i64 a2_2] 24 (0, 0)) (by (with_reducible repeat (first | apply bn_ | apply bd_ | apply ba_)); refine blk_far ?_ NB143_160.out _; (with_reducible repeat (first | apply bn_ | apply bd_ | apply ba_)); refine blk_far ?_ NB143_160.out _; (with_reducible repeat (first | apply bn_ | apply bd_ | apply ba_)); refine blk_far ?_ NB143_160.out _; (with_reducible repeat (first | apply bn_ | apply bd_ | apply ba_)); exact BK143.out)) : gb143 ≠ gb161)); have n10_ := A_ ((by rw [hg]; exact Nat.ne_of_gt (blk_lt (g := gb143) (o := .cells #[.bool a2_0, .int .i64 a2_1, .int .i64 a2_2] 24 (0, 0)) (by (with_reducible repeat (first | apply bn_ | apply bd_ | apply ba_)); refine blk_far ?_ NB143_160.out _; (with_reducible repeat (first | apply bn_ | apply bd_ | apply ba_)); refine blk_far ?_ NB143_160.out _; (with_reducible repeat (first | apply bn_ | apply bd_ | apply ba_)); refine blk_far ?_ NB143_160.out _; (with_reducible repeat (first | apply bn_ | apply bd_ | apply ba_)); exact BK143.out)) : gb161 ≠ gb143)); have n11_ := A_ ((by rw [hg]; exact Nat.ne_of_lt (blk_lt (g := gb144) (o := .cells #[.bool a3_0, .int .i64 a3_1, .int .i64 a3_2] 24 (0, 0)) (by (with_reducible repeat (first | apply bn_ | apply bd_ | apply ba_)); refine blk_far ?_ NB144_160.out _; (with_reducible repeat (first | apply bn_ | apply bd_ | apply ba_)); refine blk_far ?_ NB144_160.out _; (with_reducible repeat (first | apply bn_ | apply bd_ | apply ba_)); refine blk_far ?_ NB144_160.out _; (with_reducible repeat (first | apply bn_ | apply bd_ | apply ba_)); exact BK144.out)) : gb144 ≠ gb161)); have n12_ := A_ ((by rw [hg]; exact Nat.ne_of_gt (blk_lt (g := gb144) (o := .cells #[.bool a3_0, .int .i64 a3_1, .int .i64 a3_2] 24 (0, 0)) (by (with_reducible repeat (first | apply bn_ | apply bd_ | apply ba_)); refine blk_far ?_ NB144_160.out _; (with_reducible repeat (first | apply bn_ | apply bd_ | apply ba_)); refine blk_far ?_ NB144_160.out _; (with_reducible repeat (first | apply bn_ | apply bd_ | apply ba_)); refine blk_far ?_ NB144_160.out _; (with_reducible repeat (first | apply bn_ | apply bd_ | apply ba_)); exact BK144.out)) : gb161 ≠ gb144)); have n13_ := A_ ((by rw [hg]; exact Nat.ne_of_lt (blk_lt (g := gb145) (o := .cells #[.bool false, .int .i64 0, .int .i64 0] 24 (0, 0)) (by (with_reducible repeat (first | apply bn_ | apply bd_ | apply ba_)); refine blk_far ?_ NB145_160.out _; (with_reducible repeat (first | apply bn_ | apply bd_ | apply ba_)); refine blk_far ?_ NB145_160.out _; (with_reducible repeat (first | apply bn_ | apply bd_ | apply ba_)); refine blk_far ?_ NB145_160.out _; (with_reducible repeat (first | apply bn_ | apply bd_ | apply ba_)); exact BK145.out)) : gb145 ≠ gb161)); have n14_ := A_ ((by rw [hg]; exact Nat.ne_of_gt (blk_lt (g := gb145) (o := .cells #[.bool false, .int .i64 0, .int .i64 0] 24 (0, 0)) (by (with_reducible repeat (first | apply bn_ | apply bd_ | apply ba_)); refine blk_far ?_ NB145_160.out _; (with_reducible repeat (first | apply bn_ | apply bd_ | apply ba_)); refine blk_far ?_ NB145_160.out _; (with_reducible repeat (first | apply bn_ | apply bd_ | apply ba_)); refine blk_far ?_ NB145_160.out _; (with_reducible repeat (first | apply bn_ | apply bd_ | apply ba_)); exact BK145.out)) : gb161 ≠ gb145)); have n15_ := A_ ((by rw [hg]; exact Nat.ne_of_lt (blk_lt (g := gb146) (o := .cells #[.bool false, .int .i64 0, .int .i64 0] 24 (0, 0)) (by (with_reducible repeat (first | apply bn_ | apply bd_ | apply ba_)); refine blk_far ?_ NB146_160.out _; (with_reducible repeat (first | apply bn_ | apply bd_ | apply ba_)); refine blk_far ?_ NB146_160.out _; (with_reducible repeat (first | apply bn_ | apply bd_ | apply ba_)); refine blk_far ?_ NB146_160.out _; (with_reducible repeat (first | apply bn_ | apply bd_ | apply ba_)); exact BK146.out)) : gb146 ≠ gb161)); have n16_ := A_ ((by rw [hg]; exact Nat.ne_of_gt (blk_lt (g := gb146) (o := .cells #[.bool false, .int .i64 0, .int .i64 0] 24 (0, 0)) (by (with_reducible repeat (first | apply bn_ | apply bd_ | apply ba_)); refine blk_far ?_ NB146_160.out _; (with_reducible repeat (first | apply bn_ | apply bd_ | apply ba_)); refine blk_far ?_ NB146_160.out _; (with_reducible repeat (first | apply bn_ | apply bd_ | apply ba_)); refine blk_far ?_ NB146_160.out _; (with_reducible repeat (first | apply bn_ | apply bd_ | apply ba_)); exact BK146.out)) : gb161 ≠ gb146)); have n17_ := A_ ((by rw [hg]; exact Nat.ne_of_lt (blk_lt (g := gb160) (o := .cells #[.bool t157, .int .i64 t158, .int .i64 t159] 24 (0, 0)) (by (with_reducible repeat (first | apply bn_ | apply bd_ | apply ba_)); refine blk_put (cs := #[.bool t157, .int .i64 t158, .int .i64 0]) ?_ 2 _ (by first | rfl | (simp [*]; done)); (with_reducible repeat (first | apply bn_ | apply bd_ | apply ba_)); refine blk_put (cs := #[.bool t157, .int .i64 0, .int .i64 0]) ?_ 1 _ (by first | rfl | (simp [*]; done)); (with_reducible repeat (first | apply bn_ | apply bd_ | apply ba_)); refine blk_put (cs := #[.bool false, .int .i64 0, .int .i64 0]) ?_ 0 _ (by first | rfl | (simp [*]; done)); (with_reducible repeat (first | apply bn_ | apply bd_ | apply ba_)); exact BK160.out)) : gb160 ≠ gb161)); have n18_ := A_ ((by rw [hg]; exact Nat.ne_of_gt (blk_lt (g := gb160) (o := .cells #[.bool t157, .int .i64 t158, .int .i64 t159] 24 (0, 0)) (by (with_reducible repeat (first | apply bn_ | apply bd_ | apply ba_)); refine blk_put (cs := #[.bool t157, .int .i64 t158, .int .i64 0]) ?_ 2 _ (by first | rfl | (simp [*]; done)); (with_reducible repeat (first | apply bn_ | apply bd_ | apply ba_)); refine blk_put (cs := #[.bool t157, .int .i64 0, .int .i64 0]) ?_ 1 _ (by first | rfl | (simp [*]; done)); (with_reducible repeat (first | apply bn_ | apply bd_ | apply ba_)); refine blk_put (cs := #[.bool false, .int .i64 0, .int .i64 0]) ?_ 0 _ (by first | rfl | (simp [*]; done)); (with_reducible repeat (first | apply bn_ | apply bd_ | apply ba_)); exact BK160.out)) : gb161 ≠ gb160)); clear BK143 BK144 BK145 BK146 BK160 HB; have BK143 := n0_; have BK144 := n1_; have BK145 := n2_; have BK146 := n3_; have BK160 := n4_; have HB := n5_; have BK161 := n6_; have GW161 := n7_; have GE161 := n8_; have NB143_161 := n9_; have NB161_143 := n10_; have NB144_161 := n11_; have NB161_144 := n12_; have NB145_161 := n13_; have NB161_145 := n14_; have NB146_161 := n15_; have NB161_146 := n16_; have NB160_161 := n17_; have NB161_160 := n18_; clear n0_ n1_ n2_ n3_ n4_ n5_ n6_ n7_ n8_ n9_ n10_ n11_ n12_ n13_ n14_ n15_ n16_ n17_ n18_; clear hb hbox hg; have hnb93 := NB161_143.out; have hnc93 := NB143_161.out; have hnb94 := NB161_144.out; have hnc94 := NB144_161.out; have hnb95 := NB161_145.out; have hnc95 := NB145_161.out; have hnb96 := NB161_146.out; have hnc96 := NB146_161.out; have hnb97 := NB161_160.out; have hnc97 := NB160_161.out; have hcz98_0 : w92.cell? ⟨gb161, 0, none⟩ = some (.bool false) := (blk_cell BK161.out 0).trans rfl; have hcz98_1 : w92.cell? ⟨gb161, 1, none⟩ = some (.int .i64 0) := (blk_cell BK161.out 1).trans rfl; have hcz98_2 : w92.cell? ⟨gb161, 2, none⟩ = some (.int .i64 0) := (blk_cell BK161.out 2).trans rfl; have hfz98_0 := blk_frozen BK161.out 0; have hfz98_1 := blk_frozen BK161.out 1; have hfz98_2 := blk_frozen BK161.out 2))
        have n0_ : Aside0 ((((w92.setCell ⟨gb161, 0, none⟩ (.bool t157)).setCell ⟨gb161, 1, none⟩ (.int .i64 t158)).setCell ⟨gb161, 2, none⟩ (.int .i64 t159)).heap[gb143]? = some (.cells #[.bool a2_0, .int .i64 a2_1, .int .i64 a2_2] 24 (0, 0))) := ⟨by (with_reducible repeat (first | apply bn_ | apply bd_ | apply ba_)); refine blk_far ?_ NB143_161.out _; (with_reducible repeat (first | apply bn_ | apply bd_ | apply ba_)); refine blk_far ?_ NB143_161.out _; (with_reducible repeat (first | apply bn_ | apply bd_ | apply ba_)); refine blk_far ?_ NB143_161.out _; (with_reducible repeat (first | apply bn_ | apply bd_ | apply ba_)); exact BK143.out⟩
        have n1_ : Aside0 ((((w92.setCell ⟨gb161, 0, none⟩ (.bool t157)).setCell ⟨gb161, 1, none⟩ (.int .i64 t158)).setCell ⟨gb161, 2, none⟩ (.int .i64 t159)).heap[gb144]? = some (.cells #[.bool a3_0, .int .i64 a3_1, .int .i64 a3_2] 24 (0, 0))) := ⟨by (with_reducible repeat (first | apply bn_ | apply bd_ | apply ba_)); refine blk_far ?_ NB144_161.out _; (with_reducible repeat (first | apply bn_ | apply bd_ | apply ba_)); refine blk_far ?_ NB144_161.out _; (with_reducible repeat (first | apply bn_ | apply bd_ | apply ba_)); refine blk_far ?_ NB144_161.out _; (with_reducible repeat (first | apply bn_ | apply bd_ | apply ba_)); exact BK144.out⟩
        have n2_ : Aside0 ((((w92.setCell ⟨gb161, 0, none⟩ (.bool t157)).setCell ⟨gb161, 1, none⟩ (.int .i64 t158)).setCell ⟨gb161, 2, none⟩ (.int .i64 t159)).heap[gb145]? = some (.cells #[.bool false, .int .i64 0, .int .i64 0] 24 (0, 0))) := ⟨by (with_reducible repeat (first | apply bn_ | apply bd_ | apply ba_)); refine blk_far ?_ NB145_161.out _; (with_reducible repeat (first | apply bn_ | apply bd_ | apply ba_)); refine blk_far ?_ NB145_161.out _; (with_reducible repeat (first | apply bn_ | apply bd_ | apply ba_)); refine blk_far ?_ NB145_161.out _; (with_reducible repeat (first | apply bn_ | apply bd_ | apply ba_)); exact BK145.out⟩
        have n3_ : Aside0 ((((w92.setCell ⟨gb161, 0, none⟩ (.bool t157)).setCell ⟨gb161, 1, none⟩ (.int .i64 t158)).setCell ⟨gb161, 2, none⟩ (.int .i64 t159)).heap[gb146]? = some (.cells #[.bool false, .int .i64 0, .int .i64 0] 24 (0, 0))) := ⟨by (with_reducible repeat (first | apply bn_ | apply bd_ | apply ba_)); refine blk_far ?_ NB146_161.out _; (with_reducible repeat (first | apply bn_ | apply bd_ | apply ba_)); refine blk_far ?_ NB146_161.out _; (with_reducible repeat (first | apply bn_ | apply bd_ | apply ba_)); refine blk_far ?_ NB146_161.out _; (with_reducible repeat (first | apply bn_ | apply bd_ | apply ba_)); exact BK146.out⟩
        have n4_ : Aside0 ((((w92.setCell ⟨gb161, 0, none⟩ (.bool t157)).setCell ⟨gb161, 1, none⟩ (.int .i64 t158)).setCell ⟨gb161, 2, none⟩ (.int .i64 t159)).heap[gb160]? = some (.cells #[.bool t157, .int .i64 t158, .int .i64 t159] 24 (0, 0))) := ⟨by (with_reducible repeat (first | apply bn_ | apply bd_ | apply ba_)); refine blk_far ?_ NB160_161.out _; (with_reducible repeat (first | apply bn_ | apply bd_ | apply ba_)); refine blk_far ?_ NB160_161.out _; (with_reducible repeat (first | apply bn_ | apply bd_ | apply ba_)); refine blk_far ?_ NB160_161.out _; (with_reducible repeat (first | apply bn_ | apply bd_ | apply ba_)); exact BK160.out⟩
        have n5_ : Aside0 ((((w92.setCell ⟨gb161, 0, none⟩ (.bool t157)).setCell ⟨gb161, 1, none⟩ (.int .i64 t158)).setCell ⟨gb161, 2, none⟩ (.int .i64 t159)).heap[gb161]? = some (.cells #[.bool t157, .int .i64 t158, .int .i64 t159] 24 (0, 0))) := ⟨by (with_reducible repeat (first | apply bn_ | apply bd_ | apply ba_)); refine blk_put (cs := #[.bool t157, .int .i64 t158, .int .i64 0]) ?_ 2 _ (by first | rfl | (simp [*]; done)); (with_reducible repeat (first | apply bn_ | apply bd_ | apply ba_)); refine blk_put (cs := #[.bool t157, .int .i64 0, .int .i64 0]) ?_ 1 _ (by first | rfl | (simp [*]; done)); (with_reducible repeat (first | apply bn_ | apply bd_ | apply ba_)); refine blk_put (cs := #[.bool false, .int .i64 0, .int .i64 0]) ?_ 0 _ (by first | rfl | (simp [*]; done)); (with_reducible repeat (first | apply bn_ | apply bd_ | apply ba_)); exact BK161.out⟩
        have n6_ : Aside0 (Below w.heap.size w (((w92.setCell ⟨gb161, 0, none⟩ (.bool t157)).setCell ⟨gb161, 1, none⟩ (.int .i64 t158)).setCell ⟨gb161, 2, none⟩ (.int .i64 t159))) := ⟨by repeat (first | (with_reducible first | exact HB.out | apply b1_ | apply b2_ | apply b3_ | apply c_ GE143 | apply c_ GE144 | apply c_ GE145 | apply c_ GE146 | apply c_ GE160 | apply c_ GE161) | exact HB.out)⟩
        (try clear BK143)
        (try clear BK144)
        (try clear BK145)
        (try clear BK146)
        (try clear BK160)
        (try clear BK161)
        (try clear HB)
        generalize (((w92.setCell ⟨gb161, 0, none⟩ (.bool t157)).setCell ⟨gb161, 1, none⟩ (.int .i64 t158)).setCell ⟨gb161, 2, none⟩ (.int .i64 t159)) = w99 at n0_ n1_ n2_ n3_ n4_ n5_ n6_ ⊢
        have BK143 := n0_
        have BK144 := n1_
        have BK145 := n2_
        have BK146 := n3_
        have BK160 := n4_
        have BK161 := n5_
        have HB := n6_
        clear n0_ n1_ n2_ n3_ n4_ n5_ n6_
        have n0_ := A_ (blk_drew BK143.out)
        have n1_ := A_ (blk_drew BK144.out)
        have n2_ := A_ (blk_drew BK145.out)
        have n3_ := A_ (blk_drew BK146.out)
        have n4_ := A_ (blk_drew BK160.out)
        have n5_ := A_ (blk_drew BK161.out)
        have n6_ := A_ (below_drew1 HB.out)
        clear BK143 BK144
        clear BK145 BK146
        clear BK160 BK161 HB
        have BK143 := n0_
        have BK144 := n1_
        have BK145 := n2_
        have BK146 := n3_
        have BK160 := n4_
        have BK161 := n5_
        have HB := n6_
        clear n0_ n1_ n2_ n3_ n4_ n5_ n6_
        refine start_ (n := 10) (S := fun w' => w'.cell? ⟨gb143, 0, none⟩ = some (.bool a2_0) ∧ w'.cell? ⟨gb143, 1, none⟩ = some (.int .i64 a2_1) ∧ w'.cell? ⟨gb143, 2, none⟩ = some (.int .i64 a2_2) ∧ w'.cell? ⟨gb144, 0, none⟩ = some (.bool a3_0) ∧ w'.cell? ⟨gb144, 1, none⟩ = some (.int .i64 a3_1) ∧ w'.cell? ⟨gb144, 2, none⟩ = some (.int .i64 a3_2)) (ds := []) #[false, false, false, false, false, false, false, false, false, false] (by kernel_rfl) rfl rfl ⟨(blk_cell BK143.out 0).trans rfl, (blk_cell BK143.out 1).trans rfl, (blk_cell BK143.out 2).trans rfl, (blk_cell BK144.out 0).trans rfl, (blk_cell BK144.out 1).trans rfl, (blk_cell BK144.out 2).trans rfl⟩ (fun hHeld => ?_); refine with_tabW spec_RelMeet.tab9 spec_RelMeet.bits9 (fun HT_ HW_ => ?_)
        generalize w99.drew = w100 at BK143 BK144 BK145 BK146 BK160 BK161 HB hHeld ⊢
        refine pure_ (i := 0) (N := some 44) (v := ?_) (a' := ?_) #[true, false, false, false, false, false, false, false, false, false] rfl rfl (any_of HT_.out (by kernel_rfl)) (fun _ _ _ h => h) (Or.inl ⟨by rfl, ?_⟩) ?_ ?_
        rotate_left
        ·intro w'
         go_simp
         with_reducible rfl
        rotate_left
        ·simp only [Act.put, List.setIfInBounds_toArray, List.set_cons_zero, List.set_cons_succ, i64_w, i32_w]
         rfl
        refine pure_ (i := 2) (N := some 46) (v := ?_) (a' := ?_) #[true, false, true, false, false, false, false, false, false, false] rfl rfl (any_of HT_.out (by kernel_rfl)) (fun _ _ _ h => h) (Or.inl ⟨by rfl, ?_⟩) ?_ ?_
        rotate_left
        ·intro w'
         go_simp
         with_reducible rfl
        rotate_left
        ·simp only [Act.put, List.setIfInBounds_toArray, List.set_cons_zero, List.set_cons_succ, i64_w, i32_w]
         rfl
        refine pure_ (i := 5) (N := some 49) (v := ?_) (a' := ?_) #[true, false, true, false, false, true, false, false, false, false] rfl rfl (any_of HT_.out (by kernel_rfl)) (fun _ _ _ h => h) (Or.inl ⟨by rfl, ?_⟩) ?_ ?_
        rotate_left
        ·intro w'
         go_simp
         with_reducible rfl
        rotate_left
        ·simp only [Act.put, List.setIfInBounds_toArray, List.set_cons_zero, List.set_cons_succ, i64_w, i32_w]
         rfl
        refine take_ (i := 1) (N := some 45) (v := ?_) (a' := ?_) #[true, true, true, false, false, true, false, false, false, false] rfl rfl (take_ofW HT_.out HW_.out (by kernel_rfl)) (fun _ _ _ h => h) (Or.inl ⟨by rfl, ?_⟩) hHeld ?_ ?_
        rotate_left
        ·rintro w' ⟨s0, s1, s2, s3, s4, s5⟩
         go_simp
         with_reducible rfl
        rotate_left
        ·simp only [Act.put, List.setIfInBounds_toArray, List.set_cons_zero, List.set_cons_succ, i64_w, i32_w]
         rfl
        refine take_ (i := 6) (N := some 50) (v := ?_) (a' := ?_) #[true, true, true, false, false, true, true, false, false, false] rfl rfl (take_ofW HT_.out HW_.out (by kernel_rfl)) (fun _ _ _ h => h) (Or.inl ⟨by rfl, ?_⟩) hHeld ?_ ?_
        rotate_left
        ·rintro w' ⟨s0, s1, s2, s3, s4, s5⟩
         go_simp
         with_reducible rfl
        rotate_left
        ·simp only [Act.put, List.setIfInBounds_toArray, List.set_cons_zero, List.set_cons_succ, i64_w, i32_w]
         rfl
        refine one_ (i := 3) (N := some 47) #[true, true, true, true, false, true, true, false, false, false] rfl rfl (one_of HT_.out (by kernel_rfl)) (by decide) (fun K hK => ?_)
        refine goes_ Try.func36 (by kernel_rfl) rfl #[.int .i64 a0] (by rfl) rfl rfl (by (try simp only [List.map_toArray, List.map_cons, List.map_nil]); first | done | rfl) ?_
        with_reducible refine (spec_BitTop.calls a0 t162 _ A70.out).mono ?_
        rintro e w' ⟨rfl, ⟨nd, rfl⟩⟩
        refine ⟨_, rfl, ?_⟩
        refine hK.out _ _ ⟨(blk_cell BK143.out 0).trans rfl, (blk_cell BK143.out 1).trans rfl, (blk_cell BK143.out 2).trans rfl, (blk_cell BK144.out 0).trans rfl, (blk_cell BK144.out 1).trans rfl, (blk_cell BK144.out 2).trans rfl⟩ (fun hHeld => ?_)
        clear hK K
        refine norm_ (a' := ?_) ?_ ?_
        rotate_left
        ·show Act.put _ (some 47) _ = _
         simp only [Act.put, List.setIfInBounds_toArray, List.set_cons_zero, List.set_cons_succ, i64_w, i32_w]
         rfl
        refine pure_ (i := 4) (N := some 48) (v := ?_) (a' := ?_) #[true, true, true, true, true, true, true, false, false, false] rfl rfl (any_of HT_.out (by kernel_rfl)) (fun _ _ _ h => h) (Or.inl ⟨by rfl, ?_⟩) ?_ ?_
        rotate_left
        ·intro w'
         go_simp
         with_reducible rfl
        rotate_left
        ·simp only [Act.put, List.setIfInBounds_toArray, List.set_cons_zero, List.set_cons_succ, i64_w, i32_w]
         rfl
        refine one_ (i := 7) (N := some 51) #[true, true, true, true, true, true, true, true, false, false] rfl rfl (one_of HT_.out (by kernel_rfl)) (by decide) (fun K hK => ?_)
        refine goes_ Try.func35 (by kernel_rfl) rfl #[.int .i64 (wrap64 (-t162)), .int .i64 a3_2] (by rfl) rfl rfl (by (try simp only [List.map_toArray, List.map_cons, List.map_nil]); first | done | rfl) ?_
        with_reducible refine (spec_l9Of.calls (wrap64 (-t162)) a3_2 t163 t164 t165 _ A71.out).mono ?_
        rintro e w101 ⟨rfl, hb⟩
        refine ⟨_, rfl, ?_⟩
        have n0_ := A_ (blk_below (bz_ BK143.out) hb)
        have n1_ := A_ (blk_below (bz_ BK144.out) hb)
        have n2_ := A_ (blk_below (bz_ BK145.out) hb)
        have n3_ := A_ (blk_below (bz_ BK146.out) hb)
        have n4_ := A_ (blk_below (bz_ BK160.out) hb)
        have n5_ := A_ (blk_below (bz_ BK161.out) hb)
        have n6_ := A_ (below_step (by repeat (first | (with_reducible first | exact HB.out | apply b1_ | apply b2_ | apply b3_ | apply c_ GE143 | apply c_ GE144 | apply c_ GE145 | apply c_ GE146 | apply c_ GE160 | apply c_ GE161) | exact HB.out)) hb)
        clear BK143 BK144
        clear BK145 BK146
        clear BK160 BK161 HB
        have BK143 := n0_
        have BK144 := n1_
        have BK145 := n2_
        have BK146 := n3_
        have BK160 := n4_
        have BK161 := n5_
        have HB := n6_
        clear n0_ n1_ n2_ n3_ n4_ n5_ n6_
        (try clear hb)
        (try clear hb2)
        (try clear hk)
        (try clear hi)
        refine hK.out _ _ ⟨(blk_cell BK143.out 0).trans rfl, (blk_cell BK143.out 1).trans rfl, (blk_cell BK143.out 2).trans rfl, (blk_cell BK144.out 0).trans rfl, (blk_cell BK144.out 1).trans rfl, (blk_cell BK144.out 2).trans rfl⟩ (fun hHeld => ?_)
        clear hK K
        refine norm_ (a' := ?_) ?_ ?_
        rotate_left
        ·show Act.put _ (some 51) _ = _
         simp only [Act.put, List.setIfInBounds_toArray, List.set_cons_zero, List.set_cons_succ, i64_w, i32_w]
         rfl
        refine one_ (i := 8) (N := some 52) #[true, true, true, true, true, true, true, true, true, false] rfl rfl (one_of HT_.out (by kernel_rfl)) (by decide) (fun K hK => ?_)
        refine goes_ Try.func34 (by kernel_rfl) rfl #[.int .i64 a0, .agg #[.bool a2_0, .int .i64 a2_1, .int .i64 a2_2], .agg #[.bool t163, .int .i64 t164, .int .i64 t165]] (by rfl) rfl rfl (by (try simp only [List.map_toArray, List.map_cons, List.map_nil]); first | done | rfl) ?_
        with_reducible refine (spec_SpanMeet.calls a0 a2_0 a2_1 a2_2 t163 t164 t165 true t167 t168 _ A72.out).mono ?_
        rintro e w102 ⟨rfl, hb⟩
        refine ⟨_, rfl, ?_⟩
        have n0_ := A_ (blk_below (bz_ BK143.out) hb)
        have n1_ := A_ (blk_below (bz_ BK144.out) hb)
        have n2_ := A_ (blk_below (bz_ BK145.out) hb)
        have n3_ := A_ (blk_below (bz_ BK146.out) hb)
        have n4_ := A_ (blk_below (bz_ BK160.out) hb)
        have n5_ := A_ (blk_below (bz_ BK161.out) hb)
        have n6_ := A_ (below_step (by repeat (first | (with_reducible first | exact HB.out | apply b1_ | apply b2_ | apply b3_ | apply c_ GE143 | apply c_ GE144 | apply c_ GE145 | apply c_ GE146 | apply c_ GE160 | apply c_ GE161) | exact HB.out)) hb)
        clear BK143 BK144
        clear BK145 BK146
        clear BK160 BK161 HB
        have BK143 := n0_
        have BK144 := n1_
        have BK145 := n2_
        have BK146 := n3_
        have BK160 := n4_
        have BK161 := n5_
        have HB := n6_
        clear n0_ n1_ n2_ n3_ n4_ n5_ n6_
        (try clear hb)
        (try clear hb2)
        (try clear hk)
        (try clear hi)
        refine hK.out _ _ ⟨(blk_cell BK143.out 0).trans rfl, (blk_cell BK143.out 1).trans rfl, (blk_cell BK143.out 2).trans rfl, (blk_cell BK144.out 0).trans rfl, (blk_cell BK144.out 1).trans rfl, (blk_cell BK144.out 2).trans rfl⟩ (fun hHeld => ?_)
        clear hK K
        refine norm_ (a' := ?_) ?_ ?_
        rotate_left
        ·show Act.put _ (some 52) _ = _
         simp only [Act.put, List.setIfInBounds_toArray, List.set_cons_zero, List.set_cons_succ, i64_w, i32_w]
         rfl
        refine one_ (i := 9) (N := none) #[true, true, true, true, true, true, true, true, true, true] rfl rfl (one_of HT_.out (by kernel_rfl)) (by decide) (fun K hK => ?_)
        have hs103 : w102.cell? ⟨gb160, 0, none⟩ = some (.bool t157) := (blk_cell BK160.out 0).trans rfl
        have hfs103 := blk_frozen BK160.out 0
        have hns103_0 := NB143_160.out
        have hns103_1 := NB144_160.out
        have hns103_2 := NB145_160.out
        have hns103_3 := NB146_160.out
        have hns103_5 := NB161_160.out
        have hms103_0 := NB160_143.out
        have hms103_1 := NB160_144.out
        have hms103_2 := NB160_145.out
        have hms103_3 := NB160_146.out
        have hms103_5 := NB160_161.out
        have hs104 : w102.cell? ⟨gb160, 1, none⟩ = some (.int .i64 t158) := (blk_cell BK160.out 1).trans rfl
        have hfs104 := blk_frozen BK160.out 1
        have hns104_0 := NB143_160.out
        have hns104_1 := NB144_160.out
        have hns104_2 := NB145_160.out
        have hns104_3 := NB146_160.out
        have hns104_5 := NB161_160.out
        have hms104_0 := NB160_143.out
        have hms104_1 := NB160_144.out
        have hms104_2 := NB160_145.out
        have hms104_3 := NB160_146.out
        have hms104_5 := NB160_161.out
        have hs105 : w102.cell? ⟨gb160, 2, none⟩ = some (.int .i64 t159) := (blk_cell BK160.out 2).trans rfl
        have hfs105 := blk_frozen BK160.out 2
        have hns105_0 := NB143_160.out
        have hns105_1 := NB144_160.out
        have hns105_2 := NB145_160.out
        have hns105_3 := NB146_160.out
        have hns105_5 := NB161_160.out
        have hms105_0 := NB160_143.out
        have hms105_1 := NB160_144.out
        have hms105_2 := NB160_145.out
        have hms105_3 := NB160_146.out
        have hms105_5 := NB160_161.out
        refine skip_ (w1 := ?_) (by rfl) rfl ?_ ?_
        rotate_left
        ·go_simp
         rfl
        refine hK.out _ _ ⟨((cell_far (p := ⟨gb160, _, none⟩) NB143_160.out _).trans (((cell_far (p := ⟨gb160, _, none⟩) NB143_160.out _).trans (((cell_far (p := ⟨gb160, _, none⟩) NB143_160.out _).trans (hHeld.1)))))), ((cell_far (p := ⟨gb160, _, none⟩) NB143_160.out _).trans (((cell_far (p := ⟨gb160, _, none⟩) NB143_160.out _).trans (((cell_far (p := ⟨gb160, _, none⟩) NB143_160.out _).trans (hHeld.2.1)))))), ((cell_far (p := ⟨gb160, _, none⟩) NB143_160.out _).trans (((cell_far (p := ⟨gb160, _, none⟩) NB143_160.out _).trans (((cell_far (p := ⟨gb160, _, none⟩) NB143_160.out _).trans (hHeld.2.2.1)))))), ((cell_far (p := ⟨gb160, _, none⟩) NB144_160.out _).trans (((cell_far (p := ⟨gb160, _, none⟩) NB144_160.out _).trans (((cell_far (p := ⟨gb160, _, none⟩) NB144_160.out _).trans (hHeld.2.2.2.1)))))), ((cell_far (p := ⟨gb160, _, none⟩) NB144_160.out _).trans (((cell_far (p := ⟨gb160, _, none⟩) NB144_160.out _).trans (((cell_far (p := ⟨gb160, _, none⟩) NB144_160.out _).trans (hHeld.2.2.2.2.1)))))), ((cell_far (p := ⟨gb160, _, none⟩) NB144_160.out _).trans (((cell_far (p := ⟨gb160, _, none⟩) NB144_160.out _).trans (((cell_far (p := ⟨gb160, _, none⟩) NB144_160.out _).trans (hHeld.2.2.2.2.2))))))⟩ (fun hHeld => ?_)
        clear hK K
        refine done_ (done_of HT_.out (by kernel_rfl)) ?_
        try go_wp2
        have n0_ : Aside0 ((((w102.setCell ⟨gb160, 0, none⟩ (.bool true)).setCell ⟨gb160, 1, none⟩ (.int .i64 t167)).setCell ⟨gb160, 2, none⟩ (.int .i64 t168)).heap[gb143]? = some (.cells #[.bool a2_0, .int .i64 a2_1, .int .i64 a2_2] 24 (0, 0))) := ⟨by (with_reducible repeat (first | apply bn_ | apply bd_ | apply ba_)); refine blk_far ?_ NB143_160.out _; (with_reducible repeat (first | apply bn_ | apply bd_ | apply ba_)); refine blk_far ?_ NB143_160.out _; (with_reducible repeat (first | apply bn_ | apply bd_ | apply ba_)); refine blk_far ?_ NB143_160.out _; (with_reducible repeat (first | apply bn_ | apply bd_ | apply ba_)); exact BK143.out⟩
        have n1_ : Aside0 ((((w102.setCell ⟨gb160, 0, none⟩ (.bool true)).setCell ⟨gb160, 1, none⟩ (.int .i64 t167)).setCell ⟨gb160, 2, none⟩ (.int .i64 t168)).heap[gb144]? = some (.cells #[.bool a3_0, .int .i64 a3_1, .int .i64 a3_2] 24 (0, 0))) := ⟨by (with_reducible repeat (first | apply bn_ | apply bd_ | apply ba_)); refine blk_far ?_ NB144_160.out _; (with_reducible repeat (first | apply bn_ | apply bd_ | apply ba_)); refine blk_far ?_ NB144_160.out _; (with_reducible repeat (first | apply bn_ | apply bd_ | apply ba_)); refine blk_far ?_ NB144_160.out _; (with_reducible repeat (first | apply bn_ | apply bd_ | apply ba_)); exact BK144.out⟩
        have n2_ : Aside0 ((((w102.setCell ⟨gb160, 0, none⟩ (.bool true)).setCell ⟨gb160, 1, none⟩ (.int .i64 t167)).setCell ⟨gb160, 2, none⟩ (.int .i64 t168)).heap[gb145]? = some (.cells #[.bool false, .int .i64 0, .int .i64 0] 24 (0, 0))) := ⟨by (with_reducible repeat (first | apply bn_ | apply bd_ | apply ba_)); refine blk_far ?_ NB145_160.out _; (with_reducible repeat (first | apply bn_ | apply bd_ | apply ba_)); refine blk_far ?_ NB145_160.out _; (with_reducible repeat (first | apply bn_ | apply bd_ | apply ba_)); refine blk_far ?_ NB145_160.out _; (with_reducible repeat (first | apply bn_ | apply bd_ | apply ba_)); exact BK145.out⟩
        have n3_ : Aside0 ((((w102.setCell ⟨gb160, 0, none⟩ (.bool true)).setCell ⟨gb160, 1, none⟩ (.int .i64 t167)).setCell ⟨gb160, 2, none⟩ (.int .i64 t168)).heap[gb146]? = some (.cells #[.bool false, .int .i64 0, .int .i64 0] 24 (0, 0))) := ⟨by (with_reducible repeat (first | apply bn_ | apply bd_ | apply ba_)); refine blk_far ?_ NB146_160.out _; (with_reducible repeat (first | apply bn_ | apply bd_ | apply ba_)); refine blk_far ?_ NB146_160.out _; (with_reducible repeat (first | apply bn_ | apply bd_ | apply ba_)); refine blk_far ?_ NB146_160.out _; (with_reducible repeat (first | apply bn_ | apply bd_ | apply ba_)); exact BK146.out⟩
        have n4_ : Aside0 ((((w102.setCell ⟨gb160, 0, none⟩ (.bool true)).setCell ⟨gb160, 1, none⟩ (.int .i64 t167)).setCell ⟨gb160, 2, none⟩ (.int .i64 t168)).heap[gb160]? = some (.cells #[.bool true, .int .i64 t167, .int .i64 t168] 24 (0, 0))) := ⟨by (with_reducible repeat (first | apply bn_ | apply bd_ | apply ba_)); refine blk_put (cs := #[.bool true, .int .i64 t167, .int .i64 t159]) ?_ 2 _ (by first | rfl | (simp [*]; done)); (with_reducible repeat (first | apply bn_ | apply bd_ | apply ba_)); refine blk_put (cs := #[.bool true, .int .i64 t158, .int .i64 t159]) ?_ 1 _ (by first | rfl | (simp [*]; done)); (with_reducible repeat (first | apply bn_ | apply bd_ | apply ba_)); refine blk_put (cs := #[.bool t157, .int .i64 t158, .int .i64 t159]) ?_ 0 _ (by first | rfl | (simp [*]; done)); (with_reducible repeat (first | apply bn_ | apply bd_ | apply ba_)); exact BK160.out⟩
        have n5_ : Aside0 ((((w102.setCell ⟨gb160, 0, none⟩ (.bool true)).setCell ⟨gb160, 1, none⟩ (.int .i64 t167)).setCell ⟨gb160, 2, none⟩ (.int .i64 t168)).heap[gb161]? = some (.cells #[.bool t157, .int .i64 t158, .int .i64 t159] 24 (0, 0))) := ⟨by (with_reducible repeat (first | apply bn_ | apply bd_ | apply ba_)); refine blk_far ?_ NB161_160.out _; (with_reducible repeat (first | apply bn_ | apply bd_ | apply ba_)); refine blk_far ?_ NB161_160.out _; (with_reducible repeat (first | apply bn_ | apply bd_ | apply ba_)); refine blk_far ?_ NB161_160.out _; (with_reducible repeat (first | apply bn_ | apply bd_ | apply ba_)); exact BK161.out⟩
        have n6_ : Aside0 (Below w.heap.size w (((w102.setCell ⟨gb160, 0, none⟩ (.bool true)).setCell ⟨gb160, 1, none⟩ (.int .i64 t167)).setCell ⟨gb160, 2, none⟩ (.int .i64 t168))) := ⟨by repeat (first | (with_reducible first | exact HB.out | apply b1_ | apply b2_ | apply b3_ | apply c_ GE143 | apply c_ GE144 | apply c_ GE145 | apply c_ GE146 | apply c_ GE160 | apply c_ GE161) | exact HB.out)⟩
        (try clear BK143)
        (try clear BK144)
        (try clear BK145)
        (try clear BK146)
        (try clear BK160)
        (try clear BK161)
        (try clear HB)
        generalize (((w102.setCell ⟨gb160, 0, none⟩ (.bool true)).setCell ⟨gb160, 1, none⟩ (.int .i64 t167)).setCell ⟨gb160, 2, none⟩ (.int .i64 t168)) = w106 at n0_ n1_ n2_ n3_ n4_ n5_ n6_ ⊢
        have BK143 := n0_
        have BK144 := n1_
        have BK145 := n2_
        have BK146 := n3_
        have BK160 := n4_
        have BK161 := n5_
        have HB := n6_
        clear n0_ n1_ n2_ n3_ n4_ n5_ n6_
        have n0_ := A_ (blk_drew BK143.out)
        have n1_ := A_ (blk_drew BK144.out)
        have n2_ := A_ (blk_drew BK145.out)
        have n3_ := A_ (blk_drew BK146.out)
        have n4_ := A_ (blk_drew BK160.out)
        have n5_ := A_ (blk_drew BK161.out)
        have n6_ := A_ (below_drew1 HB.out)
        clear BK143 BK144
        clear BK145 BK146
        clear BK160 BK161 HB
        have BK143 := n0_
        have BK144 := n1_
        have BK145 := n2_
        have BK146 := n3_
        have BK160 := n4_
        have BK161 := n5_
        have HB := n6_
        clear n0_ n1_ n2_ n3_ n4_ n5_ n6_
        refine start_ (n := 9) (S := fun w' => w'.cell? ⟨gb144, 0, none⟩ = some (.bool a3_0) ∧ w'.cell? ⟨gb144, 1, none⟩ = some (.int .i64 a3_1) ∧ w'.cell? ⟨gb144, 2, none⟩ = some (.int .i64 a3_2) ∧ w'.cell? ⟨gb143, 0, none⟩ = some (.bool a2_0) ∧ w'.cell? ⟨gb143, 1, none⟩ = some (.int .i64 a2_1) ∧ w'.cell? ⟨gb143, 2, none⟩ = some (.int .i64 a2_2)) (ds := []) #[false, false, false, false, false, false, false, false, false] (by kernel_rfl) rfl rfl ⟨(blk_cell BK144.out 0).trans rfl, (blk_cell BK144.out 1).trans rfl, (blk_cell BK144.out 2).trans rfl, (blk_cell BK143.out 0).trans rfl, (blk_cell BK143.out 1).trans rfl, (blk_cell BK143.out 2).trans rfl⟩ (fun hHeld => ?_); refine with_tabW spec_RelMeet.tab10 spec_RelMeet.bits10 (fun HT_ HW_ => ?_)
        generalize w106.drew = w107 at BK143 BK144 BK145 BK146 BK160 BK161 HB hHeld ⊢
        refine pure_ (i := 0) (N := some 53) (v := ?_) (a' := ?_) #[true, false, false, false, false, false, false, false, false] rfl rfl (any_of HT_.out (by kernel_rfl)) (fun _ _ _ h => h) (Or.inl ⟨by rfl, ?_⟩) ?_ ?_
        rotate_left
        ·intro w'
         go_simp
         with_reducible rfl
        rotate_left
        ·simp only [Act.put, List.setIfInBounds_toArray, List.set_cons_zero, List.set_cons_succ, i64_w, i32_w]
         rfl
        refine pure_ (i := 2) (N := some 55) (v := ?_) (a' := ?_) #[true, false, true, false, false, false, false, false, false] rfl rfl (any_of HT_.out (by kernel_rfl)) (fun _ _ _ h => h) (Or.inl ⟨by rfl, ?_⟩) ?_ ?_
        rotate_left
        ·intro w'
         go_simp
         with_reducible rfl
        rotate_left
        ·simp only [Act.put, List.setIfInBounds_toArray, List.set_cons_zero, List.set_cons_succ, i64_w, i32_w]
         rfl
        refine pure_ (i := 4) (N := some 57) (v := ?_) (a' := ?_) #[true, false, true, false, true, false, false, false, false] rfl rfl (any_of HT_.out (by kernel_rfl)) (fun _ _ _ h => h) (Or.inl ⟨by rfl, ?_⟩) ?_ ?_
        rotate_left
        ·intro w'
         go_simp
         with_reducible rfl
        rotate_left
        ·simp only [Act.put, List.setIfInBounds_toArray, List.set_cons_zero, List.set_cons_succ, i64_w, i32_w]
         rfl
        refine take_ (i := 1) (N := some 54) (v := ?_) (a' := ?_) #[true, true, true, false, true, false, false, false, false] rfl rfl (take_ofW HT_.out HW_.out (by kernel_rfl)) (fun _ _ _ h => h) (Or.inl ⟨by rfl, ?_⟩) hHeld ?_ ?_
        rotate_left
        ·rintro w' ⟨s0, s1, s2, s3, s4, s5⟩
         go_simp
         with_reducible rfl
        rotate_left
        ·simp only [Act.put, List.setIfInBounds_toArray, List.set_cons_zero, List.set_cons_succ, i64_w, i32_w]
         rfl
        refine take_ (i := 3) (N := some 56) (v := ?_) (a' := ?_) #[true, true, true, true, true, false, false, false, false] rfl rfl (take_ofW HT_.out HW_.out (by kernel_rfl)) (fun _ _ _ h => h) (Or.inl ⟨by rfl, ?_⟩) hHeld ?_ ?_
        rotate_left
        ·rintro w' ⟨s0, s1, s2, s3, s4, s5⟩
         go_simp
         with_reducible rfl
        rotate_left
        ·simp only [Act.put, List.setIfInBounds_toArray, List.set_cons_zero, List.set_cons_succ, i64_w, i32_w]
         rfl
        refine one_ (i := 5) (N := some 58) #[true, true, true, true, true, true, false, false, false] rfl rfl (one_of HT_.out (by kernel_rfl)) (by decide) (fun K hK => ?_)
        refine goes_ Try.func36 (by kernel_rfl) rfl #[.int .i64 a0] (by rfl) rfl rfl (by (try simp only [List.map_toArray, List.map_cons, List.map_nil]); first | done | rfl) ?_
        with_reducible refine (spec_BitTop.calls a0 t162 _ A73.out).mono ?_
        rintro e w' ⟨rfl, ⟨nd, rfl⟩⟩
        refine ⟨_, rfl, ?_⟩
        refine hK.out _ _ ⟨(blk_cell BK144.out 0).trans rfl, (blk_cell BK144.out 1).trans rfl, (blk_cell BK144.out 2).trans rfl, (blk_cell BK143.out 0).trans rfl, (blk_cell BK143.out 1).trans rfl, (blk_cell BK143.out 2).trans rfl⟩ (fun hHeld => ?_)
        clear hK K
        refine norm_ (a' := ?_) ?_ ?_
        rotate_left
        ·show Act.put _ (some 58) _ = _
         simp only [Act.put, List.setIfInBounds_toArray, List.set_cons_zero, List.set_cons_succ, i64_w, i32_w]
         rfl
        refine one_ (i := 6) (N := some 59) #[true, true, true, true, true, true, true, false, false] rfl rfl (one_of HT_.out (by kernel_rfl)) (by decide) (fun K hK => ?_)
        refine goes_ Try.func35 (by kernel_rfl) rfl #[.int .i64 a2_1, .int .i64 t162] (by rfl) rfl rfl (by (try simp only [List.map_toArray, List.map_cons, List.map_nil]); first | done | rfl) ?_
        with_reducible refine (spec_l9Of.calls a2_1 t162 t170 t171 t172 _ A74.out).mono ?_
        rintro e w108 ⟨rfl, hb⟩
        refine ⟨_, rfl, ?_⟩
        have n0_ := A_ (blk_below (bz_ BK143.out) hb)
        have n1_ := A_ (blk_below (bz_ BK144.out) hb)
        have n2_ := A_ (blk_below (bz_ BK145.out) hb)
        have n3_ := A_ (blk_below (bz_ BK146.out) hb)
        have n4_ := A_ (blk_below (bz_ BK160.out) hb)
        have n5_ := A_ (blk_below (bz_ BK161.out) hb)
        have n6_ := A_ (below_step (by repeat (first | (with_reducible first | exact HB.out | apply b1_ | apply b2_ | apply b3_ | apply c_ GE143 | apply c_ GE144 | apply c_ GE145 | apply c_ GE146 | apply c_ GE160 | apply c_ GE161) | exact HB.out)) hb)
        clear BK143 BK144
        clear BK145 BK146
        clear BK160 BK161 HB
        have BK143 := n0_
        have BK144 := n1_
        have BK145 := n2_
        have BK146 := n3_
        have BK160 := n4_
        have BK161 := n5_
        have HB := n6_
        clear n0_ n1_ n2_ n3_ n4_ n5_ n6_
        (try clear hb)
        (try clear hb2)
        (try clear hk)
        (try clear hi)
        refine hK.out _ _ ⟨(blk_cell BK144.out 0).trans rfl, (blk_cell BK144.out 1).trans rfl, (blk_cell BK144.out 2).trans rfl, (blk_cell BK143.out 0).trans rfl, (blk_cell BK143.out 1).trans rfl, (blk_cell BK143.out 2).trans rfl⟩ (fun hHeld => ?_)
        clear hK K
        refine norm_ (a' := ?_) ?_ ?_
        rotate_left
        ·show Act.put _ (some 59) _ = _
         simp only [Act.put, List.setIfInBounds_toArray, List.set_cons_zero, List.set_cons_succ, i64_w, i32_w]
         rfl
        refine one_ (i := 7) (N := some 60) #[true, true, true, true, true, true, true, true, false] rfl rfl (one_of HT_.out (by kernel_rfl)) (by decide) (fun K hK => ?_)
        refine goes_ Try.func34 (by kernel_rfl) rfl #[.int .i64 a0, .agg #[.bool a3_0, .int .i64 a3_1, .int .i64 a3_2], .agg #[.bool t170, .int .i64 t171, .int .i64 t172]] (by rfl) rfl rfl (by (try simp only [List.map_toArray, List.map_cons, List.map_nil]); first | done | rfl) ?_
        with_reducible refine (spec_SpanMeet.calls a0 a3_0 a3_1 a3_2 t170 t171 t172 true t174 t175 _ A75.out).mono ?_
        rintro e w109 ⟨rfl, hb⟩
        refine ⟨_, rfl, ?_⟩
        have n0_ := A_ (blk_below (bz_ BK143.out) hb)
        have n1_ := A_ (blk_below (bz_ BK144.out) hb)
        have n2_ := A_ (blk_below (bz_ BK145.out) hb)
        have n3_ := A_ (blk_below (bz_ BK146.out) hb)
        have n4_ := A_ (blk_below (bz_ BK160.out) hb)
        have n5_ := A_ (blk_below (bz_ BK161.out) hb)
        have n6_ := A_ (below_step (by repeat (first | (with_reducible first | exact HB.out | apply b1_ | apply b2_ | apply b3_ | apply c_ GE143 | apply c_ GE144 | apply c_ GE145 | apply c_ GE146 | apply c_ GE160 | apply c_ GE161) | exact HB.out)) hb)
        clear BK143 BK144
        clear BK145 BK146
        clear BK160 BK161 HB
        have BK143 := n0_
        have BK144 := n1_
        have BK145 := n2_
        have BK146 := n3_
        have BK160 := n4_
        have BK161 := n5_
        have HB := n6_
        clear n0_ n1_ n2_ n3_ n4_ n5_ n6_
        (try clear hb)
        (try clear hb2)
        (try clear hk)
        (try clear hi)
        refine hK.out _ _ ⟨(blk_cell BK144.out 0).trans rfl, (blk_cell BK144.out 1).trans rfl, (blk_cell BK144.out 2).trans rfl, (blk_cell BK143.out 0).trans rfl, (blk_cell BK143.out 1).trans rfl, (blk_cell BK143.out 2).trans rfl⟩ (fun hHeld => ?_)
        clear hK K
        refine norm_ (a' := ?_) ?_ ?_
        rotate_left
        ·show Act.put _ (some 60) _ = _
         simp only [Act.put, List.setIfInBounds_toArray, List.set_cons_zero, List.set_cons_succ, i64_w, i32_w]
         rfl
        refine one_ (i := 8) (N := none) #[true, true, true, true, true, true, true, true, true] rfl rfl (one_of HT_.out (by kernel_rfl)) (by decide) (fun K hK => ?_)
        have hs110 : w109.cell? ⟨gb161, 0, none⟩ = some (.bool t157) := (blk_cell BK161.out 0).trans rfl
        have hfs110 := blk_frozen BK161.out 0
        have hns110_0 := NB143_161.out
        have hns110_1 := NB144_161.out
        have hns110_2 := NB145_161.out
        have hns110_3 := NB146_161.out
        have hns110_4 := NB160_161.out
        have hms110_0 := NB161_143.out
        have hms110_1 := NB161_144.out
        have hms110_2 := NB161_145.out
        have hms110_3 := NB161_146.out
        have hms110_4 := NB161_160.out
        have hs111 : w109.cell? ⟨gb161, 1, none⟩ = some (.int .i64 t158) := (blk_cell BK161.out 1).trans rfl
        have hfs111 := blk_frozen BK161.out 1
        have hns111_0 := NB143_161.out
        have hns111_1 := NB144_161.out
        have hns111_2 := NB145_161.out
        have hns111_3 := NB146_161.out
        have hns111_4 := NB160_161.out
        have hms111_0 := NB161_143.out
        have hms111_1 := NB161_144.out
        have hms111_2 := NB161_145.out
        have hms111_3 := NB161_146.out
        have hms111_4 := NB161_160.out
        have hs112 : w109.cell? ⟨gb161, 2, none⟩ = some (.int .i64 t159) := (blk_cell BK161.out 2).trans rfl
        have hfs112 := blk_frozen BK161.out 2
        have hns112_0 := NB143_161.out
        have hns112_1 := NB144_161.out
        have hns112_2 := NB145_161.out
        have hns112_3 := NB146_161.out
        have hns112_4 := NB160_161.out
        have hms112_0 := NB161_143.out
        have hms112_1 := NB161_144.out
        have hms112_2 := NB161_145.out
        have hms112_3 := NB161_146.out
        have hms112_4 := NB161_160.out
        refine skip_ (w1 := ?_) (by rfl) rfl ?_ ?_
        rotate_left
        ·go_simp
         rfl
        refine hK.out _ _ ⟨((cell_far (p := ⟨gb161, _, none⟩) NB144_161.out _).trans (((cell_far (p := ⟨gb161, _, none⟩) NB144_161.out _).trans (((cell_far (p := ⟨gb161, _, none⟩) NB144_161.out _).trans (hHeld.1)))))), ((cell_far (p := ⟨gb161, _, none⟩) NB144_161.out _).trans (((cell_far (p := ⟨gb161, _, none⟩) NB144_161.out _).trans (((cell_far (p := ⟨gb161, _, none⟩) NB144_161.out _).trans (hHeld.2.1)))))), ((cell_far (p := ⟨gb161, _, none⟩) NB144_161.out _).trans (((cell_far (p := ⟨gb161, _, none⟩) NB144_161.out _).trans (((cell_far (p := ⟨gb161, _, none⟩) NB144_161.out _).trans (hHeld.2.2.1)))))), ((cell_far (p := ⟨gb161, _, none⟩) NB143_161.out _).trans (((cell_far (p := ⟨gb161, _, none⟩) NB143_161.out _).trans (((cell_far (p := ⟨gb161, _, none⟩) NB143_161.out _).trans (hHeld.2.2.2.1)))))), ((cell_far (p := ⟨gb161, _, none⟩) NB143_161.out _).trans (((cell_far (p := ⟨gb161, _, none⟩) NB143_161.out _).trans (((cell_far (p := ⟨gb161, _, none⟩) NB143_161.out _).trans (hHeld.2.2.2.2.1)))))), ((cell_far (p := ⟨gb161, _, none⟩) NB143_161.out _).trans (((cell_far (p := ⟨gb161, _, none⟩) NB143_161.out _).trans (((cell_far (p := ⟨gb161, _, none⟩) NB143_161.out _).trans (hHeld.2.2.2.2.2))))))⟩ (fun hHeld => ?_)
        clear hK K
        refine done_ (done_of HT_.out (by kernel_rfl)) ?_
        have hcz113_0 : w109.cell? ⟨gb160, 0, none⟩ = some (.bool true) := (blk_cell BK160.out 0).trans rfl
        have hcz113_1 : w109.cell? ⟨gb160, 1, none⟩ = some (.int .i64 t167) := (blk_cell BK160.out 1).trans rfl
        have hcz113_2 : w109.cell? ⟨gb160, 2, none⟩ = some (.int .i64 t168) := (blk_cell BK160.out 2).trans rfl
        have hfz113_0 := blk_frozen BK160.out 0
        have hfz113_1 := blk_frozen BK160.out 1
        have hfz113_2 := blk_frozen BK160.out 2
        have hcz114_0 : w109.cell? ⟨gb161, 0, none⟩ = some (.bool t157) := (blk_cell BK161.out 0).trans rfl
        have hcz114_1 : w109.cell? ⟨gb161, 1, none⟩ = some (.int .i64 t158) := (blk_cell BK161.out 1).trans rfl
        have hcz114_2 : w109.cell? ⟨gb161, 2, none⟩ = some (.int .i64 t159) := (blk_cell BK161.out 2).trans rfl
        have hfz114_0 := blk_frozen BK161.out 0
        have hfz114_1 := blk_frozen BK161.out 1
        have hfz114_2 := blk_frozen BK161.out 2
        try go_wp2
        have n0_ : Aside0 ((((w109.setCell ⟨gb161, 0, none⟩ (.bool true)).setCell ⟨gb161, 1, none⟩ (.int .i64 t174)).setCell ⟨gb161, 2, none⟩ (.int .i64 t175)).heap[gb143]? = some (.cells #[.bool a2_0, .int .i64 a2_1, .int .i64 a2_2] 24 (0, 0))) := ⟨by (with_reducible repeat (first | apply bn_ | apply bd_ | apply ba_)); refine blk_far ?_ NB143_161.out _; (with_reducible repeat (first | apply bn_ | apply bd_ | apply ba_)); refine blk_far ?_ NB143_161.out _; (with_reducible repeat (first | apply bn_ | apply bd_ | apply ba_)); refine blk_far ?_ NB143_161.out _; (with_reducible repeat (first | apply bn_ | apply bd_ | apply ba_)); exact BK143.out⟩
        have n1_ : Aside0 ((((w109.setCell ⟨gb161, 0, none⟩ (.bool true)).setCell ⟨gb161, 1, none⟩ (.int .i64 t174)).setCell ⟨gb161, 2, none⟩ (.int .i64 t175)).heap[gb144]? = some (.cells #[.bool a3_0, .int .i64 a3_1, .int .i64 a3_2] 24 (0, 0))) := ⟨by (with_reducible repeat (first | apply bn_ | apply bd_ | apply ba_)); refine blk_far ?_ NB144_161.out _; (with_reducible repeat (first | apply bn_ | apply bd_ | apply ba_)); refine blk_far ?_ NB144_161.out _; (with_reducible repeat (first | apply bn_ | apply bd_ | apply ba_)); refine blk_far ?_ NB144_161.out _; (with_reducible repeat (first | apply bn_ | apply bd_ | apply ba_)); exact BK144.out⟩
        have n2_ : Aside0 ((((w109.setCell ⟨gb161, 0, none⟩ (.bool true)).setCell ⟨gb161, 1, none⟩ (.int .i64 t174)).setCell ⟨gb161, 2, none⟩ (.int .i64 t175)).heap[gb145]? = some (.cells #[.bool false, .int .i64 0, .int .i64 0] 24 (0, 0))) := ⟨by (with_reducible repeat (first | apply bn_ | apply bd_ | apply ba_)); refine blk_far ?_ NB145_161.out _; (with_reducible repeat (first | apply bn_ | apply bd_ | apply ba_)); refine blk_far ?_ NB145_161.out _; (with_reducible repeat (first | apply bn_ | apply bd_ | apply ba_)); refine blk_far ?_ NB145_161.out _; (with_reducible repeat (first | apply bn_ | apply bd_ | apply ba_)); exact BK145.out⟩
        have n3_ : Aside0 ((((w109.setCell ⟨gb161, 0, none⟩ (.bool true)).setCell ⟨gb161, 1, none⟩ (.int .i64 t174)).setCell ⟨gb161, 2, none⟩ (.int .i64 t175)).heap[gb146]? = some (.cells #[.bool false, .int .i64 0, .int .i64 0] 24 (0, 0))) := ⟨by (with_reducible repeat (first | apply bn_ | apply bd_ | apply ba_)); refine blk_far ?_ NB146_161.out _; (with_reducible repeat (first | apply bn_ | apply bd_ | apply ba_)); refine blk_far ?_ NB146_161.out _; (with_reducible repeat (first | apply bn_ | apply bd_ | apply ba_)); refine blk_far ?_ NB146_161.out _; (with_reducible repeat (first | apply bn_ | apply bd_ | apply ba_)); exact BK146.out⟩
        have n4_ : Aside0 ((((w109.setCell ⟨gb161, 0, none⟩ (.bool true)).setCell ⟨gb161, 1, none⟩ (.int .i64 t174)).setCell ⟨gb161, 2, none⟩ (.int .i64 t175)).heap[gb160]? = some (.cells #[.bool true, .int .i64 t167, .int .i64 t168] 24 (0, 0))) := ⟨by (with_reducible repeat (first | apply bn_ | apply bd_ | apply ba_)); refine blk_far ?_ NB160_161.out _; (with_reducible repeat (first | apply bn_ | apply bd_ | apply ba_)); refine blk_far ?_ NB160_161.out _; (with_reducible repeat (first | apply bn_ | apply bd_ | apply ba_)); refine blk_far ?_ NB160_161.out _; (with_reducible repeat (first | apply bn_ | apply bd_ | apply ba_)); exact BK160.out⟩
        have n5_ : Aside0 ((((w109.setCell ⟨gb161, 0, none⟩ (.bool true)).setCell ⟨gb161, 1, none⟩ (.int .i64 t174)).setCell ⟨gb161, 2, none⟩ (.int .i64 t175)).heap[gb161]? = some (.cells #[.bool true, .int .i64 t174, .int .i64 t175] 24 (0, 0))) := ⟨by (with_reducible repeat (first | apply bn_ | apply bd_ | apply ba_)); refine blk_put (cs := #[.bool true, .int .i64 t174, .int .i64 t159]) ?_ 2 _ (by first | rfl | (simp [*]; done)); (with_reducible repeat (first | apply bn_ | apply bd_ | apply ba_)); refine blk_put (cs := #[.bool true, .int .i64 t158, .int .i64 t159]) ?_ 1 _ (by first | rfl | (simp [*]; done)); (with_reducible repeat (first | apply bn_ | apply bd_ | apply ba_)); refine blk_put (cs := #[.bool t157, .int .i64 t158, .int .i64 t159]) ?_ 0 _ (by first | rfl | (simp [*]; done)); (with_reducible repeat (first | apply bn_ | apply bd_ | apply ba_)); exact BK161.out⟩
        have n6_ : Aside0 (Below w.heap.size w (((w109.setCell ⟨gb161, 0, none⟩ (.bool true)).setCell ⟨gb161, 1, none⟩ (.int .i64 t174)).setCell ⟨gb161, 2, none⟩ (.int .i64 t175))) := ⟨by repeat (first | (with_reducible first | exact HB.out | apply b1_ | apply b2_ | apply b3_ | apply c_ GE143 | apply c_ GE144 | apply c_ GE145 | apply c_ GE146 | apply c_ GE160 | apply c_ GE161) | exact HB.out)⟩
        (try clear BK143)
        (try clear BK144)
        (try clear BK145)
        (try clear BK146)
        (try clear BK160)
        (try clear BK161)
        (try clear HB)
        generalize (((w109.setCell ⟨gb161, 0, none⟩ (.bool true)).setCell ⟨gb161, 1, none⟩ (.int .i64 t174)).setCell ⟨gb161, 2, none⟩ (.int .i64 t175)) = w115 at n0_ n1_ n2_ n3_ n4_ n5_ n6_ ⊢
        have BK143 := n0_
        have BK144 := n1_
        have BK145 := n2_
        have BK146 := n3_
        have BK160 := n4_
        have BK161 := n5_
        have HB := n6_
        clear n0_ n1_ n2_ n3_ n4_ n5_ n6_
        have n0_ := A_ (blk_drew BK143.out)
        have n1_ := A_ (blk_drew BK144.out)
        have n2_ := A_ (blk_drew BK145.out)
        have n3_ := A_ (blk_drew BK146.out)
        have n4_ := A_ (blk_drew BK160.out)
        have n5_ := A_ (blk_drew BK161.out)
        have n6_ := A_ (below_drew1 HB.out)
        clear BK143 BK144
        clear BK145 BK146
        clear BK160 BK161 HB
        have BK143 := n0_
        have BK144 := n1_
        have BK145 := n2_
        have BK146 := n3_
        have BK160 := n4_
        have BK161 := n5_
        have HB := n6_
        clear n0_ n1_ n2_ n3_ n4_ n5_ n6_
        refine start_ (n := 4) (S := fun w' => w'.cell? ⟨gb160, 0, none⟩ = some (.bool true) ∧ w'.cell? ⟨gb160, 1, none⟩ = some (.int .i64 t167) ∧ w'.cell? ⟨gb160, 2, none⟩ = some (.int .i64 t168) ∧ w'.cell? ⟨gb161, 0, none⟩ = some (.bool true) ∧ w'.cell? ⟨gb161, 1, none⟩ = some (.int .i64 t174) ∧ w'.cell? ⟨gb161, 2, none⟩ = some (.int .i64 t175)) (ds := []) #[false, false, false, false] (by kernel_rfl) rfl rfl ⟨(blk_cell BK160.out 0).trans rfl, (blk_cell BK160.out 1).trans rfl, (blk_cell BK160.out 2).trans rfl, (blk_cell BK161.out 0).trans rfl, (blk_cell BK161.out 1).trans rfl, (blk_cell BK161.out 2).trans rfl⟩ (fun hHeld => ?_)
        generalize w115.drew = w116 at BK143 BK144 BK145 BK146 BK160 BK161 HB hHeld ⊢
        refine take_ (i := 0) (N := some 71) (v := ?_) (a' := ?_) #[true, false, false, false] rfl rfl (by kernel_rfl) (fun _ _ _ h => h) (Or.inl ⟨by rfl, ?_⟩) hHeld ?_ ?_
        rotate_left
        ·rintro w' ⟨s0, s1, s2, s3, s4, s5⟩
         go_simp
         with_reducible rfl
        rotate_left
        ·simp only [Act.put, List.setIfInBounds_toArray, List.set_cons_zero, List.set_cons_succ, i64_w, i32_w]
         rfl
        refine take_ (i := 1) (N := some 72) (v := ?_) (a' := ?_) #[true, true, false, false] rfl rfl (by kernel_rfl) (fun _ _ _ h => h) (Or.inl ⟨by rfl, ?_⟩) hHeld ?_ ?_
        rotate_left
        ·rintro w' ⟨s0, s1, s2, s3, s4, s5⟩
         go_simp
         with_reducible rfl
        rotate_left
        ·simp only [Act.put, List.setIfInBounds_toArray, List.set_cons_zero, List.set_cons_succ, i64_w, i32_w]
         rfl
        refine one_ (i := 2) (N := none) #[true, true, true, false] rfl rfl (by kernel_rfl) (by decide) (fun K hK => ?_)
        have hs117 : w116.cell? ⟨gb145, 0, none⟩ = some (.bool false) := (blk_cell BK145.out 0).trans rfl
        have hfs117 := blk_frozen BK145.out 0
        have hns117_0 := NB143_145.out
        have hns117_1 := NB144_145.out
        have hns117_3 := NB146_145.out
        have hns117_4 := NB160_145.out
        have hns117_5 := NB161_145.out
        have hms117_0 := NB145_143.out
        have hms117_1 := NB145_144.out
        have hms117_3 := NB145_146.out
        have hms117_4 := NB145_160.out
        have hms117_5 := NB145_161.out
        have hs118 : w116.cell? ⟨gb145, 1, none⟩ = some (.int .i64 0) := (blk_cell BK145.out 1).trans rfl
        have hfs118 := blk_frozen BK145.out 1
        have hns118_0 := NB143_145.out
        have hns118_1 := NB144_145.out
        have hns118_3 := NB146_145.out
        have hns118_4 := NB160_145.out
        have hns118_5 := NB161_145.out
        have hms118_0 := NB145_143.out
        have hms118_1 := NB145_144.out
        have hms118_3 := NB145_146.out
        have hms118_4 := NB145_160.out
        have hms118_5 := NB145_161.out
        have hs119 : w116.cell? ⟨gb145, 2, none⟩ = some (.int .i64 0) := (blk_cell BK145.out 2).trans rfl
        have hfs119 := blk_frozen BK145.out 2
        have hns119_0 := NB143_145.out
        have hns119_1 := NB144_145.out
        have hns119_3 := NB146_145.out
        have hns119_4 := NB160_145.out
        have hns119_5 := NB161_145.out
        have hms119_0 := NB145_143.out
        have hms119_1 := NB145_144.out
        have hms119_3 := NB145_146.out
        have hms119_4 := NB145_160.out
        have hms119_5 := NB145_161.out
        refine skip_ (w1 := ?_) (by rfl) rfl ?_ ?_
        rotate_left
        ·go_simp
         rfl
        refine hK.out _ _ ⟨((cell_far (p := ⟨gb145, _, none⟩) NB160_145.out _).trans (((cell_far (p := ⟨gb145, _, none⟩) NB160_145.out _).trans (((cell_far (p := ⟨gb145, _, none⟩) NB160_145.out _).trans (hHeld.1)))))), ((cell_far (p := ⟨gb145, _, none⟩) NB160_145.out _).trans (((cell_far (p := ⟨gb145, _, none⟩) NB160_145.out _).trans (((cell_far (p := ⟨gb145, _, none⟩) NB160_145.out _).trans (hHeld.2.1)))))), ((cell_far (p := ⟨gb145, _, none⟩) NB160_145.out _).trans (((cell_far (p := ⟨gb145, _, none⟩) NB160_145.out _).trans (((cell_far (p := ⟨gb145, _, none⟩) NB160_145.out _).trans (hHeld.2.2.1)))))), ((cell_far (p := ⟨gb145, _, none⟩) NB161_145.out _).trans (((cell_far (p := ⟨gb145, _, none⟩) NB161_145.out _).trans (((cell_far (p := ⟨gb145, _, none⟩) NB161_145.out _).trans (hHeld.2.2.2.1)))))), ((cell_far (p := ⟨gb145, _, none⟩) NB161_145.out _).trans (((cell_far (p := ⟨gb145, _, none⟩) NB161_145.out _).trans (((cell_far (p := ⟨gb145, _, none⟩) NB161_145.out _).trans (hHeld.2.2.2.2.1)))))), ((cell_far (p := ⟨gb145, _, none⟩) NB161_145.out _).trans (((cell_far (p := ⟨gb145, _, none⟩) NB161_145.out _).trans (((cell_far (p := ⟨gb145, _, none⟩) NB161_145.out _).trans (hHeld.2.2.2.2.2))))))⟩ (fun hHeld => ?_)
        clear hK K
        refine one_ (i := 3) (N := none) #[true, true, true, true] rfl rfl (by kernel_rfl) (by decide) (fun K hK => ?_)
        have hs120 : w116.cell? ⟨gb146, 0, none⟩ = some (.bool false) := (blk_cell BK146.out 0).trans rfl
        have hfs120 := blk_frozen BK146.out 0
        have hns120_0 := NB143_146.out
        have hns120_1 := NB144_146.out
        have hns120_2 := NB145_146.out
        have hns120_4 := NB160_146.out
        have hns120_5 := NB161_146.out
        have hms120_0 := NB146_143.out
        have hms120_1 := NB146_144.out
        have hms120_2 := NB146_145.out
        have hms120_4 := NB146_160.out
        have hms120_5 := NB146_161.out
        have hs121 : w116.cell? ⟨gb146, 1, none⟩ = some (.int .i64 0) := (blk_cell BK146.out 1).trans rfl
        have hfs121 := blk_frozen BK146.out 1
        have hns121_0 := NB143_146.out
        have hns121_1 := NB144_146.out
        have hns121_2 := NB145_146.out
        have hns121_4 := NB160_146.out
        have hns121_5 := NB161_146.out
        have hms121_0 := NB146_143.out
        have hms121_1 := NB146_144.out
        have hms121_2 := NB146_145.out
        have hms121_4 := NB146_160.out
        have hms121_5 := NB146_161.out
        have hs122 : w116.cell? ⟨gb146, 2, none⟩ = some (.int .i64 0) := (blk_cell BK146.out 2).trans rfl
        have hfs122 := blk_frozen BK146.out 2
        have hns122_0 := NB143_146.out
        have hns122_1 := NB144_146.out
        have hns122_2 := NB145_146.out
        have hns122_4 := NB160_146.out
        have hns122_5 := NB161_146.out
        have hms122_0 := NB146_143.out
        have hms122_1 := NB146_144.out
        have hms122_2 := NB146_145.out
        have hms122_4 := NB146_160.out
        have hms122_5 := NB146_161.out
        refine skip_ (w1 := ?_) (by rfl) rfl ?_ ?_
        rotate_left
        ·go_simp
         rfl
        refine hK.out _ _ ⟨((cell_far (p := ⟨gb146, _, none⟩) NB160_146.out _).trans (((cell_far (p := ⟨gb146, _, none⟩) NB160_146.out _).trans (((cell_far (p := ⟨gb146, _, none⟩) NB160_146.out _).trans (hHeld.1)))))), ((cell_far (p := ⟨gb146, _, none⟩) NB160_146.out _).trans (((cell_far (p := ⟨gb146, _, none⟩) NB160_146.out _).trans (((cell_far (p := ⟨gb146, _, none⟩) NB160_146.out _).trans (hHeld.2.1)))))), ((cell_far (p := ⟨gb146, _, none⟩) NB160_146.out _).trans (((cell_far (p := ⟨gb146, _, none⟩) NB160_146.out _).trans (((cell_far (p := ⟨gb146, _, none⟩) NB160_146.out _).trans (hHeld.2.2.1)))))), ((cell_far (p := ⟨gb146, _, none⟩) NB161_146.out _).trans (((cell_far (p := ⟨gb146, _, none⟩) NB161_146.out _).trans (((cell_far (p := ⟨gb146, _, none⟩) NB161_146.out _).trans (hHeld.2.2.2.1)))))), ((cell_far (p := ⟨gb146, _, none⟩) NB161_146.out _).trans (((cell_far (p := ⟨gb146, _, none⟩) NB161_146.out _).trans (((cell_far (p := ⟨gb146, _, none⟩) NB161_146.out _).trans (hHeld.2.2.2.2.1)))))), ((cell_far (p := ⟨gb146, _, none⟩) NB161_146.out _).trans (((cell_far (p := ⟨gb146, _, none⟩) NB161_146.out _).trans (((cell_far (p := ⟨gb146, _, none⟩) NB161_146.out _).trans (hHeld.2.2.2.2.2))))))⟩ (fun hHeld => ?_)
        clear hK K
        refine done_ (by kernel_rfl) ?_
        try go_wp2
        refine bodyPost_ret (results_cc rfl _ _ gb145 gb146 24 24 #[.bool true, .int .i64 t167, .int .i64 t168] #[.bool true, .int .i64 t174, .int .i64 t175] (0, 0) (0, 0) _ _ rfl (by (with_reducible repeat (first | apply bn_ | apply bd_ | apply ba_)); refine blk_far ?_ NB145_146.out _; (with_reducible repeat (first | apply bn_ | apply bd_ | apply ba_)); refine blk_far ?_ NB145_146.out _; (with_reducible repeat (first | apply bn_ | apply bd_ | apply ba_)); refine blk_far ?_ NB145_146.out _; (with_reducible repeat (first | apply bn_ | apply bd_ | apply ba_)); refine blk_put (cs := #[.bool true, .int .i64 t167, .int .i64 0]) ?_ 2 _ (by first | rfl | (simp [*]; done)); (with_reducible repeat (first | apply bn_ | apply bd_ | apply ba_)); refine blk_put (cs := #[.bool true, .int .i64 0, .int .i64 0]) ?_ 1 _ (by first | rfl | (simp [*]; done)); (with_reducible repeat (first | apply bn_ | apply bd_ | apply ba_)); refine blk_put (cs := #[.bool false, .int .i64 0, .int .i64 0]) ?_ 0 _ (by first | rfl | (simp [*]; done)); (with_reducible repeat (first | apply bn_ | apply bd_ | apply ba_)); exact BK145.out) Try.underlying24 rfl (by kernel_rfl) rfl (by (with_reducible repeat (first | apply bn_ | apply bd_ | apply ba_)); refine blk_put (cs := #[.bool true, .int .i64 t174, .int .i64 0]) ?_ 2 _ (by first | rfl | (simp [*]; done)); (with_reducible repeat (first | apply bn_ | apply bd_ | apply ba_)); refine blk_put (cs := #[.bool true, .int .i64 0, .int .i64 0]) ?_ 1 _ (by first | rfl | (simp [*]; done)); (with_reducible repeat (first | apply bn_ | apply bd_ | apply ba_)); refine blk_put (cs := #[.bool false, .int .i64 0, .int .i64 0]) ?_ 0 _ (by first | rfl | (simp [*]; done)); (with_reducible repeat (first | apply bn_ | apply bd_ | apply ba_)); refine blk_far ?_ NB146_145.out _; (with_reducible repeat (first | apply bn_ | apply bd_ | apply ba_)); refine blk_far ?_ NB146_145.out _; (with_reducible repeat (first | apply bn_ | apply bd_ | apply ba_)); refine blk_far ?_ NB146_145.out _; (with_reducible repeat (first | apply bn_ | apply bd_ | apply ba_)); exact BK146.out) Try.underlying24 rfl (by kernel_rfl)) rfl ?_
        exact ⟨by first | rfl | (simp [errW_none, errW_some] <;> rfl) | (simp [*, errW_none, errW_some] <;> rfl), by repeat (first | (with_reducible first | exact HB.out | apply b1_ | apply b2_ | apply b3_ | apply c_ GE143 | apply c_ GE144 | apply c_ GE145 | apply c_ GE146 | apply c_ GE160 | apply c_ GE161) | exact HB.out)⟩
       ·replace c77 := Bool.eq_false_iff.mpr c77
        subst c77
        have H1 : (some (false, 0, 0, false, 0, 0)) = some (r1, r2, r3, r4, r5, r6) := by rw [if_neg (show ¬ (false = true) by decide)] at H; exact H
        clear H
        have H := H1
        clear H1
        simp only [Option.some.injEq, Prod.mk.injEq] at H
        obtain ⟨rfl, rfl, rfl, rfl, rfl, rfl⟩ := H
        have hnb123 := NB143_144.out
        have hnc123 := NB144_143.out
        have hnb124 := NB143_145.out
        have hnc124 := NB145_143.out
        have hnb125 := NB143_146.out
        have hnc125 := NB146_143.out
        have hcz126_0 : wc.cell? ⟨gb143, 0, none⟩ = some (.bool a2_0) := (blk_cell BK143.out 0).trans rfl
        have hcz126_1 : wc.cell? ⟨gb143, 1, none⟩ = some (.int .i64 a2_1) := (blk_cell BK143.out 1).trans rfl
        have hcz126_2 : wc.cell? ⟨gb143, 2, none⟩ = some (.int .i64 a2_2) := (blk_cell BK143.out 2).trans rfl
        have hfz126_0 := blk_frozen BK143.out 0
        have hfz126_1 := blk_frozen BK143.out 1
        have hfz126_2 := blk_frozen BK143.out 2
        have hnb127 := NB144_145.out
        have hnc127 := NB145_144.out
        have hnb128 := NB144_146.out
        have hnc128 := NB146_144.out
        have hcz129_0 : wc.cell? ⟨gb144, 0, none⟩ = some (.bool a3_0) := (blk_cell BK144.out 0).trans rfl
        have hcz129_1 : wc.cell? ⟨gb144, 1, none⟩ = some (.int .i64 a3_1) := (blk_cell BK144.out 1).trans rfl
        have hcz129_2 : wc.cell? ⟨gb144, 2, none⟩ = some (.int .i64 a3_2) := (blk_cell BK144.out 2).trans rfl
        have hfz129_0 := blk_frozen BK144.out 0
        have hfz129_1 := blk_frozen BK144.out 1
        have hfz129_2 := blk_frozen BK144.out 2
        try go_wp2_with (first | ((with_reducible refine gate_callee (f := 34) rfl ?_); refine goesL_ (some 40) rfl rfl Try.func34 (by kernel_rfl) rfl #[.int .i64 a0, .agg #[.bool a2_0, .int .i64 a2_1, .int .i64 a2_2], .agg #[.bool a3_0, .int .i64 a3_1, .int .i64 a3_2]] rfl (by (try simp only [List.map_toArray, List.map_cons, List.map_nil]); first | done | rfl) ?_; (with_reducible refine (spec_SpanMeet.calls a0 a2_0 a2_1 a2_2 a3_0 a3_1 a3_2 t157 t158 t159 _ A68.out).mono ?_); rintro e w130 ⟨rfl, hb⟩; refine ⟨_, rfl, ?_⟩; have n0_ := A_ (blk_below (bz_ BK143.out) hb); have n1_ := A_ (blk_below (bz_ BK144.out) hb); have n2_ := A_ (blk_below (bz_ BK145.out) hb); have n3_ := A_ (blk_below (bz_ BK146.out) hb); have n4_ := A_ (below_step (by repeat (first | (with_reducible first | exact HB.out | apply b1_ | apply b2_ | apply b3_ | apply c_ GE143 | apply c_ GE144 | apply c_ GE145 | apply c_ GE146) | exact HB.out)) hb); clear BK143 BK144 BK145 BK146 HB; have BK143 := n0_; have BK144 := n1_; have BK145 := n2_; have BK146 := n3_; have HB := n4_; clear n0_ n1_ n2_ n3_ n4_; (try clear hb); (try clear hb2); (try clear hk); (try clear hi)) | ((with_reducible refine gate_dst (N := 12) rfl ?_); refine box_event ?hg (N := 12) ?hd (cs := #[.bool false, .int .i64 0, .int .i64 0]) (t := 24) ?hr ?_; (case hd => rfl); (case hg => rfl); (case hr => first | (go_simp; done) | (go_simp; rfl)); intro gb160 hg w131 hbox hb; have n0_ := A_ (blk_below (bz_ BK143.out) hb); have n1_ := A_ (blk_below (bz_ BK144.out) hb); have n2_ := A_ (blk_below (bz_ BK145.out) hb); have n3_ := A_ (blk_below (bz_ BK146.out) hb); have n4_ := A_ (below_step (by repeat (first | (with_reducible first | exact HB.out | apply b1_ | apply b2_ | apply b3_ | apply c_ GE143 | apply c_ GE144 | apply c_ GE145 | apply c_ GE146) | exact HB.out)) hb); have n5_ := A_ (hbox); have n6_ := A_ ((by rw [hg]; exact (below_size (by repeat (first | (with_reducible first | exact HB.out | apply b1_ | apply b2_ | apply b3_ | apply c_ GE143 | apply c_ GE144 | apply c_ GE145 | apply c_ GE146) | exact HB.out))) : w.heap.size ≤ gb160)); have n7_ := n6_; have n8_ := A_ ((by rw [hg]; exact Nat.ne_of_lt (blk_lt (bz_ BK143.out)) : gb143 ≠ gb160)); have n9_ := A_ ((by rw [hg]; exact Nat.ne_of_gt (blk_lt (bz_ BK143.out)) : gb160 ≠ gb143)); have n10_ := A_ ((by rw [hg]; exact Nat.ne_of_lt (blk_lt (bz_ BK144.out)) : gb144 ≠ gb160)); have n11_ := A_ ((by rw [hg]; exact Nat.ne_of_gt (blk_lt (bz_ BK144.out)) : gb160 ≠ gb144)); have n12_ := A_ ((by rw [hg]; exact Nat.ne_of_lt (blk_lt (bz_ BK145.out)) : gb145 ≠ gb160)); have n13_ := A_ ((by rw [hg]; exact Nat.ne_of_gt (blk_lt (bz_ BK145.out)) : gb160 ≠ gb145)); have n14_ := A_ ((by rw [hg]; exact Nat.ne_of_lt (blk_lt (bz_ BK146.out)) : gb146 ≠ gb160)); have n15_ := A_ ((by rw [hg]; exact Nat.ne_of_gt (blk_lt (bz_ BK146.out)) : gb160 ≠ gb146)); clear BK143 BK144 BK145 BK146 HB; have BK143 := n0_; have BK144 := n1_; have BK145 := n2_; have BK146 := n3_; have HB := n4_; have BK160 := n5_; have GW160 := n6_; have GE160 := n7_; have NB143_160 := n8_; have NB160_143 := n9_; have NB144_160 := n10_; have NB160_144 := n11_; have NB145_160 := n12_; have NB160_145 := n13_; have NB146_160 := n14_; have NB160_146 := n15_; clear n0_ n1_ n2_ n3_ n4_ n5_ n6_ n7_ n8_ n9_ n10_ n11_ n12_ n13_ n14_ n15_; clear hb hbox hg; have hnb132 := NB160_143.out; have hnc132 := NB143_160.out; have hnb133 := NB160_144.out; have hnc133 := NB144_160.out; have hnb134 := NB160_145.out; have hnc134 := NB145_160.out; have hnb135 := NB160_146.out; have hnc135 := NB146_160.out; have hcz136_0 : w131.cell? ⟨gb160, 0, none⟩ = some (.bool false) := (blk_cell BK160.out 0).trans rfl; have hcz136_1 : w131.cell? ⟨gb160, 1, none⟩ = some (.int .i64 0) := (blk_cell BK160.out 1).trans rfl; have hcz136_2 : w131.cell? ⟨gb160, 2, none⟩ = some (.int .i64 0) := (blk_cell BK160.out 2).trans rfl; have hfz136_0 := blk_frozen BK160.out 0; have hfz136_1 := blk_frozen BK160.out 1; have hfz136_2 := blk_frozen BK160.out 2) | ((with_reducible refine gate_dst (N := 13) rfl ?_); refine box_event ?hg (N := 13) ?hd (cs := #[.bool false, .int .i64 0, .int .i64 0]) (t := 24) ?hr ?_; (case hd => rfl); (case hg => rfl); (case hr => first | (go_simp; done) | (go_simp; rfl)); intro gb161 hg w137 hbox hb; have n0_ := A_ (blk_below (g := gb143) (o := .cells #[.bool a2_0, .int .i64 a2_1, .int .i64 a2_2] 24 (0, 0)) (by (with_reducible repeat (first | apply bn_ | apply bd_ | apply ba_)); refine blk_far ?_ NB143_160.out _; (with_reducible repeat (first | apply bn_ | apply bd_ | apply ba_)); refine blk_far ?_ NB143_160.out _; (with_reducible repeat (first | apply bn_ | apply bd_ | apply ba_)); refine blk_far ?_ NB143_160.out _; (with_reducible repeat (first | apply bn_ | apply bd_ | apply ba_)); exact BK143.out) hb); have n1_ := A_ (blk_below (g := gb144) (o := .cells #[.bool a3_0, .int .i64 a3_1, .int .i64 a3_2] 24 (0, 0)) (by (with_reducible repeat (first | apply bn_ | apply bd_ | apply ba_)); refine blk_far ?_ NB144_160.out _; (with_reducible repeat (first | apply bn_ | apply bd_ | apply ba_)); refine blk_far ?_ NB144_160.out _; (with_reducible repeat (first | apply bn_ | apply bd_ | apply ba_)); refine blk_far ?_ NB144_160.out _; (with_reducible repeat (first | apply bn_ | apply bd_ | apply ba_)); exact BK144.out) hb); have n2_ := A_ (blk_below (g := gb145) (o := .cells #[.bool false, .int .i64 0, .int .i64 0] 24 (0, 0)) (by (with_reducible repeat (first | apply bn_ | apply bd_ | apply ba_)); refine blk_far ?_ NB145_160.out _; (with_reducible repeat (first | apply bn_ | apply bd_ | apply ba_)); refine blk_far ?_ NB145_160.out _; (with_reducible repeat (first | apply bn_ | apply bd_ | apply ba_)); refine blk_far ?_ NB145_160.out _; (with_reducible repeat (first | apply bn_ | apply bd_ | apply ba_)); exact BK145.out) hb); have n3_ := A_ (blk_below (g := gb146) (o := .cells #[.bool false, .int .i64 0, .int .i64 0] 24 (0, 0)) (by (with_reducible repeat (first | apply bn_ | apply bd_ | apply ba_)); refine blk_far ?_ NB146_160.out _; (with_reducible repeat (first | apply bn_ | apply bd_ | apply ba_)); refine blk_far ?_ NB146_160.out _; (with_reducible repeat (first | apply bn_ | apply bd_ | apply ba_)); refine blk_far ?_ NB146_160.out _; (with_reducible repeat (first | apply bn_ | apply bd_ | apply ba_)); exact BK146.out) hb); have n4_ := A_ (blk_below (g := gb160) (o := .cells #[.bool t157, .int .i64 t158, .int .i64 t159] 24 (0, 0)) (by (with_reducible repeat (first | apply bn_ | apply bd_ | apply ba_)); refine blk_put (cs := #[.bool t157, .int .i64 t158, .int .i64 0]) ?_ 2 _ (by first | rfl | (simp [*]; done)); (with_reducible repeat (first | apply bn_ | apply bd_ | apply ba_)); refine blk_put (cs := #[.bool t157, .int .i64 0, .int .i64 0]) ?_ 1 _ (by first | rfl | (simp [*]; done)); (with_reducible repeat (first | apply bn_ | apply bd_ | apply ba_)); refine blk_put (cs := #[.bool false, .int .i64 0, .int .i64 0]) ?_ 0 _ (by first | rfl | (simp [*]; done)); (with_reducible repeat (first | apply bn_ | apply bd_ | apply ba_)); exact BK160.out) hb); have n5_ := A_ (below_step (by repeat (first | (with_reducible first | exact HB.out | apply b1_ | apply b2_ | apply b3_ | apply c_ GE143 | apply c_ GE144 | apply c_ GE145 | apply c_ GE146 | apply c_ GE160) | exact HB.out)) hb); have n6_ := A_ (hbox); have n7_ := A_ ((by rw [hg]; exact (below_size (by repeat (first | (with_reducible first | exact HB.out | apply b1_ | apply b2_ | apply b3_ | apply c_ GE143 | apply c_ GE144 | apply c_ GE145 | apply c_ GE146 | apply c_ GE160) | exact HB.out))) : w.heap.size ≤ gb161)); have n8_ := n7_; have n9_ := A_ ((by rw [hg]; exact Nat.ne_of_lt (blk_lt (g := gb143) (o := .cells #[.bool a2_0, .int .i64 a2_1, .int .i64 a2_2] 24 (0, 0)) (by (with_reducible repeat (first | apply bn_ | apply bd_ | apply ba_)); refine blk_far ?_ NB143_160.out _; (with_reducible repeat (first | apply bn_ | apply bd_ | apply ba_)); refine blk_far ?_ NB143_160.out _; (with_reducible repeat (first | apply bn_ | apply bd_ | apply ba_)); refine blk_far ?_ NB143_160.out _; (with_reducible repeat (first | apply bn_ | apply bd_ | apply ba_)); exact BK143.out)) : gb143 ≠ gb161)); have n10_ := A_ ((by rw [hg]; exact Nat.ne_of_gt (blk_lt (g := gb143) (o := .cells #[.bool a2_0, .int .i64 a2_1, .int .i64 a2_2] 24 (0, 0)) (by (with_reducible repeat (first | apply bn_ | apply bd_ | apply ba_)); refine blk_far ?_ NB143_160.out _; (with_reducible repeat (first | apply bn_ | apply bd_ | apply ba_)); refine blk_far ?_ NB143_160.out _; (with_reducible repeat (first | apply bn_ | apply bd_ | apply ba_)); refine blk_far ?_ NB143_160.out _; (with_reducible repeat (first | apply bn_ | apply bd_ | apply ba_)); exact BK143.out)) : gb161 ≠ gb143)); have n11_ := A_ ((by rw [hg]; exact Nat.ne_of_lt (blk_lt (g := gb144) (o := .cells #[.bool a3_0, .int .i64 a3_1, .int .i64 a3_2] 24 (0, 0)) (by (with_reducible repeat (first | apply bn_ | apply bd_ | apply ba_)); refine blk_far ?_ NB144_160.out _; (with_reducible repeat (first | apply bn_ | apply bd_ | apply ba_)); refine blk_far ?_ NB144_160.out _; (with_reducible repeat (first | apply bn_ | apply bd_ | apply ba_)); refine blk_far ?_ NB144_160.out _; (with_reducible repeat (first | apply bn_ | apply bd_ | apply ba_)); exact BK144.out)) : gb144 ≠ gb161)); have n12_ := A_ ((by rw [hg]; exact Nat.ne_of_gt (blk_lt (g := gb144) (o := .cells #[.bool a3_0, .int .i64 a3_1, .int .i64 a3_2] 24 (0, 0)) (by (with_reducible repeat (first | apply bn_ | apply bd_ | apply ba_)); refine blk_far ?_ NB144_160.out _; (with_reducible repeat (first | apply bn_ | apply bd_ | apply ba_)); refine blk_far ?_ NB144_160.out _; (with_reducible repeat (first | apply bn_ | apply bd_ | apply ba_)); refine blk_far ?_ NB144_160.out _; (with_reducible repeat (first | apply bn_ | apply bd_ | apply ba_)); exact BK144.out)) : gb161 ≠ gb144)); have n13_ := A_ ((by rw [hg]; exact Nat.ne_of_lt (blk_lt (g := gb145) (o := .cells #[.bool false, .int .i64 0, .int .i64 0] 24 (0, 0)) (by (with_reducible repeat (first | apply bn_ | apply bd_ | apply ba_)); refine blk_far ?_ NB145_160.out _; (with_reducible repeat (first | apply bn_ | apply bd_ | apply ba_)); refine blk_far ?_ NB145_160.out _; (with_reducible repeat (first | apply bn_ | apply bd_ | apply ba_)); refine blk_far ?_ NB145_160.out _; (with_reducible repeat (first | apply bn_ | apply bd_ | apply ba_)); exact BK145.out)) : gb145 ≠ gb161)); have n14_ := A_ ((by rw [hg]; exact Nat.ne_of_gt (blk_lt (g := gb145) (o := .cells #[.bool false, .int .i64 0, .int .i64 0] 24 (0, 0)) (by (with_reducible repeat (first | apply bn_ | apply bd_ | apply ba_)); refine blk_far ?_ NB145_160.out _; (with_reducible repeat (first | apply bn_ | apply bd_ | apply ba_)); refine blk_far ?_ NB145_160.out _; (with_reducible repeat (first | apply bn_ | apply bd_ | apply ba_)); refine blk_far ?_ NB145_160.out _; (with_reducible repeat (first | apply bn_ | apply bd_ | apply ba_)); exact BK145.out)) : gb161 ≠ gb145)); have n15_ := A_ ((by rw [hg]; exact Nat.ne_of_lt (blk_lt (g := gb146) (o := .cells #[.bool false, .int .i64 0, .int .i64 0] 24 (0, 0)) (by (with_reducible repeat (first | apply bn_ | apply bd_ | apply ba_)); refine blk_far ?_ NB146_160.out _; (with_reducible repeat (first | apply bn_ | apply bd_ | apply ba_)); refine blk_far ?_ NB146_160.out _; (with_reducible repeat (first | apply bn_ | apply bd_ | apply ba_)); refine blk_far ?_ NB146_160.out _; (with_reducible repeat (first | apply bn_ | apply bd_ | apply ba_)); exact BK146.out)) : gb146 ≠ gb161)); have n16_ := A_ ((by rw [hg]; exact Nat.ne_of_gt (blk_lt (g := gb146) (o := .cells #[.bool false, .int .i64 0, .int .i64 0] 24 (0, 0)) (by (with_reducible repeat (first | apply bn_ | apply bd_ | apply ba_)); refine blk_far ?_ NB146_160.out _; (with_reducible repeat (first | apply bn_ | apply bd_ | apply ba_)); refine blk_far ?_ NB146_160.out _; (with_reducible repeat (first | apply bn_ | apply bd_ | apply ba_)); refine blk_far ?_ NB146_160.out _; (with_reducible repeat (first | apply bn_ | apply bd_ | apply ba_)); exact BK146.out)) : gb161 ≠ gb146)); have n17_ := A_ ((by rw [hg]; exact Nat.ne_of_lt (blk_lt (g := gb160) (o := .cells #[.bool t157, .int .i64 t158, .int .i64 t159] 24 (0, 0)) (by (with_reducible repeat (first | apply bn_ | apply bd_ | apply ba_)); refine blk_put (cs := #[.bool t157, .int .i64 t158, .int .i64 0]) ?_ 2 _ (by first | rfl | (simp [*]; done)); (with_reducible repeat (first | apply bn_ | apply bd_ | apply ba_)); refine blk_put (cs := #[.bool t157, .int .i64 0, .int .i64 0]) ?_ 1 _ (by first | rfl | (simp [*]; done)); (with_reducible repeat (first | apply bn_ | apply bd_ | apply ba_)); refine blk_put (cs := #[.bool false, .int .i64 0, .int .i64 0]) ?_ 0 _ (by first | rfl | (simp [*]; done)); (with_reducible repeat (first | apply bn_ | apply bd_ | apply ba_)); exact BK160.out)) : gb160 ≠ gb161)); have n18_ := A_ ((by rw [hg]; exact Nat.ne_of_gt (blk_lt (g := gb160) (o := .cells #[.bool t157, .int .i64 t158, .int .i64 t159] 24 (0, 0)) (by (with_reducible repeat (first | apply bn_ | apply bd_ | apply ba_)); refine blk_put (cs := #[.bool t157, .int .i64 t158, .int .i64 0]) ?_ 2 _ (by first | rfl | (simp [*]; done)); (with_reducible repeat (first | apply bn_ | apply bd_ | apply ba_)); refine blk_put (cs := #[.bool t157, .int .i64 0, .int .i64 0]) ?_ 1 _ (by first | rfl | (simp [*]; done)); (with_reducible repeat (first | apply bn_ | apply bd_ | apply ba_)); refine blk_put (cs := #[.bool false, .int .i64 0, .int .i64 0]) ?_ 0 _ (by first | rfl | (simp [*]; done)); (with_reducible repeat (first | apply bn_ | apply bd_ | apply ba_)); exact BK160.out)) : gb161 ≠ gb160)); clear BK143 BK144 BK145 BK146 BK160 HB; have BK143 := n0_; have BK144 := n1_; have BK145 := n2_; have BK146 := n3_; have BK160 := n4_; have HB := n5_; have BK161 := n6_; have GW161 := n7_; have GE161 := n8_; have NB143_161 := n9_; have NB161_143 := n10_; have NB144_161 := n11_; have NB161_144 := n12_; have NB145_161 := n13_; have NB161_145 := n14_; have NB146_161 := n15_; have NB161_146 := n16_; have NB160_161 := n17_; have NB161_160 := n18_; clear n0_ n1_ n2_ n3_ n4_ n5_ n6_ n7_ n8_ n9_ n10_ n11_ n12_ n13_ n14_ n15_ n16_ n17_ n18_; clear hb hbox hg; have hnb138 := NB161_143.out; have hnc138 := NB143_161.out; have hnb139 := NB161_144.out; have hnc139 := NB144_161.out; have hnb140 := NB161_145.out; have hnc140 := NB145_161.out; have hnb141 := NB161_146.out; have hnc141 := NB146_161.out; have hnb142 := NB161_160.out; have hnc142 := NB160_161.out; have hcz143_0 : w137.cell? ⟨gb161, 0, none⟩ = some (.bool false) := (blk_cell BK161.out 0).trans rfl; have hcz143_1 : w137.cell? ⟨gb161, 1, none⟩ = some (.int .i64 0) := (blk_cell BK161.out 1).trans rfl; have hcz143_2 : w137.cell? ⟨gb161, 2, none⟩ = some (.int .i64 0) := (blk_cell BK161.out 2).trans rfl; have hfz143_0 := blk_frozen BK161.out 0; have hfz143_1 := blk_frozen BK161.out 1; have hfz143_2 := blk_frozen BK161.out 2))
        have n0_ : Aside0 ((((w137.setCell ⟨gb161, 0, none⟩ (.bool t157)).setCell ⟨gb161, 1, none⟩ (.int .i64 t158)).setCell ⟨gb161, 2, none⟩ (.int .i64 t159)).heap[gb143]? = some (.cells #[.bool a2_0, .int .i64 a2_1, .int .i64 a2_2] 24 (0, 0))) := ⟨by (with_reducible repeat (first | apply bn_ | apply bd_ | apply ba_)); refine blk_far ?_ NB143_161.out _; (with_reducible repeat (first | apply bn_ | apply bd_ | apply ba_)); refine blk_far ?_ NB143_161.out _; (with_reducible repeat (first | apply bn_ | apply bd_ | apply ba_)); refine blk_far ?_ NB143_161.out _; (with_reducible repeat (first | apply bn_ | apply bd_ | apply ba_)); exact BK143.out⟩
        have n1_ : Aside0 ((((w137.setCell ⟨gb161, 0, none⟩ (.bool t157)).setCell ⟨gb161, 1, none⟩ (.int .i64 t158)).setCell ⟨gb161, 2, none⟩ (.int .i64 t159)).heap[gb144]? = some (.cells #[.bool a3_0, .int .i64 a3_1, .int .i64 a3_2] 24 (0, 0))) := ⟨by (with_reducible repeat (first | apply bn_ | apply bd_ | apply ba_)); refine blk_far ?_ NB144_161.out _; (with_reducible repeat (first | apply bn_ | apply bd_ | apply ba_)); refine blk_far ?_ NB144_161.out _; (with_reducible repeat (first | apply bn_ | apply bd_ | apply ba_)); refine blk_far ?_ NB144_161.out _; (with_reducible repeat (first | apply bn_ | apply bd_ | apply ba_)); exact BK144.out⟩
        have n2_ : Aside0 ((((w137.setCell ⟨gb161, 0, none⟩ (.bool t157)).setCell ⟨gb161, 1, none⟩ (.int .i64 t158)).setCell ⟨gb161, 2, none⟩ (.int .i64 t159)).heap[gb145]? = some (.cells #[.bool false, .int .i64 0, .int .i64 0] 24 (0, 0))) := ⟨by (with_reducible repeat (first | apply bn_ | apply bd_ | apply ba_)); refine blk_far ?_ NB145_161.out _; (with_reducible repeat (first | apply bn_ | apply bd_ | apply ba_)); refine blk_far ?_ NB145_161.out _; (with_reducible repeat (first | apply bn_ | apply bd_ | apply ba_)); refine blk_far ?_ NB145_161.out _; (with_reducible repeat (first | apply bn_ | apply bd_ | apply ba_)); exact BK145.out⟩
        have n3_ : Aside0 ((((w137.setCell ⟨gb161, 0, none⟩ (.bool t157)).setCell ⟨gb161, 1, none⟩ (.int .i64 t158)).setCell ⟨gb161, 2, none⟩ (.int .i64 t159)).heap[gb146]? = some (.cells #[.bool false, .int .i64 0, .int .i64 0] 24 (0, 0))) := ⟨by (with_reducible repeat (first | apply bn_ | apply bd_ | apply ba_)); refine blk_far ?_ NB146_161.out _; (with_reducible repeat (first | apply bn_ | apply bd_ | apply ba_)); refine blk_far ?_ NB146_161.out _; (with_reducible repeat (first | apply bn_ | apply bd_ | apply ba_)); refine blk_far ?_ NB146_161.out _; (with_reducible repeat (first | apply bn_ | apply bd_ | apply ba_)); exact BK146.out⟩
        have n4_ : Aside0 ((((w137.setCell ⟨gb161, 0, none⟩ (.bool t157)).setCell ⟨gb161, 1, none⟩ (.int .i64 t158)).setCell ⟨gb161, 2, none⟩ (.int .i64 t159)).heap[gb160]? = some (.cells #[.bool t157, .int .i64 t158, .int .i64 t159] 24 (0, 0))) := ⟨by (with_reducible repeat (first | apply bn_ | apply bd_ | apply ba_)); refine blk_far ?_ NB160_161.out _; (with_reducible repeat (first | apply bn_ | apply bd_ | apply ba_)); refine blk_far ?_ NB160_161.out _; (with_reducible repeat (first | apply bn_ | apply bd_ | apply ba_)); refine blk_far ?_ NB160_161.out _; (with_reducible repeat (first | apply bn_ | apply bd_ | apply ba_)); exact BK160.out⟩
        have n5_ : Aside0 ((((w137.setCell ⟨gb161, 0, none⟩ (.bool t157)).setCell ⟨gb161, 1, none⟩ (.int .i64 t158)).setCell ⟨gb161, 2, none⟩ (.int .i64 t159)).heap[gb161]? = some (.cells #[.bool t157, .int .i64 t158, .int .i64 t159] 24 (0, 0))) := ⟨by (with_reducible repeat (first | apply bn_ | apply bd_ | apply ba_)); refine blk_put (cs := #[.bool t157, .int .i64 t158, .int .i64 0]) ?_ 2 _ (by first | rfl | (simp [*]; done)); (with_reducible repeat (first | apply bn_ | apply bd_ | apply ba_)); refine blk_put (cs := #[.bool t157, .int .i64 0, .int .i64 0]) ?_ 1 _ (by first | rfl | (simp [*]; done)); (with_reducible repeat (first | apply bn_ | apply bd_ | apply ba_)); refine blk_put (cs := #[.bool false, .int .i64 0, .int .i64 0]) ?_ 0 _ (by first | rfl | (simp [*]; done)); (with_reducible repeat (first | apply bn_ | apply bd_ | apply ba_)); exact BK161.out⟩
        have n6_ : Aside0 (Below w.heap.size w (((w137.setCell ⟨gb161, 0, none⟩ (.bool t157)).setCell ⟨gb161, 1, none⟩ (.int .i64 t158)).setCell ⟨gb161, 2, none⟩ (.int .i64 t159))) := ⟨by repeat (first | (with_reducible first | exact HB.out | apply b1_ | apply b2_ | apply b3_ | apply c_ GE143 | apply c_ GE144 | apply c_ GE145 | apply c_ GE146 | apply c_ GE160 | apply c_ GE161) | exact HB.out)⟩
        (try clear BK143)
        (try clear BK144)
        (try clear BK145)
        (try clear BK146)
        (try clear BK160)
        (try clear BK161)
        (try clear HB)
        generalize (((w137.setCell ⟨gb161, 0, none⟩ (.bool t157)).setCell ⟨gb161, 1, none⟩ (.int .i64 t158)).setCell ⟨gb161, 2, none⟩ (.int .i64 t159)) = w144 at n0_ n1_ n2_ n3_ n4_ n5_ n6_ ⊢
        have BK143 := n0_
        have BK144 := n1_
        have BK145 := n2_
        have BK146 := n3_
        have BK160 := n4_
        have BK161 := n5_
        have HB := n6_
        clear n0_ n1_ n2_ n3_ n4_ n5_ n6_
        have n0_ := A_ (blk_drew BK143.out)
        have n1_ := A_ (blk_drew BK144.out)
        have n2_ := A_ (blk_drew BK145.out)
        have n3_ := A_ (blk_drew BK146.out)
        have n4_ := A_ (blk_drew BK160.out)
        have n5_ := A_ (blk_drew BK161.out)
        have n6_ := A_ (below_drew1 HB.out)
        clear BK143 BK144
        clear BK145 BK146
        clear BK160 BK161 HB
        have BK143 := n0_
        have BK144 := n1_
        have BK145 := n2_
        have BK146 := n3_
        have BK160 := n4_
        have BK161 := n5_
        have HB := n6_
        clear n0_ n1_ n2_ n3_ n4_ n5_ n6_
        refine start_ (n := 10) (S := fun w' => w'.cell? ⟨gb143, 0, none⟩ = some (.bool a2_0) ∧ w'.cell? ⟨gb143, 1, none⟩ = some (.int .i64 a2_1) ∧ w'.cell? ⟨gb143, 2, none⟩ = some (.int .i64 a2_2) ∧ w'.cell? ⟨gb144, 0, none⟩ = some (.bool a3_0) ∧ w'.cell? ⟨gb144, 1, none⟩ = some (.int .i64 a3_1) ∧ w'.cell? ⟨gb144, 2, none⟩ = some (.int .i64 a3_2)) (ds := []) #[false, false, false, false, false, false, false, false, false, false] (by kernel_rfl) rfl rfl ⟨(blk_cell BK143.out 0).trans rfl, (blk_cell BK143.out 1).trans rfl, (blk_cell BK143.out 2).trans rfl, (blk_cell BK144.out 0).trans rfl, (blk_cell BK144.out 1).trans rfl, (blk_cell BK144.out 2).trans rfl⟩ (fun hHeld => ?_); refine with_tabW spec_RelMeet.tab9 spec_RelMeet.bits9 (fun HT_ HW_ => ?_)
        generalize w144.drew = w145 at BK143 BK144 BK145 BK146 BK160 BK161 HB hHeld ⊢
        refine pure_ (i := 0) (N := some 44) (v := ?_) (a' := ?_) #[true, false, false, false, false, false, false, false, false, false] rfl rfl (any_of HT_.out (by kernel_rfl)) (fun _ _ _ h => h) (Or.inl ⟨by rfl, ?_⟩) ?_ ?_
        rotate_left
        ·intro w'
         go_simp
         with_reducible rfl
        rotate_left
        ·simp only [Act.put, List.setIfInBounds_toArray, List.set_cons_zero, List.set_cons_succ, i64_w, i32_w]
         rfl
        refine pure_ (i := 2) (N := some 46) (v := ?_) (a' := ?_) #[true, false, true, false, false, false, false, false, false, false] rfl rfl (any_of HT_.out (by kernel_rfl)) (fun _ _ _ h => h) (Or.inl ⟨by rfl, ?_⟩) ?_ ?_
        rotate_left
        ·intro w'
         go_simp
         with_reducible rfl
        rotate_left
        ·simp only [Act.put, List.setIfInBounds_toArray, List.set_cons_zero, List.set_cons_succ, i64_w, i32_w]
         rfl
        refine pure_ (i := 5) (N := some 49) (v := ?_) (a' := ?_) #[true, false, true, false, false, true, false, false, false, false] rfl rfl (any_of HT_.out (by kernel_rfl)) (fun _ _ _ h => h) (Or.inl ⟨by rfl, ?_⟩) ?_ ?_
        rotate_left
        ·intro w'
         go_simp
         with_reducible rfl
        rotate_left
        ·simp only [Act.put, List.setIfInBounds_toArray, List.set_cons_zero, List.set_cons_succ, i64_w, i32_w]
         rfl
        refine take_ (i := 1) (N := some 45) (v := ?_) (a' := ?_) #[true, true, true, false, false, true, false, false, false, false] rfl rfl (take_ofW HT_.out HW_.out (by kernel_rfl)) (fun _ _ _ h => h) (Or.inl ⟨by rfl, ?_⟩) hHeld ?_ ?_
        rotate_left
        ·rintro w' ⟨s0, s1, s2, s3, s4, s5⟩
         go_simp
         with_reducible rfl
        rotate_left
        ·simp only [Act.put, List.setIfInBounds_toArray, List.set_cons_zero, List.set_cons_succ, i64_w, i32_w]
         rfl
        refine take_ (i := 6) (N := some 50) (v := ?_) (a' := ?_) #[true, true, true, false, false, true, true, false, false, false] rfl rfl (take_ofW HT_.out HW_.out (by kernel_rfl)) (fun _ _ _ h => h) (Or.inl ⟨by rfl, ?_⟩) hHeld ?_ ?_
        rotate_left
        ·rintro w' ⟨s0, s1, s2, s3, s4, s5⟩
         go_simp
         with_reducible rfl
        rotate_left
        ·simp only [Act.put, List.setIfInBounds_toArray, List.set_cons_zero, List.set_cons_succ, i64_w, i32_w]
         rfl
        refine one_ (i := 3) (N := some 47) #[true, true, true, true, false, true, true, false, false, false] rfl rfl (one_of HT_.out (by kernel_rfl)) (by decide) (fun K hK => ?_)
        refine goes_ Try.func36 (by kernel_rfl) rfl #[.int .i64 a0] (by rfl) rfl rfl (by (try simp only [List.map_toArray, List.map_cons, List.map_nil]); first | done | rfl) ?_
        with_reducible refine (spec_BitTop.calls a0 t162 _ A70.out).mono ?_
        rintro e w' ⟨rfl, ⟨nd, rfl⟩⟩
        refine ⟨_, rfl, ?_⟩
        refine hK.out _ _ ⟨(blk_cell BK143.out 0).trans rfl, (blk_cell BK143.out 1).trans rfl, (blk_cell BK143.out 2).trans rfl, (blk_cell BK144.out 0).trans rfl, (blk_cell BK144.out 1).trans rfl, (blk_cell BK144.out 2).trans rfl⟩ (fun hHeld => ?_)
        clear hK K
        refine norm_ (a' := ?_) ?_ ?_
        rotate_left
        ·show Act.put _ (some 47) _ = _
         simp only [Act.put, List.setIfInBounds_toArray, List.set_cons_zero, List.set_cons_succ, i64_w, i32_w]
         rfl
        refine pure_ (i := 4) (N := some 48) (v := ?_) (a' := ?_) #[true, true, true, true, true, true, true, false, false, false] rfl rfl (any_of HT_.out (by kernel_rfl)) (fun _ _ _ h => h) (Or.inl ⟨by rfl, ?_⟩) ?_ ?_
        rotate_left
        ·intro w'
         go_simp
         with_reducible rfl
        rotate_left
        ·simp only [Act.put, List.setIfInBounds_toArray, List.set_cons_zero, List.set_cons_succ, i64_w, i32_w]
         rfl
        refine one_ (i := 7) (N := some 51) #[true, true, true, true, true, true, true, true, false, false] rfl rfl (one_of HT_.out (by kernel_rfl)) (by decide) (fun K hK => ?_)
        refine goes_ Try.func35 (by kernel_rfl) rfl #[.int .i64 (wrap64 (-t162)), .int .i64 a3_2] (by rfl) rfl rfl (by (try simp only [List.map_toArray, List.map_cons, List.map_nil]); first | done | rfl) ?_
        with_reducible refine (spec_l9Of.calls (wrap64 (-t162)) a3_2 t163 t164 t165 _ A71.out).mono ?_
        rintro e w146 ⟨rfl, hb⟩
        refine ⟨_, rfl, ?_⟩
        have n0_ := A_ (blk_below (bz_ BK143.out) hb)
        have n1_ := A_ (blk_below (bz_ BK144.out) hb)
        have n2_ := A_ (blk_below (bz_ BK145.out) hb)
        have n3_ := A_ (blk_below (bz_ BK146.out) hb)
        have n4_ := A_ (blk_below (bz_ BK160.out) hb)
        have n5_ := A_ (blk_below (bz_ BK161.out) hb)
        have n6_ := A_ (below_step (by repeat (first | (with_reducible first | exact HB.out | apply b1_ | apply b2_ | apply b3_ | apply c_ GE143 | apply c_ GE144 | apply c_ GE145 | apply c_ GE146 | apply c_ GE160 | apply c_ GE161) | exact HB.out)) hb)
        clear BK143 BK144
        clear BK145 BK146
        clear BK160 BK161 HB
        have BK143 := n0_
        have BK144 := n1_
        have BK145 := n2_
        have BK146 := n3_
        have BK160 := n4_
        have BK161 := n5_
        have HB := n6_
        clear n0_ n1_ n2_ n3_ n4_ n5_ n6_
        (try clear hb)
        (try clear hb2)
        (try clear hk)
        (try clear hi)
        refine hK.out _ _ ⟨(blk_cell BK143.out 0).trans rfl, (blk_cell BK143.out 1).trans rfl, (blk_cell BK143.out 2).trans rfl, (blk_cell BK144.out 0).trans rfl, (blk_cell BK144.out 1).trans rfl, (blk_cell BK144.out 2).trans rfl⟩ (fun hHeld => ?_)
        clear hK K
        refine norm_ (a' := ?_) ?_ ?_
        rotate_left
        ·show Act.put _ (some 51) _ = _
         simp only [Act.put, List.setIfInBounds_toArray, List.set_cons_zero, List.set_cons_succ, i64_w, i32_w]
         rfl
        refine one_ (i := 8) (N := some 52) #[true, true, true, true, true, true, true, true, true, false] rfl rfl (one_of HT_.out (by kernel_rfl)) (by decide) (fun K hK => ?_)
        refine goes_ Try.func34 (by kernel_rfl) rfl #[.int .i64 a0, .agg #[.bool a2_0, .int .i64 a2_1, .int .i64 a2_2], .agg #[.bool t163, .int .i64 t164, .int .i64 t165]] (by rfl) rfl rfl (by (try simp only [List.map_toArray, List.map_cons, List.map_nil]); first | done | rfl) ?_
        with_reducible refine (spec_SpanMeet.calls a0 a2_0 a2_1 a2_2 t163 t164 t165 true t167 t168 _ A72.out).mono ?_
        rintro e w147 ⟨rfl, hb⟩
        refine ⟨_, rfl, ?_⟩
        have n0_ := A_ (blk_below (bz_ BK143.out) hb)
        have n1_ := A_ (blk_below (bz_ BK144.out) hb)
        have n2_ := A_ (blk_below (bz_ BK145.out) hb)
        have n3_ := A_ (blk_below (bz_ BK146.out) hb)
        have n4_ := A_ (blk_below (bz_ BK160.out) hb)
        have n5_ := A_ (blk_below (bz_ BK161.out) hb)
        have n6_ := A_ (below_step (by repeat (first | (with_reducible first | exact HB.out | apply b1_ | apply b2_ | apply b3_ | apply c_ GE143 | apply c_ GE144 | apply c_ GE145 | apply c_ GE146 | apply c_ GE160 | apply c_ GE161) | exact HB.out)) hb)
        clear BK143 BK144
        clear BK145 BK146
        clear BK160 BK161 HB
        have BK143 := n0_
        have BK144 := n1_
        have BK145 := n2_
        have BK146 := n3_
        have BK160 := n4_
        have BK161 := n5_
        have HB := n6_
        clear n0_ n1_ n2_ n3_ n4_ n5_ n6_
        (try clear hb)
        (try clear hb2)
        (try clear hk)
        (try clear hi)
        refine hK.out _ _ ⟨(blk_cell BK143.out 0).trans rfl, (blk_cell BK143.out 1).trans rfl, (blk_cell BK143.out 2).trans rfl, (blk_cell BK144.out 0).trans rfl, (blk_cell BK144.out 1).trans rfl, (blk_cell BK144.out 2).trans rfl⟩ (fun hHeld => ?_)
        clear hK K
        refine norm_ (a' := ?_) ?_ ?_
        rotate_left
        ·show Act.put _ (some 52) _ = _
         simp only [Act.put, List.setIfInBounds_toArray, List.set_cons_zero, List.set_cons_succ, i64_w, i32_w]
         rfl
        refine one_ (i := 9) (N := none) #[true, true, true, true, true, true, true, true, true, true] rfl rfl (one_of HT_.out (by kernel_rfl)) (by decide) (fun K hK => ?_)
        have hs148 : w147.cell? ⟨gb160, 0, none⟩ = some (.bool t157) := (blk_cell BK160.out 0).trans rfl
        have hfs148 := blk_frozen BK160.out 0
        have hns148_0 := NB143_160.out
        have hns148_1 := NB144_160.out
        have hns148_2 := NB145_160.out
        have hns148_3 := NB146_160.out
        have hns148_5 := NB161_160.out
        have hms148_0 := NB160_143.out
        have hms148_1 := NB160_144.out
        have hms148_2 := NB160_145.out
        have hms148_3 := NB160_146.out
        have hms148_5 := NB160_161.out
        have hs149 : w147.cell? ⟨gb160, 1, none⟩ = some (.int .i64 t158) := (blk_cell BK160.out 1).trans rfl
        have hfs149 := blk_frozen BK160.out 1
        have hns149_0 := NB143_160.out
        have hns149_1 := NB144_160.out
        have hns149_2 := NB145_160.out
        have hns149_3 := NB146_160.out
        have hns149_5 := NB161_160.out
        have hms149_0 := NB160_143.out
        have hms149_1 := NB160_144.out
        have hms149_2 := NB160_145.out
        have hms149_3 := NB160_146.out
        have hms149_5 := NB160_161.out
        have hs150 : w147.cell? ⟨gb160, 2, none⟩ = some (.int .i64 t159) := (blk_cell BK160.out 2).trans rfl
        have hfs150 := blk_frozen BK160.out 2
        have hns150_0 := NB143_160.out
        have hns150_1 := NB144_160.out
        have hns150_2 := NB145_160.out
        have hns150_3 := NB146_160.out
        have hns150_5 := NB161_160.out
        have hms150_0 := NB160_143.out
        have hms150_1 := NB160_144.out
        have hms150_2 := NB160_145.out
        have hms150_3 := NB160_146.out
        have hms150_5 := NB160_161.out
        refine skip_ (w1 := ?_) (by rfl) rfl ?_ ?_
        rotate_left
        ·go_simp
         rfl
        refine hK.out _ _ ⟨((cell_far (p := ⟨gb160, _, none⟩) NB143_160.out _).trans (((cell_far (p := ⟨gb160, _, none⟩) NB143_160.out _).trans (((cell_far (p := ⟨gb160, _, none⟩) NB143_160.out _).trans (hHeld.1)))))), ((cell_far (p := ⟨gb160, _, none⟩) NB143_160.out _).trans (((cell_far (p := ⟨gb160, _, none⟩) NB143_160.out _).trans (((cell_far (p := ⟨gb160, _, none⟩) NB143_160.out _).trans (hHeld.2.1)))))), ((cell_far (p := ⟨gb160, _, none⟩) NB143_160.out _).trans (((cell_far (p := ⟨gb160, _, none⟩) NB143_160.out _).trans (((cell_far (p := ⟨gb160, _, none⟩) NB143_160.out _).trans (hHeld.2.2.1)))))), ((cell_far (p := ⟨gb160, _, none⟩) NB144_160.out _).trans (((cell_far (p := ⟨gb160, _, none⟩) NB144_160.out _).trans (((cell_far (p := ⟨gb160, _, none⟩) NB144_160.out _).trans (hHeld.2.2.2.1)))))), ((cell_far (p := ⟨gb160, _, none⟩) NB144_160.out _).trans (((cell_far (p := ⟨gb160, _, none⟩) NB144_160.out _).trans (((cell_far (p := ⟨gb160, _, none⟩) NB144_160.out _).trans (hHeld.2.2.2.2.1)))))), ((cell_far (p := ⟨gb160, _, none⟩) NB144_160.out _).trans (((cell_far (p := ⟨gb160, _, none⟩) NB144_160.out _).trans (((cell_far (p := ⟨gb160, _, none⟩) NB144_160.out _).trans (hHeld.2.2.2.2.2))))))⟩ (fun hHeld => ?_)
        clear hK K
        refine done_ (done_of HT_.out (by kernel_rfl)) ?_
        try go_wp2
        have n0_ : Aside0 ((((w147.setCell ⟨gb160, 0, none⟩ (.bool true)).setCell ⟨gb160, 1, none⟩ (.int .i64 t167)).setCell ⟨gb160, 2, none⟩ (.int .i64 t168)).heap[gb143]? = some (.cells #[.bool a2_0, .int .i64 a2_1, .int .i64 a2_2] 24 (0, 0))) := ⟨by (with_reducible repeat (first | apply bn_ | apply bd_ | apply ba_)); refine blk_far ?_ NB143_160.out _; (with_reducible repeat (first | apply bn_ | apply bd_ | apply ba_)); refine blk_far ?_ NB143_160.out _; (with_reducible repeat (first | apply bn_ | apply bd_ | apply ba_)); refine blk_far ?_ NB143_160.out _; (with_reducible repeat (first | apply bn_ | apply bd_ | apply ba_)); exact BK143.out⟩
        have n1_ : Aside0 ((((w147.setCell ⟨gb160, 0, none⟩ (.bool true)).setCell ⟨gb160, 1, none⟩ (.int .i64 t167)).setCell ⟨gb160, 2, none⟩ (.int .i64 t168)).heap[gb144]? = some (.cells #[.bool a3_0, .int .i64 a3_1, .int .i64 a3_2] 24 (0, 0))) := ⟨by (with_reducible repeat (first | apply bn_ | apply bd_ | apply ba_)); refine blk_far ?_ NB144_160.out _; (with_reducible repeat (first | apply bn_ | apply bd_ | apply ba_)); refine blk_far ?_ NB144_160.out _; (with_reducible repeat (first | apply bn_ | apply bd_ | apply ba_)); refine blk_far ?_ NB144_160.out _; (with_reducible repeat (first | apply bn_ | apply bd_ | apply ba_)); exact BK144.out⟩
        have n2_ : Aside0 ((((w147.setCell ⟨gb160, 0, none⟩ (.bool true)).setCell ⟨gb160, 1, none⟩ (.int .i64 t167)).setCell ⟨gb160, 2, none⟩ (.int .i64 t168)).heap[gb145]? = some (.cells #[.bool false, .int .i64 0, .int .i64 0] 24 (0, 0))) := ⟨by (with_reducible repeat (first | apply bn_ | apply bd_ | apply ba_)); refine blk_far ?_ NB145_160.out _; (with_reducible repeat (first | apply bn_ | apply bd_ | apply ba_)); refine blk_far ?_ NB145_160.out _; (with_reducible repeat (first | apply bn_ | apply bd_ | apply ba_)); refine blk_far ?_ NB145_160.out _; (with_reducible repeat (first | apply bn_ | apply bd_ | apply ba_)); exact BK145.out⟩
        have n3_ : Aside0 ((((w147.setCell ⟨gb160, 0, none⟩ (.bool true)).setCell ⟨gb160, 1, none⟩ (.int .i64 t167)).setCell ⟨gb160, 2, none⟩ (.int .i64 t168)).heap[gb146]? = some (.cells #[.bool false, .int .i64 0, .int .i64 0] 24 (0, 0))) := ⟨by (with_reducible repeat (first | apply bn_ | apply bd_ | apply ba_)); refine blk_far ?_ NB146_160.out _; (with_reducible repeat (first | apply bn_ | apply bd_ | apply ba_)); refine blk_far ?_ NB146_160.out _; (with_reducible repeat (first | apply bn_ | apply bd_ | apply ba_)); refine blk_far ?_ NB146_160.out _; (with_reducible repeat (first | apply bn_ | apply bd_ | apply ba_)); exact BK146.out⟩
        have n4_ : Aside0 ((((w147.setCell ⟨gb160, 0, none⟩ (.bool true)).setCell ⟨gb160, 1, none⟩ (.int .i64 t167)).setCell ⟨gb160, 2, none⟩ (.int .i64 t168)).heap[gb160]? = some (.cells #[.bool true, .int .i64 t167, .int .i64 t168] 24 (0, 0))) := ⟨by (with_reducible repeat (first | apply bn_ | apply bd_ | apply ba_)); refine blk_put (cs := #[.bool true, .int .i64 t167, .int .i64 t159]) ?_ 2 _ (by first | rfl | (simp [*]; done)); (with_reducible repeat (first | apply bn_ | apply bd_ | apply ba_)); refine blk_put (cs := #[.bool true, .int .i64 t158, .int .i64 t159]) ?_ 1 _ (by first | rfl | (simp [*]; done)); (with_reducible repeat (first | apply bn_ | apply bd_ | apply ba_)); refine blk_put (cs := #[.bool t157, .int .i64 t158, .int .i64 t159]) ?_ 0 _ (by first | rfl | (simp [*]; done)); (with_reducible repeat (first | apply bn_ | apply bd_ | apply ba_)); exact BK160.out⟩
        have n5_ : Aside0 ((((w147.setCell ⟨gb160, 0, none⟩ (.bool true)).setCell ⟨gb160, 1, none⟩ (.int .i64 t167)).setCell ⟨gb160, 2, none⟩ (.int .i64 t168)).heap[gb161]? = some (.cells #[.bool t157, .int .i64 t158, .int .i64 t159] 24 (0, 0))) := ⟨by (with_reducible repeat (first | apply bn_ | apply bd_ | apply ba_)); refine blk_far ?_ NB161_160.out _; (with_reducible repeat (first | apply bn_ | apply bd_ | apply ba_)); refine blk_far ?_ NB161_160.out _; (with_reducible repeat (first | apply bn_ | apply bd_ | apply ba_)); refine blk_far ?_ NB161_160.out _; (with_reducible repeat (first | apply bn_ | apply bd_ | apply ba_)); exact BK161.out⟩
        have n6_ : Aside0 (Below w.heap.size w (((w147.setCell ⟨gb160, 0, none⟩ (.bool true)).setCell ⟨gb160, 1, none⟩ (.int .i64 t167)).setCell ⟨gb160, 2, none⟩ (.int .i64 t168))) := ⟨by repeat (first | (with_reducible first | exact HB.out | apply b1_ | apply b2_ | apply b3_ | apply c_ GE143 | apply c_ GE144 | apply c_ GE145 | apply c_ GE146 | apply c_ GE160 | apply c_ GE161) | exact HB.out)⟩
        (try clear BK143)
        (try clear BK144)
        (try clear BK145)
        (try clear BK146)
        (try clear BK160)
        (try clear BK161)
        (try clear HB)
        generalize (((w147.setCell ⟨gb160, 0, none⟩ (.bool true)).setCell ⟨gb160, 1, none⟩ (.int .i64 t167)).setCell ⟨gb160, 2, none⟩ (.int .i64 t168)) = w151 at n0_ n1_ n2_ n3_ n4_ n5_ n6_ ⊢
        have BK143 := n0_
        have BK144 := n1_
        have BK145 := n2_
        have BK146 := n3_
        have BK160 := n4_
        have BK161 := n5_
        have HB := n6_
        clear n0_ n1_ n2_ n3_ n4_ n5_ n6_
        have n0_ := A_ (blk_drew BK143.out)
        have n1_ := A_ (blk_drew BK144.out)
        have n2_ := A_ (blk_drew BK145.out)
        have n3_ := A_ (blk_drew BK146.out)
        have n4_ := A_ (blk_drew BK160.out)
        have n5_ := A_ (blk_drew BK161.out)
        have n6_ := A_ (below_drew1 HB.out)
        clear BK143 BK144
        clear BK145 BK146
        clear BK160 BK161 HB
        have BK143 := n0_
        have BK144 := n1_
        have BK145 := n2_
        have BK146 := n3_
        have BK160 := n4_
        have BK161 := n5_
        have HB := n6_
        clear n0_ n1_ n2_ n3_ n4_ n5_ n6_
        refine start_ (n := 9) (S := fun w' => w'.cell? ⟨gb144, 0, none⟩ = some (.bool a3_0) ∧ w'.cell? ⟨gb144, 1, none⟩ = some (.int .i64 a3_1) ∧ w'.cell? ⟨gb144, 2, none⟩ = some (.int .i64 a3_2) ∧ w'.cell? ⟨gb143, 0, none⟩ = some (.bool a2_0) ∧ w'.cell? ⟨gb143, 1, none⟩ = some (.int .i64 a2_1) ∧ w'.cell? ⟨gb143, 2, none⟩ = some (.int .i64 a2_2)) (ds := []) #[false, false, false, false, false, false, false, false, false] (by kernel_rfl) rfl rfl ⟨(blk_cell BK144.out 0).trans rfl, (blk_cell BK144.out 1).trans rfl, (blk_cell BK144.out 2).trans rfl, (blk_cell BK143.out 0).trans rfl, (blk_cell BK143.out 1).trans rfl, (blk_cell BK143.out 2).trans rfl⟩ (fun hHeld => ?_); refine with_tabW spec_RelMeet.tab10 spec_RelMeet.bits10 (fun HT_ HW_ => ?_)
        generalize w151.drew = w152 at BK143 BK144 BK145 BK146 BK160 BK161 HB hHeld ⊢
        refine pure_ (i := 0) (N := some 53) (v := ?_) (a' := ?_) #[true, false, false, false, false, false, false, false, false] rfl rfl (any_of HT_.out (by kernel_rfl)) (fun _ _ _ h => h) (Or.inl ⟨by rfl, ?_⟩) ?_ ?_
        rotate_left
        ·intro w'
         go_simp
         with_reducible rfl
        rotate_left
        ·simp only [Act.put, List.setIfInBounds_toArray, List.set_cons_zero, List.set_cons_succ, i64_w, i32_w]
         rfl
        refine pure_ (i := 2) (N := some 55) (v := ?_) (a' := ?_) #[true, false, true, false, false, false, false, false, false] rfl rfl (any_of HT_.out (by kernel_rfl)) (fun _ _ _ h => h) (Or.inl ⟨by rfl, ?_⟩) ?_ ?_
        rotate_left
        ·intro w'
         go_simp
         with_reducible rfl
        rotate_left
        ·simp only [Act.put, List.setIfInBounds_toArray, List.set_cons_zero, List.set_cons_succ, i64_w, i32_w]
         rfl
        refine pure_ (i := 4) (N := some 57) (v := ?_) (a' := ?_) #[true, false, true, false, true, false, false, false, false] rfl rfl (any_of HT_.out (by kernel_rfl)) (fun _ _ _ h => h) (Or.inl ⟨by rfl, ?_⟩) ?_ ?_
        rotate_left
        ·intro w'
         go_simp
         with_reducible rfl
        rotate_left
        ·simp only [Act.put, List.setIfInBounds_toArray, List.set_cons_zero, List.set_cons_succ, i64_w, i32_w]
         rfl
        refine take_ (i := 1) (N := some 54) (v := ?_) (a' := ?_) #[true, true, true, false, true, false, false, false, false] rfl rfl (take_ofW HT_.out HW_.out (by kernel_rfl)) (fun _ _ _ h => h) (Or.inl ⟨by rfl, ?_⟩) hHeld ?_ ?_
        rotate_left
        ·rintro w' ⟨s0, s1, s2, s3, s4, s5⟩
         go_simp
         with_reducible rfl
        rotate_left
        ·simp only [Act.put, List.setIfInBounds_toArray, List.set_cons_zero, List.set_cons_succ, i64_w, i32_w]
         rfl
        refine take_ (i := 3) (N := some 56) (v := ?_) (a' := ?_) #[true, true, true, true, true, false, false, false, false] rfl rfl (take_ofW HT_.out HW_.out (by kernel_rfl)) (fun _ _ _ h => h) (Or.inl ⟨by rfl, ?_⟩) hHeld ?_ ?_
        rotate_left
        ·rintro w' ⟨s0, s1, s2, s3, s4, s5⟩
         go_simp
         with_reducible rfl
        rotate_left
        ·simp only [Act.put, List.setIfInBounds_toArray, List.set_cons_zero, List.set_cons_succ, i64_w, i32_w]
         rfl
        refine one_ (i := 5) (N := some 58) #[true, true, true, true, true, true, false, false, false] rfl rfl (one_of HT_.out (by kernel_rfl)) (by decide) (fun K hK => ?_)
        refine goes_ Try.func36 (by kernel_rfl) rfl #[.int .i64 a0] (by rfl) rfl rfl (by (try simp only [List.map_toArray, List.map_cons, List.map_nil]); first | done | rfl) ?_
        with_reducible refine (spec_BitTop.calls a0 t162 _ A73.out).mono ?_
        rintro e w' ⟨rfl, ⟨nd, rfl⟩⟩
        refine ⟨_, rfl, ?_⟩
        refine hK.out _ _ ⟨(blk_cell BK144.out 0).trans rfl, (blk_cell BK144.out 1).trans rfl, (blk_cell BK144.out 2).trans rfl, (blk_cell BK143.out 0).trans rfl, (blk_cell BK143.out 1).trans rfl, (blk_cell BK143.out 2).trans rfl⟩ (fun hHeld => ?_)
        clear hK K
        refine norm_ (a' := ?_) ?_ ?_
        rotate_left
        ·show Act.put _ (some 58) _ = _
         simp only [Act.put, List.setIfInBounds_toArray, List.set_cons_zero, List.set_cons_succ, i64_w, i32_w]
         rfl
        refine one_ (i := 6) (N := some 59) #[true, true, true, true, true, true, true, false, false] rfl rfl (one_of HT_.out (by kernel_rfl)) (by decide) (fun K hK => ?_)
        refine goes_ Try.func35 (by kernel_rfl) rfl #[.int .i64 a2_1, .int .i64 t162] (by rfl) rfl rfl (by (try simp only [List.map_toArray, List.map_cons, List.map_nil]); first | done | rfl) ?_
        with_reducible refine (spec_l9Of.calls a2_1 t162 t170 t171 t172 _ A74.out).mono ?_
        rintro e w153 ⟨rfl, hb⟩
        refine ⟨_, rfl, ?_⟩
        have n0_ := A_ (blk_below (bz_ BK143.out) hb)
        have n1_ := A_ (blk_below (bz_ BK144.out) hb)
        have n2_ := A_ (blk_below (bz_ BK145.out) hb)
        have n3_ := A_ (blk_below (bz_ BK146.out) hb)
        have n4_ := A_ (blk_below (bz_ BK160.out) hb)
        have n5_ := A_ (blk_below (bz_ BK161.out) hb)
        have n6_ := A_ (below_step (by repeat (first | (with_reducible first | exact HB.out | apply b1_ | apply b2_ | apply b3_ | apply c_ GE143 | apply c_ GE144 | apply c_ GE145 | apply c_ GE146 | apply c_ GE160 | apply c_ GE161) | exact HB.out)) hb)
        clear BK143 BK144
        clear BK145 BK146
        clear BK160 BK161 HB
        have BK143 := n0_
        have BK144 := n1_
        have BK145 := n2_
        have BK146 := n3_
        have BK160 := n4_
        have BK161 := n5_
        have HB := n6_
        clear n0_ n1_ n2_ n3_ n4_ n5_ n6_
        (try clear hb)
        (try clear hb2)
        (try clear hk)
        (try clear hi)
        refine hK.out _ _ ⟨(blk_cell BK144.out 0).trans rfl, (blk_cell BK144.out 1).trans rfl, (blk_cell BK144.out 2).trans rfl, (blk_cell BK143.out 0).trans rfl, (blk_cell BK143.out 1).trans rfl, (blk_cell BK143.out 2).trans rfl⟩ (fun hHeld => ?_)
        clear hK K
        refine norm_ (a' := ?_) ?_ ?_
        rotate_left
        ·show Act.put _ (some 59) _ = _
         simp only [Act.put, List.setIfInBounds_toArray, List.set_cons_zero, List.set_cons_succ, i64_w, i32_w]
         rfl
        refine one_ (i := 7) (N := some 60) #[true, true, true, true, true, true, true, true, false] rfl rfl (one_of HT_.out (by kernel_rfl)) (by decide) (fun K hK => ?_)
        refine goes_ Try.func34 (by kernel_rfl) rfl #[.int .i64 a0, .agg #[.bool a3_0, .int .i64 a3_1, .int .i64 a3_2], .agg #[.bool t170, .int .i64 t171, .int .i64 t172]] (by rfl) rfl rfl (by (try simp only [List.map_toArray, List.map_cons, List.map_nil]); first | done | rfl) ?_
        with_reducible refine (spec_SpanMeet.calls a0 a3_0 a3_1 a3_2 t170 t171 t172 false t174 t175 _ A75.out).mono ?_
        rintro e w154 ⟨rfl, hb⟩
        refine ⟨_, rfl, ?_⟩
        have n0_ := A_ (blk_below (bz_ BK143.out) hb)
        have n1_ := A_ (blk_below (bz_ BK144.out) hb)
        have n2_ := A_ (blk_below (bz_ BK145.out) hb)
        have n3_ := A_ (blk_below (bz_ BK146.out) hb)
        have n4_ := A_ (blk_below (bz_ BK160.out) hb)
        have n5_ := A_ (blk_below (bz_ BK161.out) hb)
        have n6_ := A_ (below_step (by repeat (first | (with_reducible first | exact HB.out | apply b1_ | apply b2_ | apply b3_ | apply c_ GE143 | apply c_ GE144 | apply c_ GE145 | apply c_ GE146 | apply c_ GE160 | apply c_ GE161) | exact HB.out)) hb)
        clear BK143 BK144
        clear BK145 BK146
        clear BK160 BK161 HB
        have BK143 := n0_
        have BK144 := n1_
        have BK145 := n2_
        have BK146 := n3_
        have BK160 := n4_
        have BK161 := n5_
        have HB := n6_
        clear n0_ n1_ n2_ n3_ n4_ n5_ n6_
        (try clear hb)
        (try clear hb2)
        (try clear hk)
        (try clear hi)
        refine hK.out _ _ ⟨(blk_cell BK144.out 0).trans rfl, (blk_cell BK144.out 1).trans rfl, (blk_cell BK144.out 2).trans rfl, (blk_cell BK143.out 0).trans rfl, (blk_cell BK143.out 1).trans rfl, (blk_cell BK143.out 2).trans rfl⟩ (fun hHeld => ?_)
        clear hK K
        refine norm_ (a' := ?_) ?_ ?_
        rotate_left
        ·show Act.put _ (some 60) _ = _
         simp only [Act.put, List.setIfInBounds_toArray, List.set_cons_zero, List.set_cons_succ, i64_w, i32_w]
         rfl
        refine one_ (i := 8) (N := none) #[true, true, true, true, true, true, true, true, true] rfl rfl (one_of HT_.out (by kernel_rfl)) (by decide) (fun K hK => ?_)
        have hs155 : w154.cell? ⟨gb161, 0, none⟩ = some (.bool t157) := (blk_cell BK161.out 0).trans rfl
        have hfs155 := blk_frozen BK161.out 0
        have hns155_0 := NB143_161.out
        have hns155_1 := NB144_161.out
        have hns155_2 := NB145_161.out
        have hns155_3 := NB146_161.out
        have hns155_4 := NB160_161.out
        have hms155_0 := NB161_143.out
        have hms155_1 := NB161_144.out
        have hms155_2 := NB161_145.out
        have hms155_3 := NB161_146.out
        have hms155_4 := NB161_160.out
        have hs156 : w154.cell? ⟨gb161, 1, none⟩ = some (.int .i64 t158) := (blk_cell BK161.out 1).trans rfl
        have hfs156 := blk_frozen BK161.out 1
        have hns156_0 := NB143_161.out
        have hns156_1 := NB144_161.out
        have hns156_2 := NB145_161.out
        have hns156_3 := NB146_161.out
        have hns156_4 := NB160_161.out
        have hms156_0 := NB161_143.out
        have hms156_1 := NB161_144.out
        have hms156_2 := NB161_145.out
        have hms156_3 := NB161_146.out
        have hms156_4 := NB161_160.out
        have hs157 : w154.cell? ⟨gb161, 2, none⟩ = some (.int .i64 t159) := (blk_cell BK161.out 2).trans rfl
        have hfs157 := blk_frozen BK161.out 2
        have hns157_0 := NB143_161.out
        have hns157_1 := NB144_161.out
        have hns157_2 := NB145_161.out
        have hns157_3 := NB146_161.out
        have hns157_4 := NB160_161.out
        have hms157_0 := NB161_143.out
        have hms157_1 := NB161_144.out
        have hms157_2 := NB161_145.out
        have hms157_3 := NB161_146.out
        have hms157_4 := NB161_160.out
        refine skip_ (w1 := ?_) (by rfl) rfl ?_ ?_
        rotate_left
        ·go_simp
         rfl
        refine hK.out _ _ ⟨((cell_far (p := ⟨gb161, _, none⟩) NB144_161.out _).trans (((cell_far (p := ⟨gb161, _, none⟩) NB144_161.out _).trans (((cell_far (p := ⟨gb161, _, none⟩) NB144_161.out _).trans (hHeld.1)))))), ((cell_far (p := ⟨gb161, _, none⟩) NB144_161.out _).trans (((cell_far (p := ⟨gb161, _, none⟩) NB144_161.out _).trans (((cell_far (p := ⟨gb161, _, none⟩) NB144_161.out _).trans (hHeld.2.1)))))), ((cell_far (p := ⟨gb161, _, none⟩) NB144_161.out _).trans (((cell_far (p := ⟨gb161, _, none⟩) NB144_161.out _).trans (((cell_far (p := ⟨gb161, _, none⟩) NB144_161.out _).trans (hHeld.2.2.1)))))), ((cell_far (p := ⟨gb161, _, none⟩) NB143_161.out _).trans (((cell_far (p := ⟨gb161, _, none⟩) NB143_161.out _).trans (((cell_far (p := ⟨gb161, _, none⟩) NB143_161.out _).trans (hHeld.2.2.2.1)))))), ((cell_far (p := ⟨gb161, _, none⟩) NB143_161.out _).trans (((cell_far (p := ⟨gb161, _, none⟩) NB143_161.out _).trans (((cell_far (p := ⟨gb161, _, none⟩) NB143_161.out _).trans (hHeld.2.2.2.2.1)))))), ((cell_far (p := ⟨gb161, _, none⟩) NB143_161.out _).trans (((cell_far (p := ⟨gb161, _, none⟩) NB143_161.out _).trans (((cell_far (p := ⟨gb161, _, none⟩) NB143_161.out _).trans (hHeld.2.2.2.2.2))))))⟩ (fun hHeld => ?_)
        clear hK K
        refine done_ (done_of HT_.out (by kernel_rfl)) ?_
        have hcz158_0 : w154.cell? ⟨gb160, 0, none⟩ = some (.bool true) := (blk_cell BK160.out 0).trans rfl
        have hcz158_1 : w154.cell? ⟨gb160, 1, none⟩ = some (.int .i64 t167) := (blk_cell BK160.out 1).trans rfl
        have hcz158_2 : w154.cell? ⟨gb160, 2, none⟩ = some (.int .i64 t168) := (blk_cell BK160.out 2).trans rfl
        have hfz158_0 := blk_frozen BK160.out 0
        have hfz158_1 := blk_frozen BK160.out 1
        have hfz158_2 := blk_frozen BK160.out 2
        have hcz159_0 : w154.cell? ⟨gb161, 0, none⟩ = some (.bool t157) := (blk_cell BK161.out 0).trans rfl
        have hcz159_1 : w154.cell? ⟨gb161, 1, none⟩ = some (.int .i64 t158) := (blk_cell BK161.out 1).trans rfl
        have hcz159_2 : w154.cell? ⟨gb161, 2, none⟩ = some (.int .i64 t159) := (blk_cell BK161.out 2).trans rfl
        have hfz159_0 := blk_frozen BK161.out 0
        have hfz159_1 := blk_frozen BK161.out 1
        have hfz159_2 := blk_frozen BK161.out 2
        have hnb160 := NB145_146.out
        have hnc160 := NB146_145.out
        have hcz161_0 : w154.cell? ⟨gb145, 0, none⟩ = some (.bool false) := (blk_cell BK145.out 0).trans rfl
        have hcz161_1 : w154.cell? ⟨gb145, 1, none⟩ = some (.int .i64 0) := (blk_cell BK145.out 1).trans rfl
        have hcz161_2 : w154.cell? ⟨gb145, 2, none⟩ = some (.int .i64 0) := (blk_cell BK145.out 2).trans rfl
        have hfz161_0 := blk_frozen BK145.out 0
        have hfz161_1 := blk_frozen BK145.out 1
        have hfz161_2 := blk_frozen BK145.out 2
        have hcz162_0 : w154.cell? ⟨gb146, 0, none⟩ = some (.bool false) := (blk_cell BK146.out 0).trans rfl
        have hcz162_1 : w154.cell? ⟨gb146, 1, none⟩ = some (.int .i64 0) := (blk_cell BK146.out 1).trans rfl
        have hcz162_2 : w154.cell? ⟨gb146, 2, none⟩ = some (.int .i64 0) := (blk_cell BK146.out 2).trans rfl
        have hfz162_0 := blk_frozen BK146.out 0
        have hfz162_1 := blk_frozen BK146.out 1
        have hfz162_2 := blk_frozen BK146.out 2
        try go_wp2
        refine bodyPost_ret (results_cc rfl _ _ gb145 gb146 24 24 #[.bool false, .int .i64 0, .int .i64 0] #[.bool false, .int .i64 0, .int .i64 0] (0, 0) (0, 0) _ _ rfl (by (with_reducible repeat (first | apply bn_ | apply bd_ | apply ba_)); refine blk_far ?_ NB145_146.out _; (with_reducible repeat (first | apply bn_ | apply bd_ | apply ba_)); refine blk_far ?_ NB145_146.out _; (with_reducible repeat (first | apply bn_ | apply bd_ | apply ba_)); refine blk_far ?_ NB145_146.out _; (with_reducible repeat (first | apply bn_ | apply bd_ | apply ba_)); refine blk_put (cs := #[.bool false, .int .i64 0, .int .i64 0]) ?_ 2 _ (by first | rfl | (simp [*]; done)); (with_reducible repeat (first | apply bn_ | apply bd_ | apply ba_)); refine blk_put (cs := #[.bool false, .int .i64 0, .int .i64 0]) ?_ 1 _ (by first | rfl | (simp [*]; done)); (with_reducible repeat (first | apply bn_ | apply bd_ | apply ba_)); refine blk_put (cs := #[.bool false, .int .i64 0, .int .i64 0]) ?_ 0 _ (by first | rfl | (simp [*]; done)); (with_reducible repeat (first | apply bn_ | apply bd_ | apply ba_)); refine blk_far ?_ NB145_161.out _; (with_reducible repeat (first | apply bn_ | apply bd_ | apply ba_)); refine blk_far ?_ NB145_161.out _; (with_reducible repeat (first | apply bn_ | apply bd_ | apply ba_)); refine blk_far ?_ NB145_161.out _; (with_reducible repeat (first | apply bn_ | apply bd_ | apply ba_)); exact BK145.out) Try.underlying24 rfl (by kernel_rfl) rfl (by (with_reducible repeat (first | apply bn_ | apply bd_ | apply ba_)); refine blk_put (cs := #[.bool false, .int .i64 0, .int .i64 0]) ?_ 2 _ (by first | rfl | (simp [*]; done)); (with_reducible repeat (first | apply bn_ | apply bd_ | apply ba_)); refine blk_put (cs := #[.bool false, .int .i64 0, .int .i64 0]) ?_ 1 _ (by first | rfl | (simp [*]; done)); (with_reducible repeat (first | apply bn_ | apply bd_ | apply ba_)); refine blk_put (cs := #[.bool false, .int .i64 0, .int .i64 0]) ?_ 0 _ (by first | rfl | (simp [*]; done)); (with_reducible repeat (first | apply bn_ | apply bd_ | apply ba_)); refine blk_far ?_ NB146_145.out _; (with_reducible repeat (first | apply bn_ | apply bd_ | apply ba_)); refine blk_far ?_ NB146_145.out _; (with_reducible repeat (first | apply bn_ | apply bd_ | apply ba_)); refine blk_far ?_ NB146_145.out _; (with_reducible repeat (first | apply bn_ | apply bd_ | apply ba_)); refine blk_far ?_ NB146_161.out _; (with_reducible repeat (first | apply bn_ | apply bd_ | apply ba_)); refine blk_far ?_ NB146_161.out _; (with_reducible repeat (first | apply bn_ | apply bd_ | apply ba_)); refine blk_far ?_ NB146_161.out _; (with_reducible repeat (first | apply bn_ | apply bd_ | apply ba_)); exact BK146.out) Try.underlying24 rfl (by kernel_rfl)) rfl ?_
        exact ⟨by first | rfl | (simp [errW_none, errW_some] <;> rfl) | (simp [*, errW_none, errW_some] <;> rfl), by repeat (first | (with_reducible first | exact HB.out | apply b1_ | apply b2_ | apply b3_ | apply c_ GE143 | apply c_ GE144 | apply c_ GE145 | apply c_ GE146 | apply c_ GE160 | apply c_ GE161) | exact HB.out)⟩
      ·replace c76 := Bool.eq_false_iff.mpr c76
       subst c76
       have H1 : (some (false, 0, 0, false, 0, 0)) = some (r1, r2, r3, r4, r5, r6) := by rw [if_neg (show ¬ (false = true) by decide)] at H; exact H
       clear H
       have H := H1
       clear H1
       simp only [Option.some.injEq, Prod.mk.injEq] at H
       obtain ⟨rfl, rfl, rfl, rfl, rfl, rfl⟩ := H
       have hnb163 := NB143_144.out
       have hnc163 := NB144_143.out
       have hnb164 := NB143_145.out
       have hnc164 := NB145_143.out
       have hnb165 := NB143_146.out
       have hnc165 := NB146_143.out
       have hcz166_0 : wc.cell? ⟨gb143, 0, none⟩ = some (.bool a2_0) := (blk_cell BK143.out 0).trans rfl
       have hcz166_1 : wc.cell? ⟨gb143, 1, none⟩ = some (.int .i64 a2_1) := (blk_cell BK143.out 1).trans rfl
       have hcz166_2 : wc.cell? ⟨gb143, 2, none⟩ = some (.int .i64 a2_2) := (blk_cell BK143.out 2).trans rfl
       have hfz166_0 := blk_frozen BK143.out 0
       have hfz166_1 := blk_frozen BK143.out 1
       have hfz166_2 := blk_frozen BK143.out 2
       have hnb167 := NB144_145.out
       have hnc167 := NB145_144.out
       have hnb168 := NB144_146.out
       have hnc168 := NB146_144.out
       have hcz169_0 : wc.cell? ⟨gb144, 0, none⟩ = some (.bool a3_0) := (blk_cell BK144.out 0).trans rfl
       have hcz169_1 : wc.cell? ⟨gb144, 1, none⟩ = some (.int .i64 a3_1) := (blk_cell BK144.out 1).trans rfl
       have hcz169_2 : wc.cell? ⟨gb144, 2, none⟩ = some (.int .i64 a3_2) := (blk_cell BK144.out 2).trans rfl
       have hfz169_0 := blk_frozen BK144.out 0
       have hfz169_1 := blk_frozen BK144.out 1
       have hfz169_2 := blk_frozen BK144.out 2
       try go_wp2_with (first | ((with_reducible refine gate_callee (f := 34) rfl ?_); refine goesL_ (some 40) rfl rfl Try.func34 (by kernel_rfl) rfl #[.int .i64 a0, .agg #[.bool a2_0, .int .i64 a2_1, .int .i64 a2_2], .agg #[.bool a3_0, .int .i64 a3_1, .int .i64 a3_2]] rfl (by (try simp only [List.map_toArray, List.map_cons, List.map_nil]); first | done | rfl) ?_; (with_reducible refine (spec_SpanMeet.calls a0 a2_0 a2_1 a2_2 a3_0 a3_1 a3_2 t157 t158 t159 _ A68.out).mono ?_); rintro e w170 ⟨rfl, hb⟩; refine ⟨_, rfl, ?_⟩; have n0_ := A_ (blk_below (bz_ BK143.out) hb); have n1_ := A_ (blk_below (bz_ BK144.out) hb); have n2_ := A_ (blk_below (bz_ BK145.out) hb); have n3_ := A_ (blk_below (bz_ BK146.out) hb); have n4_ := A_ (below_step (by repeat (first | (with_reducible first | exact HB.out | apply b1_ | apply b2_ | apply b3_ | apply c_ GE143 | apply c_ GE144 | apply c_ GE145 | apply c_ GE146) | exact HB.out)) hb); clear BK143 BK144 BK145 BK146 HB; have BK143 := n0_; have BK144 := n1_; have BK145 := n2_; have BK146 := n3_; have HB := n4_; clear n0_ n1_ n2_ n3_ n4_; (try clear hb); (try clear hb2); (try clear hk); (try clear hi)) | ((with_reducible refine gate_dst (N := 12) rfl ?_); refine box_event ?hg (N := 12) ?hd (cs := #[.bool false, .int .i64 0, .int .i64 0]) (t := 24) ?hr ?_; (case hd => rfl); (case hg => rfl); (case hr => first | (go_simp; done) | (go_simp; rfl)); intro gb160 hg w171 hbox hb; have n0_ := A_ (blk_below (bz_ BK143.out) hb); have n1_ := A_ (blk_below (bz_ BK144.out) hb); have n2_ := A_ (blk_below (bz_ BK145.out) hb); have n3_ := A_ (blk_below (bz_ BK146.out) hb); have n4_ := A_ (below_step (by repeat (first | (with_reducible first | exact HB.out | apply b1_ | apply b2_ | apply b3_ | apply c_ GE143 | apply c_ GE144 | apply c_ GE145 | apply c_ GE146) | exact HB.out)) hb); have n5_ := A_ (hbox); have n6_ := A_ ((by rw [hg]; exact (below_size (by repeat (first | (with_reducible first | exact HB.out | apply b1_ | apply b2_ | apply b3_ | apply c_ GE143 | apply c_ GE144 | apply c_ GE145 | apply c_ GE146) | exact HB.out))) : w.heap.size ≤ gb160)); have n7_ := n6_; have n8_ := A_ ((by rw [hg]; exact Nat.ne_of_lt (blk_lt (bz_ BK143.out)) : gb143 ≠ gb160)); have n9_ := A_ ((by rw [hg]; exact Nat.ne_of_gt (blk_lt (bz_ BK143.out)) : gb160 ≠ gb143)); have n10_ := A_ ((by rw [hg]; exact Nat.ne_of_lt (blk_lt (bz_ BK144.out)) : gb144 ≠ gb160)); have n11_ := A_ ((by rw [hg]; exact Nat.ne_of_gt (blk_lt (bz_ BK144.out)) : gb160 ≠ gb144)); have n12_ := A_ ((by rw [hg]; exact Nat.ne_of_lt (blk_lt (bz_ BK145.out)) : gb145 ≠ gb160)); have n13_ := A_ ((by rw [hg]; exact Nat.ne_of_gt (blk_lt (bz_ BK145.out)) : gb160 ≠ gb145)); have n14_ := A_ ((by rw [hg]; exact Nat.ne_of_lt (blk_lt (bz_ BK146.out)) : gb146 ≠ gb160)); have n15_ := A_ ((by rw [hg]; exact Nat.ne_of_gt (blk_lt (bz_ BK146.out)) : gb160 ≠ gb146)); clear BK143 BK144 BK145 BK146 HB; have BK143 := n0_; have BK144 := n1_; have BK145 := n2_; have BK146 := n3_; have HB := n4_; have BK160 := n5_; have GW160 := n6_; have GE160 := n7_; have NB143_160 := n8_; have NB160_143 := n9_; have NB144_160 := n10_; have NB160_144 := n11_; have NB145_160 := n12_; have NB160_145 := n13_; have NB146_160 := n14_; have NB160_146 := n15_; clear n0_ n1_ n2_ n3_ n4_ n5_ n6_ n7_ n8_ n9_ n10_ n11_ n12_ n13_ n14_ n15_; clear hb hbox hg; have hnb172 := NB160_143.out; have hnc172 := NB143_160.out; have hnb173 := NB160_144.out; have hnc173 := NB144_160.out; have hnb174 := NB160_145.out; have hnc174 := NB145_160.out; have hnb175 := NB160_146.out; have hnc175 := NB146_160.out; have hcz176_0 : w171.cell? ⟨gb160, 0, none⟩ = some (.bool false) := (blk_cell BK160.out 0).trans rfl; have hcz176_1 : w171.cell? ⟨gb160, 1, none⟩ = some (.int .i64 0) := (blk_cell BK160.out 1).trans rfl; have hcz176_2 : w171.cell? ⟨gb160, 2, none⟩ = some (.int .i64 0) := (blk_cell BK160.out 2).trans rfl; have hfz176_0 := blk_frozen BK160.out 0; have hfz176_1 := blk_frozen BK160.out 1; have hfz176_2 := blk_frozen BK160.out 2) | ((with_reducible refine gate_dst (N := 13) rfl ?_); refine box_event ?hg (N := 13) ?hd (cs := #[.bool false, .int .i64 0, .int .i64 0]) (t := 24) ?hr ?_; (case hd => rfl); (case hg => rfl); (case hr => first | (go_simp; done) | (go_simp; rfl)); intro gb161 hg w177 hbox hb; have n0_ := A_ (blk_below (g := gb143) (o := .cells #[.bool a2_0, .int .i64 a2_1, .int .i64 a2_2] 24 (0, 0)) (by (with_reducible repeat (first | apply bn_ | apply bd_ | apply ba_)); refine blk_far ?_ NB143_160.out _; (with_reducible repeat (first | apply bn_ | apply bd_ | apply ba_)); refine blk_far ?_ NB143_160.out _; (with_reducible repeat (first | apply bn_ | apply bd_ | apply ba_)); refine blk_far ?_ NB143_160.out _; (with_reducible repeat (first | apply bn_ | apply bd_ | apply ba_)); exact BK143.out) hb); have n1_ := A_ (blk_below (g := gb144) (o := .cells #[.bool a3_0, .int .i64 a3_1, .int .i64 a3_2] 24 (0, 0)) (by (with_reducible repeat (first | apply bn_ | apply bd_ | apply ba_)); refine blk_far ?_ NB144_160.out _; (with_reducible repeat (first | apply bn_ | apply bd_ | apply ba_)); refine blk_far ?_ NB144_160.out _; (with_reducible repeat (first | apply bn_ | apply bd_ | apply ba_)); refine blk_far ?_ NB144_160.out _; (with_reducible repeat (first | apply bn_ | apply bd_ | apply ba_)); exact BK144.out) hb); have n2_ := A_ (blk_below (g := gb145) (o := .cells #[.bool false, .int .i64 0, .int .i64 0] 24 (0, 0)) (by (with_reducible repeat (first | apply bn_ | apply bd_ | apply ba_)); refine blk_far ?_ NB145_160.out _; (with_reducible repeat (first | apply bn_ | apply bd_ | apply ba_)); refine blk_far ?_ NB145_160.out _; (with_reducible repeat (first | apply bn_ | apply bd_ | apply ba_)); refine blk_far ?_ NB145_160.out _; (with_reducible repeat (first | apply bn_ | apply bd_ | apply ba_)); exact BK145.out) hb); have n3_ := A_ (blk_below (g := gb146) (o := .cells #[.bool false, .int .i64 0, .int .i64 0] 24 (0, 0)) (by (with_reducible repeat (first | apply bn_ | apply bd_ | apply ba_)); refine blk_far ?_ NB146_160.out _; (with_reducible repeat (first | apply bn_ | apply bd_ | apply ba_)); refine blk_far ?_ NB146_160.out _; (with_reducible repeat (first | apply bn_ | apply bd_ | apply ba_)); refine blk_far ?_ NB146_160.out _; (with_reducible repeat (first | apply bn_ | apply bd_ | apply ba_)); exact BK146.out) hb); have n4_ := A_ (blk_below (g := gb160) (o := .cells #[.bool t157, .int .i64 t158, .int .i64 t159] 24 (0, 0)) (by (with_reducible repeat (first | apply bn_ | apply bd_ | apply ba_)); refine blk_put (cs := #[.bool t157, .int .i64 t158, .int .i64 0]) ?_ 2 _ (by first | rfl | (simp [*]; done)); (with_reducible repeat (first | apply bn_ | apply bd_ | apply ba_)); refine blk_put (cs := #[.bool t157, .int .i64 0, .int .i64 0]) ?_ 1 _ (by first | rfl | (simp [*]; done)); (with_reducible repeat (first | apply bn_ | apply bd_ | apply ba_)); refine blk_put (cs := #[.bool false, .int .i64 0, .int .i64 0]) ?_ 0 _ (by first | rfl | (simp [*]; done)); (with_reducible repeat (first | apply bn_ | apply bd_ | apply ba_)); exact BK160.out) hb); have n5_ := A_ (below_step (by repeat (first | (with_reducible first | exact HB.out | apply b1_ | apply b2_ | apply b3_ | apply c_ GE143 | apply c_ GE144 | apply c_ GE145 | apply c_ GE146 | apply c_ GE160) | exact HB.out)) hb); have n6_ := A_ (hbox); have n7_ := A_ ((by rw [hg]; exact (below_size (by repeat (first | (with_reducible first | exact HB.out | apply b1_ | apply b2_ | apply b3_ | apply c_ GE143 | apply c_ GE144 | apply c_ GE145 | apply c_ GE146 | apply c_ GE160) | exact HB.out))) : w.heap.size ≤ gb161)); have n8_ := n7_; have n9_ := A_ ((by rw [hg]; exact Nat.ne_of_lt (blk_lt (g := gb143) (o := .cells #[.bool a2_0, .int .i64 a2_1, .int .i64 a2_2] 24 (0, 0)) (by (with_reducible repeat (first | apply bn_ | apply bd_ | apply ba_)); refine blk_far ?_ NB143_160.out _; (with_reducible repeat (first | apply bn_ | apply bd_ | apply ba_)); refine blk_far ?_ NB143_160.out _; (with_reducible repeat (first | apply bn_ | apply bd_ | apply ba_)); refine blk_far ?_ NB143_160.out _; (with_reducible repeat (first | apply bn_ | apply bd_ | apply ba_)); exact BK143.out)) : gb143 ≠ gb161)); have n10_ := A_ ((by rw [hg]; exact Nat.ne_of_gt (blk_lt (g := gb143) (o := .cells #[.bool a2_0, .int .i64 a2_1, .int .i64 a2_2] 24 (0, 0)) (by (with_reducible repeat (first | apply bn_ | apply bd_ | apply ba_)); refine blk_far ?_ NB143_160.out _; (with_reducible repeat (first | apply bn_ | apply bd_ | apply ba_)); refine blk_far ?_ NB143_160.out _; (with_reducible repeat (first | apply bn_ | apply bd_ | apply ba_)); refine blk_far ?_ NB143_160.out _; (with_reducible repeat (first | apply bn_ | apply bd_ | apply ba_)); exact BK143.out)) : gb161 ≠ gb143)); have n11_ := A_ ((by rw [hg]; exact Nat.ne_of_lt (blk_lt (g := gb144) (o := .cells #[.bool a3_0, .int .i64 a3_1, .int .i64 a3_2] 24 (0, 0)) (by (with_reducible repeat (first | apply bn_ | apply bd_ | apply ba_)); refine blk_far ?_ NB144_160.out _; (with_reducible repeat (first | apply bn_ | apply bd_ | apply ba_)); refine blk_far ?_ NB144_160.out _; (with_reducible repeat (first | apply bn_ | apply bd_ | apply ba_)); refine blk_far ?_ NB144_160.out _; (with_reducible repeat (first | apply bn_ | apply bd_ | apply ba_)); exact BK144.out)) : gb144 ≠ gb161)); have n12_ := A_ ((by rw [hg]; exact Nat.ne_of_gt (blk_lt (g := gb144) (o := .cells #[.bool a3_0, .int .i64 a3_1, .int .i64 a3_2] 24 (0, 0)) (by (with_reducible repeat (first | apply bn_ | apply bd_ | apply ba_)); refine blk_far ?_ NB144_160.out _; (with_reducible repeat (first | apply bn_ | apply bd_ | apply ba_)); refine blk_far ?_ NB144_160.out _; (with_reducible repeat (first | apply bn_ | apply bd_ | apply ba_)); refine blk_far ?_ NB144_160.out _; (with_reducible repeat (first | apply bn_ | apply bd_ | apply ba_)); exact BK144.out)) : gb161 ≠ gb144)); have n13_ := A_ ((by rw [hg]; exact Nat.ne_of_lt (blk_lt (g := gb145) (o := .cells #[.bool false, .int .i64 0, .int .i64 0] 24 (0, 0)) (by (with_reducible repeat (first | apply bn_ | apply bd_ | apply ba_)); refine blk_far ?_ NB145_160.out _; (with_reducible repeat (first | apply bn_ | apply bd_ | apply ba_)); refine blk_far ?_ NB145_160.out _; (with_reducible repeat (first | apply bn_ | apply bd_ | apply ba_)); refine blk_far ?_ NB145_160.out _; (with_reducible repeat (first | apply bn_ | apply bd_ | apply ba_)); exact BK145.out)) : gb145 ≠ gb161)); have n14_ := A_ ((by rw [hg]; exact Nat.ne_of_gt (blk_lt (g := gb145) (o := .cells #[.bool false, .int .i64 0, .int .i64 0] 24 (0, 0)) (by (with_reducible repeat (first | apply bn_ | apply bd_ | apply ba_)); refine blk_far ?_ NB145_160.out _; (with_reducible repeat (first | apply bn_ | apply bd_ | apply ba_)); refine blk_far ?_ NB145_160.out _; (with_reducible repeat (first | apply bn_ | apply bd_ | apply ba_)); refine blk_far ?_ NB145_160.out _; (with_reducible repeat (first | apply bn_ | apply bd_ | apply ba_)); exact BK145.out)) : gb161 ≠ gb145)); have n15_ := A_ ((by rw [hg]; exact Nat.ne_of_lt (blk_lt (g := gb146) (o := .cells #[.bool false, .int .i64 0, .int .i64 0] 24 (0, 0)) (by (with_reducible repeat (first | apply bn_ | apply bd_ | apply ba_)); refine blk_far ?_ NB146_160.out _; (with_reducible repeat (first | apply bn_ | apply bd_ | apply ba_)); refine blk_far ?_ NB146_160.out _; (with_reducible repeat (first | apply bn_ | apply bd_ | apply ba_)); refine blk_far ?_ NB146_160.out _; (with_reducible repeat (first | apply bn_ | apply bd_ | apply ba_)); exact BK146.out)) : gb146 ≠ gb161)); have n16_ := A_ ((by rw [hg]; exact Nat.ne_of_gt (blk_lt (g := gb146) (o := .cells #[.bool false, .int .i64 0, .int .i64 0] 24 (0, 0)) (by (with_reducible repeat (first | apply bn_ | apply bd_ | apply ba_)); refine blk_far ?_ NB146_160.out _; (with_reducible repeat (first | apply bn_ | apply bd_ | apply ba_)); refine blk_far ?_ NB146_160.out _; (with_reducible repeat (first | apply bn_ | apply bd_ | apply ba_)); refine blk_far ?_ NB146_160.out _; (with_reducible repeat (first | apply bn_ | apply bd_ | apply ba_)); exact BK146.out)) : gb161 ≠ gb146)); have n17_ := A_ ((by rw [hg]; exact Nat.ne_of_lt (blk_lt (g := gb160) (o := .cells #[.bool t157, .int .i64 t158, .int .i64 t159] 24 (0, 0)) (by (with_reducible repeat (first | apply bn_ | apply bd_ | apply ba_)); refine blk_put (cs := #[.bool t157, .int .i64 t158, .int .i64 0]) ?_ 2 _ (by first | rfl | (simp [*]; done)); (with_reducible repeat (first | apply bn_ | apply bd_ | apply ba_)); refine blk_put (cs := #[.bool t157, .int .i64 0, .int .i64 0]) ?_ 1 _ (by first | rfl | (simp [*]; done)); (with_reducible repeat (first | apply bn_ | apply bd_ | apply ba_)); refine blk_put (cs := #[.bool false, .int .i64 0, .int .i64 0]) ?_ 0 _ (by first | rfl | (simp [*]; done)); (with_reducible repeat (first | apply bn_ | apply bd_ | apply ba_)); exact BK160.out)) : gb160 ≠ gb161)); have n18_ := A_ ((by rw [hg]; exact Nat.ne_of_gt (blk_lt (g := gb160) (o := .cells #[.bool t157, .int .i64 t158, .int .i64 t159] 24 (0, 0)) (by (with_reducible repeat (first | apply bn_ | apply bd_ | apply ba_)); refine blk_put (cs := #[.bool t157, .int .i64 t158, .int .i64 0]) ?_ 2 _ (by first | rfl | (simp [*]; done)); (with_reducible repeat (first | apply bn_ | apply bd_ | apply ba_)); refine blk_put (cs := #[.bool t157, .int .i64 0, .int .i64 0]) ?_ 1 _ (by first | rfl | (simp [*]; done)); (with_reducible repeat (first | apply bn_ | apply bd_ | apply ba_)); refine blk_put (cs := #[.bool false, .int .i64 0, .int .i64 0]) ?_ 0 _ (by first | rfl | (simp [*]; done)); (with_reducible repeat (first | apply bn_ | apply bd_ | apply ba_)); exact BK160.out)) : gb161 ≠ gb160)); clear BK143 BK144 BK145 BK146 BK160 HB; have BK143 := n0_; have BK144 := n1_; have BK145 := n2_; have BK146 := n3_; have BK160 := n4_; have HB := n5_; have BK161 := n6_; have GW161 := n7_; have GE161 := n8_; have NB143_161 := n9_; have NB161_143 := n10_; have NB144_161 := n11_; have NB161_144 := n12_; have NB145_161 := n13_; have NB161_145 := n14_; have NB146_161 := n15_; have NB161_146 := n16_; have NB160_161 := n17_; have NB161_160 := n18_; clear n0_ n1_ n2_ n3_ n4_ n5_ n6_ n7_ n8_ n9_ n10_ n11_ n12_ n13_ n14_ n15_ n16_ n17_ n18_; clear hb hbox hg; have hnb178 := NB161_143.out; have hnc178 := NB143_161.out; have hnb179 := NB161_144.out; have hnc179 := NB144_161.out; have hnb180 := NB161_145.out; have hnc180 := NB145_161.out; have hnb181 := NB161_146.out; have hnc181 := NB146_161.out; have hnb182 := NB161_160.out; have hnc182 := NB160_161.out; have hcz183_0 : w177.cell? ⟨gb161, 0, none⟩ = some (.bool false) := (blk_cell BK161.out 0).trans rfl; have hcz183_1 : w177.cell? ⟨gb161, 1, none⟩ = some (.int .i64 0) := (blk_cell BK161.out 1).trans rfl; have hcz183_2 : w177.cell? ⟨gb161, 2, none⟩ = some (.int .i64 0) := (blk_cell BK161.out 2).trans rfl; have hfz183_0 := blk_frozen BK161.out 0; have hfz183_1 := blk_frozen BK161.out 1; have hfz183_2 := blk_frozen BK161.out 2))
       have n0_ : Aside0 ((((w177.setCell ⟨gb161, 0, none⟩ (.bool t157)).setCell ⟨gb161, 1, none⟩ (.int .i64 t158)).setCell ⟨gb161, 2, none⟩ (.int .i64 t159)).heap[gb143]? = some (.cells #[.bool a2_0, .int .i64 a2_1, .int .i64 a2_2] 24 (0, 0))) := ⟨by (with_reducible repeat (first | apply bn_ | apply bd_ | apply ba_)); refine blk_far ?_ NB143_161.out _; (with_reducible repeat (first | apply bn_ | apply bd_ | apply ba_)); refine blk_far ?_ NB143_161.out _; (with_reducible repeat (first | apply bn_ | apply bd_ | apply ba_)); refine blk_far ?_ NB143_161.out _; (with_reducible repeat (first | apply bn_ | apply bd_ | apply ba_)); exact BK143.out⟩
       have n1_ : Aside0 ((((w177.setCell ⟨gb161, 0, none⟩ (.bool t157)).setCell ⟨gb161, 1, none⟩ (.int .i64 t158)).setCell ⟨gb161, 2, none⟩ (.int .i64 t159)).heap[gb144]? = some (.cells #[.bool a3_0, .int .i64 a3_1, .int .i64 a3_2] 24 (0, 0))) := ⟨by (with_reducible repeat (first | apply bn_ | apply bd_ | apply ba_)); refine blk_far ?_ NB144_161.out _; (with_reducible repeat (first | apply bn_ | apply bd_ | apply ba_)); refine blk_far ?_ NB144_161.out _; (with_reducible repeat (first | apply bn_ | apply bd_ | apply ba_)); refine blk_far ?_ NB144_161.out _; (with_reducible repeat (first | apply bn_ | apply bd_ | apply ba_)); exact BK144.out⟩
       have n2_ : Aside0 ((((w177.setCell ⟨gb161, 0, none⟩ (.bool t157)).setCell ⟨gb161, 1, none⟩ (.int .i64 t158)).setCell ⟨gb161, 2, none⟩ (.int .i64 t159)).heap[gb145]? = some (.cells #[.bool false, .int .i64 0, .int .i64 0] 24 (0, 0))) := ⟨by (with_reducible repeat (first | apply bn_ | apply bd_ | apply ba_)); refine blk_far ?_ NB145_161.out _; (with_reducible repeat (first | apply bn_ | apply bd_ | apply ba_)); refine blk_far ?_ NB145_161.out _; (with_reducible repeat (first | apply bn_ | apply bd_ | apply ba_)); refine blk_far ?_ NB145_161.out _; (with_reducible repeat (first | apply bn_ | apply bd_ | apply ba_)); exact BK145.out⟩
       have n3_ : Aside0 ((((w177.setCell ⟨gb161, 0, none⟩ (.bool t157)).setCell ⟨gb161, 1, none⟩ (.int .i64 t158)).setCell ⟨gb161, 2, none⟩ (.int .i64 t159)).heap[gb146]? = some (.cells #[.bool false, .int .i64 0, .int .i64 0] 24 (0, 0))) := ⟨by (with_reducible repeat (first | apply bn_ | apply bd_ | apply ba_)); refine blk_far ?_ NB146_161.out _; (with_reducible repeat (first | apply bn_ | apply bd_ | apply ba_)); refine blk_far ?_ NB146_161.out _; (with_reducible repeat (first | apply bn_ | apply bd_ | apply ba_)); refine blk_far ?_ NB146_161.out _; (with_reducible repeat (first | apply bn_ | apply bd_ | apply ba_)); exact BK146.out⟩
       have n4_ : Aside0 ((((w177.setCell ⟨gb161, 0, none⟩ (.bool t157)).setCell ⟨gb161, 1, none⟩ (.int .i64 t158)).setCell ⟨gb161, 2, none⟩ (.int .i64 t159)).heap[gb160]? = some (.cells #[.bool t157, .int .i64 t158, .int .i64 t159] 24 (0, 0))) := ⟨by (with_reducible repeat (first | apply bn_ | apply bd_ | apply ba_)); refine blk_far ?_ NB160_161.out _; (with_reducible repeat (first | apply bn_ | apply bd_ | apply ba_)); refine blk_far ?_ NB160_161.out _; (with_reducible repeat (first | apply bn_ | apply bd_ | apply ba_)); refine blk_far ?_ NB160_161.out _; (with_reducible repeat (first | apply bn_ | apply bd_ | apply ba_)); exact BK160.out⟩
       have n5_ : Aside0 ((((w177.setCell ⟨gb161, 0, none⟩ (.bool t157)).setCell ⟨gb161, 1, none⟩ (.int .i64 t158)).setCell ⟨gb161, 2, none⟩ (.int .i64 t159)).heap[gb161]? = some (.cells #[.bool t157, .int .i64 t158, .int .i64 t159] 24 (0, 0))) := ⟨by (with_reducible repeat (first | apply bn_ | apply bd_ | apply ba_)); refine blk_put (cs := #[.bool t157, .int .i64 t158, .int .i64 0]) ?_ 2 _ (by first | rfl | (simp [*]; done)); (with_reducible repeat (first | apply bn_ | apply bd_ | apply ba_)); refine blk_put (cs := #[.bool t157, .int .i64 0, .int .i64 0]) ?_ 1 _ (by first | rfl | (simp [*]; done)); (with_reducible repeat (first | apply bn_ | apply bd_ | apply ba_)); refine blk_put (cs := #[.bool false, .int .i64 0, .int .i64 0]) ?_ 0 _ (by first | rfl | (simp [*]; done)); (with_reducible repeat (first | apply bn_ | apply bd_ | apply ba_)); exact BK161.out⟩
       have n6_ : Aside0 (Below w.heap.size w (((w177.setCell ⟨gb161, 0, none⟩ (.bool t157)).setCell ⟨gb161, 1, none⟩ (.int .i64 t158)).setCell ⟨gb161, 2, none⟩ (.int .i64 t159))) := ⟨by repeat (first | (with_reducible first | exact HB.out | apply b1_ | apply b2_ | apply b3_ | apply c_ GE143 | apply c_ GE144 | apply c_ GE145 | apply c_ GE146 | apply c_ GE160 | apply c_ GE161) | exact HB.out)⟩
       (try clear BK143)
       (try clear BK144)
       (try clear BK145)
       (try clear BK146)
       (try clear BK160)
       (try clear BK161)
       (try clear HB)
       generalize (((w177.setCell ⟨gb161, 0, none⟩ (.bool t157)).setCell ⟨gb161, 1, none⟩ (.int .i64 t158)).setCell ⟨gb161, 2, none⟩ (.int .i64 t159)) = w184 at n0_ n1_ n2_ n3_ n4_ n5_ n6_ ⊢
       have BK143 := n0_
       have BK144 := n1_
       have BK145 := n2_
       have BK146 := n3_
       have BK160 := n4_
       have BK161 := n5_
       have HB := n6_
       clear n0_ n1_ n2_ n3_ n4_ n5_ n6_
       have n0_ := A_ (blk_drew BK143.out)
       have n1_ := A_ (blk_drew BK144.out)
       have n2_ := A_ (blk_drew BK145.out)
       have n3_ := A_ (blk_drew BK146.out)
       have n4_ := A_ (blk_drew BK160.out)
       have n5_ := A_ (blk_drew BK161.out)
       have n6_ := A_ (below_drew1 HB.out)
       clear BK143 BK144
       clear BK145 BK146
       clear BK160 BK161 HB
       have BK143 := n0_
       have BK144 := n1_
       have BK145 := n2_
       have BK146 := n3_
       have BK160 := n4_
       have BK161 := n5_
       have HB := n6_
       clear n0_ n1_ n2_ n3_ n4_ n5_ n6_
       refine start_ (n := 10) (S := fun w' => w'.cell? ⟨gb143, 0, none⟩ = some (.bool a2_0) ∧ w'.cell? ⟨gb143, 1, none⟩ = some (.int .i64 a2_1) ∧ w'.cell? ⟨gb143, 2, none⟩ = some (.int .i64 a2_2) ∧ w'.cell? ⟨gb144, 0, none⟩ = some (.bool a3_0) ∧ w'.cell? ⟨gb144, 1, none⟩ = some (.int .i64 a3_1) ∧ w'.cell? ⟨gb144, 2, none⟩ = some (.int .i64 a3_2)) (ds := []) #[false, false, false, false, false, false, false, false, false, false] (by kernel_rfl) rfl rfl ⟨(blk_cell BK143.out 0).trans rfl, (blk_cell BK143.out 1).trans rfl, (blk_cell BK143.out 2).trans rfl, (blk_cell BK144.out 0).trans rfl, (blk_cell BK144.out 1).trans rfl, (blk_cell BK144.out 2).trans rfl⟩ (fun hHeld => ?_); refine with_tabW spec_RelMeet.tab9 spec_RelMeet.bits9 (fun HT_ HW_ => ?_)
       generalize w184.drew = w185 at BK143 BK144 BK145 BK146 BK160 BK161 HB hHeld ⊢
       refine pure_ (i := 0) (N := some 44) (v := ?_) (a' := ?_) #[true, false, false, false, false, false, false, false, false, false] rfl rfl (any_of HT_.out (by kernel_rfl)) (fun _ _ _ h => h) (Or.inl ⟨by rfl, ?_⟩) ?_ ?_
       rotate_left
       ·intro w'
        go_simp
        with_reducible rfl
       rotate_left
       ·simp only [Act.put, List.setIfInBounds_toArray, List.set_cons_zero, List.set_cons_succ, i64_w, i32_w]
        rfl
       refine pure_ (i := 2) (N := some 46) (v := ?_) (a' := ?_) #[true, false, true, false, false, false, false, false, false, false] rfl rfl (any_of HT_.out (by kernel_rfl)) (fun _ _ _ h => h) (Or.inl ⟨by rfl, ?_⟩) ?_ ?_
       rotate_left
       ·intro w'
        go_simp
        with_reducible rfl
       rotate_left
       ·simp only [Act.put, List.setIfInBounds_toArray, List.set_cons_zero, List.set_cons_succ, i64_w, i32_w]
        rfl
       refine pure_ (i := 5) (N := some 49) (v := ?_) (a' := ?_) #[true, false, true, false, false, true, false, false, false, false] rfl rfl (any_of HT_.out (by kernel_rfl)) (fun _ _ _ h => h) (Or.inl ⟨by rfl, ?_⟩) ?_ ?_
       rotate_left
       ·intro w'
        go_simp
        with_reducible rfl
       rotate_left
       ·simp only [Act.put, List.setIfInBounds_toArray, List.set_cons_zero, List.set_cons_succ, i64_w, i32_w]
        rfl
       refine take_ (i := 1) (N := some 45) (v := ?_) (a' := ?_) #[true, true, true, false, false, true, false, false, false, false] rfl rfl (take_ofW HT_.out HW_.out (by kernel_rfl)) (fun _ _ _ h => h) (Or.inl ⟨by rfl, ?_⟩) hHeld ?_ ?_
       rotate_left
       ·rintro w' ⟨s0, s1, s2, s3, s4, s5⟩
        go_simp
        with_reducible rfl
       rotate_left
       ·simp only [Act.put, List.setIfInBounds_toArray, List.set_cons_zero, List.set_cons_succ, i64_w, i32_w]
        rfl
       refine take_ (i := 6) (N := some 50) (v := ?_) (a' := ?_) #[true, true, true, false, false, true, true, false, false, false] rfl rfl (take_ofW HT_.out HW_.out (by kernel_rfl)) (fun _ _ _ h => h) (Or.inl ⟨by rfl, ?_⟩) hHeld ?_ ?_
       rotate_left
       ·rintro w' ⟨s0, s1, s2, s3, s4, s5⟩
        go_simp
        with_reducible rfl
       rotate_left
       ·simp only [Act.put, List.setIfInBounds_toArray, List.set_cons_zero, List.set_cons_succ, i64_w, i32_w]
        rfl
       refine one_ (i := 3) (N := some 47) #[true, true, true, true, false, true, true, false, false, false] rfl rfl (one_of HT_.out (by kernel_rfl)) (by decide) (fun K hK => ?_)
       refine goes_ Try.func36 (by kernel_rfl) rfl #[.int .i64 a0] (by rfl) rfl rfl (by (try simp only [List.map_toArray, List.map_cons, List.map_nil]); first | done | rfl) ?_
       with_reducible refine (spec_BitTop.calls a0 t162 _ A70.out).mono ?_
       rintro e w' ⟨rfl, ⟨nd, rfl⟩⟩
       refine ⟨_, rfl, ?_⟩
       refine hK.out _ _ ⟨(blk_cell BK143.out 0).trans rfl, (blk_cell BK143.out 1).trans rfl, (blk_cell BK143.out 2).trans rfl, (blk_cell BK144.out 0).trans rfl, (blk_cell BK144.out 1).trans rfl, (blk_cell BK144.out 2).trans rfl⟩ (fun hHeld => ?_)
       clear hK K
       refine norm_ (a' := ?_) ?_ ?_
       rotate_left
       ·show Act.put _ (some 47) _ = _
        simp only [Act.put, List.setIfInBounds_toArray, List.set_cons_zero, List.set_cons_succ, i64_w, i32_w]
        rfl
       refine pure_ (i := 4) (N := some 48) (v := ?_) (a' := ?_) #[true, true, true, true, true, true, true, false, false, false] rfl rfl (any_of HT_.out (by kernel_rfl)) (fun _ _ _ h => h) (Or.inl ⟨by rfl, ?_⟩) ?_ ?_
       rotate_left
       ·intro w'
        go_simp
        with_reducible rfl
       rotate_left
       ·simp only [Act.put, List.setIfInBounds_toArray, List.set_cons_zero, List.set_cons_succ, i64_w, i32_w]
        rfl
       refine one_ (i := 7) (N := some 51) #[true, true, true, true, true, true, true, true, false, false] rfl rfl (one_of HT_.out (by kernel_rfl)) (by decide) (fun K hK => ?_)
       refine goes_ Try.func35 (by kernel_rfl) rfl #[.int .i64 (wrap64 (-t162)), .int .i64 a3_2] (by rfl) rfl rfl (by (try simp only [List.map_toArray, List.map_cons, List.map_nil]); first | done | rfl) ?_
       with_reducible refine (spec_l9Of.calls (wrap64 (-t162)) a3_2 t163 t164 t165 _ A71.out).mono ?_
       rintro e w186 ⟨rfl, hb⟩
       refine ⟨_, rfl, ?_⟩
       have n0_ := A_ (blk_below (bz_ BK143.out) hb)
       have n1_ := A_ (blk_below (bz_ BK144.out) hb)
       have n2_ := A_ (blk_below (bz_ BK145.out) hb)
       have n3_ := A_ (blk_below (bz_ BK146.out) hb)
       have n4_ := A_ (blk_below (bz_ BK160.out) hb)
       have n5_ := A_ (blk_below (bz_ BK161.out) hb)
       have n6_ := A_ (below_step (by repeat (first | (with_reducible first | exact HB.out | apply b1_ | apply b2_ | apply b3_ | apply c_ GE143 | apply c_ GE144 | apply c_ GE145 | apply c_ GE146 | apply c_ GE160 | apply c_ GE161) | exact HB.out)) hb)
       clear BK143 BK144
       clear BK145 BK146
       clear BK160 BK161 HB
       have BK143 := n0_
       have BK144 := n1_
       have BK145 := n2_
       have BK146 := n3_
       have BK160 := n4_
       have BK161 := n5_
       have HB := n6_
       clear n0_ n1_ n2_ n3_ n4_ n5_ n6_
       (try clear hb)
       (try clear hb2)
       (try clear hk)
       (try clear hi)
       refine hK.out _ _ ⟨(blk_cell BK143.out 0).trans rfl, (blk_cell BK143.out 1).trans rfl, (blk_cell BK143.out 2).trans rfl, (blk_cell BK144.out 0).trans rfl, (blk_cell BK144.out 1).trans rfl, (blk_cell BK144.out 2).trans rfl⟩ (fun hHeld => ?_)
       clear hK K
       refine norm_ (a' := ?_) ?_ ?_
       rotate_left
       ·show Act.put _ (some 51) _ = _
        simp only [Act.put, List.setIfInBounds_toArray, List.set_cons_zero, List.set_cons_succ, i64_w, i32_w]
        rfl
       refine one_ (i := 8) (N := some 52) #[true, true, true, true, true, true, true, true, true, false] rfl rfl (one_of HT_.out (by kernel_rfl)) (by decide) (fun K hK => ?_)
       refine goes_ Try.func34 (by kernel_rfl) rfl #[.int .i64 a0, .agg #[.bool a2_0, .int .i64 a2_1, .int .i64 a2_2], .agg #[.bool t163, .int .i64 t164, .int .i64 t165]] (by rfl) rfl rfl (by (try simp only [List.map_toArray, List.map_cons, List.map_nil]); first | done | rfl) ?_
       with_reducible refine (spec_SpanMeet.calls a0 a2_0 a2_1 a2_2 t163 t164 t165 false t167 t168 _ A72.out).mono ?_
       rintro e w187 ⟨rfl, hb⟩
       refine ⟨_, rfl, ?_⟩
       have n0_ := A_ (blk_below (bz_ BK143.out) hb)
       have n1_ := A_ (blk_below (bz_ BK144.out) hb)
       have n2_ := A_ (blk_below (bz_ BK145.out) hb)
       have n3_ := A_ (blk_below (bz_ BK146.out) hb)
       have n4_ := A_ (blk_below (bz_ BK160.out) hb)
       have n5_ := A_ (blk_below (bz_ BK161.out) hb)
       have n6_ := A_ (below_step (by repeat (first | (with_reducible first | exact HB.out | apply b1_ | apply b2_ | apply b3_ | apply c_ GE143 | apply c_ GE144 | apply c_ GE145 | apply c_ GE146 | apply c_ GE160 | apply c_ GE161) | exact HB.out)) hb)
       clear BK143 BK144
       clear BK145 BK146
       clear BK160 BK161 HB
       have BK143 := n0_
       have BK144 := n1_
       have BK145 := n2_
       have BK146 := n3_
       have BK160 := n4_
       have BK161 := n5_
       have HB := n6_
       clear n0_ n1_ n2_ n3_ n4_ n5_ n6_
       (try clear hb)
       (try clear hb2)
       (try clear hk)
       (try clear hi)
       refine hK.out _ _ ⟨(blk_cell BK143.out 0).trans rfl, (blk_cell BK143.out 1).trans rfl, (blk_cell BK143.out 2).trans rfl, (blk_cell BK144.out 0).trans rfl, (blk_cell BK144.out 1).trans rfl, (blk_cell BK144.out 2).trans rfl⟩ (fun hHeld => ?_)
       clear hK K
       refine norm_ (a' := ?_) ?_ ?_
       rotate_left
       ·show Act.put _ (some 52) _ = _
        simp only [Act.put, List.setIfInBounds_toArray, List.set_cons_zero, List.set_cons_succ, i64_w, i32_w]
        rfl
       refine one_ (i := 9) (N := none) #[true, true, true, true, true, true, true, true, true, true] rfl rfl (one_of HT_.out (by kernel_rfl)) (by decide) (fun K hK => ?_)
       have hs188 : w187.cell? ⟨gb160, 0, none⟩ = some (.bool t157) := (blk_cell BK160.out 0).trans rfl
       have hfs188 := blk_frozen BK160.out 0
       have hns188_0 := NB143_160.out
       have hns188_1 := NB144_160.out
       have hns188_2 := NB145_160.out
       have hns188_3 := NB146_160.out
       have hns188_5 := NB161_160.out
       have hms188_0 := NB160_143.out
       have hms188_1 := NB160_144.out
       have hms188_2 := NB160_145.out
       have hms188_3 := NB160_146.out
       have hms188_5 := NB160_161.out
       have hs189 : w187.cell? ⟨gb160, 1, none⟩ = some (.int .i64 t158) := (blk_cell BK160.out 1).trans rfl
       have hfs189 := blk_frozen BK160.out 1
       have hns189_0 := NB143_160.out
       have hns189_1 := NB144_160.out
       have hns189_2 := NB145_160.out
       have hns189_3 := NB146_160.out
       have hns189_5 := NB161_160.out
       have hms189_0 := NB160_143.out
       have hms189_1 := NB160_144.out
       have hms189_2 := NB160_145.out
       have hms189_3 := NB160_146.out
       have hms189_5 := NB160_161.out
       have hs190 : w187.cell? ⟨gb160, 2, none⟩ = some (.int .i64 t159) := (blk_cell BK160.out 2).trans rfl
       have hfs190 := blk_frozen BK160.out 2
       have hns190_0 := NB143_160.out
       have hns190_1 := NB144_160.out
       have hns190_2 := NB145_160.out
       have hns190_3 := NB146_160.out
       have hns190_5 := NB161_160.out
       have hms190_0 := NB160_143.out
       have hms190_1 := NB160_144.out
       have hms190_2 := NB160_145.out
       have hms190_3 := NB160_146.out
       have hms190_5 := NB160_161.out
       refine skip_ (w1 := ?_) (by rfl) rfl ?_ ?_
       rotate_left
       ·go_simp
        rfl
       refine hK.out _ _ ⟨((cell_far (p := ⟨gb160, _, none⟩) NB143_160.out _).trans (((cell_far (p := ⟨gb160, _, none⟩) NB143_160.out _).trans (((cell_far (p := ⟨gb160, _, none⟩) NB143_160.out _).trans (hHeld.1)))))), ((cell_far (p := ⟨gb160, _, none⟩) NB143_160.out _).trans (((cell_far (p := ⟨gb160, _, none⟩) NB143_160.out _).trans (((cell_far (p := ⟨gb160, _, none⟩) NB143_160.out _).trans (hHeld.2.1)))))), ((cell_far (p := ⟨gb160, _, none⟩) NB143_160.out _).trans (((cell_far (p := ⟨gb160, _, none⟩) NB143_160.out _).trans (((cell_far (p := ⟨gb160, _, none⟩) NB143_160.out _).trans (hHeld.2.2.1)))))), ((cell_far (p := ⟨gb160, _, none⟩) NB144_160.out _).trans (((cell_far (p := ⟨gb160, _, none⟩) NB144_160.out _).trans (((cell_far (p := ⟨gb160, _, none⟩) NB144_160.out _).trans (hHeld.2.2.2.1)))))), ((cell_far (p := ⟨gb160, _, none⟩) NB144_160.out _).trans (((cell_far (p := ⟨gb160, _, none⟩) NB144_160.out _).trans (((cell_far (p := ⟨gb160, _, none⟩) NB144_160.out _).trans (hHeld.2.2.2.2.1)))))), ((cell_far (p := ⟨gb160, _, none⟩) NB144_160.out _).trans (((cell_far (p := ⟨gb160, _, none⟩) NB144_160.out _).trans (((cell_far (p := ⟨gb160, _, none⟩) NB144_160.out _).trans (hHeld.2.2.2.2.2))))))⟩ (fun hHeld => ?_)
       clear hK K
       refine done_ (done_of HT_.out (by kernel_rfl)) ?_
       try go_wp2
       have n0_ : Aside0 ((((w187.setCell ⟨gb160, 0, none⟩ (.bool false)).setCell ⟨gb160, 1, none⟩ (.int .i64 t167)).setCell ⟨gb160, 2, none⟩ (.int .i64 t168)).heap[gb143]? = some (.cells #[.bool a2_0, .int .i64 a2_1, .int .i64 a2_2] 24 (0, 0))) := ⟨by (with_reducible repeat (first | apply bn_ | apply bd_ | apply ba_)); refine blk_far ?_ NB143_160.out _; (with_reducible repeat (first | apply bn_ | apply bd_ | apply ba_)); refine blk_far ?_ NB143_160.out _; (with_reducible repeat (first | apply bn_ | apply bd_ | apply ba_)); refine blk_far ?_ NB143_160.out _; (with_reducible repeat (first | apply bn_ | apply bd_ | apply ba_)); exact BK143.out⟩
       have n1_ : Aside0 ((((w187.setCell ⟨gb160, 0, none⟩ (.bool false)).setCell ⟨gb160, 1, none⟩ (.int .i64 t167)).setCell ⟨gb160, 2, none⟩ (.int .i64 t168)).heap[gb144]? = some (.cells #[.bool a3_0, .int .i64 a3_1, .int .i64 a3_2] 24 (0, 0))) := ⟨by (with_reducible repeat (first | apply bn_ | apply bd_ | apply ba_)); refine blk_far ?_ NB144_160.out _; (with_reducible repeat (first | apply bn_ | apply bd_ | apply ba_)); refine blk_far ?_ NB144_160.out _; (with_reducible repeat (first | apply bn_ | apply bd_ | apply ba_)); refine blk_far ?_ NB144_160.out _; (with_reducible repeat (first | apply bn_ | apply bd_ | apply ba_)); exact BK144.out⟩
       have n2_ : Aside0 ((((w187.setCell ⟨gb160, 0, none⟩ (.bool false)).setCell ⟨gb160, 1, none⟩ (.int .i64 t167)).setCell ⟨gb160, 2, none⟩ (.int .i64 t168)).heap[gb145]? = some (.cells #[.bool false, .int .i64 0, .int .i64 0] 24 (0, 0))) := ⟨by (with_reducible repeat (first | apply bn_ | apply bd_ | apply ba_)); refine blk_far ?_ NB145_160.out _; (with_reducible repeat (first | apply bn_ | apply bd_ | apply ba_)); refine blk_far ?_ NB145_160.out _; (with_reducible repeat (first | apply bn_ | apply bd_ | apply ba_)); refine blk_far ?_ NB145_160.out _; (with_reducible repeat (first | apply bn_ | apply bd_ | apply ba_)); exact BK145.out⟩
       have n3_ : Aside0 ((((w187.setCell ⟨gb160, 0, none⟩ (.bool false)).setCell ⟨gb160, 1, none⟩ (.int .i64 t167)).setCell ⟨gb160, 2, none⟩ (.int .i64 t168)).heap[gb146]? = some (.cells #[.bool false, .int .i64 0, .int .i64 0] 24 (0, 0))) := ⟨by (with_reducible repeat (first | apply bn_ | apply bd_ | apply ba_)); refine blk_far ?_ NB146_160.out _; (with_reducible repeat (first | apply bn_ | apply bd_ | apply ba_)); refine blk_far ?_ NB146_160.out _; (with_reducible repeat (first | apply bn_ | apply bd_ | apply ba_)); refine blk_far ?_ NB146_160.out _; (with_reducible repeat (first | apply bn_ | apply bd_ | apply ba_)); exact BK146.out⟩
       have n4_ : Aside0 ((((w187.setCell ⟨gb160, 0, none⟩ (.bool false)).setCell ⟨gb160, 1, none⟩ (.int .i64 t167)).setCell ⟨gb160, 2, none⟩ (.int .i64 t168)).heap[gb160]? = some (.cells #[.bool false, .int .i64 t167, .int .i64 t168] 24 (0, 0))) := ⟨by (with_reducible repeat (first | apply bn_ | apply bd_ | apply ba_)); refine blk_put (cs := #[.bool false, .int .i64 t167, .int .i64 t159]) ?_ 2 _ (by first | rfl | (simp [*]; done)); (with_reducible repeat (first | apply bn_ | apply bd_ | apply ba_)); refine blk_put (cs := #[.bool false, .int .i64 t158, .int .i64 t159]) ?_ 1 _ (by first | rfl | (simp [*]; done)); (with_reducible repeat (first | apply bn_ | apply bd_ | apply ba_)); refine blk_put (cs := #[.bool t157, .int .i64 t158, .int .i64 t159]) ?_ 0 _ (by first | rfl | (simp [*]; done)); (with_reducible repeat (first | apply bn_ | apply bd_ | apply ba_)); exact BK160.out⟩
       have n5_ : Aside0 ((((w187.setCell ⟨gb160, 0, none⟩ (.bool false)).setCell ⟨gb160, 1, none⟩ (.int .i64 t167)).setCell ⟨gb160, 2, none⟩ (.int .i64 t168)).heap[gb161]? = some (.cells #[.bool t157, .int .i64 t158, .int .i64 t159] 24 (0, 0))) := ⟨by (with_reducible repeat (first | apply bn_ | apply bd_ | apply ba_)); refine blk_far ?_ NB161_160.out _; (with_reducible repeat (first | apply bn_ | apply bd_ | apply ba_)); refine blk_far ?_ NB161_160.out _; (with_reducible repeat (first | apply bn_ | apply bd_ | apply ba_)); refine blk_far ?_ NB161_160.out _; (with_reducible repeat (first | apply bn_ | apply bd_ | apply ba_)); exact BK161.out⟩
       have n6_ : Aside0 (Below w.heap.size w (((w187.setCell ⟨gb160, 0, none⟩ (.bool false)).setCell ⟨gb160, 1, none⟩ (.int .i64 t167)).setCell ⟨gb160, 2, none⟩ (.int .i64 t168))) := ⟨by repeat (first | (with_reducible first | exact HB.out | apply b1_ | apply b2_ | apply b3_ | apply c_ GE143 | apply c_ GE144 | apply c_ GE145 | apply c_ GE146 | apply c_ GE160 | apply c_ GE161) | exact HB.out)⟩
       (try clear BK143)
       (try clear BK144)
       (try clear BK145)
       (try clear BK146)
       (try clear BK160)
       (try clear BK161)
       (try clear HB)
       generalize (((w187.setCell ⟨gb160, 0, none⟩ (.bool false)).setCell ⟨gb160, 1, none⟩ (.int .i64 t167)).setCell ⟨gb160, 2, none⟩ (.int .i64 t168)) = w191 at n0_ n1_ n2_ n3_ n4_ n5_ n6_ ⊢
       have BK143 := n0_
       have BK144 := n1_
       have BK145 := n2_
       have BK146 := n3_
       have BK160 := n4_
       have BK161 := n5_
       have HB := n6_
       clear n0_ n1_ n2_ n3_ n4_ n5_ n6_
       have n0_ := A_ (blk_drew BK143.out)
       have n1_ := A_ (blk_drew BK144.out)
       have n2_ := A_ (blk_drew BK145.out)
       have n3_ := A_ (blk_drew BK146.out)
       have n4_ := A_ (blk_drew BK160.out)
       have n5_ := A_ (blk_drew BK161.out)
       have n6_ := A_ (below_drew1 HB.out)
       clear BK143 BK144
       clear BK145 BK146
       clear BK160 BK161 HB
       have BK143 := n0_
       have BK144 := n1_
       have BK145 := n2_
       have BK146 := n3_
       have BK160 := n4_
       have BK161 := n5_
       have HB := n6_
       clear n0_ n1_ n2_ n3_ n4_ n5_ n6_
       refine start_ (n := 9) (S := fun w' => w'.cell? ⟨gb144, 0, none⟩ = some (.bool a3_0) ∧ w'.cell? ⟨gb144, 1, none⟩ = some (.int .i64 a3_1) ∧ w'.cell? ⟨gb144, 2, none⟩ = some (.int .i64 a3_2) ∧ w'.cell? ⟨gb143, 0, none⟩ = some (.bool a2_0) ∧ w'.cell? ⟨gb143, 1, none⟩ = some (.int .i64 a2_1) ∧ w'.cell? ⟨gb143, 2, none⟩ = some (.int .i64 a2_2)) (ds := []) #[false, false, false, false, false, false, false, false, false] (by kernel_rfl) rfl rfl ⟨(blk_cell BK144.out 0).trans rfl, (blk_cell BK144.out 1).trans rfl, (blk_cell BK144.out 2).trans rfl, (blk_cell BK143.out 0).trans rfl, (blk_cell BK143.out 1).trans rfl, (blk_cell BK143.out 2).trans rfl⟩ (fun hHeld => ?_); refine with_tabW spec_RelMeet.tab10 spec_RelMeet.bits10 (fun HT_ HW_ => ?_)
       generalize w191.drew = w192 at BK143 BK144 BK145 BK146 BK160 BK161 HB hHeld ⊢
       refine pure_ (i := 0) (N := some 53) (v := ?_) (a' := ?_) #[true, false, false, false, false, false, false, false, false] rfl rfl (any_of HT_.out (by kernel_rfl)) (fun _ _ _ h => h) (Or.inl ⟨by rfl, ?_⟩) ?_ ?_
       rotate_left
       ·intro w'
        go_simp
        with_reducible rfl
       rotate_left
       ·simp only [Act.put, List.setIfInBounds_toArray, List.set_cons_zero, List.set_cons_succ, i64_w, i32_w]
        rfl
       refine pure_ (i := 2) (N := some 55) (v := ?_) (a' := ?_) #[true, false, true, false, false, false, false, false, false] rfl rfl (any_of HT_.out (by kernel_rfl)) (fun _ _ _ h => h) (Or.inl ⟨by rfl, ?_⟩) ?_ ?_
       rotate_left
       ·intro w'
        go_simp
        with_reducible rfl
       rotate_left
       ·simp only [Act.put, List.setIfInBounds_toArray, List.set_cons_zero, List.set_cons_succ, i64_w, i32_w]
        rfl
       refine pure_ (i := 4) (N := some 57) (v := ?_) (a' := ?_) #[true, false, true, false, true, false, false, false, false] rfl rfl (any_of HT_.out (by kernel_rfl)) (fun _ _ _ h => h) (Or.inl ⟨by rfl, ?_⟩) ?_ ?_
       rotate_left
       ·intro w'
        go_simp
        with_reducible rfl
       rotate_left
       ·simp only [Act.put, List.setIfInBounds_toArray, List.set_cons_zero, List.set_cons_succ, i64_w, i32_w]
        rfl
       refine take_ (i := 1) (N := some 54) (v := ?_) (a' := ?_) #[true, true, true, false, true, false, false, false, false] rfl rfl (take_ofW HT_.out HW_.out (by kernel_rfl)) (fun _ _ _ h => h) (Or.inl ⟨by rfl, ?_⟩) hHeld ?_ ?_
       rotate_left
       ·rintro w' ⟨s0, s1, s2, s3, s4, s5⟩
        go_simp
        with_reducible rfl
       rotate_left
       ·simp only [Act.put, List.setIfInBounds_toArray, List.set_cons_zero, List.set_cons_succ, i64_w, i32_w]
        rfl
       refine take_ (i := 3) (N := some 56) (v := ?_) (a' := ?_) #[true, true, true, true, true, false, false, false, false] rfl rfl (take_ofW HT_.out HW_.out (by kernel_rfl)) (fun _ _ _ h => h) (Or.inl ⟨by rfl, ?_⟩) hHeld ?_ ?_
       rotate_left
       ·rintro w' ⟨s0, s1, s2, s3, s4, s5⟩
        go_simp
        with_reducible rfl
       rotate_left
       ·simp only [Act.put, List.setIfInBounds_toArray, List.set_cons_zero, List.set_cons_succ, i64_w, i32_w]
        rfl
       refine one_ (i := 5) (N := some 58) #[true, true, true, true, true, true, false, false, false] rfl rfl (one_of HT_.out (by kernel_rfl)) (by decide) (fun K hK => ?_)
       refine goes_ Try.func36 (by kernel_rfl) rfl #[.int .i64 a0] (by rfl) rfl rfl (by (try simp only [List.map_toArray, List.map_cons, List.map_nil]); first | done | rfl) ?_
       with_reducible refine (spec_BitTop.calls a0 t162 _ A73.out).mono ?_
       rintro e w' ⟨rfl, ⟨nd, rfl⟩⟩
       refine ⟨_, rfl, ?_⟩
       refine hK.out _ _ ⟨(blk_cell BK144.out 0).trans rfl, (blk_cell BK144.out 1).trans rfl, (blk_cell BK144.out 2).trans rfl, (blk_cell BK143.out 0).trans rfl, (blk_cell BK143.out 1).trans rfl, (blk_cell BK143.out 2).trans rfl⟩ (fun hHeld => ?_)
       clear hK K
       refine norm_ (a' := ?_) ?_ ?_
       rotate_left
       ·show Act.put _ (some 58) _ = _
        simp only [Act.put, List.setIfInBounds_toArray, List.set_cons_zero, List.set_cons_succ, i64_w, i32_w]
        rfl
       refine one_ (i := 6) (N := some 59) #[true, true, true, true, true, true, true, false, false] rfl rfl (one_of HT_.out (by kernel_rfl)) (by decide) (fun K hK => ?_)
       refine goes_ Try.func35 (by kernel_rfl) rfl #[.int .i64 a2_1, .int .i64 t162] (by rfl) rfl rfl (by (try simp only [List.map_toArray, List.map_cons, List.map_nil]); first | done | rfl) ?_
       with_reducible refine (spec_l9Of.calls a2_1 t162 t170 t171 t172 _ A74.out).mono ?_
       rintro e w193 ⟨rfl, hb⟩
       refine ⟨_, rfl, ?_⟩
       have n0_ := A_ (blk_below (bz_ BK143.out) hb)
       have n1_ := A_ (blk_below (bz_ BK144.out) hb)
       have n2_ := A_ (blk_below (bz_ BK145.out) hb)
       have n3_ := A_ (blk_below (bz_ BK146.out) hb)
       have n4_ := A_ (blk_below (bz_ BK160.out) hb)
       have n5_ := A_ (blk_below (bz_ BK161.out) hb)
       have n6_ := A_ (below_step (by repeat (first | (with_reducible first | exact HB.out | apply b1_ | apply b2_ | apply b3_ | apply c_ GE143 | apply c_ GE144 | apply c_ GE145 | apply c_ GE146 | apply c_ GE160 | apply c_ GE161) | exact HB.out)) hb)
       clear BK143 BK144
       clear BK145 BK146
       clear BK160 BK161 HB
       have BK143 := n0_
       have BK144 := n1_
       have BK145 := n2_
       have BK146 := n3_
       have BK160 := n4_
       have BK161 := n5_
       have HB := n6_
       clear n0_ n1_ n2_ n3_ n4_ n5_ n6_
       (try clear hb)
       (try clear hb2)
       (try clear hk)
       (try clear hi)
       refine hK.out _ _ ⟨(blk_cell BK144.out 0).trans rfl, (blk_cell BK144.out 1).trans rfl, (blk_cell BK144.out 2).trans rfl, (blk_cell BK143.out 0).trans rfl, (blk_cell BK143.out 1).trans rfl, (blk_cell BK143.out 2).trans rfl⟩ (fun hHeld => ?_)
       clear hK K
       refine norm_ (a' := ?_) ?_ ?_
       rotate_left
       ·show Act.put _ (some 59) _ = _
        simp only [Act.put, List.setIfInBounds_toArray, List.set_cons_zero, List.set_cons_succ, i64_w, i32_w]
        rfl
       refine one_ (i := 7) (N := some 60) #[true, true, true, true, true, true, true, true, false] rfl rfl (one_of HT_.out (by kernel_rfl)) (by decide) (fun K hK => ?_)
       refine goes_ Try.func34 (by kernel_rfl) rfl #[.int .i64 a0, .agg #[.bool a3_0, .int .i64 a3_1, .int .i64 a3_2], .agg #[.bool t170, .int .i64 t171, .int .i64 t172]] (by rfl) rfl rfl (by (try simp only [List.map_toArray, List.map_cons, List.map_nil]); first | done | rfl) ?_
       with_reducible refine (spec_SpanMeet.calls a0 a3_0 a3_1 a3_2 t170 t171 t172 t173 t174 t175 _ A75.out).mono ?_
       rintro e w194 ⟨rfl, hb⟩
       refine ⟨_, rfl, ?_⟩
       have n0_ := A_ (blk_below (bz_ BK143.out) hb)
       have n1_ := A_ (blk_below (bz_ BK144.out) hb)
       have n2_ := A_ (blk_below (bz_ BK145.out) hb)
       have n3_ := A_ (blk_below (bz_ BK146.out) hb)
       have n4_ := A_ (blk_below (bz_ BK160.out) hb)
       have n5_ := A_ (blk_below (bz_ BK161.out) hb)
       have n6_ := A_ (below_step (by repeat (first | (with_reducible first | exact HB.out | apply b1_ | apply b2_ | apply b3_ | apply c_ GE143 | apply c_ GE144 | apply c_ GE145 | apply c_ GE146 | apply c_ GE160 | apply c_ GE161) | exact HB.out)) hb)
       clear BK143 BK144
       clear BK145 BK146
       clear BK160 BK161 HB
       have BK143 := n0_
       have BK144 := n1_
       have BK145 := n2_
       have BK146 := n3_
       have BK160 := n4_
       have BK161 := n5_
       have HB := n6_
       clear n0_ n1_ n2_ n3_ n4_ n5_ n6_
       (try clear hb)
       (try clear hb2)
       (try clear hk)
       (try clear hi)
       refine hK.out _ _ ⟨(blk_cell BK144.out 0).trans rfl, (blk_cell BK144.out 1).trans rfl, (blk_cell BK144.out 2).trans rfl, (blk_cell BK143.out 0).trans rfl, (blk_cell BK143.out 1).trans rfl, (blk_cell BK143.out 2).trans rfl⟩ (fun hHeld => ?_)
       clear hK K
       refine norm_ (a' := ?_) ?_ ?_
       rotate_left
       ·show Act.put _ (some 60) _ = _
        simp only [Act.put, List.setIfInBounds_toArray, List.set_cons_zero, List.set_cons_succ, i64_w, i32_w]
        rfl
       refine one_ (i := 8) (N := none) #[true, true, true, true, true, true, true, true, true] rfl rfl (one_of HT_.out (by kernel_rfl)) (by decide) (fun K hK => ?_)
       have hs195 : w194.cell? ⟨gb161, 0, none⟩ = some (.bool t157) := (blk_cell BK161.out 0).trans rfl
       have hfs195 := blk_frozen BK161.out 0
       have hns195_0 := NB143_161.out
       have hns195_1 := NB144_161.out
       have hns195_2 := NB145_161.out
       have hns195_3 := NB146_161.out
       have hns195_4 := NB160_161.out
       have hms195_0 := NB161_143.out
       have hms195_1 := NB161_144.out
       have hms195_2 := NB161_145.out
       have hms195_3 := NB161_146.out
       have hms195_4 := NB161_160.out
       have hs196 : w194.cell? ⟨gb161, 1, none⟩ = some (.int .i64 t158) := (blk_cell BK161.out 1).trans rfl
       have hfs196 := blk_frozen BK161.out 1
       have hns196_0 := NB143_161.out
       have hns196_1 := NB144_161.out
       have hns196_2 := NB145_161.out
       have hns196_3 := NB146_161.out
       have hns196_4 := NB160_161.out
       have hms196_0 := NB161_143.out
       have hms196_1 := NB161_144.out
       have hms196_2 := NB161_145.out
       have hms196_3 := NB161_146.out
       have hms196_4 := NB161_160.out
       have hs197 : w194.cell? ⟨gb161, 2, none⟩ = some (.int .i64 t159) := (blk_cell BK161.out 2).trans rfl
       have hfs197 := blk_frozen BK161.out 2
       have hns197_0 := NB143_161.out
       have hns197_1 := NB144_161.out
       have hns197_2 := NB145_161.out
       have hns197_3 := NB146_161.out
       have hns197_4 := NB160_161.out
       have hms197_0 := NB161_143.out
       have hms197_1 := NB161_144.out
       have hms197_2 := NB161_145.out
       have hms197_3 := NB161_146.out
       have hms197_4 := NB161_160.out
       refine skip_ (w1 := ?_) (by rfl) rfl ?_ ?_
       rotate_left
       ·go_simp
        rfl
       refine hK.out _ _ ⟨((cell_far (p := ⟨gb161, _, none⟩) NB144_161.out _).trans (((cell_far (p := ⟨gb161, _, none⟩) NB144_161.out _).trans (((cell_far (p := ⟨gb161, _, none⟩) NB144_161.out _).trans (hHeld.1)))))), ((cell_far (p := ⟨gb161, _, none⟩) NB144_161.out _).trans (((cell_far (p := ⟨gb161, _, none⟩) NB144_161.out _).trans (((cell_far (p := ⟨gb161, _, none⟩) NB144_161.out _).trans (hHeld.2.1)))))), ((cell_far (p := ⟨gb161, _, none⟩) NB144_161.out _).trans (((cell_far (p := ⟨gb161, _, none⟩) NB144_161.out _).trans (((cell_far (p := ⟨gb161, _, none⟩) NB144_161.out _).trans (hHeld.2.2.1)))))), ((cell_far (p := ⟨gb161, _, none⟩) NB143_161.out _).trans (((cell_far (p := ⟨gb161, _, none⟩) NB143_161.out _).trans (((cell_far (p := ⟨gb161, _, none⟩) NB143_161.out _).trans (hHeld.2.2.2.1)))))), ((cell_far (p := ⟨gb161, _, none⟩) NB143_161.out _).trans (((cell_far (p := ⟨gb161, _, none⟩) NB143_161.out _).trans (((cell_far (p := ⟨gb161, _, none⟩) NB143_161.out _).trans (hHeld.2.2.2.2.1)))))), ((cell_far (p := ⟨gb161, _, none⟩) NB143_161.out _).trans (((cell_far (p := ⟨gb161, _, none⟩) NB143_161.out _).trans (((cell_far (p := ⟨gb161, _, none⟩) NB143_161.out _).trans (hHeld.2.2.2.2.2))))))⟩ (fun hHeld => ?_)
       clear hK K
       refine done_ (done_of HT_.out (by kernel_rfl)) ?_
       have hcz198_0 : w194.cell? ⟨gb160, 0, none⟩ = some (.bool false) := (blk_cell BK160.out 0).trans rfl
       have hcz198_1 : w194.cell? ⟨gb160, 1, none⟩ = some (.int .i64 t167) := (blk_cell BK160.out 1).trans rfl
       have hcz198_2 : w194.cell? ⟨gb160, 2, none⟩ = some (.int .i64 t168) := (blk_cell BK160.out 2).trans rfl
       have hfz198_0 := blk_frozen BK160.out 0
       have hfz198_1 := blk_frozen BK160.out 1
       have hfz198_2 := blk_frozen BK160.out 2
       have hnb199 := NB145_146.out
       have hnc199 := NB146_145.out
       have hcz200_0 : w194.cell? ⟨gb145, 0, none⟩ = some (.bool false) := (blk_cell BK145.out 0).trans rfl
       have hcz200_1 : w194.cell? ⟨gb145, 1, none⟩ = some (.int .i64 0) := (blk_cell BK145.out 1).trans rfl
       have hcz200_2 : w194.cell? ⟨gb145, 2, none⟩ = some (.int .i64 0) := (blk_cell BK145.out 2).trans rfl
       have hfz200_0 := blk_frozen BK145.out 0
       have hfz200_1 := blk_frozen BK145.out 1
       have hfz200_2 := blk_frozen BK145.out 2
       have hcz201_0 : w194.cell? ⟨gb146, 0, none⟩ = some (.bool false) := (blk_cell BK146.out 0).trans rfl
       have hcz201_1 : w194.cell? ⟨gb146, 1, none⟩ = some (.int .i64 0) := (blk_cell BK146.out 1).trans rfl
       have hcz201_2 : w194.cell? ⟨gb146, 2, none⟩ = some (.int .i64 0) := (blk_cell BK146.out 2).trans rfl
       have hfz201_0 := blk_frozen BK146.out 0
       have hfz201_1 := blk_frozen BK146.out 1
       have hfz201_2 := blk_frozen BK146.out 2
       try go_wp2
       refine bodyPost_ret (results_cc rfl _ _ gb145 gb146 24 24 #[.bool false, .int .i64 0, .int .i64 0] #[.bool false, .int .i64 0, .int .i64 0] (0, 0) (0, 0) _ _ rfl (by (with_reducible repeat (first | apply bn_ | apply bd_ | apply ba_)); refine blk_far ?_ NB145_146.out _; (with_reducible repeat (first | apply bn_ | apply bd_ | apply ba_)); refine blk_far ?_ NB145_146.out _; (with_reducible repeat (first | apply bn_ | apply bd_ | apply ba_)); refine blk_far ?_ NB145_146.out _; (with_reducible repeat (first | apply bn_ | apply bd_ | apply ba_)); refine blk_put (cs := #[.bool false, .int .i64 0, .int .i64 0]) ?_ 2 _ (by first | rfl | (simp [*]; done)); (with_reducible repeat (first | apply bn_ | apply bd_ | apply ba_)); refine blk_put (cs := #[.bool false, .int .i64 0, .int .i64 0]) ?_ 1 _ (by first | rfl | (simp [*]; done)); (with_reducible repeat (first | apply bn_ | apply bd_ | apply ba_)); refine blk_put (cs := #[.bool false, .int .i64 0, .int .i64 0]) ?_ 0 _ (by first | rfl | (simp [*]; done)); (with_reducible repeat (first | apply bn_ | apply bd_ | apply ba_)); refine blk_far ?_ NB145_161.out _; (with_reducible repeat (first | apply bn_ | apply bd_ | apply ba_)); refine blk_far ?_ NB145_161.out _; (with_reducible repeat (first | apply bn_ | apply bd_ | apply ba_)); refine blk_far ?_ NB145_161.out _; (with_reducible repeat (first | apply bn_ | apply bd_ | apply ba_)); exact BK145.out) Try.underlying24 rfl (by kernel_rfl) rfl (by (with_reducible repeat (first | apply bn_ | apply bd_ | apply ba_)); refine blk_put (cs := #[.bool false, .int .i64 0, .int .i64 0]) ?_ 2 _ (by first | rfl | (simp [*]; done)); (with_reducible repeat (first | apply bn_ | apply bd_ | apply ba_)); refine blk_put (cs := #[.bool false, .int .i64 0, .int .i64 0]) ?_ 1 _ (by first | rfl | (simp [*]; done)); (with_reducible repeat (first | apply bn_ | apply bd_ | apply ba_)); refine blk_put (cs := #[.bool false, .int .i64 0, .int .i64 0]) ?_ 0 _ (by first | rfl | (simp [*]; done)); (with_reducible repeat (first | apply bn_ | apply bd_ | apply ba_)); refine blk_far ?_ NB146_145.out _; (with_reducible repeat (first | apply bn_ | apply bd_ | apply ba_)); refine blk_far ?_ NB146_145.out _; (with_reducible repeat (first | apply bn_ | apply bd_ | apply ba_)); refine blk_far ?_ NB146_145.out _; (with_reducible repeat (first | apply bn_ | apply bd_ | apply ba_)); refine blk_far ?_ NB146_161.out _; (with_reducible repeat (first | apply bn_ | apply bd_ | apply ba_)); refine blk_far ?_ NB146_161.out _; (with_reducible repeat (first | apply bn_ | apply bd_ | apply ba_)); refine blk_far ?_ NB146_161.out _; (with_reducible repeat (first | apply bn_ | apply bd_ | apply ba_)); exact BK146.out) Try.underlying24 rfl (by kernel_rfl)) rfl ?_
       exact ⟨by first | rfl | (simp [errW_none, errW_some] <;> rfl) | (simp [*, errW_none, errW_some] <;> rfl), by repeat (first | (with_reducible first | exact HB.out | apply b1_ | apply b2_ | apply b3_ | apply c_ GE143 | apply c_ GE144 | apply c_ GE145 | apply c_ GE146 | apply c_ GE160 | apply c_ GE161) | exact HB.out)⟩
     ·rw [if_neg c69] at H
      have c69b0 : (a1 == 1) = false := beq_eq_false_iff_ne.mpr c69
      have c69b1 : (a1 != 1) = true := bne_iff_ne.mpr c69
      by_cases c202 : t157 = true
      ·subst c202
       have H1 : (some (true, t158, t159, true, t158, t159)) = some (r1, r2, r3, r4, r5, r6) := by rw [if_pos rfl] at H; exact H
       clear H
       have H := H1
       clear H1
       simp only [Option.some.injEq, Prod.mk.injEq] at H
       obtain ⟨rfl, rfl, rfl, rfl, rfl, rfl⟩ := H
       have hnb203 := NB143_144.out
       have hnc203 := NB144_143.out
       have hnb204 := NB143_145.out
       have hnc204 := NB145_143.out
       have hnb205 := NB143_146.out
       have hnc205 := NB146_143.out
       have hcz206_0 : wc.cell? ⟨gb143, 0, none⟩ = some (.bool a2_0) := (blk_cell BK143.out 0).trans rfl
       have hcz206_1 : wc.cell? ⟨gb143, 1, none⟩ = some (.int .i64 a2_1) := (blk_cell BK143.out 1).trans rfl
       have hcz206_2 : wc.cell? ⟨gb143, 2, none⟩ = some (.int .i64 a2_2) := (blk_cell BK143.out 2).trans rfl
       have hfz206_0 := blk_frozen BK143.out 0
       have hfz206_1 := blk_frozen BK143.out 1
       have hfz206_2 := blk_frozen BK143.out 2
       have hnb207 := NB144_145.out
       have hnc207 := NB145_144.out
       have hnb208 := NB144_146.out
       have hnc208 := NB146_144.out
       have hcz209_0 : wc.cell? ⟨gb144, 0, none⟩ = some (.bool a3_0) := (blk_cell BK144.out 0).trans rfl
       have hcz209_1 : wc.cell? ⟨gb144, 1, none⟩ = some (.int .i64 a3_1) := (blk_cell BK144.out 1).trans rfl
       have hcz209_2 : wc.cell? ⟨gb144, 2, none⟩ = some (.int .i64 a3_2) := (blk_cell BK144.out 2).trans rfl
       have hfz209_0 := blk_frozen BK144.out 0
       have hfz209_1 := blk_frozen BK144.out 1
       have hfz209_2 := blk_frozen BK144.out 2
       try go_wp2_with (first | ((with_reducible refine gate_callee (f := 34) rfl ?_); refine goesL_ (some 40) rfl rfl Try.func34 (by kernel_rfl) rfl #[.int .i64 a0, .agg #[.bool a2_0, .int .i64 a2_1, .int .i64 a2_2], .agg #[.bool a3_0, .int .i64 a3_1, .int .i64 a3_2]] rfl (by (try simp only [List.map_toArray, List.map_cons, List.map_nil]); first | done | rfl) ?_; (with_reducible refine (spec_SpanMeet.calls a0 a2_0 a2_1 a2_2 a3_0 a3_1 a3_2 true t158 t159 _ A68.out).mono ?_); rintro e w210 ⟨rfl, hb⟩; refine ⟨_, rfl, ?_⟩; have n0_ := A_ (blk_below (bz_ BK143.out) hb); have n1_ := A_ (blk_below (bz_ BK144.out) hb); have n2_ := A_ (blk_below (bz_ BK145.out) hb); have n3_ := A_ (blk_below (bz_ BK146.out) hb); have n4_ := A_ (below_step (by repeat (first | (with_reducible first | exact HB.out | apply b1_ | apply b2_ | apply b3_ | apply c_ GE143 | apply c_ GE144 | apply c_ GE145 | apply c_ GE146) | exact HB.out)) hb); clear BK143 BK144 BK145 BK146 HB; have BK143 := n0_; have BK144 := n1_; have BK145 := n2_; have BK146 := n3_; have HB := n4_; clear n0_ n1_ n2_ n3_ n4_; (try clear hb); (try clear hb2); (try clear hk); (try clear hi)) | ((with_reducible refine gate_dst (N := 12) rfl ?_); refine box_event ?hg (N := 12) ?hd (cs := #[.bool false, .int .i64 0, .int .i64 0]) (t := 24) ?hr ?_; (case hd => rfl); (case hg => rfl); (case hr => first | (go_simp; done) | (go_simp; rfl)); intro gb160 hg w211 hbox hb; have n0_ := A_ (blk_below (bz_ BK143.out) hb); have n1_ := A_ (blk_below (bz_ BK144.out) hb); have n2_ := A_ (blk_below (bz_ BK145.out) hb); have n3_ := A_ (blk_below (bz_ BK146.out) hb); have n4_ := A_ (below_step (by repeat (first | (with_reducible first | exact HB.out | apply b1_ | apply b2_ | apply b3_ | apply c_ GE143 | apply c_ GE144 | apply c_ GE145 | apply c_ GE146) | exact HB.out)) hb); have n5_ := A_ (hbox); have n6_ := A_ ((by rw [hg]; exact (below_size (by repeat (first | (with_reducible first | exact HB.out | apply b1_ | apply b2_ | apply b3_ | apply c_ GE143 | apply c_ GE144 | apply c_ GE145 | apply c_ GE146) | exact HB.out))) : w.heap.size ≤ gb160)); have n7_ := n6_; have n8_ := A_ ((by rw [hg]; exact Nat.ne_of_lt (blk_lt (bz_ BK143.out)) : gb143 ≠ gb160)); have n9_ := A_ ((by rw [hg]; exact Nat.ne_of_gt (blk_lt (bz_ BK143.out)) : gb160 ≠ gb143)); have n10_ := A_ ((by rw [hg]; exact Nat.ne_of_lt (blk_lt (bz_ BK144.out)) : gb144 ≠ gb160)); have n11_ := A_ ((by rw [hg]; exact Nat.ne_of_gt (blk_lt (bz_ BK144.out)) : gb160 ≠ gb144)); have n12_ := A_ ((by rw [hg]; exact Nat.ne_of_lt (blk_lt (bz_ BK145.out)) : gb145 ≠ gb160)); have n13_ := A_ ((by rw [hg]; exact Nat.ne_of_gt (blk_lt (bz_ BK145.out)) : gb160 ≠ gb145)); have n14_ := A_ ((by rw [hg]; exact Nat.ne_of_lt (blk_lt (bz_ BK146.out)) : gb146 ≠ gb160)); have n15_ := A_ ((by rw [hg]; exact Nat.ne_of_gt (blk_lt (bz_ BK146.out)) : gb160 ≠ gb146)); clear BK143 BK144 BK145 BK146 HB; have BK143 := n0_; have BK144 := n1_; have BK145 := n2_; have BK146 := n3_; have HB := n4_; have BK160 := n5_; have GW160 := n6_; have GE160 := n7_; have NB143_160 := n8_; have NB160_143 := n9_; have NB144_160 := n10_; have NB160_144 := n11_; have NB145_160 := n12_; have NB160_145 := n13_; have NB146_160 := n14_; have NB160_146 := n15_; clear n0_ n1_ n2_ n3_ n4_ n5_ n6_ n7_ n8_ n9_ n10_ n11_ n12_ n13_ n14_ n15_; clear hb hbox hg; have hnb212 := NB160_143.out; have hnc212 := NB143_160.out; have hnb213 := NB160_144.out; have hnc213 := NB144_160.out; have hnb214 := NB160_145.out; have hnc214 := NB145_160.out; have hnb215 := NB160_146.out; have hnc215 := NB146_160.out; have hcz216_0 : w211.cell? ⟨gb160, 0, none⟩ = some (.bool false) := (blk_cell BK160.out 0).trans rfl; have hcz216_1 : w211.cell? ⟨gb160, 1, none⟩ = some (.int .i64 0) := (blk_cell BK160.out 1).trans rfl; have hcz216_2 : w211.cell? ⟨gb160, 2, none⟩ = some (.int .i64 0) := (blk_cell BK160.out 2).trans rfl; have hfz216_0 := blk_frozen BK160.out 0; have hfz216_1 := blk_frozen BK160.out 1; have hfz216_2 := blk_frozen BK160.out 2) | ((with_reducible refine gate_dst (N := 13) rfl ?_); refine box_event ?hg (N := 13) ?hd (cs := #[.bool false, .int .i64 0, .int .i64 0]) (t := 24) ?hr ?_; (case hd => rfl); (case hg => rfl); (case hr => first | (go_simp; done) | (go_simp; rfl)); intro gb161 hg w217 hbox hb; have n0_ := A_ (blk_below (g := gb143) (o := .cells #[.bool a2_0, .int .i64 a2_1, .int .i64 a2_2] 24 (0, 0)) (by (with_reducible repeat (first | apply bn_ | apply bd_ | apply ba_)); refine blk_far ?_ NB143_160.out _; (with_reducible repeat (first | apply bn_ | apply bd_ | apply ba_)); refine blk_far ?_ NB143_160.out _; (with_reducible repeat (first | apply bn_ | apply bd_ | apply ba_)); refine blk_far ?_ NB143_160.out _; (with_reducible repeat (first | apply bn_ | apply bd_ | apply ba_)); exact BK143.out) hb); have n1_ := A_ (blk_below (g := gb144) (o := .cells #[.bool a3_0, .int .i64 a3_1, .int .i64 a3_2] 24 (0, 0)) (by (with_reducible repeat (first | apply bn_ | apply bd_ | apply ba_)); refine blk_far ?_ NB144_160.out _; (with_reducible repeat (first | apply bn_ | apply bd_ | apply ba_)); refine blk_far ?_ NB144_160.out _; (with_reducible repeat (first | apply bn_ | apply bd_ | apply ba_)); refine blk_far ?_ NB144_160.out _; (with_reducible repeat (first | apply bn_ | apply bd_ | apply ba_)); exact BK144.out) hb); have n2_ := A_ (blk_below (g := gb145) (o := .cells #[.bool false, .int .i64 0, .int .i64 0] 24 (0, 0)) (by (with_reducible repeat (first | apply bn_ | apply bd_ | apply ba_)); refine blk_far ?_ NB145_160.out _; (with_reducible repeat (first | apply bn_ | apply bd_ | apply ba_)); refine blk_far ?_ NB145_160.out _; (with_reducible repeat (first | apply bn_ | apply bd_ | apply ba_)); refine blk_far ?_ NB145_160.out _; (with_reducible repeat (first | apply bn_ | apply bd_ | apply ba_)); exact BK145.out) hb); have n3_ := A_ (blk_below (g := gb146) (o := .cells #[.bool false, .int .i64 0, .int .i64 0] 24 (0, 0)) (by (with_reducible repeat (first | apply bn_ | apply bd_ | apply ba_)); refine blk_far ?_ NB146_160.out _; (with_reducible repeat (first | apply bn_ | apply bd_ | apply ba_)); refine blk_far ?_ NB146_160.out _; (with_reducible repeat (first | apply bn_ | apply bd_ | apply ba_)); refine blk_far ?_ NB146_160.out _; (with_reducible repeat (first | apply bn_ | apply bd_ | apply ba_)); exact BK146.out) hb); have n4_ := A_ (blk_below (g := gb160) (o := .cells #[.bool true, .int .i64 t158, .int .i64 t159] 24 (0, 0)) (by (with_reducible repeat (first | apply bn_ | apply bd_ | apply ba_)); refine blk_put (cs := #[.bool true, .int .i64 t158, .int .i64 0]) ?_ 2 _ (by first | rfl | (simp [*]; done)); (with_reducible repeat (first | apply bn_ | apply bd_ | apply ba_)); refine blk_put (cs := #[.bool true, .int .i64 0, .int .i64 0]) ?_ 1 _ (by first | rfl | (simp [*]; done)); (with_reducible repeat (first | apply bn_ | apply bd_ | apply ba_)); refine blk_put (cs := #[.bool false, .int .i64 0, .int .i64 0]) ?_ 0 _ (by first | rfl | (simp [*]; done)); (with_reducible repeat (first | apply bn_ | apply bd_ | apply ba_)); exact BK160.out) hb); have n5_ := A_ (below_step (by repeat (first | (with_reducible first | exact HB.out | apply b1_ | apply b2_ | apply b3_ | apply c_ GE143 | apply c_ GE144 | apply c_ GE145 | apply c_ GE146 | apply c_ GE160) | exact HB.out)) hb); have n6_ := A_ (hbox); have n7_ := A_ ((by rw [hg]; exact (below_size (by repeat (first | (with_reducible first | exact HB.out | apply b1_ | apply b2_ | apply b3_ | apply c_ GE143 | apply c_ GE144 | apply c_ GE145 | apply c_ GE146 | apply c_ GE160) | exact HB.out))) : w.heap.size ≤ gb161)); have n8_ := n7_; have n9_ := A_ ((by rw [hg]; exact Nat.ne_of_lt (blk_lt (g := gb143) (o := .cells #[.bool a2_0, .int .i64 a2_1, .int .i64 a2_2] 24 (0, 0)) (by (with_reducible repeat (first | apply bn_ | apply bd_ | apply ba_)); refine blk_far ?_ NB143_160.out _; (with_reducible repeat (first | apply bn_ | apply bd_ | apply ba_)); refine blk_far ?_ NB143_160.out _; (with_reducible repeat (first | apply bn_ | apply bd_ | apply ba_)); refine blk_far ?_ NB143_160.out _; (with_reducible repeat (first | apply bn_ | apply bd_ | apply ba_)); exact BK143.out)) : gb143 ≠ gb161)); have n10_ := A_ ((by rw [hg]; exact Nat.ne_of_gt (blk_lt (g := gb143) (o := .cells #[.bool a2_0, .int .i64 a2_1, .int .i64 a2_2] 24 (0, 0)) (by (with_reducible repeat (first | apply bn_ | apply bd_ | apply ba_)); refine blk_far ?_ NB143_160.out _; (with_reducible repeat (first | apply bn_ | apply bd_ | apply ba_)); refine blk_far ?_ NB143_160.out _; (with_reducible repeat (first | apply bn_ | apply bd_ | apply ba_)); refine blk_far ?_ NB143_160.out _; (with_reducible repeat (first | apply bn_ | apply bd_ | apply ba_)); exact BK143.out)) : gb161 ≠ gb143)); have n11_ := A_ ((by rw [hg]; exact Nat.ne_of_lt (blk_lt (g := gb144) (o := .cells #[.bool a3_0, .int .i64 a3_1, .int .i64 a3_2] 24 (0, 0)) (by (with_reducible repeat (first | apply bn_ | apply bd_ | apply ba_)); refine blk_far ?_ NB144_160.out _; (with_reducible repeat (first | apply bn_ | apply bd_ | apply ba_)); refine blk_far ?_ NB144_160.out _; (with_reducible repeat (first | apply bn_ | apply bd_ | apply ba_)); refine blk_far ?_ NB144_160.out _; (with_reducible repeat (first | apply bn_ | apply bd_ | apply ba_)); exact BK144.out)) : gb144 ≠ gb161)); have n12_ := A_ ((by rw [hg]; exact Nat.ne_of_gt (blk_lt (g := gb144) (o := .cells #[.bool a3_0, .int .i64 a3_1, .int .i64 a3_2] 24 (0, 0)) (by (with_reducible repeat (first | apply bn_ | apply bd_ | apply ba_)); refine blk_far ?_ NB144_160.out _; (with_reducible repeat (first | apply bn_ | apply bd_ | apply ba_)); refine blk_far ?_ NB144_160.out _; (with_reducible repeat (first | apply bn_ | apply bd_ | apply ba_)); refine blk_far ?_ NB144_160.out _; (with_reducible repeat (first | apply bn_ | apply bd_ | apply ba_)); exact BK144.out)) : gb161 ≠ gb144)); have n13_ := A_ ((by rw [hg]; exact Nat.ne_of_lt (blk_lt (g := gb145) (o := .cells #[.bool false, .int .i64 0, .int .i64 0] 24 (0, 0)) (by (with_reducible repeat (first | apply bn_ | apply bd_ | apply ba_)); refine blk_far ?_ NB145_160.out _; (with_reducible repeat (first | apply bn_ | apply bd_ | apply ba_)); refine blk_far ?_ NB145_160.out _; (with_reducible repeat (first | apply bn_ | apply bd_ | apply ba_)); refine blk_far ?_ NB145_160.out _; (with_reducible repeat (first | apply bn_ | apply bd_ | apply ba_)); exact BK145.out)) : gb145 ≠ gb161)); have n14_ := A_ ((by rw [hg]; exact Nat.ne_of_gt (blk_lt (g := gb145) (o := .cells #[.bool false, .int .i64 0, .int .i64 0] 24 (0, 0)) (by (with_reducible repeat (first | apply bn_ | apply bd_ | apply ba_)); refine blk_far ?_ NB145_160.out _; (with_reducible repeat (first | apply bn_ | apply bd_ | apply ba_)); refine blk_far ?_ NB145_160.out _; (with_reducible repeat (first | apply bn_ | apply bd_ | apply ba_)); refine blk_far ?_ NB145_160.out _; (with_reducible repeat (first | apply bn_ | apply bd_ | apply ba_)); exact BK145.out)) : gb161 ≠ gb145)); have n15_ := A_ ((by rw [hg]; exact Nat.ne_of_lt (blk_lt (g := gb146) (o := .cells #[.bool false, .int .i64 0, .int .i64 0] 24 (0, 0)) (by (with_reducible repeat (first | apply bn_ | apply bd_ | apply ba_)); refine blk_far ?_ NB146_160.out _; (with_reducible repeat (first | apply bn_ | apply bd_ | apply ba_)); refine blk_far ?_ NB146_160.out _; (with_reducible repeat (first | apply bn_ | apply bd_ | apply ba_)); refine blk_far ?_ NB146_160.out _; (with_reducible repeat (first | apply bn_ | apply bd_ | apply ba_)); exact BK146.out)) : gb146 ≠ gb161)); have n16_ := A_ ((by rw [hg]; exact Nat.ne_of_gt (blk_lt (g := gb146) (o := .cells #[.bool false, .int .i64 0, .int .i64 0] 24 (0, 0)) (by (with_reducible repeat (first | apply bn_ | apply bd_ | apply ba_)); refine blk_far ?_ NB146_160.out _; (with_reducible repeat (first | apply bn_ | apply bd_ | apply ba_)); refine blk_far ?_ NB146_160.out _; (with_reducible repeat (first | apply bn_ | apply bd_ | apply ba_)); refine blk_far ?_ NB146_160.out _; (with_reducible repeat (first | apply bn_ | apply bd_ | apply ba_)); exact BK146.out)) : gb161 ≠ gb146)); have n17_ := A_ ((by rw [hg]; exact Nat.ne_of_lt (blk_lt (g := gb160) (o := .cells #[.bool true, .int .i64 t158, .int .i64 t159] 24 (0, 0)) (by (with_reducible repeat (first | apply bn_ | apply bd_ | apply ba_)); refine blk_put (cs := #[.bool true, .int .i64 t158, .int .i64 0]) ?_ 2 _ (by first | rfl | (simp [*]; done)); (with_reducible repeat (first | apply bn_ | apply bd_ | apply ba_)); refine blk_put (cs := #[.bool true, .int .i64 0, .int .i64 0]) ?_ 1 _ (by first | rfl | (simp [*]; done)); (with_reducible repeat (first | apply bn_ | apply bd_ | apply ba_)); refine blk_put (cs := #[.bool false, .int .i64 0, .int .i64 0]) ?_ 0 _ (by first | rfl | (simp [*]; done)); (with_reducible repeat (first | apply bn_ | apply bd_ | apply ba_)); exact BK160.out)) : gb160 ≠ gb161)); have n18_ := A_ ((by rw [hg]; exact Nat.ne_of_gt (blk_lt (g := gb160) (o := .cells #[.bool true, .int .i64 t158, .int .i64 t159] 24 (0, 0)) (by (with_reducible repeat (first | apply bn_ | apply bd_ | apply ba_)); refine blk_put (cs := #[.bool true, .int .i64 t158, .int .i64 0]) ?_ 2 _ (by first | rfl | (simp [*]; done)); (with_reducible repeat (first | apply bn_ | apply bd_ | apply ba_)); refine blk_put (cs := #[.bool true, .int .i64 0, .int .i64 0]) ?_ 1 _ (by first | rfl | (simp [*]; done)); (with_reducible repeat (first | apply bn_ | apply bd_ | apply ba_)); refine blk_put (cs := #[.bool false, .int .i64 0, .int .i64 0]) ?_ 0 _ (by first | rfl | (simp [*]; done)); (with_reducible repeat (first | apply bn_ | apply bd_ | apply ba_)); exact BK160.out)) : gb161 ≠ gb160)); clear BK143 BK144 BK145 BK146 BK160 HB; have BK143 := n0_; have BK144 := n1_; have BK145 := n2_; have BK146 := n3_; have BK160 := n4_; have HB := n5_; have BK161 := n6_; have GW161 := n7_; have GE161 := n8_; have NB143_161 := n9_; have NB161_143 := n10_; have NB144_161 := n11_; have NB161_144 := n12_; have NB145_161 := n13_; have NB161_145 := n14_; have NB146_161 := n15_; have NB161_146 := n16_; have NB160_161 := n17_; have NB161_160 := n18_; clear n0_ n1_ n2_ n3_ n4_ n5_ n6_ n7_ n8_ n9_ n10_ n11_ n12_ n13_ n14_ n15_ n16_ n17_ n18_; clear hb hbox hg; have hnb218 := NB161_143.out; have hnc218 := NB143_161.out; have hnb219 := NB161_144.out; have hnc219 := NB144_161.out; have hnb220 := NB161_145.out; have hnc220 := NB145_161.out; have hnb221 := NB161_146.out; have hnc221 := NB146_161.out; have hnb222 := NB161_160.out; have hnc222 := NB160_161.out; have hcz223_0 : w217.cell? ⟨gb161, 0, none⟩ = some (.bool false) := (blk_cell BK161.out 0).trans rfl; have hcz223_1 : w217.cell? ⟨gb161, 1, none⟩ = some (.int .i64 0) := (blk_cell BK161.out 1).trans rfl; have hcz223_2 : w217.cell? ⟨gb161, 2, none⟩ = some (.int .i64 0) := (blk_cell BK161.out 2).trans rfl; have hfz223_0 := blk_frozen BK161.out 0; have hfz223_1 := blk_frozen BK161.out 1; have hfz223_2 := blk_frozen BK161.out 2; have hcz224_0 : w217.cell? ⟨gb160, 0, none⟩ = some (.bool true) := (blk_cell BK160.out 0).trans rfl; have hcz224_1 : w217.cell? ⟨gb160, 1, none⟩ = some (.int .i64 t158) := (blk_cell BK160.out 1).trans rfl; have hcz224_2 : w217.cell? ⟨gb160, 2, none⟩ = some (.int .i64 t159) := (blk_cell BK160.out 2).trans rfl; have hfz224_0 := blk_frozen BK160.out 0; have hfz224_1 := blk_frozen BK160.out 1; have hfz224_2 := blk_frozen BK160.out 2))
       have n0_ : Aside0 ((((w217.setCell ⟨gb161, 0, none⟩ (.bool true)).setCell ⟨gb161, 1, none⟩ (.int .i64 t158)).setCell ⟨gb161, 2, none⟩ (.int .i64 t159)).heap[gb143]? = some (.cells #[.bool a2_0, .int .i64 a2_1, .int .i64 a2_2] 24 (0, 0))) := ⟨by (with_reducible repeat (first | apply bn_ | apply bd_ | apply ba_)); refine blk_far ?_ NB143_161.out _; (with_reducible repeat (first | apply bn_ | apply bd_ | apply ba_)); refine blk_far ?_ NB143_161.out _; (with_reducible repeat (first | apply bn_ | apply bd_ | apply ba_)); refine blk_far ?_ NB143_161.out _; (with_reducible repeat (first | apply bn_ | apply bd_ | apply ba_)); exact BK143.out⟩
       have n1_ : Aside0 ((((w217.setCell ⟨gb161, 0, none⟩ (.bool true)).setCell ⟨gb161, 1, none⟩ (.int .i64 t158)).setCell ⟨gb161, 2, none⟩ (.int .i64 t159)).heap[gb144]? = some (.cells #[.bool a3_0, .int .i64 a3_1, .int .i64 a3_2] 24 (0, 0))) := ⟨by (with_reducible repeat (first | apply bn_ | apply bd_ | apply ba_)); refine blk_far ?_ NB144_161.out _; (with_reducible repeat (first | apply bn_ | apply bd_ | apply ba_)); refine blk_far ?_ NB144_161.out _; (with_reducible repeat (first | apply bn_ | apply bd_ | apply ba_)); refine blk_far ?_ NB144_161.out _; (with_reducible repeat (first | apply bn_ | apply bd_ | apply ba_)); exact BK144.out⟩
       have n2_ : Aside0 ((((w217.setCell ⟨gb161, 0, none⟩ (.bool true)).setCell ⟨gb161, 1, none⟩ (.int .i64 t158)).setCell ⟨gb161, 2, none⟩ (.int .i64 t159)).heap[gb145]? = some (.cells #[.bool false, .int .i64 0, .int .i64 0] 24 (0, 0))) := ⟨by (with_reducible repeat (first | apply bn_ | apply bd_ | apply ba_)); refine blk_far ?_ NB145_161.out _; (with_reducible repeat (first | apply bn_ | apply bd_ | apply ba_)); refine blk_far ?_ NB145_161.out _; (with_reducible repeat (first | apply bn_ | apply bd_ | apply ba_)); refine blk_far ?_ NB145_161.out _; (with_reducible repeat (first | apply bn_ | apply bd_ | apply ba_)); exact BK145.out⟩
       have n3_ : Aside0 ((((w217.setCell ⟨gb161, 0, none⟩ (.bool true)).setCell ⟨gb161, 1, none⟩ (.int .i64 t158)).setCell ⟨gb161, 2, none⟩ (.int .i64 t159)).heap[gb146]? = some (.cells #[.bool false, .int .i64 0, .int .i64 0] 24 (0, 0))) := ⟨by (with_reducible repeat (first | apply bn_ | apply bd_ | apply ba_)); refine blk_far ?_ NB146_161.out _; (with_reducible repeat (first | apply bn_ | apply bd_ | apply ba_)); refine blk_far ?_ NB146_161.out _; (with_reducible repeat (first | apply bn_ | apply bd_ | apply ba_)); refine blk_far ?_ NB146_161.out _; (with_reducible repeat (first | apply bn_ | apply bd_ | apply ba_)); exact BK146.out⟩
       have n4_ : Aside0 ((((w217.setCell ⟨gb161, 0, none⟩ (.bool true)).setCell ⟨gb161, 1, none⟩ (.int .i64 t158)).setCell ⟨gb161, 2, none⟩ (.int .i64 t159)).heap[gb160]? = some (.cells #[.bool true, .int .i64 t158, .int .i64 t159] 24 (0, 0))) := ⟨by (with_reducible repeat (first | apply bn_ | apply bd_ | apply ba_)); refine blk_far ?_ NB160_161.out _; (with_reducible repeat (first | apply bn_ | apply bd_ | apply ba_)); refine blk_far ?_ NB160_161.out _; (with_reducible repeat (first | apply bn_ | apply bd_ | apply ba_)); refine blk_far ?_ NB160_161.out _; (with_reducible repeat (first | apply bn_ | apply bd_ | apply ba_)); exact BK160.out⟩
       have n5_ : Aside0 ((((w217.setCell ⟨gb161, 0, none⟩ (.bool true)).setCell ⟨gb161, 1, none⟩ (.int .i64 t158)).setCell ⟨gb161, 2, none⟩ (.int .i64 t159)).heap[gb161]? = some (.cells #[.bool true, .int .i64 t158, .int .i64 t159] 24 (0, 0))) := ⟨by (with_reducible repeat (first | apply bn_ | apply bd_ | apply ba_)); refine blk_put (cs := #[.bool true, .int .i64 t158, .int .i64 0]) ?_ 2 _ (by first | rfl | (simp [*]; done)); (with_reducible repeat (first | apply bn_ | apply bd_ | apply ba_)); refine blk_put (cs := #[.bool true, .int .i64 0, .int .i64 0]) ?_ 1 _ (by first | rfl | (simp [*]; done)); (with_reducible repeat (first | apply bn_ | apply bd_ | apply ba_)); refine blk_put (cs := #[.bool false, .int .i64 0, .int .i64 0]) ?_ 0 _ (by first | rfl | (simp [*]; done)); (with_reducible repeat (first | apply bn_ | apply bd_ | apply ba_)); exact BK161.out⟩
       have n6_ : Aside0 (Below w.heap.size w (((w217.setCell ⟨gb161, 0, none⟩ (.bool true)).setCell ⟨gb161, 1, none⟩ (.int .i64 t158)).setCell ⟨gb161, 2, none⟩ (.int .i64 t159))) := ⟨by repeat (first | (with_reducible first | exact HB.out | apply b1_ | apply b2_ | apply b3_ | apply c_ GE143 | apply c_ GE144 | apply c_ GE145 | apply c_ GE146 | apply c_ GE160 | apply c_ GE161) | exact HB.out)⟩
       (try clear BK143)
       (try clear BK144)
       (try clear BK145)
       (try clear BK146)
       (try clear BK160)
       (try clear BK161)
       (try clear HB)
       generalize (((w217.setCell ⟨gb161, 0, none⟩ (.bool true)).setCell ⟨gb161, 1, none⟩ (.int .i64 t158)).setCell ⟨gb161, 2, none⟩ (.int .i64 t159)) = w225 at n0_ n1_ n2_ n3_ n4_ n5_ n6_ ⊢
       have BK143 := n0_
       have BK144 := n1_
       have BK145 := n2_
       have BK146 := n3_
       have BK160 := n4_
       have BK161 := n5_
       have HB := n6_
       clear n0_ n1_ n2_ n3_ n4_ n5_ n6_
       have n0_ := A_ (blk_drew BK143.out)
       have n1_ := A_ (blk_drew BK144.out)
       have n2_ := A_ (blk_drew BK145.out)
       have n3_ := A_ (blk_drew BK146.out)
       have n4_ := A_ (blk_drew BK160.out)
       have n5_ := A_ (blk_drew BK161.out)
       have n6_ := A_ (below_drew1 HB.out)
       clear BK143 BK144
       clear BK145 BK146
       clear BK160 BK161 HB
       have BK143 := n0_
       have BK144 := n1_
       have BK145 := n2_
       have BK146 := n3_
       have BK160 := n4_
       have BK161 := n5_
       have HB := n6_
       clear n0_ n1_ n2_ n3_ n4_ n5_ n6_
       refine start_ (n := 4) (S := fun w' => w'.cell? ⟨gb160, 0, none⟩ = some (.bool true) ∧ w'.cell? ⟨gb160, 1, none⟩ = some (.int .i64 t158) ∧ w'.cell? ⟨gb160, 2, none⟩ = some (.int .i64 t159) ∧ w'.cell? ⟨gb161, 0, none⟩ = some (.bool true) ∧ w'.cell? ⟨gb161, 1, none⟩ = some (.int .i64 t158) ∧ w'.cell? ⟨gb161, 2, none⟩ = some (.int .i64 t159)) (ds := []) #[false, false, false, false] (by kernel_rfl) rfl rfl ⟨(blk_cell BK160.out 0).trans rfl, (blk_cell BK160.out 1).trans rfl, (blk_cell BK160.out 2).trans rfl, (blk_cell BK161.out 0).trans rfl, (blk_cell BK161.out 1).trans rfl, (blk_cell BK161.out 2).trans rfl⟩ (fun hHeld => ?_)
       generalize w225.drew = w226 at BK143 BK144 BK145 BK146 BK160 BK161 HB hHeld ⊢
       refine take_ (i := 0) (N := some 71) (v := ?_) (a' := ?_) #[true, false, false, false] rfl rfl (by kernel_rfl) (fun _ _ _ h => h) (Or.inl ⟨by rfl, ?_⟩) hHeld ?_ ?_
       rotate_left
       ·rintro w' ⟨s0, s1, s2, s3, s4, s5⟩
        go_simp
        with_reducible rfl
       rotate_left
       ·simp only [Act.put, List.setIfInBounds_toArray, List.set_cons_zero, List.set_cons_succ, i64_w, i32_w]
        rfl
       refine take_ (i := 1) (N := some 72) (v := ?_) (a' := ?_) #[true, true, false, false] rfl rfl (by kernel_rfl) (fun _ _ _ h => h) (Or.inl ⟨by rfl, ?_⟩) hHeld ?_ ?_
       rotate_left
       ·rintro w' ⟨s0, s1, s2, s3, s4, s5⟩
        go_simp
        with_reducible rfl
       rotate_left
       ·simp only [Act.put, List.setIfInBounds_toArray, List.set_cons_zero, List.set_cons_succ, i64_w, i32_w]
        rfl
       refine one_ (i := 2) (N := none) #[true, true, true, false] rfl rfl (by kernel_rfl) (by decide) (fun K hK => ?_)
       have hs227 : w226.cell? ⟨gb145, 0, none⟩ = some (.bool false) := (blk_cell BK145.out 0).trans rfl
       have hfs227 := blk_frozen BK145.out 0
       have hns227_0 := NB143_145.out
       have hns227_1 := NB144_145.out
       have hns227_3 := NB146_145.out
       have hns227_4 := NB160_145.out
       have hns227_5 := NB161_145.out
       have hms227_0 := NB145_143.out
       have hms227_1 := NB145_144.out
       have hms227_3 := NB145_146.out
       have hms227_4 := NB145_160.out
       have hms227_5 := NB145_161.out
       have hs228 : w226.cell? ⟨gb145, 1, none⟩ = some (.int .i64 0) := (blk_cell BK145.out 1).trans rfl
       have hfs228 := blk_frozen BK145.out 1
       have hns228_0 := NB143_145.out
       have hns228_1 := NB144_145.out
       have hns228_3 := NB146_145.out
       have hns228_4 := NB160_145.out
       have hns228_5 := NB161_145.out
       have hms228_0 := NB145_143.out
       have hms228_1 := NB145_144.out
       have hms228_3 := NB145_146.out
       have hms228_4 := NB145_160.out
       have hms228_5 := NB145_161.out
       have hs229 : w226.cell? ⟨gb145, 2, none⟩ = some (.int .i64 0) := (blk_cell BK145.out 2).trans rfl
       have hfs229 := blk_frozen BK145.out 2
       have hns229_0 := NB143_145.out
       have hns229_1 := NB144_145.out
       have hns229_3 := NB146_145.out
       have hns229_4 := NB160_145.out
       have hns229_5 := NB161_145.out
       have hms229_0 := NB145_143.out
       have hms229_1 := NB145_144.out
       have hms229_3 := NB145_146.out
       have hms229_4 := NB145_160.out
       have hms229_5 := NB145_161.out
       refine skip_ (w1 := ?_) (by rfl) rfl ?_ ?_
       rotate_left
       ·go_simp
        rfl
       refine hK.out _ _ ⟨((cell_far (p := ⟨gb145, _, none⟩) NB160_145.out _).trans (((cell_far (p := ⟨gb145, _, none⟩) NB160_145.out _).trans (((cell_far (p := ⟨gb145, _, none⟩) NB160_145.out _).trans (hHeld.1)))))), ((cell_far (p := ⟨gb145, _, none⟩) NB160_145.out _).trans (((cell_far (p := ⟨gb145, _, none⟩) NB160_145.out _).trans (((cell_far (p := ⟨gb145, _, none⟩) NB160_145.out _).trans (hHeld.2.1)))))), ((cell_far (p := ⟨gb145, _, none⟩) NB160_145.out _).trans (((cell_far (p := ⟨gb145, _, none⟩) NB160_145.out _).trans (((cell_far (p := ⟨gb145, _, none⟩) NB160_145.out _).trans (hHeld.2.2.1)))))), ((cell_far (p := ⟨gb145, _, none⟩) NB161_145.out _).trans (((cell_far (p := ⟨gb145, _, none⟩) NB161_145.out _).trans (((cell_far (p := ⟨gb145, _, none⟩) NB161_145.out _).trans (hHeld.2.2.2.1)))))), ((cell_far (p := ⟨gb145, _, none⟩) NB161_145.out _).trans (((cell_far (p := ⟨gb145, _, none⟩) NB161_145.out _).trans (((cell_far (p := ⟨gb145, _, none⟩) NB161_145.out _).trans (hHeld.2.2.2.2.1)))))), ((cell_far (p := ⟨gb145, _, none⟩) NB161_145.out _).trans (((cell_far (p := ⟨gb145, _, none⟩) NB161_145.out _).trans (((cell_far (p := ⟨gb145, _, none⟩) NB161_145.out _).trans (hHeld.2.2.2.2.2))))))⟩ (fun hHeld => ?_)
       clear hK K
       refine one_ (i := 3) (N := none) #[true, true, true, true] rfl rfl (by kernel_rfl) (by decide) (fun K hK => ?_)
       have hs230 : w226.cell? ⟨gb146, 0, none⟩ = some (.bool false) := (blk_cell BK146.out 0).trans rfl
       have hfs230 := blk_frozen BK146.out 0
       have hns230_0 := NB143_146.out
       have hns230_1 := NB144_146.out
       have hns230_2 := NB145_146.out
       have hns230_4 := NB160_146.out
       have hns230_5 := NB161_146.out
       have hms230_0 := NB146_143.out
       have hms230_1 := NB146_144.out
       have hms230_2 := NB146_145.out
       have hms230_4 := NB146_160.out
       have hms230_5 := NB146_161.out
       have hs231 : w226.cell? ⟨gb146, 1, none⟩ = some (.int .i64 0) := (blk_cell BK146.out 1).trans rfl
       have hfs231 := blk_frozen BK146.out 1
       have hns231_0 := NB143_146.out
       have hns231_1 := NB144_146.out
       have hns231_2 := NB145_146.out
       have hns231_4 := NB160_146.out
       have hns231_5 := NB161_146.out
       have hms231_0 := NB146_143.out
       have hms231_1 := NB146_144.out
       have hms231_2 := NB146_145.out
       have hms231_4 := NB146_160.out
       have hms231_5 := NB146_161.out
       have hs232 : w226.cell? ⟨gb146, 2, none⟩ = some (.int .i64 0) := (blk_cell BK146.out 2).trans rfl
       have hfs232 := blk_frozen BK146.out 2
       have hns232_0 := NB143_146.out
       have hns232_1 := NB144_146.out
       have hns232_2 := NB145_146.out
       have hns232_4 := NB160_146.out
       have hns232_5 := NB161_146.out
       have hms232_0 := NB146_143.out
       have hms232_1 := NB146_144.out
       have hms232_2 := NB146_145.out
       have hms232_4 := NB146_160.out
       have hms232_5 := NB146_161.out
       refine skip_ (w1 := ?_) (by rfl) rfl ?_ ?_
       rotate_left
       ·go_simp
        rfl
       refine hK.out _ _ ⟨((cell_far (p := ⟨gb146, _, none⟩) NB160_146.out _).trans (((cell_far (p := ⟨gb146, _, none⟩) NB160_146.out _).trans (((cell_far (p := ⟨gb146, _, none⟩) NB160_146.out _).trans (hHeld.1)))))), ((cell_far (p := ⟨gb146, _, none⟩) NB160_146.out _).trans (((cell_far (p := ⟨gb146, _, none⟩) NB160_146.out _).trans (((cell_far (p := ⟨gb146, _, none⟩) NB160_146.out _).trans (hHeld.2.1)))))), ((cell_far (p := ⟨gb146, _, none⟩) NB160_146.out _).trans (((cell_far (p := ⟨gb146, _, none⟩) NB160_146.out _).trans (((cell_far (p := ⟨gb146, _, none⟩) NB160_146.out _).trans (hHeld.2.2.1)))))), ((cell_far (p := ⟨gb146, _, none⟩) NB161_146.out _).trans (((cell_far (p := ⟨gb146, _, none⟩) NB161_146.out _).trans (((cell_far (p := ⟨gb146, _, none⟩) NB161_146.out _).trans (hHeld.2.2.2.1)))))), ((cell_far (p := ⟨gb146, _, none⟩) NB161_146.out _).trans (((cell_far (p := ⟨gb146, _, none⟩) NB161_146.out _).trans (((cell_far (p := ⟨gb146, _, none⟩) NB161_146.out _).trans (hHeld.2.2.2.2.1)))))), ((cell_far (p := ⟨gb146, _, none⟩) NB161_146.out _).trans (((cell_far (p := ⟨gb146, _, none⟩) NB161_146.out _).trans (((cell_far (p := ⟨gb146, _, none⟩) NB161_146.out _).trans (hHeld.2.2.2.2.2))))))⟩ (fun hHeld => ?_)
       clear hK K
       refine done_ (by kernel_rfl) ?_
       try go_wp2
       refine bodyPost_ret (results_cc rfl _ _ gb145 gb146 24 24 #[.bool true, .int .i64 t158, .int .i64 t159] #[.bool true, .int .i64 t158, .int .i64 t159] (0, 0) (0, 0) _ _ rfl (by (with_reducible repeat (first | apply bn_ | apply bd_ | apply ba_)); refine blk_far ?_ NB145_146.out _; (with_reducible repeat (first | apply bn_ | apply bd_ | apply ba_)); refine blk_far ?_ NB145_146.out _; (with_reducible repeat (first | apply bn_ | apply bd_ | apply ba_)); refine blk_far ?_ NB145_146.out _; (with_reducible repeat (first | apply bn_ | apply bd_ | apply ba_)); refine blk_put (cs := #[.bool true, .int .i64 t158, .int .i64 0]) ?_ 2 _ (by first | rfl | (simp [*]; done)); (with_reducible repeat (first | apply bn_ | apply bd_ | apply ba_)); refine blk_put (cs := #[.bool true, .int .i64 0, .int .i64 0]) ?_ 1 _ (by first | rfl | (simp [*]; done)); (with_reducible repeat (first | apply bn_ | apply bd_ | apply ba_)); refine blk_put (cs := #[.bool false, .int .i64 0, .int .i64 0]) ?_ 0 _ (by first | rfl | (simp [*]; done)); (with_reducible repeat (first | apply bn_ | apply bd_ | apply ba_)); exact BK145.out) Try.underlying24 rfl (by kernel_rfl) rfl (by (with_reducible repeat (first | apply bn_ | apply bd_ | apply ba_)); refine blk_put (cs := #[.bool true, .int .i64 t158, .int .i64 0]) ?_ 2 _ (by first | rfl | (simp [*]; done)); (with_reducible repeat (first | apply bn_ | apply bd_ | apply ba_)); refine blk_put (cs := #[.bool true, .int .i64 0, .int .i64 0]) ?_ 1 _ (by first | rfl | (simp [*]; done)); (with_reducible repeat (first | apply bn_ | apply bd_ | apply ba_)); refine blk_put (cs := #[.bool false, .int .i64 0, .int .i64 0]) ?_ 0 _ (by first | rfl | (simp [*]; done)); (with_reducible repeat (first | apply bn_ | apply bd_ | apply ba_)); refine blk_far ?_ NB146_145.out _; (with_reducible repeat (first | apply bn_ | apply bd_ | apply ba_)); refine blk_far ?_ NB146_145.out _; (with_reducible repeat (first | apply bn_ | apply bd_ | apply ba_)); refine blk_far ?_ NB146_145.out _; (with_reducible repeat (first | apply bn_ | apply bd_ | apply ba_)); exact BK146.out) Try.underlying24 rfl (by kernel_rfl)) rfl ?_
       exact ⟨by first | rfl | (simp [errW_none, errW_some] <;> rfl) | (simp [*, errW_none, errW_some] <;> rfl), by repeat (first | (with_reducible first | exact HB.out | apply b1_ | apply b2_ | apply b3_ | apply c_ GE143 | apply c_ GE144 | apply c_ GE145 | apply c_ GE146 | apply c_ GE160 | apply c_ GE161) | exact HB.out)⟩
      ·replace c202 := Bool.eq_false_iff.mpr c202
       subst c202
       have H1 : (some (false, 0, 0, false, 0, 0)) = some (r1, r2, r3, r4, r5, r6) := by rw [if_neg (show ¬ (false = true) by decide)] at H; exact H
       clear H
       have H := H1
       clear H1
       simp only [Option.some.injEq, Prod.mk.injEq] at H
       obtain ⟨rfl, rfl, rfl, rfl, rfl, rfl⟩ := H
       have hnb233 := NB143_144.out
       have hnc233 := NB144_143.out
       have hnb234 := NB143_145.out
       have hnc234 := NB145_143.out
       have hnb235 := NB143_146.out
       have hnc235 := NB146_143.out
       have hcz236_0 : wc.cell? ⟨gb143, 0, none⟩ = some (.bool a2_0) := (blk_cell BK143.out 0).trans rfl
       have hcz236_1 : wc.cell? ⟨gb143, 1, none⟩ = some (.int .i64 a2_1) := (blk_cell BK143.out 1).trans rfl
       have hcz236_2 : wc.cell? ⟨gb143, 2, none⟩ = some (.int .i64 a2_2) := (blk_cell BK143.out 2).trans rfl
       have hfz236_0 := blk_frozen BK143.out 0
       have hfz236_1 := blk_frozen BK143.out 1
       have hfz236_2 := blk_frozen BK143.out 2
       have hnb237 := NB144_145.out
       have hnc237 := NB145_144.out
       have hnb238 := NB144_146.out
       have hnc238 := NB146_144.out
       have hcz239_0 : wc.cell? ⟨gb144, 0, none⟩ = some (.bool a3_0) := (blk_cell BK144.out 0).trans rfl
       have hcz239_1 : wc.cell? ⟨gb144, 1, none⟩ = some (.int .i64 a3_1) := (blk_cell BK144.out 1).trans rfl
       have hcz239_2 : wc.cell? ⟨gb144, 2, none⟩ = some (.int .i64 a3_2) := (blk_cell BK144.out 2).trans rfl
       have hfz239_0 := blk_frozen BK144.out 0
       have hfz239_1 := blk_frozen BK144.out 1
       have hfz239_2 := blk_frozen BK144.out 2
       go_wp2_with (first | ((with_reducible refine gate_callee (f := 34) rfl ?_); refine goesL_ (some 40) rfl rfl Try.func34 (by kernel_rfl) rfl #[.int .i64 a0, .agg #[.bool a2_0, .int .i64 a2_1, .int .i64 a2_2], .agg #[.bool a3_0, .int .i64 a3_1, .int .i64 a3_2]] rfl (by (try simp only [List.map_toArray, List.map_cons, List.map_nil]); first | done | rfl) ?_; (with_reducible refine (spec_SpanMeet.calls a0 a2_0 a2_1 a2_2 a3_0 a3_1 a3_2 false t158 t159 _ A68.out).mono ?_); rintro e w240 ⟨rfl, hb⟩; refine ⟨_, rfl, ?_⟩; have n0_ := A_ (blk_below (bz_ BK143.out) hb); have n1_ := A_ (blk_below (bz_ BK144.out) hb); have n2_ := A_ (blk_below (bz_ BK145.out) hb); have n3_ := A_ (blk_below (bz_ BK146.out) hb); have n4_ := A_ (below_step (by repeat (first | (with_reducible first | exact HB.out | apply b1_ | apply b2_ | apply b3_ | apply c_ GE143 | apply c_ GE144 | apply c_ GE145 | apply c_ GE146) | exact HB.out)) hb); clear BK143 BK144 BK145 BK146 HB; have BK143 := n0_; have BK144 := n1_; have BK145 := n2_; have BK146 := n3_; have HB := n4_; clear n0_ n1_ n2_ n3_ n4_; (try clear hb); (try clear hb2); (try clear hk); (try clear hi)) | ((with_reducible refine gate_dst (N := 12) rfl ?_); refine box_event ?hg (N := 12) ?hd (cs := #[.bool false, .int .i64 0, .int .i64 0]) (t := 24) ?hr ?_; (case hd => rfl); (case hg => rfl); (case hr => first | (go_simp; done) | (go_simp; rfl)); intro gb160 hg w241 hbox hb; have n0_ := A_ (blk_below (bz_ BK143.out) hb); have n1_ := A_ (blk_below (bz_ BK144.out) hb); have n2_ := A_ (blk_below (bz_ BK145.out) hb); have n3_ := A_ (blk_below (bz_ BK146.out) hb); have n4_ := A_ (below_step (by repeat (first | (with_reducible first | exact HB.out | apply b1_ | apply b2_ | apply b3_ | apply c_ GE143 | apply c_ GE144 | apply c_ GE145 | apply c_ GE146) | exact HB.out)) hb); have n5_ := A_ (hbox); have n6_ := A_ ((by rw [hg]; exact (below_size (by repeat (first | (with_reducible first | exact HB.out | apply b1_ | apply b2_ | apply b3_ | apply c_ GE143 | apply c_ GE144 | apply c_ GE145 | apply c_ GE146) | exact HB.out))) : w.heap.size ≤ gb160)); have n7_ := n6_; have n8_ := A_ ((by rw [hg]; exact Nat.ne_of_lt (blk_lt (bz_ BK143.out)) : gb143 ≠ gb160)); have n9_ := A_ ((by rw [hg]; exact Nat.ne_of_gt (blk_lt (bz_ BK143.out)) : gb160 ≠ gb143)); have n10_ := A_ ((by rw [hg]; exact Nat.ne_of_lt (blk_lt (bz_ BK144.out)) : gb144 ≠ gb160)); have n11_ := A_ ((by rw [hg]; exact Nat.ne_of_gt (blk_lt (bz_ BK144.out)) : gb160 ≠ gb144)); have n12_ := A_ ((by rw [hg]; exact Nat.ne_of_lt (blk_lt (bz_ BK145.out)) : gb145 ≠ gb160)); have n13_ := A_ ((by rw [hg]; exact Nat.ne_of_gt (blk_lt (bz_ BK145.out)) : gb160 ≠ gb145)); have n14_ := A_ ((by rw [hg]; exact Nat.ne_of_lt (blk_lt (bz_ BK146.out)) : gb146 ≠ gb160)); have n15_ := A_ ((by rw [hg]; exact Nat.ne_of_gt (blk_lt (bz_ BK146.out)) : gb160 ≠ gb146)); clear BK143 BK144 BK145 BK146 HB; have BK143 := n0_; have BK144 := n1_; have BK145 := n2_; have BK146 := n3_; have HB := n4_; have BK160 := n5_; have GW160 := n6_; have GE160 := n7_; have NB143_160 := n8_; have NB160_143 := n9_; have NB144_160 := n10_; have NB160_144 := n11_; have NB145_160 := n12_; have NB160_145 := n13_; have NB146_160 := n14_; have NB160_146 := n15_; clear n0_ n1_ n2_ n3_ n4_ n5_ n6_ n7_ n8_ n9_ n10_ n11_ n12_ n13_ n14_ n15_; clear hb hbox hg; have hnb242 := NB160_143.out; have hnc242 := NB143_160.out; have hnb243 := NB160_144.out; have hnc243 := NB144_160.out; have hnb244 := NB160_145.out; have hnc244 := NB145_160.out; have hnb245 := NB160_146.out; have hnc245 := NB146_160.out; have hcz246_0 : w241.cell? ⟨gb160, 0, none⟩ = some (.bool false) := (blk_cell BK160.out 0).trans rfl; have hcz246_1 : w241.cell? ⟨gb160, 1, none⟩ = some (.int .i64 0) := (blk_cell BK160.out 1).trans rfl; have hcz246_2 : w241.cell? ⟨gb160, 2, none⟩ = some (.int .i64 0) := (blk_cell BK160.out 2).trans rfl; have hfz246_0 := blk_frozen BK160.out 0; have hfz246_1 := blk_frozen BK160.out 1; have hfz246_2 := blk_frozen BK160.out 2) | ((with_reducible refine gate_dst (N := 13) rfl ?_); refine box_event ?hg (N := 13) ?hd (cs := #[.bool false, .int .i64 0, .int .i64 0]) (t := 24) ?hr ?_; (case hd => rfl); (case hg => rfl); (case hr => first | (go_simp; done) | (go_simp; rfl)); intro gb161 hg w247 hbox hb; have n0_ := A_ (blk_below (g := gb143) (o := .cells #[.bool a2_0, .int .i64 a2_1, .int .i64 a2_2] 24 (0, 0)) (by (with_reducible repeat (first | apply bn_ | apply bd_ | apply ba_)); refine blk_far ?_ NB143_160.out _; (with_reducible repeat (first | apply bn_ | apply bd_ | apply ba_)); refine blk_far ?_ NB143_160.out _; (with_reducible repeat (first | apply bn_ | apply bd_ | apply ba_)); refine blk_far ?_ NB143_160.out _; (with_reducible repeat (first | apply bn_ | apply bd_ | apply ba_)); exact BK143.out) hb); have n1_ := A_ (blk_below (g := gb144) (o := .cells #[.bool a3_0, .int .i64 a3_1, .int .i64 a3_2] 24 (0, 0)) (by (with_reducible repeat (first | apply bn_ | apply bd_ | apply ba_)); refine blk_far ?_ NB144_160.out _; (with_reducible repeat (first | apply bn_ | apply bd_ | apply ba_)); refine blk_far ?_ NB144_160.out _; (with_reducible repeat (first | apply bn_ | apply bd_ | apply ba_)); refine blk_far ?_ NB144_160.out _; (with_reducible repeat (first | apply bn_ | apply bd_ | apply ba_)); exact BK144.out) hb); have n2_ := A_ (blk_below (g := gb145) (o := .cells #[.bool false, .int .i64 0, .int .i64 0] 24 (0, 0)) (by (with_reducible repeat (first | apply bn_ | apply bd_ | apply ba_)); refine blk_far ?_ NB145_160.out _; (with_reducible repeat (first | apply bn_ | apply bd_ | apply ba_)); refine blk_far ?_ NB145_160.out _; (with_reducible repeat (first | apply bn_ | apply bd_ | apply ba_)); refine blk_far ?_ NB145_160.out _; (with_reducible repeat (first | apply bn_ | apply bd_ | apply ba_)); exact BK145.out) hb); have n3_ := A_ (blk_below (g := gb146) (o := .cells #[.bool false, .int .i64 0, .int .i64 0] 24 (0, 0)) (by (with_reducible repeat (first | apply bn_ | apply bd_ | apply ba_)); refine blk_far ?_ NB146_160.out _; (with_reducible repeat (first | apply bn_ | apply bd_ | apply ba_)); refine blk_far ?_ NB146_160.out _; (with_reducible repeat (first | apply bn_ | apply bd_ | apply ba_)); refine blk_far ?_ NB146_160.out _; (with_reducible repeat (first | apply bn_ | apply bd_ | apply ba_)); exact BK146.out) hb); have n4_ := A_ (blk_below (g := gb160) (o := .cells #[.bool false, .int .i64 t158, .int .i64 t159] 24 (0, 0)) (by (with_reducible repeat (first | apply bn_ | apply bd_ | apply ba_)); refine blk_put (cs := #[.bool false, .int .i64 t158, .int .i64 0]) ?_ 2 _ (by first | rfl | (simp [*]; done)); (with_reducible repeat (first | apply bn_ | apply bd_ | apply ba_)); refine blk_put (cs := #[.bool false, .int .i64 0, .int .i64 0]) ?_ 1 _ (by first | rfl | (simp [*]; done)); (with_reducible repeat (first | apply bn_ | apply bd_ | apply ba_)); refine blk_put (cs := #[.bool false, .int .i64 0, .int .i64 0]) ?_ 0 _ (by first | rfl | (simp [*]; done)); (with_reducible repeat (first | apply bn_ | apply bd_ | apply ba_)); exact BK160.out) hb); have n5_ := A_ (below_step (by repeat (first | (with_reducible first | exact HB.out | apply b1_ | apply b2_ | apply b3_ | apply c_ GE143 | apply c_ GE144 | apply c_ GE145 | apply c_ GE146 | apply c_ GE160) | exact HB.out)) hb); have n6_ := A_ (hbox); have n7_ := A_ ((by rw [hg]; exact (below_size (by repeat (first | (with_reducible first | exact HB.out | apply b1_ | apply b2_ | apply b3_ | apply c_ GE143 | apply c_ GE144 | apply c_ GE145 | apply c_ GE146 | apply c_ GE160) | exact HB.out))) : w.heap.size ≤ gb161)); have n8_ := n7_; have n9_ := A_ ((by rw [hg]; exact Nat.ne_of_lt (blk_lt (g := gb143) (o := .cells #[.bool a2_0, .int .i64 a2_1, .int .i64 a2_2] 24 (0, 0)) (by (with_reducible repeat (first | apply bn_ | apply bd_ | apply ba_)); refine blk_far ?_ NB143_160.out _; (with_reducible repeat (first | apply bn_ | apply bd_ | apply ba_)); refine blk_far ?_ NB143_160.out _; (with_reducible repeat (first | apply bn_ | apply bd_ | apply ba_)); refine blk_far ?_ NB143_160.out _; (with_reducible repeat (first | apply bn_ | apply bd_ | apply ba_)); exact BK143.out)) : gb143 ≠ gb161)); have n10_ := A_ ((by rw [hg]; exact Nat.ne_of_gt (blk_lt (g := gb143) (o := .cells #[.bool a2_0, .int .i64 a2_1, .int .i64 a2_2] 24 (0, 0)) (by (with_reducible repeat (first | apply bn_ | apply bd_ | apply ba_)); refine blk_far ?_ NB143_160.out _; (with_reducible repeat (first | apply bn_ | apply bd_ | apply ba_)); refine blk_far ?_ NB143_160.out _; (with_reducible repeat (first | apply bn_ | apply bd_ | apply ba_)); refine blk_far ?_ NB143_160.out _; (with_reducible repeat (first | apply bn_ | apply bd_ | apply ba_)); exact BK143.out)) : gb161 ≠ gb143)); have n11_ := A_ ((by rw [hg]; exact Nat.ne_of_lt (blk_lt (g := gb144) (o := .cells #[.bool a3_0, .int .i64 a3_1, .int .i64 a3_2] 24 (0, 0)) (by (with_reducible repeat (first | apply bn_ | apply bd_ | apply ba_)); refine blk_far ?_ NB144_160.out _; (with_reducible repeat (first | apply bn_ | apply bd_ | apply ba_)); refine blk_far ?_ NB144_160.out _; (with_reducible repeat (first | apply bn_ | apply bd_ | apply ba_)); refine blk_far ?_ NB144_160.out _; (with_reducible repeat (first | apply bn_ | apply bd_ | apply ba_)); exact BK144.out)) : gb144 ≠ gb161)); have n12_ := A_ ((by rw [hg]; exact Nat.ne_of_gt (blk_lt (g := gb144) (o := .cells #[.bool a3_0, .int .i64 a3_1, .int .i64 a3_2] 24 (0, 0)) (by (with_reducible repeat (first | apply bn_ | apply bd_ | apply ba_)); refine blk_far ?_ NB144_160.out _; (with_reducible repeat (first | apply bn_ | apply bd_ | apply ba_)); refine blk_far ?_ NB144_160.out _; (with_reducible repeat (first | apply bn_ | apply bd_ | apply ba_)); refine blk_far ?_ NB144_160.out _; (with_reducible repeat (first | apply bn_ | apply bd_ | apply ba_)); exact BK144.out)) : gb161 ≠ gb144)); have n13_ := A_ ((by rw [hg]; exact Nat.ne_of_lt (blk_lt (g := gb145) (o := .cells #[.bool false, .int .i64 0, .int .i64 0] 24 (0, 0)) (by (with_reducible repeat (first | apply bn_ | apply bd_ | apply ba_)); refine blk_far ?_ NB145_160.out _; (with_reducible repeat (first | apply bn_ | apply bd_ | apply ba_)); refine blk_far ?_ NB145_160.out _; (with_reducible repeat (first | apply bn_ | apply bd_ | apply ba_)); refine blk_far ?_ NB145_160.out _; (with_reducible repeat (first | apply bn_ | apply bd_ | apply ba_)); exact BK145.out)) : gb145 ≠ gb161)); have n14_ := A_ ((by rw [hg]; exact Nat.ne_of_gt (blk_lt (g := gb145) (o := .cells #[.bool false, .int .i64 0, .int .i64 0] 24 (0, 0)) (by (with_reducible repeat (first | apply bn_ | apply bd_ | apply ba_)); refine blk_far ?_ NB145_160.out _; (with_reducible repeat (first | apply bn_ | apply bd_ | apply ba_)); refine blk_far ?_ NB145_160.out _; (with_reducible repeat (first | apply bn_ | apply bd_ | apply ba_)); refine blk_far ?_ NB145_160.out _; (with_reducible repeat (first | apply bn_ | apply bd_ | apply ba_)); exact BK145.out)) : gb161 ≠ gb145)); have n15_ := A_ ((by rw [hg]; exact Nat.ne_of_lt (blk_lt (g := gb146) (o := .cells #[.bool false, .int .i64 0, .int .i64 0] 24 (0, 0)) (by (with_reducible repeat (first | apply bn_ | apply bd_ | apply ba_)); refine blk_far ?_ NB146_160.out _; (with_reducible repeat (first | apply bn_ | apply bd_ | apply ba_)); refine blk_far ?_ NB146_160.out _; (with_reducible repeat (first | apply bn_ | apply bd_ | apply ba_)); refine blk_far ?_ NB146_160.out _; (with_reducible repeat (first | apply bn_ | apply bd_ | apply ba_)); exact BK146.out)) : gb146 ≠ gb161)); have n16_ := A_ ((by rw [hg]; exact Nat.ne_of_gt (blk_lt (g := gb146) (o := .cells #[.bool false, .int .i64 0, .int .i64 0] 24 (0, 0)) (by (with_reducible repeat (first | apply bn_ | apply bd_ | apply ba_)); refine blk_far ?_ NB146_160.out _; (with_reducible repeat (first | apply bn_ | apply bd_ | apply ba_)); refine blk_far ?_ NB146_160.out _; (with_reducible repeat (first | apply bn_ | apply bd_ | apply ba_)); refine blk_far ?_ NB146_160.out _; (with_reducible repeat (first | apply bn_ | apply bd_ | apply ba_)); exact BK146.out)) : gb161 ≠ gb146)); have n17_ := A_ ((by rw [hg]; exact Nat.ne_of_lt (blk_lt (g := gb160) (o := .cells #[.bool false, .int .i64 t158, .int .i64 t159] 24 (0, 0)) (by (with_reducible repeat (first | apply bn_ | apply bd_ | apply ba_)); refine blk_put (cs := #[.bool false, .int .i64 t158, .int .i64 0]) ?_ 2 _ (by first | rfl | (simp [*]; done)); (with_reducible repeat (first | apply bn_ | apply bd_ | apply ba_)); refine blk_put (cs := #[.bool false, .int .i64 0, .int .i64 0]) ?_ 1 _ (by first | rfl | (simp [*]; done)); (with_reducible repeat (first | apply bn_ | apply bd_ | apply ba_)); refine blk_put (cs := #[.bool false, .int .i64 0, .int .i64 0]) ?_ 0 _ (by first | rfl | (simp [*]; done)); (with_reducible repeat (first | apply bn_ | apply bd_ | apply ba_)); exact BK160.out)) : gb160 ≠ gb161)); have n18_ := A_ ((by rw [hg]; exact Nat.ne_of_gt (blk_lt (g := gb160) (o := .cells #[.bool false, .int .i64 t158, .int .i64 t159] 24 (0, 0)) (by (with_reducible repeat (first | apply bn_ | apply bd_ | apply ba_)); refine blk_put (cs := #[.bool false, .int .i64 t158, .int .i64 0]) ?_ 2 _ (by first | rfl | (simp [*]; done)); (with_reducible repeat (first | apply bn_ | apply bd_ | apply ba_)); refine blk_put (cs := #[.bool false, .int .i64 0, .int .i64 0]) ?_ 1 _ (by first | rfl | (simp [*]; done)); (with_reducible repeat (first | apply bn_ | apply bd_ | apply ba_)); refine blk_put (cs := #[.bool false, .int .i64 0, .int .i64 0]) ?_ 0 _ (by first | rfl | (simp [*]; done)); (with_reducible repeat (first | apply bn_ | apply bd_ | apply ba_)); exact BK160.out)) : gb161 ≠ gb160)); clear BK143 BK144 BK145 BK146 BK160 HB; have BK143 := n0_; have BK144 := n1_; have BK145 := n2_; have BK146 := n3_; have BK160 := n4_; have HB := n5_; have BK161 := n6_; have GW161 := n7_; have GE161 := n8_; have NB143_161 := n9_; have NB161_143 := n10_; have NB144_161 := n11_; have NB161_144 := n12_; have NB145_161 := n13_; have NB161_145 := n14_; have NB146_161 := n15_; have NB161_146 := n16_; have NB160_161 := n17_; have NB161_160 := n18_; clear n0_ n1_ n2_ n3_ n4_ n5_ n6_ n7_ n8_ n9_ n10_ n11_ n12_ n13_ n14_ n15_ n16_ n17_ n18_; clear hb hbox hg; have hnb248 := NB161_143.out; have hnc248 := NB143_161.out; have hnb249 := NB161_144.out; have hnc249 := NB144_161.out; have hnb250 := NB161_145.out; have hnc250 := NB145_161.out; have hnb251 := NB161_146.out; have hnc251 := NB146_161.out; have hnb252 := NB161_160.out; have hnc252 := NB160_161.out; have hcz253_0 : w247.cell? ⟨gb161, 0, none⟩ = some (.bool false) := (blk_cell BK161.out 0).trans rfl; have hcz253_1 : w247.cell? ⟨gb161, 1, none⟩ = some (.int .i64 0) := (blk_cell BK161.out 1).trans rfl; have hcz253_2 : w247.cell? ⟨gb161, 2, none⟩ = some (.int .i64 0) := (blk_cell BK161.out 2).trans rfl; have hfz253_0 := blk_frozen BK161.out 0; have hfz253_1 := blk_frozen BK161.out 1; have hfz253_2 := blk_frozen BK161.out 2; have hcz254_0 : w247.cell? ⟨gb160, 0, none⟩ = some (.bool false) := (blk_cell BK160.out 0).trans rfl; have hcz254_1 : w247.cell? ⟨gb160, 1, none⟩ = some (.int .i64 t158) := (blk_cell BK160.out 1).trans rfl; have hcz254_2 : w247.cell? ⟨gb160, 2, none⟩ = some (.int .i64 t159) := (blk_cell BK160.out 2).trans rfl; have hfz254_0 := blk_frozen BK160.out 0; have hfz254_1 := blk_frozen BK160.out 1; have hfz254_2 := blk_frozen BK160.out 2; have hnb255 := NB145_146.out; have hnc255 := NB146_145.out; have hcz256_0 : w247.cell? ⟨gb145, 0, none⟩ = some (.bool false) := (blk_cell BK145.out 0).trans rfl; have hcz256_1 : w247.cell? ⟨gb145, 1, none⟩ = some (.int .i64 0) := (blk_cell BK145.out 1).trans rfl; have hcz256_2 : w247.cell? ⟨gb145, 2, none⟩ = some (.int .i64 0) := (blk_cell BK145.out 2).trans rfl; have hfz256_0 := blk_frozen BK145.out 0; have hfz256_1 := blk_frozen BK145.out 1; have hfz256_2 := blk_frozen BK145.out 2; have hcz257_0 : w247.cell? ⟨gb146, 0, none⟩ = some (.bool false) := (blk_cell BK146.out 0).trans rfl; have hcz257_1 : w247.cell? ⟨gb146, 1, none⟩ = some (.int .i64 0) := (blk_cell BK146.out 1).trans rfl; have hcz257_2 : w247.cell? ⟨gb146, 2, none⟩ = some (.int .i64 0) := (blk_cell BK146.out 2).trans rfl; have hfz257_0 := blk_frozen BK146.out 0; have hfz257_1 := blk_frozen BK146.out 1; have hfz257_2 := blk_frozen BK146.out 2))
       refine bodyPost_ret (results_cc rfl _ _ gb145 gb146 24 24 #[.bool false, .int .i64 0, .int .i64 0] #[.bool false, .int .i64 0, .int .i64 0] (0, 0) (0, 0) _ _ rfl (by (with_reducible repeat (first | apply bn_ | apply bd_ | apply ba_)); refine blk_far ?_ NB145_146.out _; (with_reducible repeat (first | apply bn_ | apply bd_ | apply ba_)); refine blk_far ?_ NB145_146.out _; (with_reducible repeat (first | apply bn_ | apply bd_ | apply ba_)); refine blk_far ?_ NB145_146.out _; (with_reducible repeat (first | apply bn_ | apply bd_ | apply ba_)); refine blk_put (cs := #[.bool false, .int .i64 0, .int .i64 0]) ?_ 2 _ (by first | rfl | (simp [*]; done)); (with_reducible repeat (first | apply bn_ | apply bd_ | apply ba_)); refine blk_put (cs := #[.bool false, .int .i64 0, .int .i64 0]) ?_ 1 _ (by first | rfl | (simp [*]; done)); (with_reducible repeat (first | apply bn_ | apply bd_ | apply ba_)); refine blk_put (cs := #[.bool false, .int .i64 0, .int .i64 0]) ?_ 0 _ (by first | rfl | (simp [*]; done)); (with_reducible repeat (first | apply bn_ | apply bd_ | apply ba_)); refine blk_far ?_ NB145_161.out _; (with_reducible repeat (first | apply bn_ | apply bd_ | apply ba_)); refine blk_far ?_ NB145_161.out _; (with_reducible repeat (first | apply bn_ | apply bd_ | apply ba_)); refine blk_far ?_ NB145_161.out _; (with_reducible repeat (first | apply bn_ | apply bd_ | apply ba_)); exact BK145.out) Try.underlying24 rfl (by kernel_rfl) rfl (by (with_reducible repeat (first | apply bn_ | apply bd_ | apply ba_)); refine blk_put (cs := #[.bool false, .int .i64 0, .int .i64 0]) ?_ 2 _ (by first | rfl | (simp [*]; done)); (with_reducible repeat (first | apply bn_ | apply bd_ | apply ba_)); refine blk_put (cs := #[.bool false, .int .i64 0, .int .i64 0]) ?_ 1 _ (by first | rfl | (simp [*]; done)); (with_reducible repeat (first | apply bn_ | apply bd_ | apply ba_)); refine blk_put (cs := #[.bool false, .int .i64 0, .int .i64 0]) ?_ 0 _ (by first | rfl | (simp [*]; done)); (with_reducible repeat (first | apply bn_ | apply bd_ | apply ba_)); refine blk_far ?_ NB146_145.out _; (with_reducible repeat (first | apply bn_ | apply bd_ | apply ba_)); refine blk_far ?_ NB146_145.out _; (with_reducible repeat (first | apply bn_ | apply bd_ | apply ba_)); refine blk_far ?_ NB146_145.out _; (with_reducible repeat (first | apply bn_ | apply bd_ | apply ba_)); refine blk_far ?_ NB146_161.out _; (with_reducible repeat (first | apply bn_ | apply bd_ | apply ba_)); refine blk_far ?_ NB146_161.out _; (with_reducible repeat (first | apply bn_ | apply bd_ | apply ba_)); refine blk_far ?_ NB146_161.out _; (with_reducible repeat (first | apply bn_ | apply bd_ | apply ba_)); exact BK146.out) Try.underlying24 rfl (by kernel_rfl)) rfl ?_
       exact ⟨by first | rfl | (simp [errW_none, errW_some] <;> rfl) | (simp [*, errW_none, errW_some] <;> rfl), by repeat (first | (with_reducible first | exact HB.out | apply b1_ | apply b2_ | apply b3_ | apply c_ GE143 | apply c_ GE144 | apply c_ GE145 | apply c_ GE146 | apply c_ GE160 | apply c_ GE161) | exact HB.out)⟩

end Go.Proofs.Ytlnihglcneaonaa.QFnExactRelMeet
