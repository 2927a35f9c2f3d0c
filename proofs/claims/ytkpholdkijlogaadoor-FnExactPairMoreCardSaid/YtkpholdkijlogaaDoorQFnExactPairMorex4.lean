/- The machine side of one law: each function and the law itself walked once, written by a program of this session (wip/xprint.py) that runs the printer of the kit.
   Conditions: none. -/
import Derived.Test.YtkpholdkijlogaaDoorQFnExactPairMorex0
import Derived.Test.YtkpholdkijlogaaDoorQFnExactPairMorex3
namespace Go.Proofs.YtkpholdkijlogaaDoor.QFnExactPairMore
open Go.RowKit Go.Proofs.YtkpholdkijlogaaDoorW.PrintWords Go.Proofs.YtkpholdkijlogaaDoorW.PrintLast Go.Proofs.YtkpholdkijlogaaDoorW.PrintMore
attribute [local go_sem] Go.Instr.field Go.asAgg Go.Proofs.YtkpholdkijlogaaDoor.MS.isSome_setCell
attribute [local go_sem] max2_int min2_int max_two min_two max_three min_three max_four min_four   -- for this text's walks alone
set_option linter.unusedVariables false
set_option linter.unusedSimpArgs false

/-! ### impl_BitMake: function 10 -/
mutual
def impl_BitMake.j0 : Nat → Bool → Bool → Int → Int → Int → Int → Int → Int → Option (Int × Bool)
  | 0, _, _, _, _, _, _, _, _ => none
  | k + 1, x20, x146000, x146001, x146002, x152000, x152001, x152002, x152003 => if x20 = true then (some (0, false)) else (if x146001 = 0 then (some (0, true)) else ((bits_TrailingZeros64.f x146001).bind fun t153 => (if 0 ≤ t153 then ((bits_Len64.f (shr .u64 x146001 t153)).bind fun t154 => (if t154 > (wrap64 (x152000 + 1)) then (impl_BitMake.j1 k (shr .u64 x146001 t153) (wrap64 (x146002 + t153)) t154 (wrap64 ((wrap64 ((wrap64 (x146002 + t153)) + t154)) - 1)) true x146000 x146001 x146002 x152000 x152001 x152002 x152003) else (if (wrap64 (x146002 + t153)) < x152001 then (impl_BitMake.j1 k (shr .u64 x146001 t153) (wrap64 (x146002 + t153)) t154 (wrap64 ((wrap64 ((wrap64 (x146002 + t153)) + t154)) - 1)) true x146000 x146001 x146002 x152000 x152001 x152002 x152003) else (impl_BitMake.j1 k (shr .u64 x146001 t153) (wrap64 (x146002 + t153)) t154 (wrap64 ((wrap64 ((wrap64 (x146002 + t153)) + t154)) - 1)) (decide ((wrap64 ((wrap64 ((wrap64 (x146002 + t153)) + t154)) - 1)) > x152002)) x146000 x146001 x146002 x152000 x152001 x152002 x152003)))) else (none))))
def impl_BitMake.j1 : Nat → Int → Int → Int → Int → Bool → Bool → Int → Int → Int → Int → Int → Int → Option (Int × Bool)
  | 0, _, _, _, _, _, _, _, _, _, _, _, _ => none
  | k + 1, x9, x10, x11, x12, x66, x146000, x146001, x146002, x152000, x152001, x152002, x152003 => if x66 = true then (some (0, false)) else (if (wrap64 (x12 + x152002)) ≥ 1 then (if 0 ≤ x152000 then (if 0 ≤ (wrap64 ((wrap64 (x152000 + 1)) - x11)) then (if x146000 = true then (some (wrap64 (-(Go.bits .or .i64 (shl .i64 (wrap64 (x12 + x152002)) x152000) (Go.bits .and .i64 (wrap64 (shl .u64 x9 (wrap64 ((wrap64 (x152000 + 1)) - x11)))) (wrap64 ((shl .i64 1 x152000) - 1))))), true)) else (some (Go.bits .or .i64 (shl .i64 (wrap64 (x12 + x152002)) x152000) (Go.bits .and .i64 (wrap64 (shl .u64 x9 (wrap64 ((wrap64 (x152000 + 1)) - x11)))) (wrap64 ((shl .i64 1 x152000) - 1))), true))) else (none)) else (none)) else (if 0 ≤ (wrap64 (x10 - x152001)) then (if x146000 = true then (some (wrap64 (-(wrap64 (shl .u64 x9 (wrap64 (x10 - x152001))))), true)) else (some (wrap64 (shl .u64 x9 (wrap64 (x10 - x152001))), true))) else (none)))
end
def impl_BitMake.f (k : Nat) (a0 : Int) (a1_0 : Bool) (a1_1 : Int) (a1_2 : Int) : Option (Int × Bool) := (impl_formatOf.f a0).bind fun bt146 => (if bt146.2.2.2.2 = true then ((impl_in.f a1_2 (-2000) 2000).bind fun t152 => (impl_BitMake.j0 k (!t152) a1_0 a1_1 a1_2 bt146.1 bt146.2.1 bt146.2.2.1 bt146.2.2.2.1)) else (impl_BitMake.j0 k true a1_0 a1_1 a1_2 bt146.1 bt146.2.1 bt146.2.2.1 bt146.2.2.2.1))
theorem impl_BitMake.mono_l : ∀ k, (∀ y0 y1 y2 y3 y4 y5 y6 y7, LeO (impl_BitMake.j0 k y0 y1 y2 y3 y4 y5 y6 y7) (impl_BitMake.j0 (k + 1) y0 y1 y2 y3 y4 y5 y6 y7)) ∧ (∀ y0 y1 y2 y3 y4 y5 y6 y7 y8 y9 y10 y11, LeO (impl_BitMake.j1 k y0 y1 y2 y3 y4 y5 y6 y7 y8 y9 y10 y11) (impl_BitMake.j1 (k + 1) y0 y1 y2 y3 y4 y5 y6 y7 y8 y9 y10 y11))
  | 0 => ⟨fun _ _ _ _ _ _ _ _ r h => by simp [impl_BitMake.j0] at h, fun _ _ _ _ _ _ _ _ _ _ _ _ r h => by simp [impl_BitMake.j1] at h⟩
  | k + 1 => by
    obtain ⟨ih0, ih1⟩ := impl_BitMake.mono_l k
    refine ⟨?_, ?_⟩
    · intro y0 y1 y2 y3 y4 y5 y6 y7
      unfold impl_BitMake.j0
      repeat' first
      | (with_reducible exact ih0 _ _ _ _ _ _ _ _)
      | (with_reducible exact ih1 _ _ _ _ _ _ _ _ _ _ _ _)
      | (with_reducible exact LeO.refl _)
      | (with_reducible exact LeO.none _)
      | (with_reducible refine LeO.ite ?_ ?_)
      | (with_reducible refine LeO.bind ?_ (fun _ => ?_))
      | exact ih0 _ _ _ _ _ _ _ _
      | exact ih1 _ _ _ _ _ _ _ _ _ _ _ _
      | exact LeO.none _
      | refine LeO.ite ?_ ?_
      | refine LeO.bind ?_ (fun _ => ?_)
    · intro y0 y1 y2 y3 y4 y5 y6 y7 y8 y9 y10 y11
      unfold impl_BitMake.j1
      repeat' first
      | (with_reducible exact ih0 _ _ _ _ _ _ _ _)
      | (with_reducible exact ih1 _ _ _ _ _ _ _ _ _ _ _ _)
      | (with_reducible exact LeO.refl _)
      | (with_reducible exact LeO.none _)
      | (with_reducible refine LeO.ite ?_ ?_)
      | (with_reducible refine LeO.bind ?_ (fun _ => ?_))
      | exact ih0 _ _ _ _ _ _ _ _
      | exact ih1 _ _ _ _ _ _ _ _ _ _ _ _
      | exact LeO.none _
      | refine LeO.ite ?_ ?_
      | refine LeO.bind ?_ (fun _ => ?_)
theorem impl_BitMake.mono : ∀ a0 a1 a2 a3 k, LeO (impl_BitMake.f k a0 a1 a2 a3) (impl_BitMake.f (k + 1) a0 a1 a2 a3) := by
  intro a0 a1 a2 a3 k
  obtain ⟨ih0, ih1⟩ := impl_BitMake.mono_l k
  unfold impl_BitMake.f
  repeat' first
      | (with_reducible exact ih0 _ _ _ _ _ _ _ _)
      | (with_reducible exact ih1 _ _ _ _ _ _ _ _ _ _ _ _)
      | (with_reducible exact LeO.refl _)
      | (with_reducible exact LeO.none _)
      | (with_reducible refine LeO.ite ?_ ?_)
      | (with_reducible refine LeO.bind ?_ (fun _ => ?_))
      | exact ih0 _ _ _ _ _ _ _ _
      | exact ih1 _ _ _ _ _ _ _ _ _ _ _ _
      | exact LeO.none _
      | refine LeO.ite ?_ ?_
      | refine LeO.bind ?_ (fun _ => ?_)
set_option maxHeartbeats 8000000 in
set_option maxRecDepth 100000 in
theorem impl_BitMake.calls (k : Nat) (a0 : Int) (a1_0 : Bool) (a1_1 : Int) (a1_2 : Int) (r1 : Int) (r2 : Bool) (w : World) (h : impl_BitMake.f k a0 a1_0 a1_1 a1_2 = some (r1, r2)) (HTAB_ : Aside0 (Go.Proofs.YtkpholdkijlogaaDoor.STz.Tab w)) :
    Calls Tryd.prog 10 #[.int .i64 a0, .agg #[.bool a1_0, .int .u64 a1_1, .int .i64 a1_2]] w fun e w' => e = .returned (.tuple #[.int .i64 r1, .bool r2]) ∧ Below w.heap.size w w' := by
  have hu27 := Tryd.underlying27
  have hu43 := Tryd.underlying43
  have HB := Aside0.mk (Below.refl w.heap.size w)
  have H : ((impl_formatOf.f a0).bind fun bt146 => (if bt146.2.2.2.2 = true then ((impl_in.f a1_2 (-2000) 2000).bind fun t152 => (impl_BitMake.j0 k (!t152) a1_0 a1_1 a1_2 bt146.1 bt146.2.1 bt146.2.2.1 bt146.2.2.2.1)) else (impl_BitMake.j0 k true a1_0 a1_1 a1_2 bt146.1 bt146.2.1 bt146.2.2.1 bt146.2.2.2.1))) = some (r1, r2) := h
  clear h
  replace H := Option.bind_eq_some_iff.mp H
  obtain ⟨⟨t146, t147, t148, t149, t150⟩, A30, H⟩ := H
  replace H : (if t150 = true then ((impl_in.f a1_2 (-2000) 2000).bind fun t152 => (impl_BitMake.j0 k (!t152) a1_0 a1_1 a1_2 t146 t147 t148 t149)) else (impl_BitMake.j0 k true a1_0 a1_1 a1_2 t146 t147 t148 t149)) = some (r1, r2) := H
  have A3 := Aside0.mk A30
  clear A30
  have HC4 := Aside0.mk H
  clear H
  go_enter Tryd.func10, Tryd.ntmps10
  go_upto_region 2 with (first | ((with_reducible refine gate_dst (N := 3) rfl ?_); refine box_event ?hg (N := 3) ?hd (cs := #[.bool a1_0, .int .u64 a1_1, .int .i64 a1_2]) (t := 27) ?hr ?_; (case hd => rfl); (case hg => rfl); (case hr => first | (go_simp; done) | (go_simp; rfl)); intro gb145 hg w5 hbox hb; have n0_ := Aside0.mk (below_step (by repeat (first | (with_reducible first | exact HB.out | apply below_alloc | apply pw_below_drewN | apply below_drew1) | exact HB.out)) hb); have n1_ := Aside0.mk (hbox); have n2_ := Aside0.mk ((by rw [hg]; exact (below_size (by repeat (first | (with_reducible first | exact HB.out | apply below_alloc | apply pw_below_drewN | apply below_drew1) | exact HB.out))) : w.heap.size ≤ gb145)); have n3_ := Aside0.mk ((by rw [hg]; exact (below_size (by repeat (first | (with_reducible first | exact HB.out | apply below_alloc | apply pw_below_drewN | apply below_drew1) | exact HB.out))) : w.heap.size ≤ gb145)); clear HB; have HB := n0_; have BK145 := n1_; have GW145 := n2_; have GE145 := n3_; clear n0_ n1_ n2_ n3_; clear hb hbox hg) | (go_at_call 25; (with_reducible refine (impl_formatOf.calls a0 t146 t147 t148 t149 t150 _ A3.out).mono ?_); rintro e w6 ⟨rfl, hb⟩; have n0_ := Aside0.mk (blk_below (g := gb145) (o := .cells #[.bool a1_0, .int .u64 a1_1, .int .i64 a1_2] 27 (0, 0)) (by (with_reducible repeat (first | refine blk_drewN ?_ _ | refine blk_drew ?_ | refine blk_alloc ?_ _)); exact BK145.out) hb); have n1_ := Aside0.mk (below_step (by repeat (first | (with_reducible first | exact HB.out | apply below_alloc | apply pw_below_drewN | apply below_drew1 | refine below_set ?_ GE145.out) | exact HB.out)) hb); clear BK145; clear HB; have BK145 := n0_; have HB := n1_; clear n0_ n1_; (try clear hb); (try clear hb2); (try clear hk); (try clear hi)) | ((with_reducible refine gate_dst (N := 6) rfl ?_); refine box_event ?hg (N := 6) ?hd (cs := #[.int .i64 0, .int .i64 0, .int .i64 0, .int .i64 0]) (t := 43) ?hr ?_; (case hd => rfl); (case hg => rfl); (case hr => first | (go_simp; done) | (go_simp; rfl)); intro gb151 hg w7 hbox hb; have n0_ := Aside0.mk (blk_below (g := gb145) (o := .cells #[.bool a1_0, .int .u64 a1_1, .int .i64 a1_2] 27 (0, 0)) (by (with_reducible repeat (first | refine blk_drewN ?_ _ | refine blk_drew ?_ | refine blk_alloc ?_ _)); exact BK145.out) hb); have n1_ := Aside0.mk (below_step (by repeat (first | (with_reducible first | exact HB.out | apply below_alloc | apply pw_below_drewN | apply below_drew1 | refine below_set ?_ GE145.out) | exact HB.out)) hb); have n2_ := Aside0.mk (hbox); have n3_ := Aside0.mk ((by rw [hg]; exact (below_size (by repeat (first | (with_reducible first | exact HB.out | apply below_alloc | apply pw_below_drewN | apply below_drew1 | refine below_set ?_ GE145.out) | exact HB.out))) : w.heap.size ≤ gb151)); have n4_ := Aside0.mk ((by rw [hg]; exact (below_size (by repeat (first | (with_reducible first | exact HB.out | apply below_alloc | apply pw_below_drewN | apply below_drew1 | refine below_set ?_ GE145.out) | exact HB.out))) : w.heap.size ≤ gb151)); have n5_ := Aside0.mk ((by rw [hg]; exact Nat.ne_of_lt (blk_lt (g := gb145) (o := .cells #[.bool a1_0, .int .u64 a1_1, .int .i64 a1_2] 27 (0, 0)) (by (with_reducible repeat (first | refine blk_drewN ?_ _ | refine blk_drew ?_ | refine blk_alloc ?_ _)); exact BK145.out)) : gb145 ≠ gb151)); have n6_ := Aside0.mk ((by rw [hg]; exact Nat.ne_of_gt (blk_lt (g := gb145) (o := .cells #[.bool a1_0, .int .u64 a1_1, .int .i64 a1_2] 27 (0, 0)) (by (with_reducible repeat (first | refine blk_drewN ?_ _ | refine blk_drew ?_ | refine blk_alloc ?_ _)); exact BK145.out)) : gb151 ≠ gb145)); clear BK145; clear HB; have BK145 := n0_; have HB := n1_; have BK151 := n2_; have GW151 := n3_; have GE151 := n4_; have NB145_151 := n5_; have NB151_145 := n6_; clear n0_ n1_ n2_ n3_ n4_ n5_ n6_; clear hb hbox hg; have hnb8 := NB151_145.out; have hnc8 := NB145_151.out; have hcz9_0 : w7.cell? ⟨gb151, 0, none⟩ = some (.int .i64 0) := (blk_cell BK151.out 0).trans rfl; have hcz9_1 : w7.cell? ⟨gb151, 1, none⟩ = some (.int .i64 0) := (blk_cell BK151.out 1).trans rfl; have hcz9_2 : w7.cell? ⟨gb151, 2, none⟩ = some (.int .i64 0) := (blk_cell BK151.out 2).trans rfl; have hcz9_3 : w7.cell? ⟨gb151, 3, none⟩ = some (.int .i64 0) := (blk_cell BK151.out 3).trans rfl; have hfz9_0 := blk_frozen BK151.out 0; have hfz9_1 := blk_frozen BK151.out 1; have hfz9_2 := blk_frozen BK151.out 2; have hfz9_3 := blk_frozen BK151.out 3))
  repeat (go_quiet (first | ((with_reducible refine gate_dst (N := 3) rfl ?_); refine box_event ?hg (N := 3) ?hd (cs := #[.bool a1_0, .int .u64 a1_1, .int .i64 a1_2]) (t := 27) ?hr ?_; (case hd => rfl); (case hg => rfl); (case hr => first | (go_simp; done) | (go_simp; rfl)); intro gb145 hg w5 hbox hb; have n0_ := Aside0.mk (below_step (by repeat (first | (with_reducible first | exact HB.out | apply below_alloc | apply pw_below_drewN | apply below_drew1) | exact HB.out)) hb); have n1_ := Aside0.mk (hbox); have n2_ := Aside0.mk ((by rw [hg]; exact (below_size (by repeat (first | (with_reducible first | exact HB.out | apply below_alloc | apply pw_below_drewN | apply below_drew1) | exact HB.out))) : w.heap.size ≤ gb145)); have n3_ := Aside0.mk ((by rw [hg]; exact (below_size (by repeat (first | (with_reducible first | exact HB.out | apply below_alloc | apply pw_below_drewN | apply below_drew1) | exact HB.out))) : w.heap.size ≤ gb145)); clear HB; have HB := n0_; have BK145 := n1_; have GW145 := n2_; have GE145 := n3_; clear n0_ n1_ n2_ n3_; clear hb hbox hg) | (go_at_call 25; (with_reducible refine (impl_formatOf.calls a0 t146 t147 t148 t149 t150 _ A3.out).mono ?_); rintro e w6 ⟨rfl, hb⟩; have n0_ := Aside0.mk (blk_below (g := gb145) (o := .cells #[.bool a1_0, .int .u64 a1_1, .int .i64 a1_2] 27 (0, 0)) (by (with_reducible repeat (first | refine blk_drewN ?_ _ | refine blk_drew ?_ | refine blk_alloc ?_ _)); exact BK145.out) hb); have n1_ := Aside0.mk (below_step (by repeat (first | (with_reducible first | exact HB.out | apply below_alloc | apply pw_below_drewN | apply below_drew1 | refine below_set ?_ GE145.out) | exact HB.out)) hb); clear BK145; clear HB; have BK145 := n0_; have HB := n1_; clear n0_ n1_; (try clear hb); (try clear hb2); (try clear hk); (try clear hi)) | ((with_reducible refine gate_dst (N := 6) rfl ?_); refine box_event ?hg (N := 6) ?hd (cs := #[.int .i64 0, .int .i64 0, .int .i64 0, .int .i64 0]) (t := 43) ?hr ?_; (case hd => rfl); (case hg => rfl); (case hr => first | (go_simp; done) | (go_simp; rfl)); intro gb151 hg w7 hbox hb; have n0_ := Aside0.mk (blk_below (g := gb145) (o := .cells #[.bool a1_0, .int .u64 a1_1, .int .i64 a1_2] 27 (0, 0)) (by (with_reducible repeat (first | refine blk_drewN ?_ _ | refine blk_drew ?_ | refine blk_alloc ?_ _)); exact BK145.out) hb); have n1_ := Aside0.mk (below_step (by repeat (first | (with_reducible first | exact HB.out | apply below_alloc | apply pw_below_drewN | apply below_drew1 | refine below_set ?_ GE145.out) | exact HB.out)) hb); have n2_ := Aside0.mk (hbox); have n3_ := Aside0.mk ((by rw [hg]; exact (below_size (by repeat (first | (with_reducible first | exact HB.out | apply below_alloc | apply pw_below_drewN | apply below_drew1 | refine below_set ?_ GE145.out) | exact HB.out))) : w.heap.size ≤ gb151)); have n4_ := Aside0.mk ((by rw [hg]; exact (below_size (by repeat (first | (with_reducible first | exact HB.out | apply below_alloc | apply pw_below_drewN | apply below_drew1 | refine below_set ?_ GE145.out) | exact HB.out))) : w.heap.size ≤ gb151)); have n5_ := Aside0.mk ((by rw [hg]; exact Nat.ne_of_lt (blk_lt (g := gb145) (o := .cells #[.bool a1_0, .int .u64 a1_1, .int .i64 a1_2] 27 (0, 0)) (by (with_reducible repeat (first | refine blk_drewN ?_ _ | refine blk_drew ?_ | refine blk_alloc ?_ _)); exact BK145.out)) : gb145 ≠ gb151)); have n6_ := Aside0.mk ((by rw [hg]; exact Nat.ne_of_gt (blk_lt (g := gb145) (o := .cells #[.bool a1_0, .int .u64 a1_1, .int .i64 a1_2] 27 (0, 0)) (by (with_reducible repeat (first | refine blk_drewN ?_ _ | refine blk_drew ?_ | refine blk_alloc ?_ _)); exact BK145.out)) : gb151 ≠ gb145)); clear BK145; clear HB; have BK145 := n0_; have HB := n1_; have BK151 := n2_; have GW151 := n3_; have GE151 := n4_; have NB145_151 := n5_; have NB151_145 := n6_; clear n0_ n1_ n2_ n3_ n4_ n5_ n6_; clear hb hbox hg; have hnb8 := NB151_145.out; have hnc8 := NB145_151.out; have hcz9_0 : w7.cell? ⟨gb151, 0, none⟩ = some (.int .i64 0) := (blk_cell BK151.out 0).trans rfl; have hcz9_1 : w7.cell? ⟨gb151, 1, none⟩ = some (.int .i64 0) := (blk_cell BK151.out 1).trans rfl; have hcz9_2 : w7.cell? ⟨gb151, 2, none⟩ = some (.int .i64 0) := (blk_cell BK151.out 2).trans rfl; have hcz9_3 : w7.cell? ⟨gb151, 3, none⟩ = some (.int .i64 0) := (blk_cell BK151.out 3).trans rfl; have hfz9_0 := blk_frozen BK151.out 0; have hfz9_1 := blk_frozen BK151.out 1; have hfz9_2 := blk_frozen BK151.out 2; have hfz9_3 := blk_frozen BK151.out 3)); go_upto_region 2 with (first | ((with_reducible refine gate_dst (N := 3) rfl ?_); refine box_event ?hg (N := 3) ?hd (cs := #[.bool a1_0, .int .u64 a1_1, .int .i64 a1_2]) (t := 27) ?hr ?_; (case hd => rfl); (case hg => rfl); (case hr => first | (go_simp; done) | (go_simp; rfl)); intro gb145 hg w5 hbox hb; have n0_ := Aside0.mk (below_step (by repeat (first | (with_reducible first | exact HB.out | apply below_alloc | apply pw_below_drewN | apply below_drew1) | exact HB.out)) hb); have n1_ := Aside0.mk (hbox); have n2_ := Aside0.mk ((by rw [hg]; exact (below_size (by repeat (first | (with_reducible first | exact HB.out | apply below_alloc | apply pw_below_drewN | apply below_drew1) | exact HB.out))) : w.heap.size ≤ gb145)); have n3_ := Aside0.mk ((by rw [hg]; exact (below_size (by repeat (first | (with_reducible first | exact HB.out | apply below_alloc | apply pw_below_drewN | apply below_drew1) | exact HB.out))) : w.heap.size ≤ gb145)); clear HB; have HB := n0_; have BK145 := n1_; have GW145 := n2_; have GE145 := n3_; clear n0_ n1_ n2_ n3_; clear hb hbox hg) | (go_at_call 25; (with_reducible refine (impl_formatOf.calls a0 t146 t147 t148 t149 t150 _ A3.out).mono ?_); rintro e w6 ⟨rfl, hb⟩; have n0_ := Aside0.mk (blk_below (g := gb145) (o := .cells #[.bool a1_0, .int .u64 a1_1, .int .i64 a1_2] 27 (0, 0)) (by (with_reducible repeat (first | refine blk_drewN ?_ _ | refine blk_drew ?_ | refine blk_alloc ?_ _)); exact BK145.out) hb); have n1_ := Aside0.mk (below_step (by repeat (first | (with_reducible first | exact HB.out | apply below_alloc | apply pw_below_drewN | apply below_drew1 | refine below_set ?_ GE145.out) | exact HB.out)) hb); clear BK145; clear HB; have BK145 := n0_; have HB := n1_; clear n0_ n1_; (try clear hb); (try clear hb2); (try clear hk); (try clear hi)) | ((with_reducible refine gate_dst (N := 6) rfl ?_); refine box_event ?hg (N := 6) ?hd (cs := #[.int .i64 0, .int .i64 0, .int .i64 0, .int .i64 0]) (t := 43) ?hr ?_; (case hd => rfl); (case hg => rfl); (case hr => first | (go_simp; done) | (go_simp; rfl)); intro gb151 hg w7 hbox hb; have n0_ := Aside0.mk (blk_below (g := gb145) (o := .cells #[.bool a1_0, .int .u64 a1_1, .int .i64 a1_2] 27 (0, 0)) (by (with_reducible repeat (first | refine blk_drewN ?_ _ | refine blk_drew ?_ | refine blk_alloc ?_ _)); exact BK145.out) hb); have n1_ := Aside0.mk (below_step (by repeat (first | (with_reducible first | exact HB.out | apply below_alloc | apply pw_below_drewN | apply below_drew1 | refine below_set ?_ GE145.out) | exact HB.out)) hb); have n2_ := Aside0.mk (hbox); have n3_ := Aside0.mk ((by rw [hg]; exact (below_size (by repeat (first | (with_reducible first | exact HB.out | apply below_alloc | apply pw_below_drewN | apply below_drew1 | refine below_set ?_ GE145.out) | exact HB.out))) : w.heap.size ≤ gb151)); have n4_ := Aside0.mk ((by rw [hg]; exact (below_size (by repeat (first | (with_reducible first | exact HB.out | apply below_alloc | apply pw_below_drewN | apply below_drew1 | refine below_set ?_ GE145.out) | exact HB.out))) : w.heap.size ≤ gb151)); have n5_ := Aside0.mk ((by rw [hg]; exact Nat.ne_of_lt (blk_lt (g := gb145) (o := .cells #[.bool a1_0, .int .u64 a1_1, .int .i64 a1_2] 27 (0, 0)) (by (with_reducible repeat (first | refine blk_drewN ?_ _ | refine blk_drew ?_ | refine blk_alloc ?_ _)); exact BK145.out)) : gb145 ≠ gb151)); have n6_ := Aside0.mk ((by rw [hg]; exact Nat.ne_of_gt (blk_lt (g := gb145) (o := .cells #[.bool a1_0, .int .u64 a1_1, .int .i64 a1_2] 27 (0, 0)) (by (with_reducible repeat (first | refine blk_drewN ?_ _ | refine blk_drew ?_ | refine blk_alloc ?_ _)); exact BK145.out)) : gb151 ≠ gb145)); clear BK145; clear HB; have BK145 := n0_; have HB := n1_; have BK151 := n2_; have GW151 := n3_; have GE151 := n4_; have NB145_151 := n5_; have NB151_145 := n6_; clear n0_ n1_ n2_ n3_ n4_ n5_ n6_; clear hb hbox hg; have hnb8 := NB151_145.out; have hnc8 := NB145_151.out; have hcz9_0 : w7.cell? ⟨gb151, 0, none⟩ = some (.int .i64 0) := (blk_cell BK151.out 0).trans rfl; have hcz9_1 : w7.cell? ⟨gb151, 1, none⟩ = some (.int .i64 0) := (blk_cell BK151.out 1).trans rfl; have hcz9_2 : w7.cell? ⟨gb151, 2, none⟩ = some (.int .i64 0) := (blk_cell BK151.out 2).trans rfl; have hcz9_3 : w7.cell? ⟨gb151, 3, none⟩ = some (.int .i64 0) := (blk_cell BK151.out 3).trans rfl; have hfz9_0 := blk_frozen BK151.out 0; have hfz9_1 := blk_frozen BK151.out 1; have hfz9_2 := blk_frozen BK151.out 2; have hfz9_3 := blk_frozen BK151.out 3)))
  (try simp only [Act.put, List.setIfInBounds_toArray, List.set_cons_zero, List.set_cons_succ])
  go_cut [20] (fun v20 wc => ∃ (kq : Nat) (x20_3 : Bool), v20 = .bool x20_3 ∧ Aside0 (impl_BitMake.j0 kq x20_3 a1_0 a1_1 a1_2 t146 t147 t148 t149 = some (r1, r2)) ∧ Aside0 (kq ≤ k) ∧ Aside0 (wc.heap[gb145]? = some (.cells #[.bool a1_0, .int .u64 a1_1, .int .i64 a1_2] 27 (0, 0))) ∧ Aside0 (wc.heap[gb151]? = some (.cells #[.int .i64 t146, .int .i64 t147, .int .i64 t148, .int .i64 t149] 43 (0, 0))) ∧ Aside0 (Below w.heap.size w wc))
  case first =>
    have H := HC4.out
    clear HC4
    by_cases c10 : t150 = true
    · subst c10
      have H1 : ((impl_in.f a1_2 (-2000) 2000).bind fun t152 => (impl_BitMake.j0 k (!t152) a1_0 a1_1 a1_2 t146 t147 t148 t149)) = some (r1, r2) := by rw [if_pos rfl] at H; exact H
      clear H
      have H := H1
      clear H1
      replace H := Option.bind_eq_some_iff.mp H
      obtain ⟨t152, A110, H⟩ := H
      replace H : (impl_BitMake.j0 k (!t152) a1_0 a1_1 a1_2 t146 t147 t148 t149) = some (r1, r2) := H
      have A11 := Aside0.mk A110
      clear A110
      have H' := Aside0.mk H
      clear H
      have hnb12 := NB145_151.out
      have hnc12 := NB151_145.out
      have hcz13_0 : w7.cell? ⟨gb145, 0, none⟩ = some (.bool a1_0) := (blk_cell BK145.out 0).trans rfl
      have hcz13_1 : w7.cell? ⟨gb145, 1, none⟩ = some (.int .u64 a1_1) := (blk_cell BK145.out 1).trans rfl
      have hcz13_2 : w7.cell? ⟨gb145, 2, none⟩ = some (.int .i64 a1_2) := (blk_cell BK145.out 2).trans rfl
      have hfz13_0 := blk_frozen BK145.out 0
      have hfz13_1 := blk_frozen BK145.out 1
      have hfz13_2 := blk_frozen BK145.out 2
      go_wp2_with (first | (go_at_call 26; (with_reducible refine (impl_in.calls a1_2 (-2000) 2000 t152 _ A11.out).mono ?_); rintro e w' ⟨rfl, ⟨nd, rfl⟩⟩; (try first | exact ⟨rfl, _, World.drewN_drewN _ _ _⟩ | exact ⟨rfl, _, Eq.trans (World.drewN_drewN _ _ _) (congrArg (World.drewN _) (Nat.add_assoc _ _ _))⟩)))
      repeat (go_quiet (first | (go_at_call 26; (with_reducible refine (impl_in.calls a1_2 (-2000) 2000 t152 _ A11.out).mono ?_); rintro e w' ⟨rfl, ⟨nd, rfl⟩⟩; (try first | exact ⟨rfl, _, World.drewN_drewN _ _ _⟩ | exact ⟨rfl, _, Eq.trans (World.drewN_drewN _ _ _) (congrArg (World.drewN _) (Nat.add_assoc _ _ _))⟩))); try go_wp2_with (first | (go_at_call 26; (with_reducible refine (impl_in.calls a1_2 (-2000) 2000 t152 _ A11.out).mono ?_); rintro e w' ⟨rfl, ⟨nd, rfl⟩⟩; (try first | exact ⟨rfl, _, World.drewN_drewN _ _ _⟩ | exact ⟨rfl, _, Eq.trans (World.drewN_drewN _ _ _) (congrArg (World.drewN _) (Nat.add_assoc _ _ _))⟩))))
      go_meet
      case rel => exact ⟨_, (!t152), (by first | rfl | (simp; done) | (simp [*]; done)), H', ⟨by first | omega | exact Nat.le_refl _⟩, ⟨by (with_reducible repeat (first | refine blk_drewN ?_ _ | refine blk_drew ?_ | refine blk_alloc ?_ _)); refine blk_far ?_ NB145_151.out _; (with_reducible repeat (first | refine blk_drewN ?_ _ | refine blk_drew ?_ | refine blk_alloc ?_ _)); refine blk_far ?_ NB145_151.out _; (with_reducible repeat (first | refine blk_drewN ?_ _ | refine blk_drew ?_ | refine blk_alloc ?_ _)); refine blk_far ?_ NB145_151.out _; (with_reducible repeat (first | refine blk_drewN ?_ _ | refine blk_drew ?_ | refine blk_alloc ?_ _)); refine blk_far ?_ NB145_151.out _; (with_reducible repeat (first | refine blk_drewN ?_ _ | refine blk_drew ?_ | refine blk_alloc ?_ _)); exact BK145.out⟩, ⟨by (with_reducible repeat (first | refine blk_drewN ?_ _ | refine blk_drew ?_ | refine blk_alloc ?_ _)); refine blk_put (cs := #[.int .i64 t146, .int .i64 t147, .int .i64 t148, .int .i64 0]) ?_ 3 _ (by first | rfl | (simp [*]; done)); (with_reducible repeat (first | refine blk_drewN ?_ _ | refine blk_drew ?_ | refine blk_alloc ?_ _)); refine blk_put (cs := #[.int .i64 t146, .int .i64 t147, .int .i64 0, .int .i64 0]) ?_ 2 _ (by first | rfl | (simp [*]; done)); (with_reducible repeat (first | refine blk_drewN ?_ _ | refine blk_drew ?_ | refine blk_alloc ?_ _)); refine blk_put (cs := #[.int .i64 t146, .int .i64 0, .int .i64 0, .int .i64 0]) ?_ 1 _ (by first | rfl | (simp [*]; done)); (with_reducible repeat (first | refine blk_drewN ?_ _ | refine blk_drew ?_ | refine blk_alloc ?_ _)); refine blk_put (cs := #[.int .i64 0, .int .i64 0, .int .i64 0, .int .i64 0]) ?_ 0 _ (by first | rfl | (simp [*]; done)); (with_reducible repeat (first | refine blk_drewN ?_ _ | refine blk_drew ?_ | refine blk_alloc ?_ _)); exact BK151.out⟩, ⟨by repeat (first | (with_reducible first | exact HB.out | apply below_alloc | apply pw_below_drewN | apply below_drew1 | refine below_set ?_ GE145.out | refine below_set ?_ GE151.out) | exact HB.out)⟩⟩
    · replace c10 := Bool.eq_false_iff.mpr c10
      subst c10
      have H1 : (impl_BitMake.j0 k true a1_0 a1_1 a1_2 t146 t147 t148 t149) = some (r1, r2) := by rw [if_neg (show ¬ (false = true) by decide)] at H; exact H
      clear H
      have H := H1
      clear H1
      have H' := Aside0.mk H
      clear H
      go_wp2
      repeat (go_quiet (fail); try go_wp2)
      go_meet
      case rel => exact ⟨_, (true), (by first | rfl | (simp; done) | (simp [*]; done)), H', ⟨by first | omega | exact Nat.le_refl _⟩, ⟨by (with_reducible repeat (first | refine blk_drewN ?_ _ | refine blk_drew ?_ | refine blk_alloc ?_ _)); refine blk_far ?_ NB145_151.out _; (with_reducible repeat (first | refine blk_drewN ?_ _ | refine blk_drew ?_ | refine blk_alloc ?_ _)); refine blk_far ?_ NB145_151.out _; (with_reducible repeat (first | refine blk_drewN ?_ _ | refine blk_drew ?_ | refine blk_alloc ?_ _)); refine blk_far ?_ NB145_151.out _; (with_reducible repeat (first | refine blk_drewN ?_ _ | refine blk_drew ?_ | refine blk_alloc ?_ _)); refine blk_far ?_ NB145_151.out _; (with_reducible repeat (first | refine blk_drewN ?_ _ | refine blk_drew ?_ | refine blk_alloc ?_ _)); exact BK145.out⟩, ⟨by (with_reducible repeat (first | refine blk_drewN ?_ _ | refine blk_drew ?_ | refine blk_alloc ?_ _)); refine blk_put (cs := #[.int .i64 t146, .int .i64 t147, .int .i64 t148, .int .i64 0]) ?_ 3 _ (by first | rfl | (simp [*]; done)); (with_reducible repeat (first | refine blk_drewN ?_ _ | refine blk_drew ?_ | refine blk_alloc ?_ _)); refine blk_put (cs := #[.int .i64 t146, .int .i64 t147, .int .i64 0, .int .i64 0]) ?_ 2 _ (by first | rfl | (simp [*]; done)); (with_reducible repeat (first | refine blk_drewN ?_ _ | refine blk_drew ?_ | refine blk_alloc ?_ _)); refine blk_put (cs := #[.int .i64 t146, .int .i64 0, .int .i64 0, .int .i64 0]) ?_ 1 _ (by first | rfl | (simp [*]; done)); (with_reducible repeat (first | refine blk_drewN ?_ _ | refine blk_drew ?_ | refine blk_alloc ?_ _)); refine blk_put (cs := #[.int .i64 0, .int .i64 0, .int .i64 0, .int .i64 0]) ?_ 0 _ (by first | rfl | (simp [*]; done)); (with_reducible repeat (first | refine blk_drewN ?_ _ | refine blk_drew ?_ | refine blk_alloc ?_ _)); exact BK151.out⟩, ⟨by repeat (first | (with_reducible first | exact HB.out | apply below_alloc | apply pw_below_drewN | apply below_drew1 | refine below_set ?_ GE145.out | refine below_set ?_ GE151.out) | exact HB.out)⟩⟩
  case rest =>
    clear HC4
    try clear c1
    try clear p2
    try clear c8
    try clear c10
    try clear c12
    try clear hcz13_0
    try clear hcz13_1
    try clear hcz13_2
    try clear hcz9_0
    try clear hcz9_1
    try clear hcz9_2
    try clear hcz9_3
    try clear hfz13_0
    try clear hfz13_1
    try clear hfz13_2
    try clear hfz9_0
    try clear hfz9_1
    try clear hfz9_2
    try clear hfz9_3
    obtain ⟨kq, x20_3, rfl, HA, HJ3, BK145, BK151, HB⟩ := hcut
    cases kq with
    | zero => exact absurd HA.out (by simp [impl_BitMake.j0])
    | succ kj3 =>
      have H := HA.out
      clear HA
      simp only [impl_BitMake.j0] at H
      by_cases c14 : x20_3 = true
      · subst c14
        have H1 : (some (0, false)) = some (r1, r2) := by rw [if_pos rfl] at H; exact H
        clear H
        have H := H1
        clear H1
        simp only [Option.some.injEq, Prod.mk.injEq] at H
        obtain ⟨rfl, rfl⟩ := H
        go_wp2
        repeat (go_quiet (fail); try go_wp2)
        go_ret2
        exact ⟨by first | rfl | (simp [errW_none, errW_some] <;> rfl) | (simp [*, errW_none, errW_some] <;> rfl), by repeat (first | (with_reducible first | exact HB.out | apply below_alloc | apply pw_below_drewN | apply below_drew1 | refine below_set ?_ GE145.out | refine below_set ?_ GE151.out) | exact HB.out)⟩
      · replace c14 := Bool.eq_false_iff.mpr c14
        subst c14
        have H1 : (if a1_1 = 0 then (some (0, true)) else ((bits_TrailingZeros64.f a1_1).bind fun t153 => (if 0 ≤ t153 then ((bits_Len64.f (shr .u64 a1_1 t153)).bind fun t154 => (if t154 > (wrap64 (t146 + 1)) then (impl_BitMake.j1 kj3 (shr .u64 a1_1 t153) (wrap64 (a1_2 + t153)) t154 (wrap64 ((wrap64 ((wrap64 (a1_2 + t153)) + t154)) - 1)) true a1_0 a1_1 a1_2 t146 t147 t148 t149) else (if (wrap64 (a1_2 + t153)) < t147 then (impl_BitMake.j1 kj3 (shr .u64 a1_1 t153) (wrap64 (a1_2 + t153)) t154 (wrap64 ((wrap64 ((wrap64 (a1_2 + t153)) + t154)) - 1)) true a1_0 a1_1 a1_2 t146 t147 t148 t149) else (impl_BitMake.j1 kj3 (shr .u64 a1_1 t153) (wrap64 (a1_2 + t153)) t154 (wrap64 ((wrap64 ((wrap64 (a1_2 + t153)) + t154)) - 1)) (decide ((wrap64 ((wrap64 ((wrap64 (a1_2 + t153)) + t154)) - 1)) > t148)) a1_0 a1_1 a1_2 t146 t147 t148 t149)))) else (none)))) = some (r1, r2) := by rw [if_neg (show ¬ (false = true) by decide)] at H; exact H
        clear H
        have H := H1
        clear H1
        by_cases c15 : a1_1 = 0
        · rw [if_pos c15] at H
          have c15b0 : (a1_1 == 0) = true := beq_iff_eq.mpr c15
          have c15b1 : (a1_1 != 0) = false := bne_eq_false_iff_eq.mpr c15
          clear c15
          simp only [Option.some.injEq, Prod.mk.injEq] at H
          obtain ⟨rfl, rfl⟩ := H
          have hnb16 := NB145_151.out
          have hnc16 := NB151_145.out
          have hcz17_0 : wc.cell? ⟨gb145, 0, none⟩ = some (.bool a1_0) := (blk_cell BK145.out 0).trans rfl
          have hcz17_1 : wc.cell? ⟨gb145, 1, none⟩ = some (.int .u64 a1_1) := (blk_cell BK145.out 1).trans rfl
          have hcz17_2 : wc.cell? ⟨gb145, 2, none⟩ = some (.int .i64 a1_2) := (blk_cell BK145.out 2).trans rfl
          have hfz17_0 := blk_frozen BK145.out 0
          have hfz17_1 := blk_frozen BK145.out 1
          have hfz17_2 := blk_frozen BK145.out 2
          go_wp2
          repeat (go_quiet (fail); try go_wp2)
          go_ret2
          exact ⟨by first | rfl | (simp [errW_none, errW_some] <;> rfl) | (simp [*, errW_none, errW_some] <;> rfl), by repeat (first | (with_reducible first | exact HB.out | apply below_alloc | apply pw_below_drewN | apply below_drew1 | refine below_set ?_ GE145.out | refine below_set ?_ GE151.out) | exact HB.out)⟩
        · rw [if_neg c15] at H
          have c15b0 : (a1_1 == 0) = false := beq_eq_false_iff_ne.mpr c15
          have c15b1 : (a1_1 != 0) = true := bne_iff_ne.mpr c15
          replace H := Option.bind_eq_some_iff.mp H
          obtain ⟨t153, A180, H⟩ := H
          replace H : (if 0 ≤ t153 then ((bits_Len64.f (shr .u64 a1_1 t153)).bind fun t154 => (if t154 > (wrap64 (t146 + 1)) then (impl_BitMake.j1 kj3 (shr .u64 a1_1 t153) (wrap64 (a1_2 + t153)) t154 (wrap64 ((wrap64 ((wrap64 (a1_2 + t153)) + t154)) - 1)) true a1_0 a1_1 a1_2 t146 t147 t148 t149) else (if (wrap64 (a1_2 + t153)) < t147 then (impl_BitMake.j1 kj3 (shr .u64 a1_1 t153) (wrap64 (a1_2 + t153)) t154 (wrap64 ((wrap64 ((wrap64 (a1_2 + t153)) + t154)) - 1)) true a1_0 a1_1 a1_2 t146 t147 t148 t149) else (impl_BitMake.j1 kj3 (shr .u64 a1_1 t153) (wrap64 (a1_2 + t153)) t154 (wrap64 ((wrap64 ((wrap64 (a1_2 + t153)) + t154)) - 1)) (decide ((wrap64 ((wrap64 ((wrap64 (a1_2 + t153)) + t154)) - 1)) > t148)) a1_0 a1_1 a1_2 t146 t147 t148 t149)))) else (none)) = some (r1, r2) := H
          have A18 := Aside0.mk A180
          clear A180
          by_cases c19 : 0 ≤ t153
          · rw [if_pos c19] at H
            have c19b0 := eq_true c19
            have c19b1 : decide (0 ≤ t153) = true := decide_eq_true c19
            clear c19
            obtain ⟨ji20, hji20⟩ : ∃ j_ : Int, (shr .u64 a1_1 t153) = j_ := ⟨_, rfl⟩
            replace H : ((bits_Len64.f (ji20)).bind fun t154 => (if t154 > (wrap64 (t146 + 1)) then (impl_BitMake.j1 kj3 ji20 (wrap64 (a1_2 + t153)) t154 (wrap64 ((wrap64 ((wrap64 (a1_2 + t153)) + t154)) - 1)) true a1_0 a1_1 a1_2 t146 t147 t148 t149) else (if (wrap64 (a1_2 + t153)) < t147 then (impl_BitMake.j1 kj3 ji20 (wrap64 (a1_2 + t153)) t154 (wrap64 ((wrap64 ((wrap64 (a1_2 + t153)) + t154)) - 1)) true a1_0 a1_1 a1_2 t146 t147 t148 t149) else (impl_BitMake.j1 kj3 ji20 (wrap64 (a1_2 + t153)) t154 (wrap64 ((wrap64 ((wrap64 (a1_2 + t153)) + t154)) - 1)) (decide ((wrap64 ((wrap64 ((wrap64 (a1_2 + t153)) + t154)) - 1)) > t148)) a1_0 a1_1 a1_2 t146 t147 t148 t149)))) = some (r1, r2) := by first | (rw [hji20] at H; exact H) | (simp only [hji20] at H ⊢; exact H)
            (try rw [hji20] at A18)
            have hji20_ : (a1_1 / 2 ^ min t153.toNat 64) = ji20 := hji20
            have hji20z : t153 ≤ 64 → (a1_1 / 2 ^ t153.toNat) = ji20 := shr_small hji20
            replace H := Option.bind_eq_some_iff.mp H
            obtain ⟨t154, A210, H⟩ := H
            replace H : (if t154 > (wrap64 (t146 + 1)) then (impl_BitMake.j1 kj3 ji20 (wrap64 (a1_2 + t153)) t154 (wrap64 ((wrap64 ((wrap64 (a1_2 + t153)) + t154)) - 1)) true a1_0 a1_1 a1_2 t146 t147 t148 t149) else (if (wrap64 (a1_2 + t153)) < t147 then (impl_BitMake.j1 kj3 ji20 (wrap64 (a1_2 + t153)) t154 (wrap64 ((wrap64 ((wrap64 (a1_2 + t153)) + t154)) - 1)) true a1_0 a1_1 a1_2 t146 t147 t148 t149) else (impl_BitMake.j1 kj3 ji20 (wrap64 (a1_2 + t153)) t154 (wrap64 ((wrap64 ((wrap64 (a1_2 + t153)) + t154)) - 1)) (decide ((wrap64 ((wrap64 ((wrap64 (a1_2 + t153)) + t154)) - 1)) > t148)) a1_0 a1_1 a1_2 t146 t147 t148 t149))) = some (r1, r2) := H
            have A21 := Aside0.mk A210
            clear A210
            have HC22 := Aside0.mk H
            clear H
            have hnb23 := NB145_151.out
            have hnc23 := NB151_145.out
            have hcz24_0 : wc.cell? ⟨gb145, 0, none⟩ = some (.bool a1_0) := (blk_cell BK145.out 0).trans rfl
            have hcz24_1 : wc.cell? ⟨gb145, 1, none⟩ = some (.int .u64 a1_1) := (blk_cell BK145.out 1).trans rfl
            have hcz24_2 : wc.cell? ⟨gb145, 2, none⟩ = some (.int .i64 a1_2) := (blk_cell BK145.out 2).trans rfl
            have hfz24_0 := blk_frozen BK145.out 0
            have hfz24_1 := blk_frozen BK145.out 1
            have hfz24_2 := blk_frozen BK145.out 2
            go_upto_region 10 with (first | (go_at_call 27; (with_reducible refine (bits_TrailingZeros64.calls a1_1 t153 _ A18.out ⟨by first | exact HTAB_.out | exact Go.Proofs.YtkpholdkijlogaaDoor.STz.Tab.below HTAB_.out HB.out | exact Go.Proofs.YtkpholdkijlogaaDoor.STz.Tab.below HTAB_.out (by repeat (first | (with_reducible first | exact HB.out | apply below_alloc | apply pw_below_drewN | apply below_drew1) | exact HB.out | exact Below.refl _ _))⟩).mono ?_); rintro e w' ⟨rfl, ⟨nd, rfl⟩⟩; (try first | exact ⟨rfl, _, World.drewN_drewN _ _ _⟩ | exact ⟨rfl, _, Eq.trans (World.drewN_drewN _ _ _) (congrArg (World.drewN _) (Nat.add_assoc _ _ _))⟩)) | (go_at_call 28; (with_reducible refine (bits_Len64.calls ji20 t154 _ A21.out).mono ?_); rintro e w' ⟨rfl, ⟨nd, rfl⟩⟩; (try first | exact ⟨rfl, _, World.drewN_drewN _ _ _⟩ | exact ⟨rfl, _, Eq.trans (World.drewN_drewN _ _ _) (congrArg (World.drewN _) (Nat.add_assoc _ _ _))⟩)))
            repeat (go_quiet (first | (go_at_call 27; (with_reducible refine (bits_TrailingZeros64.calls a1_1 t153 _ A18.out ⟨by first | exact HTAB_.out | exact Go.Proofs.YtkpholdkijlogaaDoor.STz.Tab.below HTAB_.out HB.out | exact Go.Proofs.YtkpholdkijlogaaDoor.STz.Tab.below HTAB_.out (by repeat (first | (with_reducible first | exact HB.out | apply below_alloc | apply pw_below_drewN | apply below_drew1) | exact HB.out | exact Below.refl _ _))⟩).mono ?_); rintro e w' ⟨rfl, ⟨nd, rfl⟩⟩; (try first | exact ⟨rfl, _, World.drewN_drewN _ _ _⟩ | exact ⟨rfl, _, Eq.trans (World.drewN_drewN _ _ _) (congrArg (World.drewN _) (Nat.add_assoc _ _ _))⟩)) | (go_at_call 28; (with_reducible refine (bits_Len64.calls ji20 t154 _ A21.out).mono ?_); rintro e w' ⟨rfl, ⟨nd, rfl⟩⟩; (try first | exact ⟨rfl, _, World.drewN_drewN _ _ _⟩ | exact ⟨rfl, _, Eq.trans (World.drewN_drewN _ _ _) (congrArg (World.drewN _) (Nat.add_assoc _ _ _))⟩))); go_upto_region 10 with (first | (go_at_call 27; (with_reducible refine (bits_TrailingZeros64.calls a1_1 t153 _ A18.out ⟨by first | exact HTAB_.out | exact Go.Proofs.YtkpholdkijlogaaDoor.STz.Tab.below HTAB_.out HB.out | exact Go.Proofs.YtkpholdkijlogaaDoor.STz.Tab.below HTAB_.out (by repeat (first | (with_reducible first | exact HB.out | apply below_alloc | apply pw_below_drewN | apply below_drew1) | exact HB.out | exact Below.refl _ _))⟩).mono ?_); rintro e w' ⟨rfl, ⟨nd, rfl⟩⟩; (try first | exact ⟨rfl, _, World.drewN_drewN _ _ _⟩ | exact ⟨rfl, _, Eq.trans (World.drewN_drewN _ _ _) (congrArg (World.drewN _) (Nat.add_assoc _ _ _))⟩)) | (go_at_call 28; (with_reducible refine (bits_Len64.calls ji20 t154 _ A21.out).mono ?_); rintro e w' ⟨rfl, ⟨nd, rfl⟩⟩; (try first | exact ⟨rfl, _, World.drewN_drewN _ _ _⟩ | exact ⟨rfl, _, Eq.trans (World.drewN_drewN _ _ _) (congrArg (World.drewN _) (Nat.add_assoc _ _ _))⟩))))
            (try simp only [Act.put, List.setIfInBounds_toArray, List.set_cons_zero, List.set_cons_succ])
            go_cut [66] (fun v66 wc => ∃ (kq : Nat) (x66_21 : Bool), v66 = .bool x66_21 ∧ Aside0 (impl_BitMake.j1 kq ji20 (wrap64 (a1_2 + t153)) t154 (wrap64 ((wrap64 ((wrap64 (a1_2 + t153)) + t154)) - 1)) x66_21 a1_0 a1_1 a1_2 t146 t147 t148 t149 = some (r1, r2)) ∧ Aside0 (kq ≤ kj3) ∧ Aside0 (wc.heap[gb145]? = some (.cells #[.bool a1_0, .int .u64 a1_1, .int .i64 a1_2] 27 (0, 0))) ∧ Aside0 (wc.heap[gb151]? = some (.cells #[.int .i64 t146, .int .i64 t147, .int .i64 t148, .int .i64 t149] 43 (0, 0))) ∧ Aside0 (Below w.heap.size w wc))
            case first =>
              have H := HC22.out
              clear HC22
              by_cases c25 : t154 > (wrap64 (t146 + 1))
              · rw [if_pos c25] at H
                have c25b0 : decide ((wrap64 (t146 + 1)) < t154) = true := decide_eq_true c25
                clear c25
                (first | rw [c25b0] | (simp only [i64_w, i32_w]; rw [c25b0]) | skip)
                have H' := Aside0.mk H
                clear H
                have hnb26 := NB151_145.out
                have hnc26 := NB145_151.out
                have hcz27_0 : wc.cell? ⟨gb151, 0, none⟩ = some (.int .i64 t146) := (blk_cell BK151.out 0).trans rfl
                have hcz27_1 : wc.cell? ⟨gb151, 1, none⟩ = some (.int .i64 t147) := (blk_cell BK151.out 1).trans rfl
                have hcz27_2 : wc.cell? ⟨gb151, 2, none⟩ = some (.int .i64 t148) := (blk_cell BK151.out 2).trans rfl
                have hcz27_3 : wc.cell? ⟨gb151, 3, none⟩ = some (.int .i64 t149) := (blk_cell BK151.out 3).trans rfl
                have hfz27_0 := blk_frozen BK151.out 0
                have hfz27_1 := blk_frozen BK151.out 1
                have hfz27_2 := blk_frozen BK151.out 2
                have hfz27_3 := blk_frozen BK151.out 3
                go_wp2
                repeat (go_quiet (fail); try go_wp2)
                go_meet
                case rel => exact ⟨_, (true), (by first | rfl | (simp; done) | (simp [*]; done)), H', ⟨by have := HJ3.out; first | omega | exact Nat.le_refl _⟩, ⟨by (with_reducible repeat (first | refine blk_drewN ?_ _ | refine blk_drew ?_ | refine blk_alloc ?_ _)); exact BK145.out⟩, ⟨by (with_reducible repeat (first | refine blk_drewN ?_ _ | refine blk_drew ?_ | refine blk_alloc ?_ _)); exact BK151.out⟩, ⟨by repeat (first | (with_reducible first | exact HB.out | apply below_alloc | apply pw_below_drewN | apply below_drew1 | refine below_set ?_ GE145.out | refine below_set ?_ GE151.out) | exact HB.out)⟩⟩
              · rw [if_neg c25] at H
                have c25b0 : decide ((wrap64 (t146 + 1)) < t154) = false := decide_eq_false c25
                clear c25
                (first | rw [c25b0] | (simp only [i64_w, i32_w]; rw [c25b0]) | skip)
                by_cases c28 : (wrap64 (a1_2 + t153)) < t147
                · rw [if_pos c28] at H
                  have c28b0 : decide ((wrap64 (a1_2 + t153)) < t147) = true := decide_eq_true c28
                  clear c28
                  have H' := Aside0.mk H
                  clear H
                  have hnb29 := NB151_145.out
                  have hnc29 := NB145_151.out
                  have hcz30_0 : wc.cell? ⟨gb151, 0, none⟩ = some (.int .i64 t146) := (blk_cell BK151.out 0).trans rfl
                  have hcz30_1 : wc.cell? ⟨gb151, 1, none⟩ = some (.int .i64 t147) := (blk_cell BK151.out 1).trans rfl
                  have hcz30_2 : wc.cell? ⟨gb151, 2, none⟩ = some (.int .i64 t148) := (blk_cell BK151.out 2).trans rfl
                  have hcz30_3 : wc.cell? ⟨gb151, 3, none⟩ = some (.int .i64 t149) := (blk_cell BK151.out 3).trans rfl
                  have hfz30_0 := blk_frozen BK151.out 0
                  have hfz30_1 := blk_frozen BK151.out 1
                  have hfz30_2 := blk_frozen BK151.out 2
                  have hfz30_3 := blk_frozen BK151.out 3
                  go_wp2
                  repeat (go_quiet (fail); try go_wp2)
                  go_meet
                  case rel => exact ⟨_, (true), (by first | rfl | (simp; done) | (simp [*]; done)), H', ⟨by have := HJ3.out; first | omega | exact Nat.le_refl _⟩, ⟨by (with_reducible repeat (first | refine blk_drewN ?_ _ | refine blk_drew ?_ | refine blk_alloc ?_ _)); exact BK145.out⟩, ⟨by (with_reducible repeat (first | refine blk_drewN ?_ _ | refine blk_drew ?_ | refine blk_alloc ?_ _)); exact BK151.out⟩, ⟨by repeat (first | (with_reducible first | exact HB.out | apply below_alloc | apply pw_below_drewN | apply below_drew1 | refine below_set ?_ GE145.out | refine below_set ?_ GE151.out) | exact HB.out)⟩⟩
                · rw [if_neg c28] at H
                  have c28b0 : decide ((wrap64 (a1_2 + t153)) < t147) = false := decide_eq_false c28
                  clear c28
                  have H' := Aside0.mk H
                  clear H
                  have hnb31 := NB151_145.out
                  have hnc31 := NB145_151.out
                  have hcz32_0 : wc.cell? ⟨gb151, 0, none⟩ = some (.int .i64 t146) := (blk_cell BK151.out 0).trans rfl
                  have hcz32_1 : wc.cell? ⟨gb151, 1, none⟩ = some (.int .i64 t147) := (blk_cell BK151.out 1).trans rfl
                  have hcz32_2 : wc.cell? ⟨gb151, 2, none⟩ = some (.int .i64 t148) := (blk_cell BK151.out 2).trans rfl
                  have hcz32_3 : wc.cell? ⟨gb151, 3, none⟩ = some (.int .i64 t149) := (blk_cell BK151.out 3).trans rfl
                  have hfz32_0 := blk_frozen BK151.out 0
                  have hfz32_1 := blk_frozen BK151.out 1
                  have hfz32_2 := blk_frozen BK151.out 2
                  have hfz32_3 := blk_frozen BK151.out 3
                  go_wp2
                  repeat (go_quiet (fail); try go_wp2)
                  go_meet
                  case rel => exact ⟨_, (decide ((wrap64 ((wrap64 ((wrap64 (a1_2 + t153)) + t154)) - 1)) > t148)), (by first | rfl | (simp; done) | (simp [*]; done)), H', ⟨by have := HJ3.out; first | omega | exact Nat.le_refl _⟩, ⟨by (with_reducible repeat (first | refine blk_drewN ?_ _ | refine blk_drew ?_ | refine blk_alloc ?_ _)); exact BK145.out⟩, ⟨by (with_reducible repeat (first | refine blk_drewN ?_ _ | refine blk_drew ?_ | refine blk_alloc ?_ _)); exact BK151.out⟩, ⟨by repeat (first | (with_reducible first | exact HB.out | apply below_alloc | apply pw_below_drewN | apply below_drew1 | refine below_set ?_ GE145.out | refine below_set ?_ GE151.out) | exact HB.out)⟩⟩
            case rest =>
              clear HC22
              try clear c1
              try clear c2
              try clear p2
              try clear c3
              try clear p6
              try clear c8
              try clear c10
              try clear c12
              try clear c14
              try clear c15
              try clear c15b0
              try clear c15b1
              try clear c16
              try clear c19
              try clear c19b0
              try clear c19b1
              try clear c23
              try clear c25
              try clear c25b0
              try clear c26
              try clear c28
              try clear c28b0
              try clear c29
              try clear c31
              try clear hcz13_0
              try clear hcz13_1
              try clear hcz13_2
              try clear hcz17_0
              try clear hcz17_1
              try clear hcz17_2
              try clear hcz24_0
              try clear hcz24_1
              try clear hcz24_2
              try clear hcz27_0
              try clear hcz27_1
              try clear hcz27_2
              try clear hcz27_3
              try clear hcz30_0
              try clear hcz30_1
              try clear hcz30_2
              try clear hcz30_3
              try clear hcz32_0
              try clear hcz32_1
              try clear hcz32_2
              try clear hcz32_3
              try clear hcz9_0
              try clear hcz9_1
              try clear hcz9_2
              try clear hcz9_3
              try clear hfz13_0
              try clear hfz13_1
              try clear hfz13_2
              try clear hfz17_0
              try clear hfz17_1
              try clear hfz17_2
              try clear hfz24_0
              try clear hfz24_1
              try clear hfz24_2
              try clear hfz27_0
              try clear hfz27_1
              try clear hfz27_2
              try clear hfz27_3
              try clear hfz30_0
              try clear hfz30_1
              try clear hfz30_2
              try clear hfz30_3
              try clear hfz32_0
              try clear hfz32_1
              try clear hfz32_2
              try clear hfz32_3
              try clear hfz9_0
              try clear hfz9_1
              try clear hfz9_2
              try clear hfz9_3
              try clear p2
              obtain ⟨kq, x66_21, rfl, HA, HJ21, BK145, BK151, HB⟩ := hcut
              cases kq with
              | zero => exact absurd HA.out (by simp [impl_BitMake.j1])
              | succ kj21 =>
                have H := HA.out
                clear HA
                simp only [impl_BitMake.j1] at H
                by_cases c33 : x66_21 = true
                · subst c33
                  have H1 : (some (0, false)) = some (r1, r2) := by rw [if_pos rfl] at H; exact H
                  clear H
                  have H := H1
                  clear H1
                  simp only [Option.some.injEq, Prod.mk.injEq] at H
                  obtain ⟨rfl, rfl⟩ := H
                  go_wp2
                  repeat (go_quiet (fail); try go_wp2)
                  go_ret2
                  exact ⟨by first | rfl | (simp [errW_none, errW_some] <;> rfl) | (simp only [← hji20]; first | rfl | (simp [errW_none, errW_some] <;> rfl)) | (simp [*, errW_none, errW_some] <;> rfl), by repeat (first | (with_reducible first | exact HB.out | apply below_alloc | apply pw_below_drewN | apply below_drew1 | refine below_set ?_ GE145.out | refine below_set ?_ GE151.out) | exact HB.out)⟩
                · replace c33 := Bool.eq_false_iff.mpr c33
                  subst c33
                  have H1 : (if (wrap64 ((wrap64 ((wrap64 ((wrap64 (a1_2 + t153)) + t154)) - 1)) + t148)) ≥ 1 then (if 0 ≤ t146 then (if 0 ≤ (wrap64 ((wrap64 (t146 + 1)) - t154)) then (if a1_0 = true then (some (wrap64 (-(Go.bits .or .i64 (shl .i64 (wrap64 ((wrap64 ((wrap64 ((wrap64 (a1_2 + t153)) + t154)) - 1)) + t148)) t146) (Go.bits .and .i64 (wrap64 (shl .u64 ji20 (wrap64 ((wrap64 (t146 + 1)) - t154)))) (wrap64 ((shl .i64 1 t146) - 1))))), true)) else (some (Go.bits .or .i64 (shl .i64 (wrap64 ((wrap64 ((wrap64 ((wrap64 (a1_2 + t153)) + t154)) - 1)) + t148)) t146) (Go.bits .and .i64 (wrap64 (shl .u64 ji20 (wrap64 ((wrap64 (t146 + 1)) - t154)))) (wrap64 ((shl .i64 1 t146) - 1))), true))) else (none)) else (none)) else (if 0 ≤ (wrap64 ((wrap64 (a1_2 + t153)) - t147)) then (if a1_0 = true then (some (wrap64 (-(wrap64 (shl .u64 ji20 (wrap64 ((wrap64 (a1_2 + t153)) - t147))))), true)) else (some (wrap64 (shl .u64 ji20 (wrap64 ((wrap64 (a1_2 + t153)) - t147))), true))) else (none))) = some (r1, r2) := by rw [if_neg (show ¬ (false = true) by decide)] at H; exact H
                  clear H
                  have H := H1
                  clear H1
                  by_cases c34 : (wrap64 ((wrap64 ((wrap64 ((wrap64 (a1_2 + t153)) + t154)) - 1)) + t148)) ≥ 1
                  · rw [if_pos c34] at H
                    have c34b0 : decide (1 ≤ (wrap64 ((wrap64 ((wrap64 ((wrap64 (a1_2 + t153)) + t154)) - 1)) + t148))) = true := decide_eq_true c34
                    clear c34
                    by_cases c35 : 0 ≤ t146
                    · rw [if_pos c35] at H
                      have c35b0 := eq_true c35
                      have c35b1 : decide (0 ≤ t146) = true := decide_eq_true c35
                      clear c35
                      obtain ⟨ji36, hji36⟩ : ∃ j_ : Int, (shl .i64 (wrap64 ((wrap64 ((wrap64 ((wrap64 (a1_2 + t153)) + t154)) - 1)) + t148)) t146) = j_ := ⟨_, rfl⟩
                      replace H : (if 0 ≤ (wrap64 ((wrap64 (t146 + 1)) - t154)) then (if a1_0 = true then (some (wrap64 (-(Go.bits .or .i64 (ji36) (Go.bits .and .i64 (wrap64 (shl .u64 ji20 (wrap64 ((wrap64 (t146 + 1)) - t154)))) (wrap64 ((shl .i64 1 t146) - 1))))), true)) else (some (Go.bits .or .i64 (ji36) (Go.bits .and .i64 (wrap64 (shl .u64 ji20 (wrap64 ((wrap64 (t146 + 1)) - t154)))) (wrap64 ((shl .i64 1 t146) - 1))), true))) else (none)) = some (r1, r2) := by first | (rw [hji36] at H; exact H) | (simp only [hji36] at H ⊢; exact H)
                      have hji36_ : (IntKind.i64.wrap ((wrap64 ((wrap64 ((wrap64 ((wrap64 (a1_2 + t153)) + t154)) - 1)) + t148)) * 2 ^ min t146.toNat 64)) = ji36 := hji36
                      have hji36z : t146 ≤ 64 → (IntKind.i64.wrap ((wrap64 ((wrap64 ((wrap64 ((wrap64 (a1_2 + t153)) + t154)) - 1)) + t148)) * 2 ^ t146.toNat)) = ji36 := shl_small hji36
                      have hji36y : (wrap64 ((wrap64 ((wrap64 ((wrap64 ((wrap64 (a1_2 + t153)) + t154)) - 1)) + t148)) * 2 ^ min t146.toNat 64)) = ji36 := (i64_w _).symm.trans hji36_
                      have hji36x : t146 ≤ 64 → (wrap64 ((wrap64 ((wrap64 ((wrap64 ((wrap64 (a1_2 + t153)) + t154)) - 1)) + t148)) * 2 ^ t146.toNat)) = ji36 := fun h_ => (i64_w _).symm.trans (hji36z h_)
                      obtain ⟨ji37, hji37⟩ : ∃ j_ : Int, (wrap64 ((wrap64 (t146 + 1)) - t154)) = j_ := ⟨_, rfl⟩
                      replace H : (if 0 ≤ (ji37) then (if a1_0 = true then (some (wrap64 (-(Go.bits .or .i64 (ji36) (Go.bits .and .i64 (wrap64 (shl .u64 ji20 (ji37))) (wrap64 ((shl .i64 1 t146) - 1))))), true)) else (some (Go.bits .or .i64 (ji36) (Go.bits .and .i64 (wrap64 (shl .u64 ji20 (ji37))) (wrap64 ((shl .i64 1 t146) - 1))), true))) else (none)) = some (r1, r2) := by first | (rw [hji37] at H; exact H) | (simp only [hji37] at H ⊢; exact H)
                      have hji37w : (IntKind.i64.wrap ((wrap64 (t146 + 1)) - t154)) = ji37 := (i64_w _).trans hji37
                      by_cases c38 : 0 ≤ (ji37)
                      · rw [if_pos c38] at H
                        have c38b0 := eq_true c38
                        have c38b1 : decide (0 ≤ (ji37)) = true := decide_eq_true c38
                        clear c38
                        obtain ⟨ji39, hji39⟩ : ∃ j_ : Int, (shl .u64 ji20 (ji37)) = j_ := ⟨_, rfl⟩
                        replace H : (if a1_0 = true then (some (wrap64 (-(Go.bits .or .i64 (ji36) (Go.bits .and .i64 (wrap64 (ji39)) (wrap64 ((shl .i64 1 t146) - 1))))), true)) else (some (Go.bits .or .i64 (ji36) (Go.bits .and .i64 (wrap64 (ji39)) (wrap64 ((shl .i64 1 t146) - 1))), true))) = some (r1, r2) := by first | (rw [hji39] at H; exact H) | (simp only [hji39] at H ⊢; exact H)
                        have hji39_ : (IntKind.u64.wrap (ji20 * 2 ^ min (ji37).toNat 64)) = ji39 := hji39
                        have hji39z : (ji37) ≤ 64 → (IntKind.u64.wrap (ji20 * 2 ^ (ji37).toNat)) = ji39 := shl_small hji39
                        have c40b0 := eq_true (of_decide_eq_true (by first | (with_reducible assumption) | assumption) : 0 ≤ t146)
                        obtain ⟨ji41, hji41⟩ : ∃ j_ : Int, (shl .i64 1 t146) = j_ := ⟨_, rfl⟩
                        replace H : (if a1_0 = true then (some (wrap64 (-(Go.bits .or .i64 (ji36) (Go.bits .and .i64 (wrap64 (ji39)) (wrap64 ((ji41) - 1))))), true)) else (some (Go.bits .or .i64 (ji36) (Go.bits .and .i64 (wrap64 (ji39)) (wrap64 ((ji41) - 1))), true))) = some (r1, r2) := by first | (rw [hji41] at H; exact H) | (simp only [hji41] at H ⊢; exact H)
                        have hji41_ : (IntKind.i64.wrap (1 * 2 ^ min t146.toNat 64)) = ji41 := hji41
                        have hji41z : t146 ≤ 64 → (IntKind.i64.wrap (1 * 2 ^ t146.toNat)) = ji41 := shl_small hji41
                        have hji41u : (IntKind.i64.wrap (2 ^ min t146.toNat 64)) = ji41 := by have h_ := hji41_; rw [Int.one_mul] at h_; exact h_
                        have hji41v : t146 ≤ 64 → (IntKind.i64.wrap (2 ^ t146.toNat)) = ji41 := fun hle_ => by have h_ := hji41z hle_; rw [Int.one_mul] at h_; exact h_
                        have hji41y : (wrap64 (1 * 2 ^ min t146.toNat 64)) = ji41 := (i64_w _).symm.trans hji41_
                        have hji41x : t146 ≤ 64 → (wrap64 (1 * 2 ^ t146.toNat)) = ji41 := fun h_ => (i64_w _).symm.trans (hji41z h_)
                        by_cases c42 : a1_0 = true
                        · subst c42
                          have H1 : (some (wrap64 (-(Go.bits .or .i64 (ji36) (Go.bits .and .i64 (wrap64 (ji39)) (wrap64 ((ji41) - 1))))), true)) = some (r1, r2) := by rw [if_pos rfl] at H; exact H
                          clear H
                          have H := H1
                          clear H1
                          simp only [Option.some.injEq, Prod.mk.injEq] at H
                          obtain ⟨rfl, rfl⟩ := H
                          have hnb43 := NB151_145.out
                          have hnc43 := NB145_151.out
                          have hcz44_0 : wc.cell? ⟨gb151, 0, none⟩ = some (.int .i64 t146) := (blk_cell BK151.out 0).trans rfl
                          have hcz44_1 : wc.cell? ⟨gb151, 1, none⟩ = some (.int .i64 t147) := (blk_cell BK151.out 1).trans rfl
                          have hcz44_2 : wc.cell? ⟨gb151, 2, none⟩ = some (.int .i64 t148) := (blk_cell BK151.out 2).trans rfl
                          have hcz44_3 : wc.cell? ⟨gb151, 3, none⟩ = some (.int .i64 t149) := (blk_cell BK151.out 3).trans rfl
                          have hfz44_0 := blk_frozen BK151.out 0
                          have hfz44_1 := blk_frozen BK151.out 1
                          have hfz44_2 := blk_frozen BK151.out 2
                          have hfz44_3 := blk_frozen BK151.out 3
                          have hcz45_0 : wc.cell? ⟨gb145, 0, none⟩ = some (.bool true) := (blk_cell BK145.out 0).trans rfl
                          have hcz45_1 : wc.cell? ⟨gb145, 1, none⟩ = some (.int .u64 a1_1) := (blk_cell BK145.out 1).trans rfl
                          have hcz45_2 : wc.cell? ⟨gb145, 2, none⟩ = some (.int .i64 a1_2) := (blk_cell BK145.out 2).trans rfl
                          have hfz45_0 := blk_frozen BK145.out 0
                          have hfz45_1 := blk_frozen BK145.out 1
                          have hfz45_2 := blk_frozen BK145.out 2
                          go_wp2
                          repeat (go_quiet (fail); try go_wp2)
                          go_ret2
                          exact ⟨by first | rfl | (simp [errW_none, errW_some] <;> rfl) | (simp only [← hji20, ← hji36, ← hji37, ← hji39, ← hji41]; first | rfl | (simp [errW_none, errW_some] <;> rfl)) | (simp [*, errW_none, errW_some] <;> rfl), by repeat (first | (with_reducible first | exact HB.out | apply below_alloc | apply pw_below_drewN | apply below_drew1 | refine below_set ?_ GE145.out | refine below_set ?_ GE151.out) | exact HB.out)⟩
                        · replace c42 := Bool.eq_false_iff.mpr c42
                          subst c42
                          have H1 : (some (Go.bits .or .i64 (ji36) (Go.bits .and .i64 (wrap64 (ji39)) (wrap64 ((ji41) - 1))), true)) = some (r1, r2) := by rw [if_neg (show ¬ (false = true) by decide)] at H; exact H
                          clear H
                          have H := H1
                          clear H1
                          simp only [Option.some.injEq, Prod.mk.injEq] at H
                          obtain ⟨rfl, rfl⟩ := H
                          have hnb46 := NB151_145.out
                          have hnc46 := NB145_151.out
                          have hcz47_0 : wc.cell? ⟨gb151, 0, none⟩ = some (.int .i64 t146) := (blk_cell BK151.out 0).trans rfl
                          have hcz47_1 : wc.cell? ⟨gb151, 1, none⟩ = some (.int .i64 t147) := (blk_cell BK151.out 1).trans rfl
                          have hcz47_2 : wc.cell? ⟨gb151, 2, none⟩ = some (.int .i64 t148) := (blk_cell BK151.out 2).trans rfl
                          have hcz47_3 : wc.cell? ⟨gb151, 3, none⟩ = some (.int .i64 t149) := (blk_cell BK151.out 3).trans rfl
                          have hfz47_0 := blk_frozen BK151.out 0
                          have hfz47_1 := blk_frozen BK151.out 1
                          have hfz47_2 := blk_frozen BK151.out 2
                          have hfz47_3 := blk_frozen BK151.out 3
                          have hcz48_0 : wc.cell? ⟨gb145, 0, none⟩ = some (.bool false) := (blk_cell BK145.out 0).trans rfl
                          have hcz48_1 : wc.cell? ⟨gb145, 1, none⟩ = some (.int .u64 a1_1) := (blk_cell BK145.out 1).trans rfl
                          have hcz48_2 : wc.cell? ⟨gb145, 2, none⟩ = some (.int .i64 a1_2) := (blk_cell BK145.out 2).trans rfl
                          have hfz48_0 := blk_frozen BK145.out 0
                          have hfz48_1 := blk_frozen BK145.out 1
                          have hfz48_2 := blk_frozen BK145.out 2
                          go_wp2
                          repeat (go_quiet (fail); try go_wp2)
                          go_ret2
                          exact ⟨by first | rfl | (simp [errW_none, errW_some] <;> rfl) | (simp only [← hji20, ← hji36, ← hji37, ← hji39, ← hji41]; first | rfl | (simp [errW_none, errW_some] <;> rfl)) | (simp [*, errW_none, errW_some] <;> rfl), by repeat (first | (with_reducible first | exact HB.out | apply below_alloc | apply pw_below_drewN | apply below_drew1 | refine below_set ?_ GE145.out | refine below_set ?_ GE151.out) | exact HB.out)⟩
                      · rw [if_neg c38] at H
                        exact absurd H (by simp)
                    · rw [if_neg c35] at H
                      exact absurd H (by simp)
                  · rw [if_neg c34] at H
                    have c34b0 : decide (1 ≤ (wrap64 ((wrap64 ((wrap64 ((wrap64 (a1_2 + t153)) + t154)) - 1)) + t148))) = false := decide_eq_false c34
                    clear c34
                    obtain ⟨ji49, hji49⟩ : ∃ j_ : Int, (wrap64 ((wrap64 (a1_2 + t153)) - t147)) = j_ := ⟨_, rfl⟩
                    replace H : (if 0 ≤ (ji49) then (if a1_0 = true then (some (wrap64 (-(wrap64 (shl .u64 ji20 (ji49)))), true)) else (some (wrap64 (shl .u64 ji20 (ji49)), true))) else (none)) = some (r1, r2) := by first | (rw [hji49] at H; exact H) | (simp only [hji49] at H ⊢; exact H)
                    have hji49w : (IntKind.i64.wrap ((wrap64 (a1_2 + t153)) - t147)) = ji49 := (i64_w _).trans hji49
                    by_cases c50 : 0 ≤ (ji49)
                    · rw [if_pos c50] at H
                      have c50b0 := eq_true c50
                      have c50b1 : decide (0 ≤ (ji49)) = true := decide_eq_true c50
                      clear c50
                      obtain ⟨ji51, hji51⟩ : ∃ j_ : Int, (shl .u64 ji20 (ji49)) = j_ := ⟨_, rfl⟩
                      replace H : (if a1_0 = true then (some (wrap64 (-(wrap64 (ji51))), true)) else (some (wrap64 (ji51), true))) = some (r1, r2) := by first | (rw [hji51] at H; exact H) | (simp only [hji51] at H ⊢; exact H)
                      have hji51_ : (IntKind.u64.wrap (ji20 * 2 ^ min (ji49).toNat 64)) = ji51 := hji51
                      have hji51z : (ji49) ≤ 64 → (IntKind.u64.wrap (ji20 * 2 ^ (ji49).toNat)) = ji51 := shl_small hji51
                      by_cases c52 : a1_0 = true
                      · subst c52
                        have H1 : (some (wrap64 (-(wrap64 (ji51))), true)) = some (r1, r2) := by rw [if_pos rfl] at H; exact H
                        clear H
                        have H := H1
                        clear H1
                        simp only [Option.some.injEq, Prod.mk.injEq] at H
                        obtain ⟨rfl, rfl⟩ := H
                        have hnb53 := NB151_145.out
                        have hnc53 := NB145_151.out
                        have hcz54_0 : wc.cell? ⟨gb151, 0, none⟩ = some (.int .i64 t146) := (blk_cell BK151.out 0).trans rfl
                        have hcz54_1 : wc.cell? ⟨gb151, 1, none⟩ = some (.int .i64 t147) := (blk_cell BK151.out 1).trans rfl
                        have hcz54_2 : wc.cell? ⟨gb151, 2, none⟩ = some (.int .i64 t148) := (blk_cell BK151.out 2).trans rfl
                        have hcz54_3 : wc.cell? ⟨gb151, 3, none⟩ = some (.int .i64 t149) := (blk_cell BK151.out 3).trans rfl
                        have hfz54_0 := blk_frozen BK151.out 0
                        have hfz54_1 := blk_frozen BK151.out 1
                        have hfz54_2 := blk_frozen BK151.out 2
                        have hfz54_3 := blk_frozen BK151.out 3
                        have hcz55_0 : wc.cell? ⟨gb145, 0, none⟩ = some (.bool true) := (blk_cell BK145.out 0).trans rfl
                        have hcz55_1 : wc.cell? ⟨gb145, 1, none⟩ = some (.int .u64 a1_1) := (blk_cell BK145.out 1).trans rfl
                        have hcz55_2 : wc.cell? ⟨gb145, 2, none⟩ = some (.int .i64 a1_2) := (blk_cell BK145.out 2).trans rfl
                        have hfz55_0 := blk_frozen BK145.out 0
                        have hfz55_1 := blk_frozen BK145.out 1
                        have hfz55_2 := blk_frozen BK145.out 2
                        go_wp2
                        repeat (go_quiet (fail); try go_wp2)
                        go_ret2
                        exact ⟨by first | rfl | (simp [errW_none, errW_some] <;> rfl) | (simp only [← hji20, ← hji49, ← hji51]; first | rfl | (simp [errW_none, errW_some] <;> rfl)) | (simp [*, errW_none, errW_some] <;> rfl), by repeat (first | (with_reducible first | exact HB.out | apply below_alloc | apply pw_below_drewN | apply below_drew1 | refine below_set ?_ GE145.out | refine below_set ?_ GE151.out) | exact HB.out)⟩
                      · replace c52 := Bool.eq_false_iff.mpr c52
                        subst c52
                        have H1 : (some (wrap64 (ji51), true)) = some (r1, r2) := by rw [if_neg (show ¬ (false = true) by decide)] at H; exact H
                        clear H
                        have H := H1
                        clear H1
                        simp only [Option.some.injEq, Prod.mk.injEq] at H
                        obtain ⟨rfl, rfl⟩ := H
                        have hnb56 := NB151_145.out
                        have hnc56 := NB145_151.out
                        have hcz57_0 : wc.cell? ⟨gb151, 0, none⟩ = some (.int .i64 t146) := (blk_cell BK151.out 0).trans rfl
                        have hcz57_1 : wc.cell? ⟨gb151, 1, none⟩ = some (.int .i64 t147) := (blk_cell BK151.out 1).trans rfl
                        have hcz57_2 : wc.cell? ⟨gb151, 2, none⟩ = some (.int .i64 t148) := (blk_cell BK151.out 2).trans rfl
                        have hcz57_3 : wc.cell? ⟨gb151, 3, none⟩ = some (.int .i64 t149) := (blk_cell BK151.out 3).trans rfl
                        have hfz57_0 := blk_frozen BK151.out 0
                        have hfz57_1 := blk_frozen BK151.out 1
                        have hfz57_2 := blk_frozen BK151.out 2
                        have hfz57_3 := blk_frozen BK151.out 3
                        have hcz58_0 : wc.cell? ⟨gb145, 0, none⟩ = some (.bool false) := (blk_cell BK145.out 0).trans rfl
                        have hcz58_1 : wc.cell? ⟨gb145, 1, none⟩ = some (.int .u64 a1_1) := (blk_cell BK145.out 1).trans rfl
                        have hcz58_2 : wc.cell? ⟨gb145, 2, none⟩ = some (.int .i64 a1_2) := (blk_cell BK145.out 2).trans rfl
                        have hfz58_0 := blk_frozen BK145.out 0
                        have hfz58_1 := blk_frozen BK145.out 1
                        have hfz58_2 := blk_frozen BK145.out 2
                        go_wp2
                        repeat (go_quiet (fail); try go_wp2)
                        go_ret2
                        exact ⟨by first | rfl | (simp [errW_none, errW_some] <;> rfl) | (simp only [← hji20, ← hji49, ← hji51]; first | rfl | (simp [errW_none, errW_some] <;> rfl)) | (simp [*, errW_none, errW_some] <;> rfl), by repeat (first | (with_reducible first | exact HB.out | apply below_alloc | apply pw_below_drewN | apply below_drew1 | refine below_set ?_ GE145.out | refine below_set ?_ GE151.out) | exact HB.out)⟩
                    · rw [if_neg c50] at H
                      exact absurd H (by simp)
          · rw [if_neg c19] at H
            exact absurd H (by simp)

/-! ### impl_BitTop: function 34 -/
def impl_BitTop.f (a0 : Int) : Option (Int) := (impl_formatOf.f a0).bind fun bt155 => (some bt155.2.2.2.1)
set_option maxHeartbeats 8000000 in
set_option maxRecDepth 100000 in
theorem impl_BitTop.calls (a0 : Int) (r : Int) (w : World) (h : impl_BitTop.f a0 = some r) :
    Calls Tryd.prog 34 #[.int .i64 a0] w fun e w' => e = .returned (.int .i64 r) ∧ Below w.heap.size w w' := by
  have hu43 := Tryd.underlying43
  have HB := Aside0.mk (Below.refl w.heap.size w)
  have H : ((impl_formatOf.f a0).bind fun bt155 => (some bt155.2.2.2.1)) = some r := h
  clear h
  replace H := Option.bind_eq_some_iff.mp H
  obtain ⟨⟨t155, t156, t157, t158, t159⟩, A20, H⟩ := H
  replace H : (some t158) = some r := H
  have A2 := Aside0.mk A20
  clear A20
  obtain rfl := Option.some.inj H
  go_enter Tryd.func34, Tryd.ntmps34
  go_wp2_with (first | ((with_reducible refine gate_callee (f := 25) rfl ?_); refine goesL_ (some 7) rfl rfl Tryd.func25 (by kernel_rfl) rfl #[.int .i64 a0] rfl (by (try simp only [List.map_toArray, List.map_cons, List.map_nil]); first | done | rfl | (simp only [List.length_drop, List.length_take]; rfl)) ?_; (with_reducible refine (impl_formatOf.calls a0 t155 t156 t157 t158 t159 _ A2.out).mono ?_); rintro e w3 ⟨rfl, hb⟩; refine ⟨_, rfl, ?_⟩; have n0_ := Aside0.mk (below_step (by repeat (first | (with_reducible first | exact HB.out | apply below_alloc | apply pw_below_drewN | apply below_drew1) | exact HB.out)) hb); clear HB; have HB := n0_; clear n0_; (try clear hb); (try clear hb2); (try clear hk); (try clear hi)) | ((with_reducible refine gate_dst (N := 3) rfl ?_); refine box_event ?hg (N := 3) ?hd (cs := #[.int .i64 0, .int .i64 0, .int .i64 0, .int .i64 0]) (t := 43) ?hr ?_; (case hd => rfl); (case hg => rfl); (case hr => first | (go_simp; done) | (go_simp; rfl)); intro gb160 hg w4 hbox hb; have n0_ := Aside0.mk (below_step (by repeat (first | (with_reducible first | exact HB.out | apply below_alloc | apply pw_below_drewN | apply below_drew1) | exact HB.out)) hb); have n1_ := Aside0.mk (hbox); have n2_ := Aside0.mk ((by rw [hg]; exact (below_size (by repeat (first | (with_reducible first | exact HB.out | apply below_alloc | apply pw_below_drewN | apply below_drew1) | exact HB.out))) : w.heap.size ≤ gb160)); have n3_ := Aside0.mk ((by rw [hg]; exact (below_size (by repeat (first | (with_reducible first | exact HB.out | apply below_alloc | apply pw_below_drewN | apply below_drew1) | exact HB.out))) : w.heap.size ≤ gb160)); clear HB; have HB := n0_; have BK160 := n1_; have GW160 := n2_; have GE160 := n3_; clear n0_ n1_ n2_ n3_; clear hb hbox hg; have hcz5_0 : w4.cell? ⟨gb160, 0, none⟩ = some (.int .i64 0) := (blk_cell BK160.out 0).trans rfl; have hcz5_1 : w4.cell? ⟨gb160, 1, none⟩ = some (.int .i64 0) := (blk_cell BK160.out 1).trans rfl; have hcz5_2 : w4.cell? ⟨gb160, 2, none⟩ = some (.int .i64 0) := (blk_cell BK160.out 2).trans rfl; have hcz5_3 : w4.cell? ⟨gb160, 3, none⟩ = some (.int .i64 0) := (blk_cell BK160.out 3).trans rfl; have hfz5_0 := blk_frozen BK160.out 0; have hfz5_1 := blk_frozen BK160.out 1; have hfz5_2 := blk_frozen BK160.out 2; have hfz5_3 := blk_frozen BK160.out 3))
  go_ret
  exact ⟨by first | rfl | (simp [errW_none, errW_some] <;> rfl) | (simp [*, errW_none, errW_some] <;> rfl), by repeat (first | (with_reducible first | exact HB.out | apply below_alloc | apply pw_below_drewN | apply below_drew1 | refine below_set ?_ GE160.out) | exact HB.out)⟩

/-! ### impl_BitOk: function 31 -/
def impl_BitOk.f (a0 : Int) (a1 : Int) : Option (Bool) := (impl_formatOf.f a0).bind fun bt161 => (if bt161.2.2.2.2 = true then ((impl_in.f a1 (wrap64 (-bt161.2.2.2.1)) bt161.2.2.2.1).bind fun t167 => (some t167)) else (some false))
set_option maxHeartbeats 8000000 in
set_option maxRecDepth 100000 in
theorem impl_BitOk.calls (a0 : Int) (a1 : Int) (r : Bool) (w : World) (h : impl_BitOk.f a0 a1 = some r) :
    Calls Tryd.prog 31 #[.int .i64 a0, .int .i64 a1] w fun e w' => e = .returned (.bool r) ∧ Below w.heap.size w w' := by
  have hu43 := Tryd.underlying43
  have HB := Aside0.mk (Below.refl w.heap.size w)
  have H : ((impl_formatOf.f a0).bind fun bt161 => (if bt161.2.2.2.2 = true then ((impl_in.f a1 (wrap64 (-bt161.2.2.2.1)) bt161.2.2.2.1).bind fun t167 => (some t167)) else (some false))) = some r := h
  clear h
  replace H := Option.bind_eq_some_iff.mp H
  obtain ⟨⟨t161, t162, t163, t164, t165⟩, A30, H⟩ := H
  replace H : (if t165 = true then ((impl_in.f a1 (wrap64 (-t164)) t164).bind fun t167 => (some t167)) else (some false)) = some r := H
  have A3 := Aside0.mk A30
  clear A30
  by_cases c4 : t165 = true
  · subst c4
    have H1 : ((impl_in.f a1 (wrap64 (-t164)) t164).bind fun t167 => (some t167)) = some r := by rw [if_pos rfl] at H; exact H
    clear H
    have H := H1
    clear H1
    replace H := Option.bind_eq_some_iff.mp H
    obtain ⟨t167, A50, H⟩ := H
    replace H : (some t167) = some r := H
    have A5 := Aside0.mk A50
    clear A50
    obtain rfl := Option.some.inj H
    go_enter Tryd.func31, Tryd.ntmps31
    go_wp2_with (first | ((with_reducible refine gate_callee (f := 25) rfl ?_); refine goesL_ (some 9) rfl rfl Tryd.func25 (by kernel_rfl) rfl #[.int .i64 a0] rfl (by (try simp only [List.map_toArray, List.map_cons, List.map_nil]); first | done | rfl | (simp only [List.length_drop, List.length_take]; rfl)) ?_; (with_reducible refine (impl_formatOf.calls a0 t161 t162 t163 t164 true _ A3.out).mono ?_); rintro e w6 ⟨rfl, hb⟩; refine ⟨_, rfl, ?_⟩; have n0_ := Aside0.mk (below_step (by repeat (first | (with_reducible first | exact HB.out | apply below_alloc | apply pw_below_drewN | apply below_drew1) | exact HB.out)) hb); clear HB; have HB := n0_; clear n0_; (try clear hb); (try clear hb2); (try clear hk); (try clear hi)) | ((with_reducible refine gate_dst (N := 5) rfl ?_); refine box_event ?hg (N := 5) ?hd (cs := #[.int .i64 0, .int .i64 0, .int .i64 0, .int .i64 0]) (t := 43) ?hr ?_; (case hd => rfl); (case hg => rfl); (case hr => first | (go_simp; done) | (go_simp; rfl)); intro gb166 hg w7 hbox hb; have n0_ := Aside0.mk (below_step (by repeat (first | (with_reducible first | exact HB.out | apply below_alloc | apply pw_below_drewN | apply below_drew1) | exact HB.out)) hb); have n1_ := Aside0.mk (hbox); have n2_ := Aside0.mk ((by rw [hg]; exact (below_size (by repeat (first | (with_reducible first | exact HB.out | apply below_alloc | apply pw_below_drewN | apply below_drew1) | exact HB.out))) : w.heap.size ≤ gb166)); have n3_ := Aside0.mk ((by rw [hg]; exact (below_size (by repeat (first | (with_reducible first | exact HB.out | apply below_alloc | apply pw_below_drewN | apply below_drew1) | exact HB.out))) : w.heap.size ≤ gb166)); clear HB; have HB := n0_; have BK166 := n1_; have GW166 := n2_; have GE166 := n3_; clear n0_ n1_ n2_ n3_; clear hb hbox hg; have hcz8_0 : w7.cell? ⟨gb166, 0, none⟩ = some (.int .i64 0) := (blk_cell BK166.out 0).trans rfl; have hcz8_1 : w7.cell? ⟨gb166, 1, none⟩ = some (.int .i64 0) := (blk_cell BK166.out 1).trans rfl; have hcz8_2 : w7.cell? ⟨gb166, 2, none⟩ = some (.int .i64 0) := (blk_cell BK166.out 2).trans rfl; have hcz8_3 : w7.cell? ⟨gb166, 3, none⟩ = some (.int .i64 0) := (blk_cell BK166.out 3).trans rfl; have hfz8_0 := blk_frozen BK166.out 0; have hfz8_1 := blk_frozen BK166.out 1; have hfz8_2 := blk_frozen BK166.out 2; have hfz8_3 := blk_frozen BK166.out 3) | (go_at_call 26; (with_reducible refine (impl_in.calls a1 (wrap64 (-t164)) t164 t167 _ A5.out).mono ?_); rintro e w' ⟨rfl, ⟨nd, rfl⟩⟩))
    go_ret
    exact ⟨by first | rfl | (simp [errW_none, errW_some] <;> rfl) | (simp [*, errW_none, errW_some] <;> rfl), by repeat (first | (with_reducible first | exact HB.out | apply below_alloc | apply pw_below_drewN | apply below_drew1 | refine below_set ?_ GE166.out) | exact HB.out)⟩
  · replace c4 := Bool.eq_false_iff.mpr c4
    subst c4
    have H1 : (some false) = some r := by rw [if_neg (show ¬ (false = true) by decide)] at H; exact H
    clear H
    have H := H1
    clear H1
    obtain rfl := Option.some.inj H
    go_enter Tryd.func31, Tryd.ntmps31
    go_wp2_with (first | ((with_reducible refine gate_callee (f := 25) rfl ?_); refine goesL_ (some 9) rfl rfl Tryd.func25 (by kernel_rfl) rfl #[.int .i64 a0] rfl (by (try simp only [List.map_toArray, List.map_cons, List.map_nil]); first | done | rfl | (simp only [List.length_drop, List.length_take]; rfl)) ?_; (with_reducible refine (impl_formatOf.calls a0 t161 t162 t163 t164 false _ A3.out).mono ?_); rintro e w9 ⟨rfl, hb⟩; refine ⟨_, rfl, ?_⟩; have n0_ := Aside0.mk (below_step (by repeat (first | (with_reducible first | exact HB.out | apply below_alloc | apply pw_below_drewN | apply below_drew1) | exact HB.out)) hb); clear HB; have HB := n0_; clear n0_; (try clear hb); (try clear hb2); (try clear hk); (try clear hi)) | ((with_reducible refine gate_dst (N := 5) rfl ?_); refine box_event ?hg (N := 5) ?hd (cs := #[.int .i64 0, .int .i64 0, .int .i64 0, .int .i64 0]) (t := 43) ?hr ?_; (case hd => rfl); (case hg => rfl); (case hr => first | (go_simp; done) | (go_simp; rfl)); intro gb166 hg w10 hbox hb; have n0_ := Aside0.mk (below_step (by repeat (first | (with_reducible first | exact HB.out | apply below_alloc | apply pw_below_drewN | apply below_drew1) | exact HB.out)) hb); have n1_ := Aside0.mk (hbox); have n2_ := Aside0.mk ((by rw [hg]; exact (below_size (by repeat (first | (with_reducible first | exact HB.out | apply below_alloc | apply pw_below_drewN | apply below_drew1) | exact HB.out))) : w.heap.size ≤ gb166)); have n3_ := Aside0.mk ((by rw [hg]; exact (below_size (by repeat (first | (with_reducible first | exact HB.out | apply below_alloc | apply pw_below_drewN | apply below_drew1) | exact HB.out))) : w.heap.size ≤ gb166)); clear HB; have HB := n0_; have BK166 := n1_; have GW166 := n2_; have GE166 := n3_; clear n0_ n1_ n2_ n3_; clear hb hbox hg; have hcz11_0 : w10.cell? ⟨gb166, 0, none⟩ = some (.int .i64 0) := (blk_cell BK166.out 0).trans rfl; have hcz11_1 : w10.cell? ⟨gb166, 1, none⟩ = some (.int .i64 0) := (blk_cell BK166.out 1).trans rfl; have hcz11_2 : w10.cell? ⟨gb166, 2, none⟩ = some (.int .i64 0) := (blk_cell BK166.out 2).trans rfl; have hcz11_3 : w10.cell? ⟨gb166, 3, none⟩ = some (.int .i64 0) := (blk_cell BK166.out 3).trans rfl; have hfz11_0 := blk_frozen BK166.out 0; have hfz11_1 := blk_frozen BK166.out 1; have hfz11_2 := blk_frozen BK166.out 2; have hfz11_3 := blk_frozen BK166.out 3))
    go_ret
    exact ⟨by first | rfl | (simp [errW_none, errW_some] <;> rfl) | (simp [*, errW_none, errW_some] <;> rfl), by repeat (first | (with_reducible first | exact HB.out | apply below_alloc | apply pw_below_drewN | apply below_drew1 | refine below_set ?_ GE166.out) | exact HB.out)⟩

/-! ### impl_size: function 38 -/
def impl_size.f (a0 : Int) : Option (Int) := some (mx a0 (wrap64 (-a0)))
set_option maxHeartbeats 8000000 in
set_option maxRecDepth 100000 in
theorem impl_size.calls (a0 : Int) (r : Int) (w : World) (h : impl_size.f a0 = some r) :
    Calls Tryd.prog 38 #[.int .i64 a0] w fun e w' => e = .returned (.int .i64 r) ∧ Below w.heap.size w w' := by
  have HB := Aside0.mk (Below.refl w.heap.size w)
  have H : (some (mx a0 (wrap64 (-a0)))) = some r := h
  clear h
  obtain ⟨ji2, hji2⟩ : ∃ j_ : Int, (mx a0 (wrap64 (-a0))) = j_ := ⟨_, rfl⟩
  replace H : (some ji2) = some r := by first | (rw [hji2] at H; exact H) | (simp only [hji2] at H ⊢; exact H)
  have hji2_ : (if a0 < (wrap64 (-a0)) then (wrap64 (-a0)) else a0) = ji2 := hji2
  obtain rfl := Option.some.inj H
  go_enter Tryd.func38, Tryd.ntmps38
  go_wp2
  go_ret
  exact ⟨by first | rfl | (simp [errW_none, errW_some] <;> rfl) | (simp only [← hji2]; first | rfl | (simp [errW_none, errW_some] <;> rfl)) | (simp [*, errW_none, errW_some] <;> rfl), by repeat (first | (with_reducible first | exact HB.out | apply below_alloc | apply pw_below_drewN | apply below_drew1) | exact HB.out)⟩

end Go.Proofs.YtkpholdkijlogaaDoor.QFnExactPairMore
